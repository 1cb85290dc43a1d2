/- Mail delivered and collected: the program's. No condition. -/
import Derived.Test.YtiopgblagimpmaaGreatKZc
import Derived.Test.YtiopgblagimpmaaGreatKZh
import Derived.Test.YtiopgblagimpmaaGreatKZg
import Derived.Test.YtiopgblagimpmaaGreatKZe
import Derived.Test.YtiopgblagimpmaaGreatKZd
import Derived.Test.YtiopgblagimpmaaGreatKZf
import Derived.Lib.Overlaps
import Derived.Lib.AppendZerosOnto
import Derived.Laws.NewBlocks
import Derived.Laws.Externs
set_option linter.unusedVariables false
set_option linter.defProp false
set_option linter.unusedSimpArgs false
set_option linter.constructorNameAsVariable false
namespace Go.Proofs.YtiopgblagimpmaaGreat.Ab
open Go.RowKit
set_option maxRecDepth 20000
set_option maxHeartbeats 4000000
variable{rows:List (List C)}
def W8{j:Nat}{r r':List C}(h:eJ r=eJ r'):fz (.s .own (rows.set j r))=fz (.s .own (rows.set j r')):=by
 simp only[Rt,SC];rw[<-cj,<-cj,h]
def lM(b:Bool):zzA 266 false [.val none [B b]] .one [I (if b=true then 0 else 90)]:=by
 cases b
 all_goals
  refine fO 4 [] Tryz.func266 rfl ?_
  refine σP ?_
  rfl
def Lt(m:aP)(f:Int)(a:bG m=true)(e:¬(0<=f/\f<=m.U.length - 1)):zzA 409 true [.val (some 2) (aP.enc .S m),.vI f] (.tup [some 2,none]) (aP.enc .S m++[B false]):=by
 have g:=kS.of a;have b:=g.sml;have c:=kE m f b;rw[a,C1 e]at c;have h:=jI m b;have key:zzA 409 true [.val (some 2) (aP.enc .S m),.vI f] (.tup [some 2,none]) (aP.enc .own m++[B false]):=by
  refine fO 57 [(5,9,[31,32,33,34,35,36,37,38,39]),(6,270,[41,42,43,44,45,46,47,48,49,50,51,52,53,55,0,1,2,3,4,5,6,7,8,9,10,11,12,13,1000,1001,1002,1003,14,15])] Tryz.func409 rfl ?_ (.inl rfl)
  refine σP ?_
  rfl
 have d:=key.fzR;rw[co,Cu]at d;exact d
def HG(m:aP)(f:Nat)(i:bG m=true)(k:f<m.U.length):zzA 409 true [.val (some 2) (aP.enc .S m),.vI (f:Nat)] (.tup [some 2,none]) (aP.enc .S (if 0<(nth m.U f).length then gr m f else m)++[B (decide (0<(nth m.U f).length))]):=by
 have d:=kS.of i;have E:=d.sml;have M:=d.b4;have H:=d.i4;have l:=kE m f E;rw[i,O0 ω]at l;have F:=jI m E;have a:=Wn k;have J:=d.bl f k;by_cases e:0<(nth m.U f).length
 ·rw[CL e,O0 e]
  have g:=((eC.1 i).2.1 f k).1 _ (ax e);obtain⟨t,n⟩:=v5 g.1;have q:t<m.a0.length:=ω
  have u:=ar e;have b:=ar q;have K:=d.il t ω;have w:=Cu (gr m f);rw[BI m f t n]at w;generalize N:nth (nth m.U f) 0=p at *;obtain⟨O,G⟩:=p;simp only at n g w;subst n;have L:zzA 183 false [.val (some 2) (aP.enc .S m)] .agg [.s .own ((m.U.map (bP .own)).set f (bP .S (nth m.U f))),.s .own (m.a0.map (aF .own))]:=by
   have h:=F.fzAt (off:=0) (o:=.own) (rows:=m.U.map (bP .own)) rfl (by simp) (j:=f) (aa a);rw[oc]at h;exact h
  have y:((m.U.map (bP .own)).set f (bP .S (nth m.U f)))[f]? = some (bP .S (nth m.U f)):=O6 (by rw[I2];omega);have key:zzA 409 true [.val (some 2) (aP.enc .S m),.vI (f:Nat)] (.tup [some 2,none]) ([.s .own ((m.U.map (bP .own)).set f [.s .S (((nth m.U f).drop 1).map (dA.enc .S))]),.s .own ((m.a0.map (aF .own)).set t (aF .own (nth m.a0 t++[G])))]++[B true]):=by
   refine fO 57 [(5,9,[31,32,33,34,35,36,37,38,39]),(6,270,[41,42,43,44,45,46,47,48,49,50,51,52,53,55,0,1,2,3,4,5,6,7,8,9,10,11,12,13,1000,1001,1002,1003,14,15])] Tryz.func409 rfl ?_ (.inl rfl)
   repeat'(first|refine gB ?_|refine gS (λD=>?_) (λD=>?_)|refine CQ qs (aa u) ?_|refine CK y ?_|refine CK (dt b) ?_|refine CM rfl y rfl ?_|refine CM rfl (dt b) rfl ?_|refine Rw.two rfl (aa a) rfl rfl (aa u) rfl ?_|refine Lq.one rfl rfl (aa b) rfl (O2 rfl) rfl rfl ?_|refine Cj 1 rfl (by rw[I2];omega) (aM λ_=>rfl) I8 ?_|refine CU rfl rfl y rfl (O2 rfl) (show [C.s fE.own ((m.U.map (bP .own)).set f [.s .S (((nth m.U f).drop 1).map (dA.enc .S))]),C.s .own (m.a0.map (aF .own))]=_ from by simp only[List.set_cons_zero,List.set_set,t5];rfl) ?_|refine CU rfl rfl (dt b) rfl (O2 rfl) (show [C.s fE.own ((m.U.map (bP .own)).set f [.s .S (((nth m.U f).drop 1).map (dA.enc .S))]),C.s .own ((m.a0.map (aF .own)).set t (aF .own (nth m.a0 t++[G])))]=_ from by simp only[List.set_cons_zero,List.set_cons_succ,List.set_set,t5];rfl) ?_|refine Cf (aM λ_=>rfl) rfl jp qs (f8 _ _ _) ?_)
   rfl
  have c:=key.fzR;change au _ _ _ _ _ [fz (.s .own _),fz (.s .own _),fz (B true)]at c;rw[W8 (r:=[.s .S (((nth m.U f).drop 1).map (dA.enc .S))]) (r':=[.s .own (((nth m.U f).drop 1).map (dA.enc .S))]) rfl]at c;rw[<-w];exact c
 rw[CJ e,C1 e];have key:zzA 409 true [.val (some 2) (aP.enc .S m),.vI (f:Nat)] (.tup [some 2,none]) (aP.enc .own m++[B false]):=by
  refine fO 57 [(5,9,[31,32,33,34,35,36,37,38,39]),(6,270,[41,42,43,44,45,46,47,48,49,50,51,52,53,55,0,1,2,3,4,5,6,7,8,9,10,11,12,13,1000,1001,1002,1003,14,15])] Tryz.func409 rfl ?_ (.inl rfl)
  repeat'(first|refine gB ?_|refine gS (λD=>?_) (λD=>?_)|fail)
  rfl
 have c:=key.fzR;rw[co,Cu]at c;exact c
def yg(h:ac)(t:Int)(i:ac.sml h)(d:aY h []):zzA 265 true [.val (some 24) (ac.enc .S h),.vI t] (.tup [some 24,none]) (ac.enc .S (if(0<=t/\t<=h.R.length - 1)/\0<(nth h.w.U t.toNat).length then {h with w:=gr h.w t.toNat} else h)++[B (decide ((0<=t/\t<=h.R.length - 1)/\0<(nth h.w.U t.toNat).length))]):=by
 have j:=d.nc;have e:=(jC h i).fzR;rw[ac.enc_fz]at e;have g:=cJ h i;rw[dM,d.to]at g;by_cases c:0<=t/\t<=h.R.length - 1
 ·obtain⟨k,rfl⟩:=v5 c.1
  simp only[t5];have a:=HG h.w k d.mail ω;by_cases b:0<(nth h.w.U k).length
  ·rw[CL ⟨c,b⟩,O0 ⟨c,b⟩]
   rw[CL b,O0 b]at a;refine fO 29 [] Tryz.func265 rfl ?_ (.inl rfl)
   repeat'(first|refine gP ?_|refine Cl.sh a rfl ?_)
   rfl
  rw[CJ (λx=>b x.2),C1 (λx=>b x.2)];rw[CJ b,C1 b]at a;refine fO 29 [] Tryz.func265 rfl ?_ (.inl rfl)
  repeat'(first|refine gP ?_|refine Cl.sh a rfl ?_)
  rfl
 rw[CJ (λx=>c x.1),C1 (λx=>c x.1)];have a:=Lt h.w t d.mail ω;refine fO 29 [] Tryz.func265 rfl ?_ (.inl rfl)
 repeat'(first|refine gP ?_|refine Cl.sh a rfl ?_)
 rfl
def GC(m:aP)(t:Nat)(d:bG m=true)(h:t<m.U.length):zzA 410 false [.val (some 2) (aP.enc .S m),.vI (t:Nat)] (.tup [some 2,none]) (aP.enc .own (jB m t)++aF .own (nth m.a0 t)):=by
 have b:=kS.of d;have e:=b.sml;have p:=b.b4;have j:=b.i4;have g:=kE m t e;rw[d,O0 ω]at g;have k:=jI m e;have c:=ar (xs:=m.a0) (i:=t) ω;have l:=b.il t h;have n:=eP (nth m.a0 t) ω;have a:=aD (Ct (jB m t)) (bC (nth m.a0 t));have o:aP.enc .own (jB m t)=[.s .own (m.U.map (bP .own)),.s .own ((m.a0.map (aF .own)).set t [.s .own []])]:=by simp[aP.enc,jB,SC];rfl
 rw[o]at a |-;refine fO 25 [(5,7,[18,19,20,21,22,23,24])] Tryz.func410 rfl ?_ (.inr a)
 repeat'((conv=>whnf);first|with_reducible (first|refine Lm ?_|refine Wm ω ?_|refine CK (aa c) ?_|refine Bn ?_|refine j8.dk rfl ?_)|refine Bt ?_|refine Bu ?_|refine CH ?_|refine CG (g) ?_|refine CG (k) ?_|refine CG (n) ?_|refine CM rfl (aa c) rfl ?_|refine CU rfl rfl (aa c) rfl (O2 rfl) rfl ?_|refine CH ?_)
 exact .cons (.rfl_ _) (.cons (QI.set _ _ (.cons .z_ .nil)) (.cons (.rfl_ _) .nil))
def qf(h:ac)(t:Int)(l:ac.sml h)(a:aY h []):zzA 267 false [.val (some 24) (ac.enc .S h),.vI t] (.tup [some 24,none]) (dO (if h.G.Calls≠100000/\0<=t/\t<=h.R.length - 1 then collect h t.toNat else h)++[I (if h.G.Calls≠100000/\0<=t/\t<=h.R.length - 1 then((nth h.w.a0 t.toNat).length:Nat) else 0)]):=by
 have r:=a.nc;have u:=(eC.1 a.mail).1.2.2;have n:=eD h l;have b:=qX h t l;rw[a.to]at b;by_cases e:h.G.Calls≠100000/\0<=t/\t<=h.R.length - 1;rotate_left
 ·rw[CJ e,CJ e]
  rw[show(decide (0<=t/\t<=h.R.length - 1)&&decide (h.G.Calls≠100000)&&true)=false by
    rw[Bool.and_true,<-SA,I0,C0,C0];exact λx=>e ⟨x.2,x.1⟩]at b
  refine fP 40 [(109,[2,0,0])] [] Tryz.func267 rfl ?_ (.inr (aD (cF _) ⟨tV1,tV1⟩))
  refine σP ?_
  rfl
 rw[CL e,CL e];obtain⟨o,p⟩:=e;rw[show(decide (0<=t/\t<=h.R.length - 1)&&decide (h.G.Calls≠100000)&&true)=true by
   rw[Bool.and_true,I0,C0,C0];exact⟨p,o⟩]at b
 obtain⟨T,rfl⟩:=v5 p.1;simp only[t5];have q:=GC h.w T a.mail ω;have d:=(kS.of a.mail).il T ω;have g:=a.coll (t:=T) ω;rw[List.append_nil]at g;unfold collect;generalize nth h.w.a0 T=out at q g d |-;refine fP 40 [(109,[2,0,0])] [] Tryz.func267 rfl ?_ (.inr (aD (cF _) ⟨tV1,tV1⟩))
 refine σP ?_
 refine lp0 out.length (λk=>[(1,fN T),(4,.Z .box w7),(6,bB (dO (recycs T {h with w:=jB h.w T} (out.take k)))),(8,bJ (aF .own out)),(27,.c2 8 0 [] none),(28,fI out.length),(29,fN k)]) λk y=>?_
 by_cases i:k<out.length
 ·have c:=ar i
  have j:aY (recycs T {h with w:=jB h.w T} (out.take k)) (nth out k::out.drop (k+1)):=by
   refine aY.recycs ?_ (by show T<h.R.length;omega);rw[<-gZ i,List.take_append_drop];exact g
  have w:=vO _ _ T _ j (by rw[(fH T _ _).1];show T<h.R.length;omega) (by rw[(fH T _ _).2.2.1];exact o)
  refine σE ?_
  (refine CR (k+1) ω ω ?_)
  rw[yh _ _ _ _ i];exact wC
 obtain rfl:k=out.length:=ω
 rw[S9]
 refine σE ?_
 rfl
def mod1(k:ah)(q:Nat):Prop:=(nth k.F.O.M q).e=1
def K1(k a:ah):Prop:=∀q,mod1 a q->mod1 k q
structure S1(h g:ac):Prop where
 k:K1 h.G g.G
 m:g.q=h.q
 j:g.a=h.a
def La(h:ac)(a:Int):Int:=bU (vJ a) h.J
variable{a:Int}{h:ac}
def WE(e:0<=La h a):(La h a).toNat<h.J.length/\(nth h.J (La h a).toNat).Addr<=a/\a<(nth h.J (La h a).toNat).Addr+(nth h.J (La h a).toNat).k:=by
 obtain⟨b,c,-⟩:=eZ (vJ a) h.J e;exact⟨b,of_decide_eq_true c⟩
def yw(o:bg)(a:Int)(c:0<=o.k/\o.k<=1000/\0<=o.Addr/\o.Addr<=1000):zzA 587 false [.val (some 4) (bg.enc .S o),.ptr [I a]] .one [B (vJ a o)]:=by
 have b:=aK a o.Addr (o.Addr+o.k - 1);refine fO 14 [] Tryz.func587 rfl ?_
 refine σP ?_
 exact bZ ((by unfold vJ;exact decide_eq_decide.2 ω))
def En(h:ac)(a:Int)(e:h.J.length<=1048576)(b:∀o∈h.J,0<=o.k/\o.k<=1000/\0<=o.Addr/\o.Addr<=1000):zzA 567 false [.val (some 24) (ac.enc .S h),.vI a] .one [I (La h a)]:=by
 refine fO 9 [] Tryz.func567 rfl ?_
 repeat'(first|refine gP ?_|refine Ce (mC (some 4) (bg.enc .S) (vJ a) h.J) (yw ⟨0,0,0,0⟩ a qs).has (λL k rcs c=>?_) ?_|refine CG (gL h.J (vJ a) ω) ?_)
 ·obtain⟨y,d,rfl,rfl,rfl⟩:=c
  exact yw y a (b y d)
 rfl
def uo(h:ac)(a:Int)(e:ac.sml h)(b:aY h []):zzA 504 false [.val (some 24) (ac.enc .S h),.vI a] .one [I (La h a)]:=by
 have c:=cJ h e;rw[dM,b.to]at c;have g:=b.lens.objs;have i:=En h a ω (λo d=>by
   have j:=b.objSz o d;have k:=pN b d;omega)
 refine fO 11 [] Tryz.func504 rfl ?_
 refine σP ?_
 rfl
def Pk(b:aY h [])(e:0<=La h a):(af (tbl h) (a / 16)).e≠0/\0<=a/\a<512:=by
 obtain⟨c,d,f⟩:=WE e;have:=di b (ax c) (k:=a - (nth h.J (La h a).toNat).Addr) ω;rw[show(nth h.J (La h a).toNat).Addr+(a - (nth h.J (La h a).toNat).Addr)=a by omega]at this;exact⟨this.1,ω,ω⟩
def H4(h:ac)(a v:Int):ac × Int:=if La h a<0 then(h,1) else if(af (tbl h) (a / 16)).e=1 then(h,2) else({h with G:=dN h.G a v},0)
def Ae(h:ac)(a v:Int)(l:ac.sml h)(b:aY h [])(o:0<=v/\v<=999):zzA 405 false [.val (some 24) (ac.enc .S h),.vI a,.vI v] (.tup [some 24,none]) (dO (H4 h a v).1++[I (H4 h a v).2]):=by
 have i:=eD h l;have j:=uo h a l b;unfold H4;by_cases e:La h a<0
 ·rw[CL e]
  refine fO 38 [] Tryz.func405 rfl ?_ (.inr (aD (cF _) ⟨tV1,tV1⟩))
  repeat'(first|refine gE ?_|refine gS (λd=>?_) (λd=>?_)|fail)
  rfl
 rw[CJ e];obtain⟨n,p⟩:=Pk b (show 0<=La h a by omega);have k:=bj b.ker;obtain⟨-,-,-,q,u⟩:=bD b.ker n;have r:=(bi.1 (aH.1 b.ker).2.1).2.2.1;have c:=A8 h.G.F a v (je b.ker) k.1 p o (λ_=>⟨q,ω,b.lens.row _ (ax ω)⟩);unfold gN at c;rw[CJ (show ¬(af h.G.F.O (a / 16)).e=0 from n)]at c;by_cases g:(af h.G.F.O (a / 16)).e=1
 ·rw[CL g]at c
  rw[CL (show(af (tbl h) (a / 16)).e=1 from g)];refine fO 38 [] Tryz.func405 rfl ?_ (.inr (aD (cF _) ⟨tV1,tV1⟩))
  repeat'(first|refine gB ?_|refine gS (λd=>?_) (λd=>?_)|fail)
  rfl
 rw[CJ g]at c;rw[CJ (show ¬(af (tbl h) (a / 16)).e=1 from g)];have t:dO {h with G:=dN h.G a v} = (dO h).set 0 (.s .own ((dN h.G a v).F.V.T.map (aF .own))):=rfl;refine fO 38 [] Tryz.func405 rfl ?_ (.inr (aD (cF _) ⟨tV1,tV1⟩))
 repeat'(first|refine gB ?_|refine gS (λd=>?_) (λd=>?_)|fail)
 rfl
def V1{k:ah}{a:Int}(b:cW k a<k.F.V.T.length):∀m:Nat,a % 16+m<=16->zK k a m=eI k a m
 | 0,_=>by
  unfold zK eI ju;rw[Jf b]
 | m+1,h=>by
  have c:(af k.F.O ((a+m) / 16))=af k.F.O (a / 16):=by rw[show(a+(m:Int)) / 16=a / 16 by omega]
  have d:((a+(m:Int)) % 16).toNat=(a % 16).toNat+m:=ω
  show dN (zK k a m) (a+m) 0=_;rw[V1 b m ω];unfold dN setCell cW eI;simp only[c,d,ju];rw[show(af k.F.O (a / 16)).j.toNat=cW k a from rfl,bW,CL ⟨rfl,b⟩,List.set_set]
def Bg(l:aC)(n:Int)(d:bI l=true):zzA 507 false [.val (some 3) (aC.enc .S l),.vI n] (.tup [some 3,some 2,none]) (if 9<=n/\n<=l.k then aC.enc .own (trimL l n)++aG.enc .own (lw l n)++[B true] else aC.enc .own l++[I 0,I 0]++[B false]):=by
 have b:=qK l;rw[d]at b;have a:=aK n 9 l.k;have g:=d;unfold bI at g;rw[C0]at g;by_cases e:9<=n/\n<=l.k
 ·rw[O0 e]at a
  rw[CL e];have c:=p8 n;rw[show fF n=(n+15) / 16 by unfold fF;rw[CL ω]]at c;unfold lw;by_cases h:(n+15) / 16<l.a1
  ·rw[CL h]
   refine fO 45 [(3,7,[20,21,22,23,24,25,7]),(6,268,[33,34,35,36,37,38,39,40,41,42,43,44,0,1,2,3,4,5,6,7,8,9,10,11,12,1001,1002,1003,1004,1005,1006,1007,1008,1009,1010,1011,13,14])] Tryz.func507 rfl ?_ (.inr ⟨tV1,tV1,tV1,tV1,tV1,tV1,tV1⟩)
   refine σB ?_
   rfl
  rw[CJ h];have i:(n+15) / 16=l.a1:=ω
  refine fO 45 [(3,7,[20,21,22,23,24,25,7]),(6,268,[33,34,35,36,37,38,39,40,41,42,43,44,0,1,2,3,4,5,6,7,8,9,10,11,12,1001,1002,1003,1004,1005,1006,1007,1008,1009,1010,1011,13,14])] Tryz.func507 rfl ?_ (.inr ⟨tV1,tV1,tV1,tV1,tV1,tV1,tV1⟩)
  refine σB ?_
  rfl
 rw[C1 e]at a;rw[CJ e];refine fO 45 [(3,7,[20,21,22,23,24,25,7]),(6,268,[33,34,35,36,37,38,39,40,41,42,43,44,0,1,2,3,4,5,6,7,8,9,10,11,12,1001,1002,1003,1004,1005,1006,1007,1008,1009,1010,1011,13,14])] Tryz.func507 rfl ?_ (.inr ⟨tV1,tV1,tV1,tV1,tV1,tV1,tV1⟩)
 refine σP ?_
 rfl
theorem dU(l:aC)(a:Int)(b:0<=l.Q/\l.Q<=32):zzA 506 false [.val (some 3) (aC.enc .S l),.ptr [I a]] .one [B (mT a l)]:=by
 refine fO 9 [] Tryz.func506 rfl ?_
 refine σP ?_
 grind [mT]
theorem Pj(h:ac)(i g:Nat)(n:Int)(K:ah)(a:h.H≠[])(b:h.J≠[]):dO (ip h i g n K)=cE {h with G:=K} (oS h) (.s .own ((h.H.map (aC.enc .own)).set g (aC.enc .own (trimL (nth h.H g) n)))) (.s .own ((h.J.map (bg.enc .own)).set i (splice (bg.enc .own (nth h.J i)) 2 [I n]))):=by
 have c:oL (ip h i g n K)=.s .own ((h.H.map (aC.enc .own)).set g (aC.enc .own (trimL (nth h.H g) n))):=by
  unfold oL;rw[sG (by simp[ip];exact a)]
  grind [SC,ip]
 have d:oO (ip h i g n K)=.s .own ((h.J.map (bg.enc .own)).set i (splice (bg.enc .own (nth h.J i)) 2 [I n])):=by
  unfold oO;rw[sG (by simp[ip];exact b),F6]
 unfold dO;rw[c,d];rfl
theorem EN(h:ac)(i:Nat)(n:Int)(hs:ac.sml h)(l:aY h [])(Q:i<h.J.length):zzA 407 false [.val (some 24) (ac.enc .S h),.val none [I (nth h.J i).Addr],.vI n] (.tup [some 24,none]) (dO (if h.G.Calls≠100000/\jh h i n then trimH h i (si h (nth h.J i).Addr).toNat n else h)++[B (decide (h.G.Calls≠100000/\jh h i n))]):=by
 have p:=l.lens;have hnl:=p.larges;have hno:=p.objs;have hpg:eQ h<=32:=p.ents;have F:=eD h hs;have G:=cJ h hs;rw[dM,l.to]at G;have u:=mN h.H (mT (nth h.J i).Addr) ω;have d:∀y∈h.H,0<=y.Q/\y.Q<=32:=λy o=>by have:=aR (l.L.lok y o);omega
 change au _ _ _ _ _ [I (si h (nth h.J i).Addr)]at u;by_cases e1:si h (nth h.J i).Addr<0
 ·rw[CJ (λx=>by have:=x.2.1;omega),C1 (λx=>by have:=x.2.1;omega)]
  refine fP 81 [(105,[2,0,0]),(103,[2,0])] [(9,6,[53,54,55,56,57,58])] Tryz.func407 rfl ?_ (.inr (aD (cF _) ⟨tV1,tV1⟩))
  repeat'(first|refine gE ?_|refine Ce (mC (some 3) (aC.enc .S) (mT (nth h.J i).Addr) h.H) (dU ⟨0,0,0⟩ (nth h.J i).Addr ⟨by decide,by decide⟩).has (λL k rcs q=>?_) ?_)
  ·obtain⟨y,o,rfl,rfl,rfl⟩:=q
   exact dU y _ (d y o)
  rfl
 by_cases e2:h.G.Calls=100000
 ·rw[CJ (λx=>x.1 e2),C1 (λx=>x.1 e2)]
  refine fP 81 [(105,[2,0,0]),(103,[2,0])] [(9,6,[53,54,55,56,57,58])] Tryz.func407 rfl ?_ (.inr (aD (cF _) ⟨tV1,tV1⟩))
  repeat'(first|refine gB ?_|refine Ce (mC (some 3) (aC.enc .S) (mT (nth h.J i).Addr) h.H) (dU ⟨0,0,0⟩ (nth h.J i).Addr ⟨by decide,by decide⟩).has (λL k rcs q=>?_) ?_)
  ·obtain⟨y,o,rfl,rfl,rfl⟩:=q
   exact dU y _ (d y o)
  rfl
 obtain⟨f1,f2,f3⟩:=eZ (mT (nth h.J i).Addr) h.H (by grind [si]);obtain⟨g,R⟩:=v5 (show 0<=si h (nth h.J i).Addr by omega);have r:g<h.H.length:=by grind [si]
 have hga:(nth h.H g).Q*16=(nth h.J i).Addr:=by grind [mT,si]
 have S:jh h i n↔9<=n/\n<=(nth h.H g).k:=by grind [jh]
 rw[R,t5];rw[R]at u;have b:=ar r;have H:=Bg (nth h.H g) n (l.L.lok _ (ax r));by_cases T:9<=n/\n<=(nth h.H g).k;rotate_left
 ·rw[CJ ψ,C1 ψ]
  rw[CJ T]at H;refine fP 81 [(105,[2,0,0]),(103,[2,0])] [(9,6,[53,54,55,56,57,58])] Tryz.func407 rfl ?_ (.inr (aD (cF _) ⟨tV1,tV1⟩))
  repeat'(first|refine gB ?_|refine Ce (mC (some 3) (aC.enc .S) (mT (nth h.J i).Addr) h.H) (dU ⟨0,0,0⟩ (nth h.J i).Addr ⟨by decide,by decide⟩).has (λL k rcs q=>?_) ?_)
  ·obtain⟨y,o,rfl,rfl,rfl⟩:=q
   exact dU y _ (d y o)
  rfl
 rw[CL ⟨e2,S.2 T⟩,O0 ⟨e2,S.2 T⟩];rw[CL T]at H;change au _ _ _ _ _ ([I (nth h.H g).Q,I ((n+15) / 16),I n]++aG.enc .own (lw (nth h.H g) n)++[B true]) at H;obtain⟨-,U,t⟩:=l.objAt (ax Q);have hii:lD h (nth h.J i).Addr=i:=by
  have h2:=(l.objAt (ax Q)).1;exact du (f:=(·.Addr)) (dv l.osr) h2 Q (by rw[U])
 rw[hii]at t;have V:=vi h (nth h.J i).Addr ω;rw[t]at V;have c:=ar Q;have h8:=l.L.lok _ (ax r);unfold bI at h8;rw[C0]at h8;have W:h.H≠[]:=gW r;have X:h.J≠[]:=gW Q;have heh:dO h=cE h (oS h) (.s .own (h.H.map (aC.enc .own))) (.s .own (h.J.map (bg.enc .own))):=by grind [sG,List.map_eq_nil_iff,dO,oL,oO]
 rw[heh]at F;have Y:=λK=>Pj h i g n K W X
 have w:((nth h.H g).Q*16+n).tmod 16=((nth h.H g).Q*16+n) % 16:=eR ω;have J:=wI l r T (C5 _);have Z:=kg l r (a:=16*(nth h.H g).Q+n - 1) ω;have M:=rd h.G (16*(nth h.H g).Q+n) (16*((n+15) / 16) - n).toNat;have N:trimH h i g n = {ip h i g n (kq h g n) with G:=unmN (kq h g n) ((nth h.H g).Q+(n+15) / 16) (dD (nth h.H g) n),o:=yR h g n}:=rfl;obtain⟨K,hK⟩ : ∃K,K=kq h g n:=⟨_,rfl⟩
 have C:(((nth h.H g).Q*16+n) % 16=0->K=h.G)/\(((nth h.H g).Q*16+n) % 16≠0->K=eI h.G ((nth h.H g).Q*16+n) (16 - ((nth h.H g).Q*16+n) % 16).toNat):=by
  rw[hK];unfold kq;constructor
  ·intro z
   rw[show(16*((n+15) / 16) - n).toNat=0 by omega];rfl
  intro z;rw[show(16*((n+15) / 16) - n).toNat=(16 - ((nth h.H g).Q*16+n) % 16).toNat by omega,show 16*(nth h.H g).Q+n=(nth h.H g).Q*16+n by omega];refine V1 ?_ _ ω;obtain⟨-,-,-,q0,q1⟩:=bD l.ker Z;have hul:=(bi.1 (aH.1 l.ker).2.1).2.2.1
  grind [cW]
 rw[N,<-hK];have hkk:aI K=true:=by rw[hK];exact J
 have hkc:K.Calls≠100000:=by rw[hK];show(zK _ _ _).Calls≠_;omega
 have hke:K.F.O.M.length=h.G.F.O.M.length:=by rw[hK];show(zK _ _ _).F.O.M.length=_;rw[M.1]
 have hpn:eQ (ip h i g n K)=eQ h:=hke;clear N J M;have c9:=kG (ip h i g n K) (lw (nth h.H g) n) (dD (nth h.H g) n) hkk hkc (by show h.o.length<=_;grind [pV.free]) (by grind [lw,dD]);rw[hpn,Y]at c9;have hd:dO {ip h i g n K with G:=unmN K ((nth h.H g).Q+(n+15) / 16) (dD (nth h.H g) n),o:=yR h g n} = if(n+15) / 16<(nth h.H g).a1 then dO {ip h i g n K with G:=unmN K (lw (nth h.H g) n).At (dD (nth h.H g) n),o:=(cQ (eQ h) h.o (lw (nth h.H g) n)).getD h.o} else cE {h with G:=K} (oS h) (.s .own ((h.H.map (aC.enc .own)).set g (aC.enc .own (trimL (nth h.H g) n)))) (.s .own ((h.J.map (bg.enc .own)).set i (splice (bg.enc .own (nth h.J i)) 2 [I n]))):=by
  by_cases e:(n+15) / 16<(nth h.H g).a1
  ·grind [lw,dD,yR]
  rw[CJ e,<-Y];have O:dD (nth h.H g) n=0:=by unfold dD;omega
  unfold yR;rw[O,CJ ω];rfl
 rw[hd];have D:(lw (nth h.H g) n).a8=if(n+15) / 16<(nth h.H g).a1 then(nth h.H g).a1 - (n+15) / 16 else 0:=by grind [lw]
 have j:iN (if(n+15) / 16<(nth h.H g).a1 then dO {ip h i g n K with G:=unmN K (lw (nth h.H g) n).At (dD (nth h.H g) n),o:=(cQ (eQ h) h.o (lw (nth h.H g) n)).getD h.o} else cE {h with G:=K} (oS h) (.s .own ((h.H.map (aC.enc .own)).set g (aC.enc .own (trimL (nth h.H g) n)))) (.s .own ((h.J.map (bg.enc .own)).set i (splice (bg.enc .own (nth h.J i)) 2 [I n])))):=by grind [cF]
 clear hd hga t U f1 f2 f3;by_cases e5:((nth h.H g).Q*16+n) % 16=0
 ·have E:=C.1 e5
  rw[E]at c9 j |-;clear C;by_cases O:(n+15) / 16<(nth h.H g).a1
  ·rw[CL O]at j D |-
   refine fP 81 [(105,[2,0,0]),(103,[2,0])] [(9,6,[53,54,55,56,57,58])] Tryz.func407 rfl ?_ (.inr (aD j ⟨tV1,tV1⟩))
   repeat'(first|refine gB ?_|refine gS (λP=>?_) (λP=>?_)|refine Ce (mC (some 3) (aC.enc .S) (mT (nth h.J i).Addr) h.H) (dU ⟨0,0,0⟩ (nth h.J i).Addr ⟨by decide,by decide⟩).has (λL k rcs q=>?_) ?_|refine CU rfl rfl (aa b) rfl (O2 rfl) rfl ?_|refine CU rfl rfl (aa c) rfl (O2 rfl) rfl ?_|refine CT qs ?_|refine CX w ?_)
   ·obtain⟨y,o,rfl,rfl,rfl⟩:=q
    exact dU y _ (d y o)
   rfl
  rw[CJ O]at j D |-;refine fP 81 [(105,[2,0,0]),(103,[2,0])] [(9,6,[53,54,55,56,57,58])] Tryz.func407 rfl ?_ (.inr (aD j ⟨tV1,tV1⟩))
  repeat'(first|refine gB ?_|refine gS (λP=>?_) (λP=>?_)|refine Ce (mC (some 3) (aC.enc .S) (mT (nth h.J i).Addr) h.H) (dU ⟨0,0,0⟩ (nth h.J i).Addr ⟨by decide,by decide⟩).has (λL k rcs q=>?_) ?_|refine CU rfl rfl (aa b) rfl (O2 rfl) rfl ?_|refine CU rfl rfl (aa c) rfl (O2 rfl) rfl ?_|refine CT qs ?_|refine CX w ?_)
  ·obtain⟨y,o,rfl,rfl,rfl⟩:=q
   exact dU y _ (d y o)
  rfl
 have E:=C.2 e5;have hcc:0<=(af h.G.F.O (((nth h.H g).Q*16+n) / 16)).j/\(af h.G.F.O (((nth h.H g).Q*16+n) / 16)).j<h.G.F.V.T.length:=by
  obtain⟨-,-,-,q0,q1⟩:=bD l.ker Z;have hul:=(bi.1 (aH.1 l.ker).2.1).2.2.1
  grind
 have c8:=mG h (oS h) (.s .own ((h.H.map (aC.enc .own)).set g (aC.enc .own (trimL (nth h.H g) n)))) (.s .own ((h.J.map (bg.enc .own)).set i (splice (bg.enc .own (nth h.J i)) 2 [I n]))) ((nth h.H g).Q*16+n) (16 - ((nth h.H g).Q*16+n) % 16).toNat l.ker ω hcc ω (p.row _ (ax (by unfold cW;omega)));rw[<-E,show(((16 - ((nth h.H g).Q*16+n) % 16).toNat:Nat):Int)=16 - ((nth h.H g).Q*16+n) % 16 by omega]at c8;clear C E;by_cases O:(n+15) / 16<(nth h.H g).a1
 ·rw[CL O]at j D |-
  refine fP 81 [(105,[2,0,0]),(103,[2,0])] [(9,6,[53,54,55,56,57,58])] Tryz.func407 rfl ?_ (.inr (aD j ⟨tV1,tV1⟩))
  repeat'(first|refine gB ?_|refine gS (λP=>?_) (λP=>?_)|refine Ce (mC (some 3) (aC.enc .S) (mT (nth h.J i).Addr) h.H) (dU ⟨0,0,0⟩ (nth h.J i).Addr ⟨by decide,by decide⟩).has (λL k rcs q=>?_) ?_|refine CU rfl rfl (aa b) rfl (O2 rfl) rfl ?_|refine CU rfl rfl (aa c) rfl (O2 rfl) rfl ?_|refine CT qs ?_|refine CX w ?_)
  ·obtain⟨y,o,rfl,rfl,rfl⟩:=q
   exact dU y _ (d y o)
  rfl
 rw[CJ O]at j D |-;refine fP 81 [(105,[2,0,0]),(103,[2,0])] [(9,6,[53,54,55,56,57,58])] Tryz.func407 rfl ?_ (.inr (aD j ⟨tV1,tV1⟩))
 repeat'(first|refine gB ?_|refine gS (λP=>?_) (λP=>?_)|refine Ce (mC (some 3) (aC.enc .S) (mT (nth h.J i).Addr) h.H) (dU ⟨0,0,0⟩ (nth h.J i).Addr ⟨by decide,by decide⟩).has (λL k rcs q=>?_) ?_|refine CU rfl rfl (aa b) rfl (O2 rfl) rfl ?_|refine CU rfl rfl (aa c) rfl (O2 rfl) rfl ?_|refine CT qs ?_|refine CX w ?_)
 ·obtain⟨y,o,rfl,rfl,rfl⟩:=q
  exact dU y _ (d y o)
 rfl
def Jh(h:ac)(t a:Int)(b:ac.sml h)(e:cw h=true)(j:h.G.Calls≠100000)(g:¬(0<=t/\t<=h.R.length - 1)):zzA 33 false [.val (some 24) (ac.enc .S h),.vI t,.vI a] (.tup [some 24,none]) (dO h++[I 1]):=by
 have c:=cJ h b;rw[dM,e]at c;have i:h.R.length<=1048576:=b.2.2.2.2.2.1.1;have d:=aK t 0 (h.R.length - 1:Int);rw[C1 g]at d;refine fP 163 [(99,[1,0,0]),(102,[1,0,0]),(103,[2,0]),(105,[2,0,0]),(109,[2,0,0])] [(20,12,[85,86,87,88,89,90,91,92,93,94,95,96]),(24,4,[111,112,113,114])] Tryz.func33 rfl ?_ (.inr (aD (cF _) ⟨tV1,tV1⟩))
 repeat'(first|refine gB ?_|refine CG (eD h b) ?_)
 rfl
def Rg(m:aT)(a v:Int)(h:dB m=true)(c:aT.sml m)(i:0<=a/\a<512)(j:¬(0<=v/\v<=999))(k:(af m.O (a / 16)).e≠0):zzA 505 false [.val (some 3) (aT.enc .S m),.vI a,.vI v] (.tup [some 3,none]) (aT.enc .own m++[I (if(af m.O (a / 16)).e=1 then 2 else 3)]):=by
 have d:=lR m c;have e:=vo m a h c i;have b:=aK v 0 999;rw[C1 j]at b;by_cases g:(af m.O (a / 16)).e=1
 ·rw[CL g]
  refine fO 42 [] Tryz.func505 rfl ?_ (.inr (aD (aT.enc_fr m) ⟨tV1,tV1⟩))
  refine σB ?_
  rfl
 rw[CJ g];refine fO 42 [] Tryz.func505 rfl ?_ (.inr (aD (aT.enc_fr m) ⟨tV1,tV1⟩))
 refine σB ?_
 rfl
def Eh(h:ac)(a v:Int)(i:ac.sml h)(b:aY h [])(n:¬(0<=v/\v<=999))(e:0<=La h a):zzA 405 false [.val (some 24) (ac.enc .S h),.vI a,.vI v] (.tup [some 24,none]) (dO h++[I (if(af (tbl h) (a / 16)).e=1 then 2 else 3)]):=by
 have j:=eD h i;have k:=uo h a i b;obtain⟨o,p⟩:=Pk b e;have d:=bj b.ker;have c:=Rg h.G.F a v (je b.ker) d.1 p n o;unfold tbl;by_cases l:(af h.G.F.O (a / 16)).e=1
 ·rw[CL l]at c |-
  refine fO 38 [] Tryz.func405 rfl ?_ (.inr (aD (cF _) ⟨tV1,tV1⟩))
  repeat'(first|refine gB ?_|refine gS (λg=>?_) (λg=>?_)|fail)
  rfl
 rw[CJ l]at c |-;refine fO 38 [] Tryz.func405 rfl ?_ (.inr (aD (cF _) ⟨tV1,tV1⟩))
 repeat'(first|refine gB ?_|refine gS (λg=>?_) (λg=>?_)|fail)
 rfl
set_option maxRecDepth 100000
def NS:∀w,(zeroValue 180).run Tryz.prog w=.ok (.agg #[.int .i64 0,.int .i64 0]) w:=λ_=>by kernel_rfl
def G9:xm Tryz.prog 458 2:=by
 refine⟨⟨_,Tryz.func458,by kernel_rfl,by kernel_rfl⟩,λw g n c i news r y o B C b=>?_⟩;obtain⟨A,X,a⟩:=vQ o y r B;have a:Hid (∀t u,news[t]? = some u->w.drew.cell? (A.add t)=some u):=a;have T:Hid (news.length=(n - (i+1))*2):=o;have Y:Hid (∀u∈news,u.oneCell'=true):=C;have Z:Hid (∀t,t<news.length->(w.drew.cell? ⟨g,0+i*2+t,none⟩).isSome=true/\w.drew.frozen? ⟨g,0+i*2+t,none⟩ = false):=λt ht=>by
  rw[OE];exact b (i*2+t) ω
 obtain⟨p,d⟩ : ∃p,p=w.drew.setCells g (0+i*2) news:=⟨_,rfl⟩
 have K:∀q,q<n*2->(p.cell? ⟨g,q,none⟩).isSome=true/\p.frozen? ⟨g,q,none⟩ = false:=λq U=>by
  have D:∀j,j<news.length->∃z,cel w.drew g (0+i*2+j)=some z:=λj L=>by
   have:=(b (0+i*2+j) ω).1;exact Option.isSome_iff_exists.1 this
  refine⟨?_,by rw[d];exact(O1 Prod.fst (cu g _ news w.drew g q)).trans (b q U).2⟩;rw[d];by_cases h:0+i*2<=q/\q<0+i*2+news.length
  ·have:=bz D (z4 (show q - (0+i*2)<news.length by omega))
   rw[show 0+i*2+(q - (0+i*2))=q by omega]at this;show(cel _ g q).isSome=true;rw[this];rfl
  show(cel _ g q).isSome=true;rw[bn (λx=>h x.2)];exact(b q U).1
 obtain⟨M,E,F,G⟩:=wY (P:=Tryz.prog) p 36 180 2 (.agg #[.int .i64 0,.int .i64 0]) Tryz.underlying36 NS rfl (by intro v V;simp[Value.cells]at V;subst V;rfl) g ((i+(n - (i+1)))*2) (n - (i+(n - (i+1)))) ω qs (λj L=>(K _ ω).1) (λj L=>(K _ ω).2);have k:Hid (M.length=(n - (i+(n - (i+1))))*2):=E;have H:Hid (∀v∈M,v.oneCell'=true):=F;have W:Hid (p=w.drew.setCells g (0+i*2) news):=d;have hic:i<=c:=ω
 have N:i+1<=c:=ω
 have O:¬i=i+1:=ω
 have Q:i+1<=n:=r;have l:n - 1=i+(n - (i+1)):=ω
 clear d K b B C o E F;rw[l];generalize L:i+1=j at X a T G k N O Q l |-;obtain⟨J,R,S⟩ : ∃J,Tryz.prog.info? 180=some J/\J.size=2:=by
  have h:=(ru 180 _ rfl).1;cases e : Tryz.prog.info? 180 with
  | none=>rw[e]at h;cases h
  | some x=>rw[e]at h;simp only[IA,C2,Prod.mk.injEq]at h;exact⟨x,rfl,h.2.1⟩
 have mixed : Tryz.prog.follows .mixedOrders=true:=by kernel_rfl
 go_enter Tryz.func458,Tryz.ntmps458
 go_wp2_with fail
 go_region_law_o (refine step_append_room rfl (.tmp 22) (.tmp 25) 36 rfl 180 J 2 Tryz.underlying36 R S g 0 i c (by simp[Act.eval,Act.put]) A (n - j) (c - j) news (by simp[Act.eval,Act.put]) T.out a.out Y.out ω Z.out ?_;rw[<-W.out])
 go_wp2
 go_ret
 refine⟨rfl,M,by have:=k.out;omega,H.out,?_⟩;rw[W.out,OE]
def J0(xs:List aG)(i:Nat)(a:i<xs.length):zzB 458 false [.mut none [.s .own (xs.map (aG.enc .own))],.vI (i:Nat),.vI ((i+1:Nat):Int)] [.mut none [.x],.vI (i:Nat),.vI ((i+1:Nat):Int)] .one [oE ((dele xs i).map (aG.enc .own))]:=by
 have h:=AA G9 (rows:=xs.map (aG.enc .own)) (i:=i) (by rw[I2];exact a) (aM λ_=>rfl) (bm _ _ λx _=>aG.enc_fr x)
 rwa [show dele (xs.map (aG.enc .own)) i=(dele xs i).map (aG.enc .own) by simp[dele,C8,I8]]at h
variable{α:Type}
def Vo(xs:List α)(b:Nat)(y:α):dele (xs.set b y) b=dele xs b:=by
 unfold dele;rw[List.take_set_of_le (C5 b),List.drop_set_of_lt (Nat.lt_succ_self b)]
def vV(k:ah)(p:Int)(c:aI k=true)(w:k.Calls≠100000)(n:0<=p/\p<k.F.O.M.length)(y:(nth k.F.O.M p.toNat).e=0):zzA 341 false [.val (some 5) (ah.enc .S k),.vI p] (.tup [some 5,none]) (ah.enc .own (newK k p).1++[B (newK k p).2]):=by
 have h:=bj c;have C:=(aH.1 c).2.2.2;have D:=(bu.1 (aH.1 c).2.2.1).2.2;have d:=jq k h;rw[c,O0 w]at d;have g:=ri k h ⟨ω,ω⟩;have a:=B9 k.F.V (aH.1 c).2.1 h.1.1;have j:af k.F.O p=nth k.F.O.M p.toNat:=by unfold af;exact CL n
 have o:=aK p 0 ((k.F.O.M.length:Int) - 1);rw[O0 ω]at o;have q:=fQ k p h.1.2;rw[j,y,C1 qs]at q;have r:=ar (xs:=k.F.O.M) (i:=p.toNat) ω;unfold yK at a;unfold newK;cases e:refd k<;>rw[e]at g
 ·by_cases b:rz k<0
  ·rw[CL (.inr b)]
   rw[CL (show bU (λu=>!u) k.F.V.a6<0 from b)]at a;simp only at a;refine fO 64 [] Tryz.func341 rfl ?_ (.inr (aD (Ck _) ⟨tV1,tV1⟩))
   refine σP ?_
   rfl
  rw[CJ (by simp[b])];rw[CJ (show ¬bU (λu=>!u) k.F.V.a6<0 from b)]at a;simp only at a;obtain⟨f,t⟩:=v5 (show 0<=rz k by omega);have l:bU (λu=>!u) k.F.V.a6=(f:Nat):=t;rw[l]at a;rw[t];simp only[t5]at a |-;rw[F7]at a;rw[Bj];refine fO 64 [] Tryz.func341 rfl ?_ (.inr (aD (by rw[<-Bj];exact Ck _) ⟨tV1,tV1⟩))
  repeat'(first|refine gP ?_|refine CQ n.1 (aa r) ?_|refine CU rfl rfl (aa r) rfl (O2 rfl) rfl ?_)
  rfl
 rw[CL (.inl rfl)];by_cases b:rz k<0
 ·rw[CL (show bU (λu=>!u) k.F.V.a6<0 from b)]at a
  simp only at a;refine fO 64 [] Tryz.func341 rfl ?_ (.inr (aD (Ck _) ⟨tV1,tV1⟩))
  refine σP ?_
  rfl
 rw[CJ (show ¬bU (λu=>!u) k.F.V.a6<0 from b)]at a;simp only at a;refine fO 64 [] Tryz.func341 rfl ?_ (.inr (aD (Ck _) ⟨tV1,tV1⟩))
 refine σP ?_
 rfl
def YI(xs:List aG)(n:Int):List C:=(if(ay xs n).2.2=true then [oE ((ay xs n).1.map (aG.enc .own))] else bw .own xs)++[I (ay xs n).2.1,B (ay xs n).2.2]
def XD(xs:List aG)(n:Int):iN (YI xs n):=by
 unfold YI;split
 ·exact aD ⟨Je (ko _).1.2,tV1⟩ ⟨tV1,tV1,tV1⟩
 exact aD (ko _) ⟨tV1,tV1,tV1⟩
def Fh(xs:List aG)(b:Nat)(y:aG):(xs.set b y).map (aG.enc .own)=(xs.map (aG.enc .own)).set b [I y.At,I y.a8]:=by rw[SC];rfl
def Aj(pages:Int)(xs:List aG)(n:Int)(J:0<=pages/\pages<=1048576)(u:bN pages xs=true)(Q:1<=n/\n<=1000)(R:xs.length<=4096):zzA 340 false [.vI pages,.val none (bw .S xs),.vI n] (.tup [none,none,none]) (YI xs n):=by
 have p:iy xs:=⟨ω,λ_ _=>tV1⟩
 have w:=pH pages xs J p;rw[u]at w;have K:=mE xs p;have B:=(vG u).2;refine fP 91 [(458,[1,0,0])] [(8,15,[32,33,34,35,36,37,38,39,40,41,42,43,44,45,46])] Tryz.func340 rfl ?_ (.inr (XD xs n))
 refine σE ?_
 refine lp0 xs.length (λi=>[(1,bJ (bw .S xs)),(2,fI n),(9,bJ (bw .own xs)),(10,fI (ia xs n i)),(25,bJ (bw .S xs)),(26,fI xs.length),(27,fN i)]) λi L=>?_
 have l:=vM xs n i L;by_cases D:i<xs.length
 ·have k:=ar D
  have M:=B _ (ax D);have d:ia xs n (i+1)=if n<=(nth xs i).a8/\(ia xs n i<0\/(nth xs i).a8<(nth xs (ia xs n i).toNat).a8) then((i:Nat):Int) else ia xs n i:=rfl
  by_cases E:n<=(nth xs i).a8
  ·by_cases N:ia xs n i<0
   ·rw[CL ⟨E,.inl N⟩]at d
    repeat'(first|refine gE ?_|refine gS (λh=>?_) (λh=>?_)|fail)
    (refine CR (i+1) ω ω ?_)
    rw[d];exact wC
   have a:=ar (xs:=xs) (i:=(ia xs n i).toNat) ω;by_cases O:(nth xs i).a8<(nth xs (ia xs n i).toNat).a8
   ·rw[CL ⟨E,.inr O⟩]at d
    repeat'(first|refine gE ?_|with_reducible refine CQ ω (aa a) ?_|refine gS (λh=>?_) (λh=>?_)|fail)
    (refine CR (i+1) ω ω ?_)
    rw[d];exact wC
   rw[CJ ω]at d
   repeat'(first|refine gE ?_|with_reducible refine CQ ω (aa a) ?_|refine gS (λh=>?_) (λh=>?_)|fail)
   (refine CR (i+1) ω ω ?_)
   rw[d];exact wC
  rw[CJ ω]at d
  repeat'(first|refine gE ?_|refine gS (λh=>?_) (λh=>?_)|fail)
  (refine CR (i+1) ω ω ?_)
  rw[d];exact wC
 obtain rfl:i=xs.length:=ω
 change gH xs n = -1\/_ at l;unfold YI ay;rw[show ia xs n xs.length=gH xs n from rfl];by_cases e:gH xs n<0
 ·rw[CL e]
  rw[show gH xs n = -1 from l.resolve_right λg=>by have S:0<=gH xs n:=g.1;omega]
  repeat'(first|refine gE ?_|refine gS (λh=>?_) (λh=>?_)|fail)
  rfl
 rw[CJ e];obtain⟨P,F,T⟩:=l.resolve_left ω;change 0<=gH xs n at P;change gH xs n<xs.length at F;obtain⟨b,r⟩:=v5 (show 0<=gH xs n by omega);rw[r]at F |-;simp only[t5];have a:=ar (xs:=xs) (i:=b) ω;have M:=B _ (ax (xs:=xs) (i:=b) ω);have c:((xs.map (aG.enc .own)).set b [I ((nth xs b).At+n),I (nth xs b).a8])[b]? = some [I ((nth xs b).At+n),I (nth xs b).a8]:=kY ω;have j:((xs.set b ⟨(nth xs b).At+n,(nth xs b).a8 - n⟩).map (aG.enc .own))[b]? = some [I ((nth xs b).At+n),I ((nth xs b).a8 - n)]:=by rw[Fh];exact kY ω
 have o:∀t:List C,t.set 0 (.s .own (((xs.map (aG.enc .own)).set b [I ((nth xs b).At+n),I (nth xs b).a8]).set b [I ((nth xs b).At+n),I ((nth xs b).a8 - n)]))=t.set 0 (.s .own ((xs.set b ⟨(nth xs b).At+n,(nth xs b).a8 - n⟩).map (aG.enc .own))):=λt=>by rw[Fh,List.set_set]
 have q:=J0 (xs.set b ⟨(nth xs b).At+n,(nth xs b).a8 - n⟩) b (by rw[C3];omega);rw[Vo]at q;by_cases G:(nth xs b).a8=n
 ·rw[CL G]
  generalize dele xs b=H at q |-;cases H with
  | nil=>
   repeat'(first|refine gB ?_|refine gS (λh=>?_) (λh=>?_)|refine CK c ?_|refine CK j ?_|refine CM rfl c rfl ?_|refine CM rfl j rfl ?_|refine CU rfl rfl (aa a) rfl (O2 rfl) rfl ?_|refine CU rfl rfl c rfl (O2 rfl) (o _).symm ?_)
   rfl
  | cons y H=>
   repeat'(first|refine gB ?_|refine gS (λh=>?_) (λh=>?_)|refine CK c ?_|refine CK j ?_|refine CM rfl c rfl ?_|refine CM rfl j rfl ?_|refine CU rfl rfl (aa a) rfl (O2 rfl) rfl ?_|refine CU rfl rfl c rfl (O2 rfl) (o _).symm ?_)
   rfl
 rw[CJ G]
 repeat'(first|refine gB ?_|refine gS (λh=>?_) (λh=>?_)|refine CK c ?_|refine CK j ?_|refine CM rfl c rfl ?_|refine CM rfl j rfl ?_|refine CU rfl rfl (aa a) rfl (O2 rfl) rfl ?_|refine CU rfl rfl c rfl (O2 rfl) (o _).symm ?_)
 rw[CL rfl,sG (by rw[Ne,List.map_eq_nil_iff,<-List.length_eq_zero_iff,C3];omega)]
 rfl
variable{P:Program}
def re(w:World)(dT sT ty elem:TypeId)(k b o dLen dCap:Nat)(a:Addr)(sLen sCap n:Nat)(cs:List Value)(h:P.underlying dT=some (.slice elem))(g:(P.info? elem).map (·.size)=some k)(l:Nat.min sLen dLen=n)(p:cs.length=n*k)(c:∀j v,cs[j]? = some v->w.cell? (a.add j)=some v)(q:∀j,j<cs.length->(w.cell? ⟨b,o+j,none⟩).isSome=true)(r:∀j,j<cs.length->w.frozen? ⟨b,o+j,none⟩ = false)(h1:∀v∈cs,v.oneCell'=true) :
  (Builtin.copy_ #[dT,sT] ty #[.slice (some ⟨b,o,none⟩) dLen dCap,.slice (some a) sLen sCap]).run P w=.ok (goInt n) (w.setCells b o cs):=by
 have d:=run_loadCells_list (P:=P) w a cs c;have e:=run_storeCells_cells (P:=P) b o cs 0 w (by simpa using q) (by simpa using r) h1;rw[p]at d;cases f:P.info? elem with
 | none=>simp[f]at g
 | some i=>
  have t:i.size=k:=by simpa[f] using g
  simp[Builtin.copy_,run_underlying h,Builtin.lenOf,Builtin.firstCells,sizeOf,typeInfo,f,t,l,d,e]
variable{Q:Exit->Act->World->Prop}{ops:Array Oper}
def p9(w:World){rest:List Oper}{o:Oper}{a:Act}(b:o.guard=none)(d s:Operand)(t c:TypeId)(g:o.op=.call {callee:=.builtin .copy,args:=#[d,s],argTypes:=#[t,c]})(v u:Value)(i:a.eval d=v)(j:a.eval s=u){e:Value}{f:World}(k:(Builtin.copy_ #[t,c] o.type #[v,u]).run P w=.ok e f)(h:wpList P ops Q rest (a.put o.dst e) f):wpList P ops Q (o::rest) a w:=by
 refine wpList_plain b λ_ l=>?_
 unfold Oper.wp execOp;simp only[g,resolve,invoke,builtin,Sem.run_bind,Sem.run_pure,Result.andThen_ok,List.map_toArray,IC,List.map_nil,i,j,k];exact l _ _ h
variable{w:World}
theorem yC{o:Oper}{a:Act}{K:Act->World->Prop}{E:Prop}(k:o.guard=none)(d x:Operand)(dT sT:TypeId)(b:o.op=Op.call {callee:=Callee.builtin Builtin.copy,args:=#[d,x],argTypes:=#[dT,sT]})(v u:Value)(f:a.eval d=v)(g:a.eval x=u){c:Value}{e:World}(h:(Builtin.copy_ #[dT,sT] o.type #[v,u]).run P w=.ok c e)(i:K (a.put o.dst c) e) :
  if Region.wanted o (yielded ops a.tmps)=true then Oper.wp P o a w K Q else E:=by
 have j:Region.wanted o (yielded ops a.tmps)=true:=by grind [Go.Region.wanted]
 rw[CL j];unfold Oper.wp;simp[execOp,b,resolve,invoke,builtin,f,g,h,Result.andThen];exact i
def PJ(b:Nat):∀(vs:List Value)(o:Nat)(w:World),(w.setCells b o vs).drew=w.drew.setCells b o vs
 | [],_,_=>rfl
 | v::r,o,w=>by rw[World.setCells,World.setCells,PJ b r];rfl
theorem FC(b:Nat)(vs:List Value)(o:Nat)(w:World)(h:∀j,j<vs.length->(w.cell? ⟨b,o+j,none⟩).isSome=true)(q:Nat)(c:(w.cell? ⟨b,q,none⟩).isSome=true):((w.setCells b o vs).cell? ⟨b,q,none⟩).isSome=true:=by
 by_cases a:o<=q/\q<o+vs.length
 ·have:=World.cell?_setCells_in b vs o w h (q - o) ω
  grind
 grind [Go.World.cell?_setCells_out]
variable{g:Nat}
theorem K5{z:Value}(c:cel w g 0=some z)(a:fro w g 0=NF):∃t k,w.shape? g=some (t,k)/\k≠0/\w.frozen? ⟨g,0,none⟩ = false/\w.frozen? ⟨g,k,none⟩ = false:=by
 have d:=O1 Prod.fst a;have b:=O1 Prod.snd a;simp only[fro]at d b;unfold mp at b;unfold cel World.cell? at c;unfold World.shape?
 grind [Go.World.frozen?]
variable{e:Nat}
def KP{tS tR k a b:Nat}{z h:Value}(i:P.underlying tS=some (.slice e))(j:∀w,(Go.sizeOf e).run P w=.ok k w)(c:a≠b)(h1:cel w a 0=some z)(h2:fro w a 0=NF)(l:cel w b 0=some h)(n:fro w b 0=NF)(x la d f g:Nat) :
  (Extern.SlicesOverlaps.overlaps #[tS,tS] #[tR] #[.slice (some ⟨a,0,none⟩) la d,.slice (some ⟨b,x,none⟩) f g]).run P w=.ok (.bool false) w:=by
 obtain⟨tA,kA,o,u,p,q⟩:=K5 h1 h2;obtain⟨tB,kB,r,t,-,-⟩:=K5 l n;exact Lib.run_overlaps_apart w tS tR e i k j ⟨a,0,none⟩ ⟨b,x,none⟩ la d f g c tA tB kA kB o r t p q
structure AP(w w':World)(g G k n c c' i:Nat)(olds vs:List Value):Prop where
 keep:bH (λb o=>b=g/\o<c*k) w w'
 cel:∀q u,(olds.take (i*k)++vs++olds.drop (i*k))[q]? = some u->cel w' G q=some u
 all:∀q,q<c'*k->(∃z,Ab.cel w' G q=some z/\z.oneCell'=true)/\fro w' G q=NF
 at_:(G=g/\c'=c)\/(w.heap.size<=G/\G<w'.heap.size)
variable{i:Nat}{olds vs:List Value}
theorem L8{k n q:Nat}{u:Value}(a:i<n)(b:olds.length=n*k)(c:vs.length=k)(h:(olds.take (i*k)++vs++olds.drop (i*k))[q]? = some u) :
  q<(n+1)*k/\((q<i*k/\olds[q]? = some u)\/(i*k<=q/\q<i*k+k/\vs[q - i*k]? = some u)\/(i*k+k<=q/\(olds.drop (i*k))[q - (i*k+k)]? = some u)):=by grind [IF]
variable{c:Nat}
theorem KH{k n:Nat}(p:i<n)(r:n+1<=c)(y:olds.length=n*k)(A:vs.length=k)(J:∀t u,olds[t]? = some u->cel w g t=some u)(h1:∀u∈olds,u.oneCell'=true)(h2:∀u∈vs,u.oneCell'=true)(a:∀q,q<c*k->(∃z,cel w g q=some z/\z.oneCell'=true)/\fro w g q=NF) :
  AP w ((w.drew.setCells g ((i+1)*k) (olds.drop (i*k))).setCells g (i*k) vs) g g k n c c i olds vs:=by
 have B:i*k<=n*k:=IF k ω;have C:(n+1)*k<=c*k:=IF k r;have K:(n+1)*k=n*k+k:=ψ
 have L:(i+1)*k=i*k+k:=ψ
 have D:(olds.drop (i*k)).length=n*k - i*k:=ψ
 have M:∀b q,cel w.drew b q=cel w b q:=λ_ _=>rfl
 have in1:∀j,j<(olds.drop (i*k)).length->∃z,cel w.drew g ((i+1)*k+j)=some z:=λj E=>by
  obtain⟨⟨z,e,-⟩,-⟩:=a ((i+1)*k+j) ω;exact⟨z,e⟩
 have all1:∀q,q<c*k->∃z,cel (w.drew.setCells g ((i+1)*k) (olds.drop (i*k))) g q=some z/\z.oneCell'=true:=λq d=>by
  by_cases h:(i+1)*k<=q/\q<(i+1)*k+(olds.drop (i*k)).length
  ·obtain⟨u,F⟩ : ∃u,(olds.drop (i*k))[q - (i+1)*k]? = some u:=(ψ)
   grind [bz]
  grind [bn]
 have in2:∀j,j<vs.length->∃z,cel (w.drew.setCells g ((i+1)*k) (olds.drop (i*k))) g (i*k+j)=some z:=λj E=>by
  obtain⟨z,e,-⟩:=all1 (i*k+j) ω;exact⟨z,e⟩
 refine⟨?_,λq u d=>?_,λq d=>⟨?_,by rw[cu,cu];exact(a q d).2⟩,.inl ⟨rfl,rfl⟩⟩
 ·have G:=fG (g:=g) (X:=λb o=>b=g/\o<c*k) (olds.drop (i*k)) ((i+1)*k) w.drew ω
  have H:=fG (g:=g) (X:=λb o=>b=g/\o<c*k) vs (i*k) (w.drew.setCells g ((i+1)*k) (olds.drop (i*k))) ω;exact((An w).up λ_ _ h=>h.elim).trans (G.trans H λ_ _ h=>.inr h) λ_ _ h=>.inr h
 ·obtain⟨-,⟨l,f⟩|⟨l,f,N⟩|⟨l,f⟩⟩:=L8 p y A d
  ·grind [bn]
  ·grind [bz]
  rw[bn ω];have O:=bz in1 f
  simp_all
 by_cases h:i*k<=q/\q<i*k+vs.length
 ·obtain⟨u,F⟩ : ∃u,vs[q - i*k]? = some u:=(ψ)
  grind [bz]
 grind [bn]
theorem N0{a:World}{k n G:Nat}{Z:Array Value}(V:a.heap=(w.alloc (.cells ((olds.take (i*k)).toArray++Builtin.zeroCells Z (n+1 - i)++Builtin.zeroCells Z (G - (n+1))) e)).heap)(t:a.os=w.os)(y:a.tape=w.tape)(A:a.output=w.output)(W:i<n)(Y:n+1<=G)(hZ:Z.size=k)(hz1:∀v∈Z.toList,v.oneCell'=true)(M:olds.length=n*k)(l:vs.length=k)(h1:∀u∈olds,u.oneCell'=true)(h2:∀u∈vs,u.oneCell'=true) :
  AP w ((a.setCells w.heap.size (i*k) vs).setCells w.heap.size ((i+1)*k) (olds.drop (i*k))) g w.heap.size k n c G i olds vs:=by
 have B:i*k<=n*k:=IF k ω;have hGk:(n+1)*k<=G*k:=IF k Y;have e1:(n+1)*k=n*k+k:=ψ
 have e2:(i+1)*k=i*k+k:=ψ
 have hdl:(olds.drop (i*k)).length=n*k - i*k:=ψ
 generalize hcells:(olds.take (i*k)).toArray++Builtin.zeroCells Z (n+1 - i)++Builtin.zeroCells Z (G - (n+1))=cells at V;have C:∀b q,cel a b q=cel (w.alloc (.cells cells e)) b q:=λb q=>by grind [Go.World.cell?]
 have d:∀b q,fro a b q=fro (w.alloc (.cells cells e)) b q:=λb q=>by grind [Go.World.frozen?,mp]
 have hsz:cells.size=G*k:=by
  rw[<-hcells];simp only[Array.size_append,List.size_toArray,I3,size_zeroCells,hZ,M,Nat.min_eq_left B];rw[<-Nat.add_mul,<-Nat.add_mul]
  congr 1;omega
 have N:∀v∈cells.toList,v.oneCell'=true:=by
  have hzz:∀m,∀v∈(Builtin.zeroCells Z m).toList,v.oneCell'=true:=λm v l=>by
   rw[Array.mem_toList_iff]at l;simp only[Builtin.zeroCells,Array.mem_map,Array.mem_range]at l
   grind [Nat.mod_lt]
  grind
 have O:∀q,cel a w.heap.size q=cells[q]?:=by simp_all
 have D:∀q,q<G*k->∃z,cel a w.heap.size q=some z/\z.oneCell'=true:=by simp_all
 have E:∀q u,q<i*k->olds[q]? = some u->cells[q]? = some u:=ψ
 have P:∀q,fro a w.heap.size q=NF:=λq=>(d _ _).trans (jG w cells e q)
 have hK:bH NO w a:=by
  have Q:bH NO w (w.alloc (.cells cells e)):=dH w _;exact⟨t,y,A,by simp_all,λb p r=>by grind [bH.blk],λb o p r=>(C b o).trans (Q.cel b o p r),λb o p r=>(d b o).trans (Q.fro b o p r)⟩
 have hS:a.heap.size=w.heap.size+1:=by simp_all
 have R:=fG (g:=w.heap.size) (X:=λb o=>b=w.heap.size) vs (i*k) a λj F=>rfl
 have S:=fG (g:=w.heap.size) (X:=λb o=>b=w.heap.size) (olds.drop (i*k)) ((i+1)*k) (a.setCells w.heap.size (i*k) vs) λj F=>rfl
 have in1:∀j,j<vs.length->∃z,cel a w.heap.size (i*k+j)=some z:=λj F=>by
  obtain⟨z,H,-⟩:=D (i*k+j) ω;exact⟨z,H⟩
 have all1:∀q,q<G*k->∃z,cel (a.setCells w.heap.size (i*k) vs) w.heap.size q=some z/\z.oneCell'=true:=λq J=>by
  by_cases h:i*k<=q/\q<i*k+vs.length
  ·obtain⟨u,K⟩ : ∃u,vs[q - i*k]? = some u:=⟨_,z4 ω⟩
   have f:=bz in1 K;rw[show i*k+(q - i*k)=q by omega]at f
   grind
  grind [bn]
 have in2:∀j,j<(olds.drop (i*k)).length->∃z,cel (a.setCells w.heap.size (i*k) vs) w.heap.size ((i+1)*k+j)=some z:=λj F=>by
  obtain⟨z,H,-⟩:=all1 ((i+1)*k+j) ω;exact⟨z,H⟩
 have T:w.heap.size<((a.setCells w.heap.size (i*k) vs).setCells w.heap.size ((i+1)*k) (olds.drop (i*k))).heap.size:=by
  have:=R.size;have:=S.size;omega
 refine⟨?_,λq u J=>?_,λq J=>⟨?_,by grind [cu]⟩,.inr ω⟩
 ·exact(hK.up λ_ _ h=>h.elim).trans (R.trans S λ_ _ h=>.inr h) ω
 ·obtain⟨-,⟨U,L⟩|⟨U,L,a3⟩|⟨U,L⟩⟩:=L8 W M l J
  ·grind [bn]
  ·rw[bn ω]
   have f:=bz in1 a3
   simp_all
  have f:=bz in2 L
  simp_all
 by_cases h:(i+1)*k<=q/\q<(i+1)*k+(olds.drop (i*k)).length
 ·obtain⟨u,K⟩ : ∃u,(olds.drop (i*k))[q - (i+1)*k]? = some u:=⟨_,z4 ω⟩
  have f:=bz in2 K;rw[show(i+1)*k+(q - (i+1)*k)=q by omega]at f
  grind
 grind [bn]
structure Ve(P:Program)(f k T b:Nat):Prop where
 has:NL P f
 end_:∀(w w1:World)(base:Option Addr)(n c vb m vc:Nat)(r:Value),m=1->n<=c->n<=1073741824->(base=none->n=0/\c=0)->(Builtin.append_ #[T,T] T #[.slice base n c,.slice (some ⟨vb,0,none⟩) m vc]).run P w=.ok r w1->
  Calls P f #[.slice base n c,.int .i64 n,.slice (some ⟨vb,0,none⟩) m vc] w λe w'=>e=.returned r/\w'=w1
 mid:∀(w:World)(g n c i vb m vc:Nat)(olds vs:List Value),m=1->i<n->n<=c->n<=1073741824->b<=1000->olds.length=n*k->vs.length=k->(∀t u,olds[t]? = some u->cel w g t=some u)->(∀t u,vs[t]? = some u->cel w vb t=some u)->
  (∀u∈olds,u.oneCell'=true)->(∀u∈vs,u.oneCell'=true)->(∀q,q<c*k->(∃z,cel w g q=some z/\z.oneCell'=true)/\fro w g q=NF)->fro w vb 0=NF->vb≠g->
  Calls P f #[.slice (some ⟨g,0,none⟩) n c,.int .i64 i,.slice (some ⟨vb,0,none⟩) m vc] w λe w'=>∃G c',e=.returned (.slice (some ⟨G,0,none⟩) (n+1) c')/\n+1<=c'/\AP w w' g G k n c c' i olds vs
def inse(xs:List α)(i:Nat)(y:α):List α:=xs.take i++y::xs.drop i
theorem JU(xs:List α)(i:Nat)(y:α):(inse xs i y).length=xs.length+1:=by grind [inse]
theorem A3{xs:List α}{y z:α}(h:z∈inse xs i y):z=y\/z∈xs:=by grind [inse]
theorem BP{β:Type}(e:α->β)(xs:List α)(i:Nat)(y:α):inse (xs.map e) i (e y)=(inse xs i y).map e:=by grind [C8,I8,inse]
variable{row:List C}
theorem TY{k a b:Nat}{r:List C}{c:C}(d:i<=rows.length)(q:olds.length=rows.length*k)(e:vs.length=k)(t:b<k)(f:∀(a b:Nat)(r:List C)(c:C),rows[a]? = some r->r[b]? = some c->∃z,c=C.v z/\olds[a*k+b]? = some z)(u:∀(b:Nat)(c:C),row[b]? = some c->∃z,c=C.v z/\vs[b]? = some z)(h1:(inse rows i row)[a]? = some r)(h2:r[b]? = some c):∃z,c=.v z/\(olds.take (i*k)++vs++olds.drop (i*k))[a*k+b]? = some z:=by
 have g:i*k<=rows.length*k:=IF k d;have j:(olds.take (i*k)).length=i*k:=ψ
 unfold inse at h1;by_cases h:a<i
 ·grind [fx]
 rw[v9 ψ,I3,Nat.min_eq_left d]at h1;have l:i*k<=a*k:=IF k ω;by_cases w:a=i
 ·grind
 obtain⟨m,rfl⟩ : ∃m,a=i+(m+1):=⟨a - i - 1,ω⟩
 rw[show i+(m+1) - i=m+1 by omega,List.getElem?_cons_succ,List.getElem?_drop]at h1;obtain⟨z,rfl,n⟩:=f (i+m) b r c h1 h2;have o:(i+(m+1))*k=i*k+k+m*k:=ψ
 have p:(i+m)*k=i*k+m*k:=Nat.add_mul ..;refine⟨z,rfl,?_⟩;rw[v9 ψ,O5,j,e,List.getElem?_drop,o,show i*k+(i*k+k+m*k+b - (i*k+k))=i*k+m*k+b by omega,<-p];exact n
theorem YZ(h:XX rows):VI rows:=by
 have b:∀r:List C,(∀c∈r,∃z,c=C.v z)->iN r:=by
  intro r
  induction r with
  | nil=>exact λ_=>tV1
  | cons c r a=>intro h;obtain⟨z,rfl⟩:=h c (by simp);exact⟨tV1,a ψ⟩
 induction rows with
 | nil=>exact tV1
 | cons r e a=>exact⟨b r (h r (by simp)),a λr d=>h r (by simp[d])⟩
variable{f:Nat}
theorem MI{k T:Nat}{d:TypeInfo}{z0:Value}(ht:P.underlying T=some (.slice e))(hi0:P.info? e=some d)(hk0:d.size=k)(hz:d.zero=some z0)(hzs:z0.cells.size=d.size)(hz1:∀x∈z0.cells.toList,x.oneCell'=true)(hby:d.bytes<=1000)(hf:Ve P f k T d.bytes)(hi:i<=rows.length)(W:∀r∈rows,r.length=k)(hr:row.length=k)(hpk:0<k)(hsc:XX rows)(hsr:XX [row])(hlen:rows.length+1<=1073741824) :
  aU P f false [.mut none [.s .own rows],.vI (i:Nat),.mut none [.s .own [row]]] [.mut none [.x],.vI (i:Nat),.mut none [.x]] .one [.s .own (inse rows i row)]:=by
 subst hk0;refine⟨hf.has,λw S V vs hS hV hVV F=>?_⟩
 match vs,F with
 | [v,v1,v2],⟨F,hA1,hA2,_⟩=>
  have p:=bL.rep1 (show bL w S (V 0) none [C.s .own rows] v from F);have e1:v1=.int .i64 (i:Nat):=by
   have:=bL.rep1 (show bL w S NO none [C.v (.int .i64 (i:Nat))] v1 from hA1);cases this;rfl
  have A:=bL.rep1 (show bL w S (V 2) none [C.s .own [row]] v2 from hA2);subst e1;have hk2:∀r∈[row],r.length=d.size:=(ψ)
  have hsc':XX (inse rows i row):=λr L=>(A3 L).elim (λh=>hsr r (by simp[h])) (hsc r)
  have B:∀(w1:World)(vv:Value)(X:am),bH (λb o=>∃i,V i b o) w w1->(∀b o,X b o->V 0 b o\/V 2 b o\/(w.heap.size<=b/\b<w1.heap.size))->fj w1 S X (.s .own (inse rows i row)) vv->
    ∃K,Ending.returned vv=Ending.returned K/\bH (λb o=>∃i,V i b o) w w1/\∃(X:am)(Y:Nat->am)(S1:am),
   (∀b o,X b o->(∃i,V i b o)\/(b<w1.heap.size/\w.heap.size<=b))/\(∀i b o,Y i b o->(∃i,V i b o)\/(b<w1.heap.size/\w.heap.size<=b))/\
   (∀b o,S1 b o->(false=true/\S b o)\/(∃i,V i b o)\/(b<w1.heap.size/\w.heap.size<=b))/\
   (∀i i',i≠i'->∀b o,Y i b o->¬Y i' b o)/\(∀i b o,X b o->¬Y i b o)/\(∀b o,X b o->¬S1 b o)/\(∀i b o,Y i b o->¬S1 b o)/\
   gX w1 NO .one 1 K/\dz w1 S1 X [.s .own (inse rows i row)] (cZ w1 .one K)/\Hw w1 (λb o=>S b o\/S1 b o) Y [.mut none [.x],.vI (i:Nat),.mut none [.x]] [v,.int .i64 (i:Nat),v2]:=by
   intro w1 vv X l hX hR;have hfr:W4 (.s .own (inse rows i row)):=by grind [YZ,W4]
   exact⟨_,rfl,l,X,λ_=>NO,NO,ψ,λ_ _ _ h=>h.elim,λ_ _ h=>h.elim,λ_ _ _ _ _ h=>h.elim,λ_ _ _ _ h=>h.elim,λ_ _ _ h=>h.elim,λ_ _ _ h=>h.elim,rfl,row1 (hR.fresh hfr),
       ⟨⟨rfl,λ_=>v,rfl,row1 (.x _ _ p.one)⟩,tV1,⟨rfl,λ_=>v2,rfl,row1 (.x _ _ A.one)⟩,tV1⟩⟩
  rcases A.els (by simp) hk2 with⟨h,-⟩|⟨M,vc,u2,f2,rfl,-,hvc,hcell2,hu2,t⟩
  ·cases h
  simp only[List.length_singleton,Nat.one_mul]at hvc hu2;by_cases hin:i=rows.length
  ·have hreads:r9 w (some ⟨M,0,none⟩) ([row].length*d.size) ((List.range ([row].length*d.size)).map u2):=by
    refine⟨by simp,ψ,λad j u had hj=>?_⟩
    grind [Go.Addr.add_lit]
   obtain⟨K,w1,hrun,hk1,hR⟩:=uR (P:=P) (ty:=T) ht hi0 hz hzs hz1 p W (V:=V 2) (xr:=[row]) (u2:=u2) (f2:=f2) ⟨t.hk,λq N b o h=>(t.hf q N b o h).1,t.hd,t.hc⟩ (b:=some ⟨M,0,none⟩) (c:=vc)
    hreads
    ψ ψ ψ ψ hS jp (by
      have:(rows.length+[row].length)*d.bytes<=1073741824*1000:=Nat.mul_le_mul (by simpa using hlen) hby;omega)
   have hins:inse rows i row=rows++[row]:=by grind [inse]
   rw[<-hins]at hR;have hfin:∀(base:Option Addr)(c:Nat),v=.slice base rows.length c->rows.length<=c->(base=none->rows.length=0/\c=0)->Calls P f #[v,.int .i64 (i:Nat),.slice (some ⟨M,0,none⟩) 1 vc] w λe H=>e=.returned K/\H=w1:=λbase c hv hc hb=>by
    subst hv;rw[hin];exact hf.end_ w w1 base rows.length c M 1 vc K rfl hc ω hb hrun
   have hgo:Calls P f #[v,.int .i64 (i:Nat),.slice (some ⟨M,0,none⟩) 1 vc] w λe H=>e=.returned K/\H=w1:=by
    rcases p.els (by simp) W with⟨h0,a0,hv⟩|⟨g,O,u,f',hv,hpos,D,-⟩
    all_goals grind
   refine hgo.mono λe H ⟨he,hw⟩=>?_
   subst he hw;exact B H K _ (hk1.up ψ) (λb o h=>h) hR
  rcases p.els (by simp) W with⟨h0,a0,hv⟩|⟨g,O,u,f',rfl,hpos,D,E,hu,hE⟩
  ·grind
  have hlt:i<rows.length:=ω
  have Q:∀(n j:Nat)(y:Value)(uu:Nat->Value),((List.range n).map uu)[j]? = some y->j<n/\y=uu j:=ψ
  have hmapr:∀(n j:Nat)(uu:Nat->Value),j<n->((List.range n).map uu)[j]? = some (uu j):=ψ
  obtain⟨olds,R⟩ : ∃olds,olds=(List.range (rows.length*d.size)).map u:=⟨_,rfl⟩
  obtain⟨vs,hvs⟩ : ∃vs,vs=(List.range d.size).map u2:=⟨_,rfl⟩
  have hol:olds.length=rows.length*d.size:=by rw[R];simp
  have hvl:vs.length=d.size:=by rw[hvs];simp
  have hck:rows.length*d.size<=O*d.size:=IF _ D;have hv0:=hcell2 0 (Nat.mul_pos ω hpk);have hg0:=E 0 (Nat.mul_pos ω hpk);have hne:M≠g:=ψ
  refine(hf.mid w g rows.length O i M 1 vc olds vs rfl hlt D ω hby hol hvl ψ ψ (λy hy=>ψ) (λy hy=>by
      rw[hvs]at hy;obtain⟨j,hj⟩:=List.getElem?_of_mem hy;obtain⟨a1,rfl⟩:=Q _ _ _ _ hj;exact t.one (by simpa using a1)) (λq N=>(E q N).2) hv0.2.2 hne).mono λe H ⟨G,c',he,U,F⟩=>?_
  subst he;have l:bH (λb o=>∃i,V i b o) w H:=F.keep.up ψ;refine B H _ (λb o=>V 0 b o\/(w.heap.size<=b/\b<H.heap.size)) l ψ ?_;refine .own _ .own G d.size (rows.length+1) c' _ (λq=>(cel H G q).getD undef) (λ_=>NO) tV1 (JU ..) (λr L=>(A3 L).elim ψ (W r)) U ω (λq N=>⟨?_,F.all q N⟩) (λq N=>?_) (λ_ _ _ _ h=>h.elim) (λ_ _ _ _ _ _ _ h=>h.elim) (λa b r c ha hb=>?_)
  ·rcases F.at_ with⟨rfl,rfl⟩|h
   all_goals grind
  ·obtain⟨z,J,-⟩:=(F.all q (C7 N (IF _ U))).1
   rw[J];rfl
  have hbk:b<d.size:=by
   have:r.length=d.size:=(A3 (t4 ha)).elim ψ (W r)
   grind
  have hal:=(C4.1 ha).1;rw[JU]at hal;obtain⟨y,rfl,hy⟩:=TY (olds:=olds) (vs:=vs) hi hol hvl hbk (λa b r c h1 h2=>by
      obtain⟨y,rfl⟩:=hsc r ψ c ψ;have Z:=hE.hc a b r _ h1 h2;have h4:=uQ rfl W h1 h2;generalize hyy:u (a*d.size+b)=yy at Z;cases Z
      grind [fx]) (λb c h2=>by
      obtain⟨y,rfl⟩:=hsr row (by simp) c ψ;have Z:=t.hc 0 b row _ rfl h2;simp only[Nat.zero_mul,OE]at Z;have h4:=(C4.1 h2).1;generalize hyy:u2 b=yy at Z;cases Z
      grind) ha hb
  have J:=F.cel _ y hy;simp only[J,Option.getD_some];obtain⟨z,h5,h6⟩:=(F.all (a*d.size+b) (C7 (fx hal hbk) (IF _ U))).1;rw[J]at h5;cases h5;exact .v _ _ h6
set_option maxRecDepth 100000
inductive IQ:Nat->Nat->Nat->Nat->Nat->Prop
 |oq:IQ 67 193 39 74 4
 |lq:IQ 192 343 38 175 3
 |sq:IQ 342 461 37 267 3
section
variable{f v S E k:Nat}
def IQ.u(q:IQ f v S E k) : Tryz.prog.underlying S=some (.slice E):=by cases q<;>kernel_rfl
def IQ.sz(q:IQ f v S E k):∀w,(Go.sizeOf E).run Tryz.prog w=.ok k w:=by cases q<;>exact λ_=>by kernel_rfl
def IQ.pos(q:IQ f v S E k):3<=k/\k<=4:=by cases q<;>exact⟨by decide,by decide⟩
def WB{E:Nat}{t:TI}{n:Nat}(g:TE E=some t)(i:t.size=n)(j:t.zero.length=n)(k:t.bytes=8*n)(l:(t.zero.map cval).all (λv=>v.oneCell')=true):∃(b:TypeInfo)(c:Value),Tryz.prog.info? E=some b/\b.size=n/\b.zero=some c/\c.cells.size=n/\(∀v∈c.cells.toList,v.oneCell'=true)/\b.bytes=8*n:=by
 have h:=(ru E _ g).1;cases e : Tryz.prog.info? E with
 | none=>rw[e]at h;cases h
 | some x=>
  rw[e]at h;simp only[IA,C2,Prod.mk.injEq]at h;obtain⟨a,o,p⟩:=h;cases d:x.zero with
  | none=>rw[d]at a;cases a
  | some z=>
   rw[d]at a;simp only[IA,C2]at a;refine⟨x,z,rfl,o.trans i,d,?_,λv f=>?_,p.trans k⟩
   ·rw[<-Array.length_toList,a,I2];exact j
   rw[a]at f;exact O7.1 l v f
def By(q:IQ f v S E k):∃(a:TypeInfo)(b:Value),Tryz.prog.info? E=some a/\a.size=k/\a.zero=some b/\b.cells.size=k/\(∀v∈b.cells.toList,v.oneCell'=true)/\a.bytes=8*k:=by cases q<;>exact WB rfl rfl rfl rfl rfl
def IQ.has(q:IQ f v S E k):NL Tryz.prog f:=by
 cases q
 ·exact⟨_,Tryz.func67,by kernel_rfl,by kernel_rfl⟩
 ·exact⟨_,Tryz.func192,by kernel_rfl,by kernel_rfl⟩
 exact⟨_,Tryz.func342,by kernel_rfl,by kernel_rfl⟩
def XQ(q:IQ f v S E k){w:World}{a g m n:Nat}{y p:Value}(o:Nat)(b:a≠g)(r:cel w a 0=some y)(c:fro w a 0=NF)(d:cel w g 0=some p)(h:fro w g 0=NF):∀i j,(callFunc v #[.slice (some ⟨a,0,none⟩) m n,.slice (some ⟨g,o,none⟩) i j]).run Tryz.prog w=.ok (.value (.bool false)) w:=λi j=>by
 have l:=KP (tR:=4) q.u q.sz b r c d h o m n i j;cases q
 ·rw[run_callFunc_extern Tryz.func193 (by kernel_rfl) (by kernel_rfl) (by kernel_rfl) (e:=Extern.SlicesOverlaps.overlaps #[39,39] #[4]) (by kernel_rfl),l];rfl
 ·rw[run_callFunc_extern Tryz.func343 (by kernel_rfl) (by kernel_rfl) (by kernel_rfl) (e:=Extern.SlicesOverlaps.overlaps #[38,38] #[4]) (by kernel_rfl),l];rfl
 rw[run_callFunc_extern Tryz.func461 (by kernel_rfl) (by kernel_rfl) (by kernel_rfl) (e:=Extern.SlicesOverlaps.overlaps #[37,37] #[4]) (by kernel_rfl),l];rfl
def Vj(q:IQ f v S E k)(w w1:World)(base:Option Addr)(n c d m g:Nat)(r:Value)(i:m=1)(j:n<=c)(h:n<=1073741824)(l:base=none->n=0/\c=0)(b:(Builtin.append_ #[S,S] S #[.slice base n c,.slice (some ⟨d,0,none⟩) m g]).run Tryz.prog w=.ok r w1) :
  Calls Tryz.prog f #[.slice base n c,.int .i64 n,.slice (some ⟨d,0,none⟩) m g] w λe o=>e=.returned r/\o=w1:=by
 have mixed : Tryz.prog.follows .mixedOrders=true:=by kernel_rfl
 have p:0<m:=ω
 have t:m<=1:=ω
 clear i;have u:¬((m:Int)=0):=ω
 cases q
 case' oq=>go_enter Tryz.func67,Tryz.ntmps67
 case' lq=>go_enter Tryz.func192,Tryz.ntmps192
 case' sq=>go_enter Tryz.func342,Tryz.ntmps342
 all_goals
  cases base with
  | none=>
   obtain⟨rfl,rfl⟩:=l rfl
   go_wp2_with (at_builtin;refine Lib.wpList_append_run _ rfl _ _ _ _ rfl _ _ rfl rfl _ _ b ?_)
   go_ret
   exact⟨rfl,rfl⟩
  | some a=>
   obtain⟨y,B,asp⟩:=a
   go_wp2_with (at_builtin;refine Lib.wpList_append_run _ rfl _ _ _ _ rfl _ _ rfl rfl _ _ b ?_)
   all_goals(go_ret;exact⟨rfl,rfl⟩)
def MD(q:IQ f v S E k)(w:World)(g n c i p m M:Nat)(olds vs:List Value)(X:m=1)(hi:i<n)(Y:n<=1073741824)(r:n+m<=c)(O:olds.length=n*k)(D:vs.length=k)(ho:∀t u,olds[t]? = some u->cel w g t=some u)(N:∀t u,vs[t]? = some u->cel w p t=some u)(h1:∀u∈olds,u.oneCell'=true)(h2:∀u∈vs,u.oneCell'=true)(b:∀q,q<c*k->(∃z,cel w g q=some z/\z.oneCell'=true)/\fro w g q=NF)(P:fro w p 0=NF)(F:p≠g) :
  Calls Tryz.prog f #[.slice (some ⟨g,0,none⟩) n c,.int .i64 i,.slice (some ⟨p,0,none⟩) m M] w λe w'=>e=.returned (.slice (some ⟨g,0,none⟩) (n+m) c)/\w'=(w.drew.setCells g ((i+m)*k) (olds.drop (i*k))).setCells g (i*k) vs:=by
 have mixed : Tryz.prog.follows .mixedOrders=true:=by kernel_rfl
 have hm1:0<m:=ω
 have hm2:m<=1:=ω
 have hk:=q.pos;have p3:m*k=k:=by rw[X,Nat.one_mul]
 have p1:=Nat.add_mul n m k;have p2:=Nat.add_mul i m k;have p4:=Nat.sub_mul n i k;have p5:i*k+k<=n*k:=by rw[<-Nat.succ_mul];exact IF k hi
 have p6:(n+m)*k<=c*k:=IF k r;clear X;have hz1:¬((m:Int)=0):=ω
 have hz2:¬((i:Int)=(n:Int)):=ω
 have hz3:¬((c:Int)<(n:Int)+(m:Int)):=ω
 have G:(Tryz.prog.info? E).map (·.size)=some k:=by obtain⟨i0,z0,e1,e2,-⟩:=By q;rw[e1];simp[e2]
 have cell:∀q,q<(n+m)*k->(w.cell? ⟨g,q,none⟩).isSome=true/\w.frozen? ⟨g,q,none⟩ = false:=λq Z=>by
  obtain⟨⟨z,hz,-⟩,hf⟩:=b q ω;exact⟨by show(cel w g q).isSome=true;rw[hz];rfl,O1 Prod.fst hf⟩
 have Q:∀lb cb,(callFunc v #[.slice (some ⟨p,0,none⟩) m M,.slice (some ⟨g,(i+m)*k,none⟩) lb cb]).run Tryz.prog w=.ok (.value (.bool false)) w:=by
  obtain⟨y,hy⟩ : ∃y,vs[0]? = some y:=⟨_,z4 ω⟩
  obtain⟨⟨y',R,-⟩,T⟩:=b 0 ω;exact XQ q _ F (N 0 y hy) P R T
 have l:(olds.drop (i*k)).length=(n - i)*k:=by rw[C6,O];omega
 have hw1:IntKind.i64.wrap ((i:Int)+(m:Int))=(i:Int)+(m:Int):=by rw[IntKind.wrap_i64];omega
 have hw2:IntKind.i64.wrap ((n:Int)+(m:Int))=(n:Int)+(m:Int):=by rw[IntKind.wrap_i64];omega
 have hb1:(0:Int)<=(i:Int)+(m:Int):=ω
 have hin:i<=n:=ω
 have htn:((i:Int)+(m:Int)).toNat=i+m:=ω
 have hb2:¬(c=i+m):=ω
 have hb3:(i:Int)<=(n:Int)+(m:Int):=ω
 have hb4:¬(c=i):=ω
 have o:∀B C U,(Builtin.copy_ #[S,S] B #[.slice (some ⟨g,(i+m)*k,none⟩) (n+m - (i+m)) C,.slice (some ⟨g,i*k,none⟩) (n+m - i) U]).run Tryz.prog w.drew=.ok (goInt ((n - i:Nat):Int)) (w.drew.setCells g ((i+m)*k) (olds.drop (i*k))):=λB C U=>
  re w.drew _ _ B E k g ((i+m)*k) (n+m - (i+m)) C ⟨g,i*k,none⟩ (n+m - i) U (n - i) (olds.drop (i*k)) q.u G (by simp only[Nat.min_def];split<;>omega) l
   (λj v a=>by rw[Addr.add_lit];exact ho (i*k+j) v (by rwa [List.getElem?_drop]at a))
   (λj a=>by rw[l]at a;exact(cell _ ω).1) (λj a=>by rw[l]at a;exact(cell _ ω).2) (λv N=>h1 v (List.mem_of_mem_drop N))
 obtain⟨H,d⟩ : ∃H,H=w.drew.setCells g ((i+m)*k) (olds.drop (i*k)):=⟨_,rfl⟩
 have J:∀q,q<(n+m)*k->(H.cell? ⟨g,q,none⟩).isSome=true:=λq Z=>by
  rw[d];exact FC g _ _ _ (λj a=>by rw[l]at a;exact(cell _ ω).1) _ (cell q Z).1
 have K:∀(W:World),(∀x,W.cell? x=H.cell? x)->(∀x,W.frozen? x=H.frozen? x)->∀B C,(Builtin.copy_ #[S,S] B #[.slice (some ⟨g,i*k,none⟩) (n+m - i) C,.slice (some ⟨p,0,none⟩) m M]).run Tryz.prog W=.ok (goInt ((1:Nat):Int)) (W.setCells g (i*k) vs):=λW L V B C=>
  re W _ _ B E k g (i*k) (n+m - i) C ⟨p,0,none⟩ m M 1 vs q.u G (by simp only[Nat.min_def];split<;>omega) ω
   (λj v a=>by
     rw[Addr.add_lit,OE,L,d,World.cell?_setCells_out g _ _ _ _ (λh _=>absurd h F)];exact N j v a)
   (λj a=>by rw[L];rw[D]at a;exact J _ ω) (λj a=>by rw[V,d,World.frozen?_setCells];rw[D]at a;exact(cell _ ω).2) h2
 rw[<-d]at o;clear cell b p1 p2 p3 p4 p5 p6 hk;cases q
 case' oq=>go_enter Tryz.func67,Tryz.ntmps67
 case' lq=>go_enter Tryz.func192,Tryz.ntmps192
 case' sq=>go_enter Tryz.func342,Tryz.ntmps342
 all_goals
  go_wp2_with (simp only[Q])
  go_region_law_o (refine yC rfl _ _ _ _ rfl _ _ (by simp[Act.eval,Act.put]) (by simp[Act.eval,Act.put]) (o _ _ _) ?_)
  go_wp2_with (at_builtin;refine p9 _ rfl _ _ _ _ rfl _ _ rfl rfl (K _ (λ_=>rfl) (λ_=>rfl) _ _) ?_)
  go_ret
  first|exact⟨rfl,rfl⟩|exact⟨rfl,by rw[d]⟩
def QX(q:IQ f v S E k){L:TypeInfo}{y:Value}(M : Tryz.prog.info? E=some L)(N:L.size=k)(hz0:L.zero=some y)(hzz:y.cells.size=k)(O:L.bytes=8*k)(w:World)(g n c i B m vc:Nat)(olds vs:List Value)(hm:m=1)(hi:i<n)(hn63:n<=1073741824)(hnc:n<=c)(F:c<n+m)(P:olds.length=n*k)(Q:vs.length=k)(ho:∀t u,olds[t]? = some u->cel w g t=some u)(Y:∀t u,vs[t]? = some u->cel w B t=some u)(h1:∀u∈olds,u.oneCell'=true)(h2:∀u∈vs,u.oneCell'=true) :
  Calls Tryz.prog f #[.slice (some ⟨g,0,none⟩) n c,.int .i64 i,.slice (some ⟨B,0,none⟩) m vc] w λe w'=>e=.returned (.slice (some ⟨w.heap.size,0,none⟩) (n+m) (grownCap w (n+m) c E))/\
   w'=(((w.alloc (.cells ((olds.take (i*k)).toArray++Builtin.zeroCells y.cells (n+m - i)++Builtin.zeroCells y.cells (grownCap w (n+m) c E - (n+m))) E)).drew.setCells w.heap.size (i*k) vs).drew).setCells w.heap.size ((i+m)*k) (olds.drop (i*k)):=by
 have mixed : Tryz.prog.follows .mixedOrders=true:=by kernel_rfl
 have hm1:0<m:=ω
 have hm2:m<=1:=ω
 have hk:=q.pos;have p3:m*k=k:=by rw[hm,Nat.one_mul]
 have p1:=Nat.add_mul n m k;have p2:=Nat.add_mul i m k;have p4:=Nat.sub_mul n i k;have p5:i*k+k<=n*k:=by rw[<-Nat.succ_mul];exact IF k hi
 have p7:=Nat.sub_mul (n+m) i k;clear hm;have hz1:¬((m:Int)=0):=ω
 have hz2:¬((i:Int)=(n:Int)):=ω
 have hz3:(c:Int)<(n:Int)+(m:Int):=ω
 have R:(Tryz.prog.info? E).map (·.size)=some k:=by rw[M];simp[N]
 have hbw:g<w.heap.size:=block_lt_of_cell (ho 0 _ (z4 ω));have hvw:B<w.heap.size:=block_lt_of_cell (Y 0 _ (z4 ω));have T:(n:Int)+(m:Int) - (i:Int)=((n+m - i:Nat):Int):=ω
 have H:i+(n+m - i)=n+m:=ω
 have C:(Builtin.firstCells L.size i (.slice (some ⟨g,0,none⟩) i c)).run Tryz.prog w.drew=.ok (olds.take (i*k)).toArray w.drew:=by
  rw[N];exact run_firstCells_some w.drew k i ⟨g,0,none⟩ i c (olds.take (i*k)) (by rw[I3];omega) (λj v a=>by
    rw[Addr.add_lit,OE];rw[List.getElem?_take]at a;split at a
    · exact ho j v a
    cases a)
 have r:∀d,(Builtin.append_ #[S,3] d #[.slice (some ⟨g,0,none⟩) i c,.int .i64 ((n:Int)+(m:Int) - (i:Int))]).run Tryz.prog w =
   .ok (.slice (some ⟨w.heap.size,0,none⟩) (n+m) (grownCap w (n+m) c E)) (w.drew.alloc (.cells ((olds.take (i*k)).toArray++Builtin.zeroCells y.cells (n+m - i)++Builtin.zeroCells y.cells (grownCap w (n+m) c E - (n+m))) E)):=λd=>by
  have h:=Lib.run_append_grow_zeros w S 3 d E L _ .i64 .i64 q.u Tryz.underlying3 M hz0 (some ⟨g,0,none⟩) i c (olds.take (i*k)) C (n+m - i) ω ω ω ω (by rw[O];exact I9 (Nat.mul_le_mul_left _ (show 8*k<=32 by omega)) ω) (by rw[O,H];exact growslice_fits F (I9 (Nat.mul_le_mul_left _ (show 8*k<=32 by omega)) ω));rw[H]at h;rw[T];exact h
 obtain⟨G,Z⟩ : ∃G,G=grownCap w (n+m) c E:=⟨_,rfl⟩
 obtain⟨ROW,l⟩ : ∃ROW:Array Value,ROW=(olds.take (i*k)).toArray++Builtin.zeroCells y.cells (n+m - i)++Builtin.zeroCells y.cells (G - (n+m)):=⟨_,rfl⟩
 rw[<-Z]at r |-;rw[<-l]at r |-;have hRl:(n+m)*k<=ROW.size:=by
  rw[l];simp only[Array.size_append,List.size_toArray,I3,size_zeroCells,hzz,P];omega
 obtain⟨p,b⟩ : ∃p,p=w.drew.alloc (.cells ROW E):=⟨_,rfl⟩
 rw[<-b]at r;have hN:∀j,j<(n+m)*k->(p.cell? ⟨w.heap.size,j,none⟩).isSome=true:=λj a=>by
  rw[b,World.cell?_alloc_at (w:=w.drew) ROW _ w.heap.size j rfl,ID ω];rfl
 have U:∀j,p.frozen? ⟨w.heap.size,j,none⟩ = false:=λj=>by rw[b];exact World.frozen?_alloc_at (w:=w.drew) ROW _ w.heap.size j rfl
 have hOb:∀j v,w.cell? ⟨g,j,none⟩ = some v->p.cell? ⟨g,j,none⟩ = some v:=λj v h=>by rw[b,World.cell?_alloc_past (w:=w.drew) _ g j hbw];exact h
 have hOv:∀j v,w.cell? ⟨B,j,none⟩ = some v->p.cell? ⟨B,j,none⟩ = some v:=λj v h=>by rw[b,World.cell?_alloc_past (w:=w.drew) _ B j hvw];exact h
 have V:∀(W:World),(∀x,W.cell? x=p.cell? x)->(∀x,W.frozen? x=p.frozen? x)->∀d J,(Builtin.copy_ #[S,S] d #[.slice (some ⟨w.heap.size,i*k,none⟩) (n+m - i) J,.slice (some ⟨B,0,none⟩) m vc]).run Tryz.prog W=.ok (goInt ((1:Nat):Int)) (W.setCells w.heap.size (i*k) vs):=λW o K d J=>
  re W _ _ d E k w.heap.size (i*k) (n+m - i) J ⟨B,0,none⟩ m vc 1 vs q.u R (by simp only[Nat.min_def];split<;>omega) ω
   (λj v a=>by rw[Addr.add_lit,OE,o];exact hOv _ v (Y j v a))
   (λj a=>by rw[o];rw[Q]at a;exact hN _ ω) (λj a=>by rw[K];exact U _) h2
 have hGn:n+m<=G:=by rw[Z];exact grownCap_ge w _ _ _
 have hG63:G<=9223372036854775807:=by
  have:=grownCap_le_maxLen w (n+m) c E (by unfold maxLen;omega);rw[<-Z]at this;unfold maxLen at this;omega
 have hGi:¬(G=i):=ω
 have hGim:¬(G=i+m):=ω
 have hci:¬(c=i):=ω
 have hbN:g≠w.heap.size:=ω
 have X:(olds.drop (i*k)).length=(n - i)*k:=by rw[C6,P];omega
 have D:∀(W:World),(∀x,W.cell? x=(p.setCells w.heap.size (i*k) vs).cell? x)->(∀x,W.frozen? x=(p.setCells w.heap.size (i*k) vs).frozen? x)->∀d J sc,(Builtin.copy_ #[S,S] d #[.slice (some ⟨w.heap.size,(i+m)*k,none⟩) (n+m - (i+m)) J,.slice (some ⟨g,i*k,none⟩) (n - i) sc]).run Tryz.prog W=.ok (goInt ((n - i:Nat):Int)) (W.setCells w.heap.size ((i+m)*k) (olds.drop (i*k))):=λW o K d J sc=>
  re W _ _ d E k w.heap.size ((i+m)*k) (n+m - (i+m)) J ⟨g,i*k,none⟩ (n - i) sc (n - i) (olds.drop (i*k)) q.u R (by simp only[Nat.min_def];split<;>omega) X
   (λj v a=>by
     rw[Addr.add_lit,o,World.cell?_setCells_out _ _ _ _ _ (λh _=>absurd h hbN)];exact hOb _ v (ho (i*k+j) v (by rwa [List.getElem?_drop]at a)))
   (λj a=>by rw[o];rw[X]at a;exact FC _ _ _ _ (λt ht=>by rw[Q]at ht;exact hN _ ω) _ (hN _ ω))
   (λj a=>by rw[K,World.frozen?_setCells];exact U _) (λv Y=>h1 v (List.mem_of_mem_drop Y))
 subst b;have hE1:∀x,((w.alloc (.cells ROW E)).drew).cell? x=(w.drew.alloc (.cells ROW E)).cell? x:=λx=>rfl
 have hE2:∀x,((w.alloc (.cells ROW E)).drew).frozen? x=(w.drew.alloc (.cells ROW E)).frozen? x:=λx=>rfl
 have hF1:∀x,(((w.alloc (.cells ROW E)).drew.setCells w.heap.size (i*k) vs).drew).cell? x=((w.drew.alloc (.cells ROW E)).setCells w.heap.size (i*k) vs).cell? x:=λx=>rfl
 have hF2:∀x,(((w.alloc (.cells ROW E)).drew.setCells w.heap.size (i*k) vs).drew).frozen? x=((w.drew.alloc (.cells ROW E)).setCells w.heap.size (i*k) vs).frozen? x:=λx=>rfl
 have hw1:IntKind.i64.wrap ((i:Int)+(m:Int))=(i:Int)+(m:Int):=by rw[IntKind.wrap_i64];omega
 have hw2:IntKind.i64.wrap ((n:Int)+(m:Int))=(n:Int)+(m:Int):=by rw[IntKind.wrap_i64];omega
 have hw3:IntKind.i64.wrap ((n:Int)+(m:Int) - (i:Int))=(n:Int)+(m:Int) - (i:Int):=by rw[IntKind.wrap_i64];omega
 have hb1:(0:Int)<=(i:Int)+(m:Int):=ω
 have hin:i<=n:=ω
 have htn:((i:Int)+(m:Int)).toNat=i+m:=ω
 have hb3:(i:Int)<=(n:Int):=ω
 clear T H C l Z hRl p1 p2 p3 p4 p5 p7 hk;cases q
 case' oq=>go_enter Tryz.func67,Tryz.ntmps67
 case' lq=>go_enter Tryz.func192,Tryz.ntmps192
 case' sq=>go_enter Tryz.func342,Tryz.ntmps342
 all_goals
  go_wp2_with (first
    | (at_builtin;refine Lib.wpList_append_run _ rfl _ _ _ _ rfl _ _ rfl rfl _ _ (r _) ?_)
    | (at_builtin;refine p9 _ rfl _ _ _ _ rfl _ _ rfl rfl (V _ hE1 hE2 _ _) ?_)
    | (at_builtin;refine p9 _ rfl _ _ _ _ rfl _ _ rfl rfl (D _ (λ_=>rfl) (λ_=>rfl) _ _ _) ?_))
  go_region_law_o (refine yC rfl _ _ _ _ rfl (.slice (some ⟨w.heap.size,(i+m)*_,none⟩) (n+m - (i+m)) (G - (i+m))) (.slice (some ⟨g,i*_,none⟩) (n - i) (c - i)) (by simp[Act.eval,Act.put]) (by simp[Act.eval,Act.put]) (D _ hF1 hF2 3 (G - (i+m)) (c - i)) ?_)
  go_wp2
  go_ret
  exact⟨rfl,rfl⟩
def Ao(q:IQ f v S E k):Ve Tryz.prog f k S (8*k):=by
 refine⟨q.has,Vj q,λw g n c i M m N olds O o p u h R b d y P r t j B C=>?_⟩;obtain⟨T,U,D,F,G,l,H,J⟩:=By q;by_cases a:n+m<=c
 ·refine(MD q w g n c i M m N olds O o p h a b d y P r t j B C).mono λe Q ⟨K,L⟩=>?_
  subst o;rw[L];exact⟨g,c,K,a,KH p a b d y r t j⟩
 refine(QX q D F G l J w g n c i M m N olds O o p h u ω b d y P r t).mono λe Q ⟨K,L⟩=>?_
 subst o;rw[L,PJ];exact⟨_,_,K,grownCap_ge w _ _ _,N0 (e:=E) rfl rfl rfl rfl p (grownCap_ge w _ _ _) l H b d r t⟩
end
def yW(xs:List bg):XX (xs.map (bg.enc .own)):=λr b c a=>by
 obtain⟨s,-,rfl⟩:=O8.1 b;simp[bg.enc]at a;rcases a with rfl|rfl|rfl|rfl<;>exact⟨_,rfl⟩
def Dw(xs:List bg)(i:Nat)(x:bg)(j:i<=xs.length)(k:xs.length+1<=1073741824):zzB 67 false [.mut none [.s .own (xs.map (bg.enc .own))],.vI (i:Nat),.mut none [.s .own [bg.enc .own x]]] [.mut none [.x],.vI (i:Nat),.mut none [.x]] .one [.s .own ((inse xs i x).map (bg.enc .own))]:=by
 obtain⟨l,n,c,a,d,e,g,b⟩:=By .oq;have h:=MI (row:=bg.enc .own x) (IQ.u .oq) c a d (by rw[a,e]) g (by rw[b];decide) (by rw[b];exact Ao .oq) (rows:=xs.map (bg.enc .own)) (i:=i) (by rw[I2];exact j) (aM λ_=>rfl) rfl qs (yW xs) (yW [x]) (by rw[I2];exact k)
 rwa [BP]at h
def ui(xs:List aC):XX (xs.map (aC.enc .own)):=λr b c a=>by
 obtain⟨s,-,rfl⟩:=O8.1 b;simp[aC.enc]at a;rcases a with rfl|rfl|rfl<;>exact⟨_,rfl⟩
def G7(xs:List aC)(i:Nat)(x:aC)(j:i<=xs.length)(k:xs.length+1<=1073741824):zzB 192 false [.mut none [.s .own (xs.map (aC.enc .own))],.vI (i:Nat),.mut none [.s .own [aC.enc .own x]]] [.mut none [.x],.vI (i:Nat),.mut none [.x]] .one [.s .own ((inse xs i x).map (aC.enc .own))]:=by
 obtain⟨l,n,c,a,d,e,g,b⟩:=By .lq;have h:=MI (row:=aC.enc .own x) (IQ.u .lq) c a d (by rw[a,e]) g (by rw[b];decide) (by rw[b];exact Ao .lq) (rows:=xs.map (aC.enc .own)) (i:=i) (by rw[I2];exact j) (aM λ_=>rfl) rfl qs (ui xs) (ui [x]) (by rw[I2];exact k)
 rwa [BP]at h
def wZ(xs:List aB):XX (xs.map (aB.enc .own)):=λr b c a=>by
 obtain⟨s,-,rfl⟩:=O8.1 b;simp[aB.enc]at a;rcases a with rfl|rfl|rfl<;>exact⟨_,rfl⟩
def Lb(xs:List aB)(i:Nat)(x:aB)(j:i<=xs.length)(k:xs.length+1<=1073741824):zzB 342 false [.mut none [.s .own (xs.map (aB.enc .own))],.vI (i:Nat),.mut none [.s .own [aB.enc .own x]]] [.mut none [.x],.vI (i:Nat),.mut none [.x]] .one [.s .own ((inse xs i x).map (aB.enc .own))]:=by
 obtain⟨l,n,c,a,d,e,g,b⟩:=By .sq;have h:=MI (row:=aB.enc .own x) (IQ.u .sq) c a d (by rw[a,e]) g (by rw[b];decide) (by rw[b];exact Ao .sq) (rows:=xs.map (aB.enc .own)) (i:=i) (by rw[I2];exact j) (aM λ_=>rfl) rfl qs (wZ xs) (wZ [x]) (by rw[I2];exact k)
 rwa [BP]at h
def oF(h:ac):C:=oE (h.o.map (aG.enc .own))
def ja(h:ac):List C:=[.s .own (h.G.F.V.T.map (aF .own)),.s .own (h.G.F.V.a6.map (rB .own)),.s .own (h.G.F.O.M.map (bo.enc .own)),I h.G.Calls,.s .own (h.G.a3.map (rI .own)),oF h,.s .own (h.K.map (aB.enc .own)),.s .own (h.H.map (aC.enc .own)),.s .own (h.J.map (bg.enc .own)),.s .own (h.R.map (aE.enc .own)),.s .own (h.w.U.map (bP .own)),.s .own (h.w.a0.map (aF .own)),I h.a7.b7,.s .own (h.a7.y.map (aV.enc .own)),I h.c0,I h.b1,I h.c1,I h.b,B h.q,I h.a.X.a4,I h.a.X.a5,.s .own (h.a.X.T.map (rI .own)),I h.a.b0,I h.a.b]
def Qj(h:ac):List C:=[.x,.x,.x,.x,.x,oF h,.s .own (h.K.map (aB.enc .own)),.s .own (h.H.map (aC.enc .own)),.s .own (h.J.map (bg.enc .own)),.s .own (h.R.map (aE.enc .own)),.s .own (h.w.U.map (bP .own)),.s .own (h.w.a0.map (aF .own)),I h.a7.b7,.s .own (h.a7.y.map (aV.enc .own)),I h.c0,I h.b1,I h.c1,I h.b,B h.q,I h.a.X.a4,I h.a.X.a5,.s .own (h.a.X.T.map (rI .own)),I h.a.b0,I h.a.b]
def XC(h:ac):fz (oF h)=.s .S (h.o.map (aG.enc .S)):=(Ka _).trans (List.cons.inj (fm h.o)).1
def jN(h:ac):eJ (ja h)=ac.enc .S h:=by
 have a:=ac.enc_fz h;have b:eJ (ja h)=(eJ (ac.enc .own h)).set 5 (fz (oF h)):=rfl;rw[b,a,XC];rfl
theorem UP{S Y:am}{u:Nat->Value}(a:dz w S Y (ac.enc .own h) u):dz w S Y (ja h) u:=by
 obtain⟨f,b,d,e⟩:=a;refine⟨f,λj c g=>?_,d,e⟩;have i:ja h=(ac.enc .own h).set 5 (oF h):=rfl;rw[i]at g;by_cases k:j=5
 ·subst k
  have:c=oF h:=ψ
  rw[this];exact uG (b 5 _ rfl)
 grind
def Pa(h:ac)(a:ac.sml h):zzA 62 false [.val (some 24) (ac.enc .S h)] .agg (ja h):=by
 obtain⟨b,c⟩:=jC h a;refine⟨b,λw S d g i=>(c w S d g i).mono λe w1 j=>?_⟩;obtain⟨v,k,l,X,S1,n,o,p,q,r⟩:=j;exact⟨v,k,l,X,S1,n,o,p,q,UP r⟩
def Yc{b:Bool}{X Y:Prop}(h:b=true)(a:X):cond b X Y:=by subst h;exact a
def NG{b:Bool}{X Y:Prop}(h:b=false)(a:Y):cond b X Y:=by subst h;exact a
theorem YS(h:ac):bp [oF h]=false\/(bp [oF h]=true/\h.o=[]):=by
 unfold oF;cases a:h.o with
 | nil=>grind
 | cons y b=>exact .inl rfl
theorem YE(a:bp [oF h]=true):[oF h]=bw .S h.o:=by
 unfold oF at a |-;cases b:h.o with
 | nil=>rfl
 | cons y c=>grind [oE,bp,eO]
def Bw(h:ac)(n:Nat):ac × Int × Bool:=
 if(ay h.o (n:Nat)).2.2=false then(h,-1,false)
 else if(newsK h.G (ay h.o (n:Nat)).2.1 n).2=n then({h with G:=(newsK h.G (ay h.o (n:Nat)).2.1 n).1,o:=(ay h.o (n:Nat)).1},(ay h.o (n:Nat)).2.1,true)
 else({h with G:=unmN (newsK h.G (ay h.o (n:Nat)).2.1 n).1 (ay h.o (n:Nat)).2.1 (newsK h.G (ay h.o (n:Nat)).2.1 n).2},-1,false)
theorem sO(h:ac)(n:Nat)(w:aY h [])(U:h.G.Calls<=90000)(hn:1<=n/\n<=63):zzB 189 false [.ptr (ja h),.vI (n:Nat)] [.ptr (ja (Bw h n).1),.vI (n:Nat)] (.tup [none,none]) [I (Bw h n).2.1,B (Bw h n).2.2]:=by
 have P:eQ h<=32:=w.lens.ents;have M:=w;have C:eJ [oF h]=bw .S h.o:=O1 (λy=>[y]) (XC h);have N:=vt h;have t:=Aj (eQ h:Nat) h.o (n:Nat) ω w.rng ω (by grind [pV.free,aY.lens]);unfold YI at t;have D:=jQ w (show(1:Int)<=(n:Nat) by omega);unfold Bw;have c:bp [oF h]=false\/(bp [oF h]=true/\(ay h.o (n:Nat)).2.2=false):=(YS h).imp id λg=>⟨g.1,by rw[g.2];rfl⟩
 generalize ay h.o (n:Nat)=r at t D c |-;obtain⟨V,p,ok⟩:=r;simp only at t D c |-;refine fM 76 [] [(1,270,[15,16,17,18,19,20,21,22,23,24,14,25,26,27,0,1,2,3,4,5,6,7,8,9,10,11,12,13,14,1012,1013,15,1013,16])] [(0,0),(0,0)] Tryz.func189 rfl (λu q=>?_) (.inr ⟨tV1,tV1,tV1⟩);rcases c with c|⟨c,Q⟩
 ·cases ok with
   | false=>
    rw[CL rfl];rw[CJ (by simp)]at t
    repeat'(first|refine gP ?_|refine CN (N) ⟨⟨rfl,jN h⟩,tV1⟩ ?_|refine CN (t) ⟨⟨rfl,rfl⟩,⟨rfl,C⟩,⟨rfl,rfl⟩,tV1⟩ ?_|refine NG c ?_)
    exact ka
   | true=>
    rw[CJ (by simp)];rw[CL rfl]at t;obtain⟨O,J,K,u4⟩:=D rfl;change p+(n:Nat)<=(h.G.F.O.M.length:Nat) at J;change ∀q:Nat,p<=q->(q:Int)<p+(n:Nat)->(nth h.G.F.O.M q).e=0 at K
    have W:h.G.F.O.M.length<=32:=P;cases V with
    | nil=>
      repeat'(first|refine gP ?_|refine CN (N) ⟨⟨rfl,jN h⟩,tV1⟩ ?_|refine CN (t) ⟨⟨rfl,rfl⟩,⟨rfl,C⟩,⟨rfl,rfl⟩,tV1⟩ ?_|refine NG c ?_)
      refine gK n (λi=>[(0,bB (Qj h)),(1,fN n),(6,bJ ([oE (([]:List aG).map (aG.enc .own))])),(7,fI p),(9,bB (ah.enc .own (newsK h.G p i).1)),(10,fN i)]) (λi=>(newsK h.G p i).2=i) rfl λi w=>?_
      obtain⟨E,L⟩:=w;have s:=gI.of (p:=p) (n:=n) M.ker ω ⟨O,J⟩ K i E;have R:=s.calls;have S:=s.len;by_cases X:i<n
      ·have F:(nth (newsK h.G p i).1.F.O.M (p+(i:Nat)).toNat).e=0:=by grind [gI.out]
       have l:=vV (newsK h.G p i).1 (p+(i:Nat)) s.ker ω ω F;have a:newsK h.G p (i+1)=((newK (newsK h.G p i).1 (p+(i:Nat))).1,if(newK (newsK h.G p i).1 (p+(i:Nat))).2=true then i+1 else i):=by
        show(if(newsK h.G p i).2=i then _ else _)=_;rw[CL L]
       cases e:(newK (newsK h.G p i).1 (p+(i:Nat))).2 with
       | true=>
        rw[e]at l a;rw[CL rfl]at a;have G:(newK (newsK h.G p i).1 (p+(i:Nat))).1=(newsK h.G p (i+1)).1:=by rw[a]
        rw[G]at l
        repeat'(first|refine gE ?_|refine CN (l) ⟨⟨rfl,CY _⟩,⟨rfl,rfl⟩,tV1⟩ ?_)
        (exact cV (i+1) ψ)
       | false=>
        rw[e]at l a;rw[CJ (by simp)]at a;have o:=lI (k:=h.G) (p:=p) (i:=i+1) ψ (n - (i+1));rw[show i+1+(n - (i+1))=n by omega]at o;have H:=gI.of (p:=p) (n:=n) M.ker ω ⟨O,J⟩ K (i+1) ω;rw[CJ ω,o.1];have b:=H.calls;rw[a]at H b |-;have d:=H.ker;simp only at d b |-;generalize (newK (newsK h.G p i).1 (p+(i:Nat))).1=k at l d b |-
        repeat'(first|refine gE ?_|refine CN (l) ⟨⟨rfl,CY _⟩,⟨rfl,rfl⟩,tV1⟩ ?_)
        refine lp0 i (λj=>[(0,bB (Qj h)),(7,fI p),(9,bB (ah.enc .own (unmN k p j))),(10,fN i),(13,fI (p+(j:Nat)))]) λj Y=>?_
        have T:=rV (unmN k p j) (p+(j:Nat)) (iI d p j) (by grind [fY]);by_cases Z:j<i
        ·repeat'(first|refine gE ?_|refine CN (T) ⟨⟨rfl,CY _⟩,⟨rfl,rfl⟩,tV1⟩ ?_)
         (exact cV (j+1) ω)
        obtain rfl:j=i:=ω
        refine σE ?_
        exact ka
      obtain rfl:i=n:=ω
      rw[CL L];generalize (newsK h.G p i).1=k
      refine σE ?_
      exact ka
    | cons y ys=>
      repeat'(first|refine gP ?_|refine CN (N) ⟨⟨rfl,jN h⟩,tV1⟩ ?_|refine CN (t) ⟨⟨rfl,rfl⟩,⟨rfl,C⟩,⟨rfl,rfl⟩,tV1⟩ ?_|refine NG c ?_)
      refine gK n (λi=>[(0,bB (Qj h)),(1,fN n),(6,bJ ([oE ((y::ys).map (aG.enc .own))])),(7,fI p),(9,bB (ah.enc .own (newsK h.G p i).1)),(10,fN i)]) (λi=>(newsK h.G p i).2=i) rfl λi w=>?_
      obtain⟨E,L⟩:=w;have s:=gI.of (p:=p) (n:=n) M.ker ω ⟨O,J⟩ K i E;have R:=s.calls;have S:=s.len;by_cases X:i<n
      ·have F:(nth (newsK h.G p i).1.F.O.M (p+(i:Nat)).toNat).e=0:=by grind [gI.out]
       have l:=vV (newsK h.G p i).1 (p+(i:Nat)) s.ker ω ω F;have a:newsK h.G p (i+1)=((newK (newsK h.G p i).1 (p+(i:Nat))).1,if(newK (newsK h.G p i).1 (p+(i:Nat))).2=true then i+1 else i):=by
        show(if(newsK h.G p i).2=i then _ else _)=_;rw[CL L]
       cases e:(newK (newsK h.G p i).1 (p+(i:Nat))).2 with
       | true=>
        rw[e]at l a;rw[CL rfl]at a;have G:(newK (newsK h.G p i).1 (p+(i:Nat))).1=(newsK h.G p (i+1)).1:=by rw[a]
        rw[G]at l
        repeat'(first|refine gE ?_|refine CN (l) ⟨⟨rfl,CY _⟩,⟨rfl,rfl⟩,tV1⟩ ?_)
        (exact cV (i+1) ψ)
       | false=>
        rw[e]at l a;rw[CJ (by simp)]at a;have o:=lI (k:=h.G) (p:=p) (i:=i+1) ψ (n - (i+1));rw[show i+1+(n - (i+1))=n by omega]at o;have H:=gI.of (p:=p) (n:=n) M.ker ω ⟨O,J⟩ K (i+1) ω;rw[CJ ω,o.1];have b:=H.calls;rw[a]at H b |-;have d:=H.ker;simp only at d b |-;generalize (newK (newsK h.G p i).1 (p+(i:Nat))).1=k at l d b |-
        repeat'(first|refine gE ?_|refine CN (l) ⟨⟨rfl,CY _⟩,⟨rfl,rfl⟩,tV1⟩ ?_)
        refine lp0 i (λj=>[(0,bB (Qj h)),(7,fI p),(9,bB (ah.enc .own (unmN k p j))),(10,fN i),(13,fI (p+(j:Nat)))]) λj Y=>?_
        have T:=rV (unmN k p j) (p+(j:Nat)) (iI d p j) (by grind [fY]);by_cases Z:j<i
        ·repeat'(first|refine gE ?_|refine CN (T) ⟨⟨rfl,CY _⟩,⟨rfl,rfl⟩,tV1⟩ ?_)
         (exact cV (j+1) ω)
        obtain rfl:j=i:=ω
        refine σE ?_
        exact ka
      obtain rfl:i=n:=ω
      rw[CL L];generalize (newsK h.G p i).1=k
      refine σE ?_
      exact ka
 subst Q;rw[CL rfl];rw[CJ (by simp)]at t
 repeat'(first|refine gP ?_|refine CN (N) ⟨⟨rfl,jN h⟩,tV1⟩ ?_|refine CN (t) ⟨⟨rfl,rfl⟩,⟨rfl,YE c⟩,⟨rfl,rfl⟩,tV1⟩ ?_|refine Yc c ?_)
 exact ka
theorem zp(h:ac)(p c:Int)(w:h.K.length<=4096):zzB 190 false [.ptr (ja h),.val (some 3) [I p,I c,I 0]] [.ptr (ja {h with K:=lA (J4 p) h.K ⟨p,c,0⟩}),.val (some 3) [I p,I c,I 0]] .one [I (mt (J4 p) h.K:Nat)]:=by
 refine fM 40 [(342,[1,0,1])] [(2,18,[6,7,8,9,10,11,12,13,14,15,16,17,18,19,20,21,22,23]),(4,264,[28,29,30,31,32,33,34,35,0,1,2,3,4,5,6,7,8,1000,9,10,11])] [(0,0),(0,0)] Tryz.func190 rfl (λu q=>?_)
 refine σP ?_
 refine gK h.K.length (λi=>[(0,bB (ja h)),(3,bB ([I p,I c,I 0])),(5,fN i)]) (λi=>∀(j:Nat)(z:aB),j<i->h.K[j]? = some z->J4 p z=false) ψ λi g=>?_
 obtain⟨k,d⟩:=g;by_cases l:i<h.K.length/\(nth h.K i).Q<p
 ·have b:=ar l.1
  refine σE ?_
  (exact cV (i+1) ⟨ω,fh b (C1 ω) d⟩)
 have a:mt (J4 p) h.K=i:=oQ ω d λz e=>by
  have n:=(C4.1 e).1;have:z=nth h.K i:=(br e).symm;subst this;exact O0 ω
 have b:i<h.K.length->h.K[i]? = some (nth h.K i):=λo=>ar o
 have r:=Lb h.K i ⟨p,c,0⟩ ω ω;rw[oC a,a]
 repeat'(first|refine gE ?_|with_reducible refine CK (aa (b ω)) ?_|refine gS (λt=>?_) (λt=>?_)|refine CM rfl (aa (b ω)) rfl ?_)
 all_goals
  exact ka
def NY(h:ac)(i:Nat):ja (slotT h i)=((ja h).set 14 (I (DP h.c0))).set 6 (.s .own ((h.K.map (aB.enc .own)).set i [I (nth h.K i).Q,I (nth h.K i).d,I (iP (nth h.K i).a9 (pP h i))])):=by
 simp[ja,slotT,tL,SC,aB.enc,oF]
def Ep(h:ac)(E:List Int)(i:Nat)(a:aY h E)(b:i<h.K.length)(p:(iX h i).length=0):zzA 188 false [.ptr (ac.enc .S h),.vI (i:Nat)] (.tup [none,none]) [I (-1),B false]:=by
 have g:=ar b;have c:=a.L.sok _ (ax b);have d:=eS c;have j:=(bu.1 (aH.1 a.ker).2.2.1).2.2;have n:=a.lens.spans;have e:=oh a.L.sok (ps:=aX h (nth h.K i).Q) d (aX h (nth h.K i).Q).length;change 0<=f6 h i/\f6 h i<=65535 at e;have o:=ir (nth h.K i).d;have k:=tZ h i ⟨ω,λ_ _=>tV1⟩ ⟨ω,λ_ _=>tV1⟩ a.L.sok b;rw[yY a.L.sok b]at k;have l:=sA (nth h.K i).d (f6 h i) ω;change au _ _ _ _ _ (aF .own (iX h i)) at l;refine fO 63 [(2,7,[17,18,19,20,21,22,23]),(7,12,[43,44,45,46,47,48,49,50,51,52,53,54]),(8,5,[57,58,59,60,61])] Tryz.func188 rfl ?_ (.inr ⟨tV1,tV1,tV1⟩)
 refine σB ?_
 rfl
def ro(h:ac)(E:List Int)(i:Nat)(b:aY h E)(j:i<h.K.length):zzB 188 false [.ptr (ja h),.vI (i:Nat)] [.ptr (ja (mr h i).1),.vI (i:Nat)] (.tup [none,none]) [I (mr h i).2,B (decide (0<(iX h i).length))]:=by
 have F:=b.lens.spans;have d:=ar j;have c:=b.L.sok _ (ax j);have e:=eS c;have a:=b.nums;unfold cI at a;rw[C0]at a;have y:=(bu.1 (aH.1 b.ker).2.2.1).2.2;have k:=oh b.L.sok (ps:=aX h (nth h.K i).Q) e (aX h (nth h.K i).Q).length;change 0<=f6 h i/\f6 h i<=65535 at k;have C:=ir (nth h.K i).d;have l:=tZ h i ⟨ω,λ_ _=>tV1⟩ ⟨ω,λ_ _=>tV1⟩ b.L.sok j;rw[yY b.L.sok j]at l;have o:=sA (nth h.K i).d (f6 h i) ω;change au _ _ _ _ _ (aF .own (iX h i)) at o;have p:=BA (nth h.K i).d (f6 h i);change (iX h i).length<=16 at p;unfold mr;by_cases D:(iX h i).length=0
 ·rw[CL D,C1 ω]
  refine fM 63 [] [(2,7,[17,18,19,20,21,22,23]),(7,12,[43,44,45,46,47,48,49,50,51,52,53,54]),(8,5,[57,58,59,60,61])] [(0,0),(0,0)] Tryz.func188 rfl (λu q=>?_) (.inr ⟨tV1,tV1,tV1⟩)
  repeat'(first|refine gB ?_|refine CN (l) ⟨⟨rfl,jN h⟩,⟨rfl,rfl⟩,tV1⟩ ?_)
  exact ka
 rw[CJ D,O0 ω];have G:=xU (h:=h) (i:=i) ω;obtain⟨H,O,P⟩:=vg G;have J:=(iE (aJ c).2.2).2.2.1;have r:=rY h.c0 (n:=((iX h i).length:Nat)) ω;have K:=yQ h.c0 ((iX h i).length:Nat) ω ω;have M:=EW (nth h.K i).a9 (pP h i) e ω;obtain⟨N,t⟩:=v5 H;have w:=ul (nth h.K i) N c ω;unfold m7 at w;rw[<-t]at w;have g:(iX h i)[(J5 h.c0 ((iX h i).length:Nat)).toNat]? = some (pP h i):=ar ω;unfold rQ;rw[NY];refine fM 63 [] [(2,7,[17,18,19,20,21,22,23]),(7,12,[43,44,45,46,47,48,49,50,51,52,53,54]),(8,5,[57,58,59,60,61])] [(0,0),(0,0)] Tryz.func188 rfl (λu q=>?_) (.inr ⟨tV1,tV1,tV1⟩)
 repeat'(first|refine gB ?_|refine CN (l) ⟨⟨rfl,jN h⟩,⟨rfl,rfl⟩,tV1⟩ ?_|refine CQ r.1 (aa g) ?_|refine CU rfl rfl (aa d) rfl (O2 rfl) rfl ?_)
 refine CP rfl ?_ ?_
 ·rfl
 exact wC
def RL(k:ah)(p:Int):newsK k p 1=((newK k p).1,if(newK k p).2=true then 1 else 0):=by
 show(if(0:Nat)=0 then((newK k (p+((0:Nat):Int))).1,if(newK k (p+((0:Nat):Int))).2=true then 0+1 else 0) else(k,0))=_;rw[CL rfl,show p+((0:Nat):Int)=p by omega]
def R4(h:ac):Bw h 1=if(ay h.o 1).2.2=false then(h,-1,false)
  else if(newK h.G (ay h.o 1).2.1).2=false then({h with G:=(newK h.G (ay h.o 1).2.1).1},-1,false)
  else({h with G:=(newK h.G (ay h.o 1).2.1).1,o:=(ay h.o 1).1},(ay h.o 1).2.1,true):=by
 unfold Bw;rw[show((1:Nat):Int)=1 from rfl,RL];cases e:(newK h.G (ay h.o 1).2.1).2
 ·simp[unmN]
 simp
def VA(h:ac)(a:C):List C:=(ja h).set 9 a
def tI(h:ac)(a:C):Prop:=fz a=.s .S (h.R.map (aE.enc .S))
def Wy{a:C}(b:tI h a):eJ (VA h a)=ac.enc .S h:=by
 have c:eJ (VA h a)=(eJ (ja h)).set 9 (fz a):=rfl;rw[c,jN,b];rfl
def tI.own(h:ac):tI h (.s .own (h.R.map (aE.enc .own))):=by
 have a:=O1 (λl:List C=>l[9]?) (jN h);have b:(eJ (ja h))[9]? = some (fz (.s .own (h.R.map (aE.enc .own)))):=rfl;have c:(ac.enc .S h)[9]? = some (.s .S (h.R.map (aE.enc .S))):=rfl;simp only[b,c,C2]at a;exact a
def Zz(h:ac)(t c:Nat):C:=.s .own ((h.R.map (aE.enc .own)).set t [.s .own (((nth h.R t).Y.map (aF .own)).set c (aF .S ((nth (nth h.R t).Y c).take ((nth (nth h.R t).Y c).length - 1))))])
def XH(h:ac)(t c:Nat):tI {h with R:=h.R.set t (wz (nth h.R t) c)} (Zz h t c):=by
 have b:fz (.s .own (h.R.map (aE.enc .own)))=.s .S (h.R.map (aE.enc .S)):=tI.own h;have e:∀a:List (List C),fz (.s .own a)=.s .S (a.map eJ):=λa=>by rw[Rt];congr 1;apply List.map_congr_left;intro r _;rw[cj]
 unfold tI Zz;rw[e]at b |-;simp only[C.s.injEq,true_and]at b |-;rw[SC,b,SC]
 congr 1
 have d:=Cm (wz (nth h.R t) c);rw[LD]at d;rw[<-d];simp only[eJ,e,SC]
 congr 3
def R9(h:ac){t:Nat}(a:t<h.R.length)(r:List C):ja h=((ja h).set 9 (.s .own ((h.R.map (aE.enc .own)).set t r))).set 9 (.s .own (((h.R.map (aE.enc .own)).set t r).set t (aE.enc .own (nth h.R t)))):=by
 have e:(h.R.map (aE.enc .own)).set t (aE.enc .own (nth h.R t))=h.R.map (aE.enc .own):=by
  rw[<-SC,Jf a]
 rw[List.set_set,List.set_set,e];rfl
def BD(h:ac)(t c:Nat)(o:aY h [])(E:t<h.R.length)(T:c<=3)(r:h.G.Calls<=90000):∃W,tI (smallA h t c).1 W/\zzB 65 false [.ptr (ja h),.vI (t:Nat),.vI (c:Nat)] [.ptr (VA (smallA h t c).1 W),.vI (t:Nat),.vI (c:Nat)] (.tup [none,none]) [I (smallA h t c).2,B (decide (0<=(smallA h t c).2))]:=by
 have w:=o.cach _ (ax E);have hl4:=oN w;have d:=ar E;have F:=B4 (nth h.R t) c w T;have hls:=o.lens.spans;have C:=o;have G:=R9 h E;unfold Zv at F;by_cases N:0<(nth (nth h.R t).Y c).length
 ·obtain⟨O,H⟩:=o.pop E ω N (Pr w c)
  have k:=k7.nn o H;unfold smallA;rw[CL N]at F |-;refine⟨Zz h t c,XH h t c,?_⟩;simp only;rw[O0 k];refine fM 86 [(186,[1,0]),(188,[2,0]),(189,[2,0]),(190,[2,0]),(4000062,[]),(5000077,[])] [(3,6,[31,32,33,34,35,36]),(8,10,[49,50,51,52,53,54,55,56,57,58])] [(0,0),(0,0),(0,0)] Tryz.func65 rfl (λu q=>?_) (.inr ⟨tV1,tV1,tV1⟩)
  repeat'(first|refine gP ?_|refine CK (dt d) ?_|refine CM rfl (dt d) rfl ?_|refine Lq.one rfl rfl (aa d) rfl (O2 rfl) rfl rfl ?_|refine CU rfl rfl (dt d) rfl (O2 rfl) (G _) ?_|refine CU rfl rfl (aa d) rfl (O2 rfl) rfl ?_)
  exact ka
 rw[CJ N]at F;refine⟨_,tI.own _,?_⟩;change aU _ _ _ _ [.ptr (ja (smallA h t c).1),_,_] _ _;have e:smallA h t c=match qt h c with
  | some i=>(slotT h i,rQ h i)
  | none=>if(ay h.o 1).2.2=false then(h,-1)
   else if(newK h.G (ay h.o 1).2.1).2=false then({h with G:=(newK h.G (ay h.o 1).2.1).1},-1)
   else mr (oz h c) (o8 h):=by unfold smallA;exact CJ N
 refine fM 86 [(186,[1,0]),(188,[2,0]),(189,[2,0]),(190,[2,0]),(4000062,[]),(5000077,[])] [(3,6,[31,32,33,34,35,36]),(8,10,[49,50,51,52,53,54,55,56,57,58])] [(0,0),(0,0),(0,0)] Tryz.func65 rfl (λu q=>?_) (.inr ⟨tV1,tV1,tV1⟩)
 repeat'(first|refine gP ?_|refine CK (dt d) ?_|refine CM rfl (dt d) rfl ?_|refine Lq.one rfl rfl (aa d) rfl (O2 rfl) rfl rfl ?_|refine CU rfl rfl (dt d) rfl (O2 rfl) (G _) ?_)
 refine gK h.K.length (λi=>[(0,bB (ja h)),(2,fN c),(42,.c2 0 6 [] none),(43,fI h.K.length),(44,fN i)]) (λi=>∀j,j<i->qQ h c j=false) (λj hj=>ω) λi o=>?_
 obtain⟨hi1,J⟩:=o;by_cases K:i<h.K.length
 ·have n:=ar K
  by_cases X:(nth h.K i).d=c
  ·have L:=FG h (nth h.K i).Q
   cases P:gq h (nth h.K i).Q with
   | true=>
    rw[P]at L
    repeat'(first|refine gB ?_|refine CN (L) ⟨⟨rfl,jN h⟩,⟨rfl,rfl⟩,tV1⟩ ?_)
    (exact cV (i+1) ⟨ω,n7 (by unfold qQ;rw[P];simp) J⟩)
   | false=>
    rw[P]at L;by_cases M:(iX h i).length=0
    ·have y:=Ep h [] i C K M
     repeat'(first|refine gB ?_|refine CN (L) ⟨⟨rfl,jN h⟩,⟨rfl,rfl⟩,tV1⟩ ?_|refine Ch.pl ?_|refine CN (y) ⟨jN h,⟨rfl,rfl⟩,tV1⟩ ?_)
     (exact cV (i+1) ⟨ω,n7 (by unfold qQ;rw[C1 (by omega:¬0<(iX h i).length)];simp) J⟩)
    have y:=ro h [] i C K;unfold mr at y;rw[CJ M,O0 (by omega:0<(iX h i).length)]at y;have U:qt h c=some i:=yz K (by unfold qQ;rw[O0 X,P,O0 ω];rfl) J;rw[U]at e;simp only at e;obtain⟨O,H⟩:=C.slotT K (by omega:0<(iX h i).length);have k:=k7.nn O H;rw[e];generalize slotT h i=g at y |-;generalize rQ h i=a at y k |-;rw[O0 k]
    repeat'(first|refine gB ?_|refine CN (L) ⟨⟨rfl,jN h⟩,⟨rfl,rfl⟩,tV1⟩ ?_|refine Ch.lt ?_)
    exact ka
  refine σB ?_
  (exact cV (i+1) ⟨ω,n7 (by unfold qQ;rw[C1 X];rfl) J⟩)
 obtain rfl:i=h.K.length:=ω
 have U:qt h c=none:=yU J;rw[U]at e;simp only at e;have l:=sO h 1 C r ⟨ω,ω⟩;rw[R4]at l;rw[e];by_cases Q:(ay h.o 1).2.2=false
 ·rw[CL Q]at l |-
  refine σE ?_
  exact ka
 rw[CJ Q]at l |-;by_cases R:(newK h.G (ay h.o 1).2.1).2=false
 ·rw[CL R]at l |-
  refine σE ?_
  exact ka
 rw[CJ R]at l |-;obtain⟨Y,Z⟩:=Mp C T r Q R;have D:=zp {h with G:=(newK h.G (ay h.o 1).2.1).1,o:=(ay h.o 1).1} (ay h.o 1).2.1 (c:Nat) (by show h.K.length<=4096;omega);have S:=ro (oz h c) [] (o8 h) Y Z;have V:=qk C E T r;rw[e,CJ Q,CJ R]at V;have k:decide (0<(iX (oz h c) (o8 h)).length)=decide (0<=(mr (oz h c) (o8 h)).2):=by
  unfold mr;by_cases M:(iX (oz h c) (o8 h)).length=0
  ·rw[CL M,C1 ω];rfl
  rw[CJ M,O0 ω];obtain⟨O,H⟩:=Y.slotT Z ω;exact(O0 (k7.nn O H)).symm
 rw[k]at S;change aU _ _ _ _ [.ptr (ja (oz h c)),_] _ [I ((o8 h:Nat):Int)]at D;generalize (ay h.o 1).2.1=p at l D;generalize oz h c=g at D S |-;generalize o8 h=b at D S |-;generalize ({h with G:=(newK h.G p).1,o:=(ay h.o 1).1} : ac)=h1 at l D
 refine σE ?_
 exact ka
def Di(h:ac)(size:Int)(e:aY h [])(l:9<=size/\size<=1000)(n:h.G.Calls<=90000):zzB 66 false [.ptr (ja h),.vI size] [.ptr (ja (EG h size).1),.vI size] (.tup [none,none]) [I (EG h size).2,B (decide (0<=(EG h size).2))]:=by
 have E:=e.lens.larges;have R:=e;have o:fF size=((iO size:Nat):Int):=by unfold fF iO;split<;>omega
 have F:1<=iO size/\iO size<=63:=by unfold iO;omega
 have g:=p8 size;rw[o]at g;have a:=sO h (iO size) e n F;have c:=jQ e (show(1:Int)<=(iO size:Nat) by omega);unfold Bw at a;unfold EG fp;generalize iO size=N at *;generalize ay h.o (N:Nat)=r at a c |-;obtain⟨G,p,ok⟩:=r;simp only at a c |-;refine fM 56 [(189,[2,0]),(192,[1,0,1])] [(7,268,[39,40,41,42,43,44,45,46,47,48,49,50,0,1,2,3,4,5,6,7,8,9,10,11,12,1000,13,14,15])] [(0,0),(0,0)] Tryz.func66 rfl (λu q=>?_) (.inr ⟨tV1,tV1,tV1⟩);cases ok with
 | false=>
  rw[CL rfl]at a |-
  refine σP ?_
  exact ka
 | true=>
  rw[CJ (by simp)]at a |-;obtain⟨S,H,-,-⟩:=c rfl;have J:h.G.F.O.M.length<=32:=e.lens.ents;have t:p+(N:Nat)<=(h.G.F.O.M.length:Nat):=H;by_cases w:(newsK h.G p N).2=N
  ·rw[CL w]at a |-
   rw[O0 (show(0:Int)<=16*p by omega)];generalize (newsK h.G p N).1=k at a |-
   refine σP ?_
   refine gK h.H.length (λm=>[(0,bB (ja {h with G:=k,o:=G})),(1,fI size),(6,fI p),(8,fN m)]) (λm=>∀(j:Nat)(z:aC),j<m->h.H[j]? = some z->VE p z=false) (λj z T=>ω) λm K=>?_
   obtain⟨L,C⟩:=K;by_cases M:m<h.H.length/\(nth h.H m).Q<p
   ·have d:=ar M.1
    repeat'(first|refine gP ?_|refine Bf.D (λb=>?_) (λb=>absurd b (by first|omega|(simp only at *;omega))))
    (exact cV (m+1) ⟨ω,fh d (C1 ω) C⟩)
   have i:mt (VE p) h.H=m:=oQ ω C λz l=>by
    have O:=(C4.1 l).1;have:z=nth h.H m:=(br l).symm;subst this;exact O0 ω
   have d:m<h.H.length->h.H[m]? = some (nth h.H m):=λP=>ar P
   have Q:=G7 h.H m ⟨p,(N:Nat),size⟩ ω ω;rw[oC i]
   repeat'(first|refine gP ?_|refine Bf.D (λb=>?_) (λb=>absurd b (by first|omega|(simp only at *;omega)))|refine Bf.D (λb=>absurd b (by first|omega|(simp only at *;omega))) (λb=>?_)|refine Bf.D (λb=>?_) (λb=>?_)|refine CK (aa (d (by first|omega|(simp only at *;omega)))) ?_|refine CM rfl (aa (d (by first|omega|(simp only at *;omega)))) rfl ?_)
   all_goals
    refine CP rfl ?_ ?_
    ·exact O1 (λy=>[I y,B true]) (show p*16=16*p by omega)
    exact wC
  rw[CJ w]at a |-
  refine σP ?_
  exact ka
def Kz(h:ac)(t size:Int)(Z:ac.sml h)(l:aY h [])(O:ml h=true):∃D,tI (allocH h t size).1 D/\zzA 17 true [.val (some 24) (ac.enc .S h),.vI t,.vI size] (.tup [some 24,none,none]) (VA (allocH h t size).1 D++[I (allocH h t size).2.1,I (allocH h t size).2.2]):=by
 have hl:=l.lens;have hlc:=hl.caches;have P:=hl.objs;have r:=l.nums;unfold cI at r;rw[C0]at r;have Q:=pW l.objSz h.J.length (C5 _);change 0<=pB h/\pB h<=_ at Q;have p:=Pa h Z;have o:=cJ h Z;rw[O]at o;have q:=aK t 0 ((h.R.length:Int) - 1);have u:=aK size 1 1000;have E:=B6 h l.objSz ω;have F:=jg size;unfold allocH;by_cases h1:1000000<=h.b
 ·rw[CL (.inl h1)]
  refine⟨_,tI.own _,?_⟩;change au _ _ _ _ _ (ja _++_);refine fP 108 [(65,[2,0,0]),(66,[2,0]),(67,[1,0,1])] [(8,6,[47,48,49,50,51,52])] Tryz.func17 rfl ?_ (.inl rfl)
  refine σB ?_
  rfl
 by_cases h2:90000<h.G.Calls
 ·rw[CL (.inr h2)]
  refine⟨_,tI.own _,?_⟩;change au _ _ _ _ _ (ja _++_);refine fP 108 [(65,[2,0,0]),(66,[2,0]),(67,[1,0,1])] [(8,6,[47,48,49,50,51,52])] Tryz.func17 rfl ?_ (.inl rfl)
  repeat'(first|refine gB ?_|refine gS (λb=>?_) (λb=>?_)|fail)
  rfl
 rw[CJ ω];by_cases B:¬(0<=t/\t<=h.R.length - 1)
 ·rw[CL B]
  rw[C1 B]at q;refine⟨_,tI.own _,?_⟩;change au _ _ _ _ _ (ja _++_);refine fP 108 [(65,[2,0,0]),(66,[2,0]),(67,[1,0,1])] [(8,6,[47,48,49,50,51,52])] Tryz.func17 rfl ?_ (.inl rfl)
  repeat'(first|refine gB ?_|refine gS (λb=>?_) (λb=>?_)|fail)
  rfl
 rw[CJ B];replace B:=Decidable.not_not.1 B;rw[O0 B]at q;by_cases y:¬(1<=size/\size<=1000)
 ·rw[CL y]
  rw[C1 y]at u;refine⟨_,tI.own _,?_⟩;change au _ _ _ _ _ (ja _++_);refine fP 108 [(65,[2,0,0]),(66,[2,0]),(67,[1,0,1])] [(8,6,[47,48,49,50,51,52])] Tryz.func17 rfl ?_ (.inl rfl)
  repeat'(first|refine gB ?_|refine gS (λb=>?_) (λb=>?_)|fail)
  rfl
 rw[CJ y];replace y:=Decidable.not_not.1 y;rw[O0 y]at u;by_cases h5:h.c1<pB h+size
 ·rw[CL h5]
  refine⟨_,tI.own _,?_⟩;change au _ _ _ _ _ (ja _++_);refine fP 108 [(65,[2,0,0]),(66,[2,0]),(67,[1,0,1])] [(8,6,[47,48,49,50,51,52])] Tryz.func17 rfl ?_ (.inl rfl)
  repeat'(first|refine gB ?_|refine gS (λb=>?_) (λb=>?_)|fail)
  rfl
 rw[CJ h5];by_cases G:0<=aN size
 ·rw[CL G]
  have hc3:aN size<=3:=by unfold aN;repeat' split<;>omega
  obtain⟨T,rfl⟩:=v5 B.1;obtain⟨K,hK⟩:=v5 G;obtain⟨D,C,d⟩:=BD h T K l ω ω ω;have s:=qk (t:=T) (c:=K) l ω ω ω;rw[hK]at F |-;simp only[t5];generalize smallA h T K=w at d s C |-;obtain⟨g,a⟩:=w;have e:g.b=h.b:=s.nx;simp only at d |-;by_cases H:a<0
  ·rw[CL H]
   rw[C1 ω]at d;refine⟨D,C,?_⟩;refine fP 108 [(65,[2,0,0]),(66,[2,0]),(67,[1,0,1])] [(8,6,[47,48,49,50,51,52])] Tryz.func17 rfl ?_ (.inl rfl)
   repeat'(first|refine gB ?_|refine gS (λb=>?_) (λb=>?_)|fail)
   rfl
  rw[CJ H];rw[O0 ω]at d;obtain⟨k1,k2⟩:=s.yes (show(0:Int)<=a by omega);have R:g.J.length<=512:=k1.lens.objs;have S:1<=g.b/\g.b<=1000000:=ω
  refine⟨D,C,?_⟩;refine fP 108 [(65,[2,0,0]),(66,[2,0]),(67,[1,0,1])] [(8,6,[47,48,49,50,51,52])] Tryz.func17 rfl ?_ (.inl rfl)
  repeat'(first|refine gB ?_|refine gS (λb=>?_) (λb=>?_)|fail)
  refine gK g.J.length (λi=>[(1,fN T),(2,fI size),(3,bB (ac.enc .S h)),(6,bB (w7)),(9,bB (VA g D)),(10,fI a),(13,fN i)]) (λi=>∀(j:Nat)(z:bg),j<i->g.J[j]? = some z->Q1 a z=false) (λj z hj=>ω) λi l=>?_
  obtain⟨U,J⟩:=l;by_cases V:i<g.J.length/\(nth g.J i).Addr<a
  ·have k:=ar V.1
   refine σE ?_
   (exact cV (i+1) ⟨ω,fh k (C1 ω) J⟩)
  have n:mt (Q1 a) g.J=i:=oQ ω J λz L=>by
   have W:=(C4.1 L).1;have:z=nth g.J i:=(br L).symm;subst this;exact O0 ω
  have k:i<g.J.length->g.J[i]? = some (nth g.J i):=λX=>ar X
  have Y:=Dw g.J i ⟨h.b,a,size,(T:Nat)⟩ ω ω;rw[show addO g a size (T:Nat) = {g with J:=g.J.take i++⟨g.b,a,size,(T:Nat)⟩::g.J.drop i,b:=g.b+1} by unfold addO;rw[oC n],e]
  repeat'(first|refine gE ?_|with_reducible refine CK (aa (k ω)) ?_|refine gS (λb=>?_) (λb=>?_)|refine CM rfl (aa (k ω)) rfl ?_)
  all_goals
   rw[e];rfl
 rw[CJ G];have M:9<=size:=by unfold aN at G;repeat' split at G<;>omega
 have d:=Di h size l ⟨M,y.2⟩ ω;rw[FE t l ⟨M,y.2⟩];have hg:(EG h size).1.b=h.b/\(EG h size).1.J=h.J:=by
  unfold EG;split
  ·exact⟨rfl,rfl⟩
  split<;>exact⟨rfl,rfl⟩
 generalize EG h size=w at d hg |-;obtain⟨g,a⟩:=w;obtain⟨e,N⟩:=hg;simp only at d e N |-;have R:g.J.length<=512:=by rw[N];exact P
 have S:1<=g.b/\g.b<=1000000:=ω
 by_cases H:a<0
 ·rw[CL H]
  rw[C1 ω]at d;refine⟨_,tI.own _,?_⟩;change au _ _ _ _ _ (ja _++_);refine fP 108 [(65,[2,0,0]),(66,[2,0]),(67,[1,0,1])] [(8,6,[47,48,49,50,51,52])] Tryz.func17 rfl ?_ (.inl rfl)
  repeat'(first|refine gB ?_|refine gS (λb=>?_) (λb=>?_)|fail)
  rfl
 rw[CJ H];rw[O0 ω]at d;refine⟨_,tI.own _,?_⟩;change au _ _ _ _ _ (ja _++_);refine fP 108 [(65,[2,0,0]),(66,[2,0]),(67,[1,0,1])] [(8,6,[47,48,49,50,51,52])] Tryz.func17 rfl ?_ (.inl rfl)
 repeat'(first|refine gB ?_|refine gS (λb=>?_) (λb=>?_)|fail)
 refine gK g.J.length (λi=>[(1,fI t),(2,fI size),(3,bB (ac.enc .S h)),(6,bB (w7)),(9,bB (ja g)),(10,fI a),(13,fN i)]) (λi=>∀(j:Nat)(z:bg),j<i->g.J[j]? = some z->Q1 a z=false) (λj z hj=>ω) λi l=>?_
 obtain⟨U,J⟩:=l;by_cases V:i<g.J.length/\(nth g.J i).Addr<a
 ·have k:=ar V.1
  refine σE ?_
  (exact cV (i+1) ⟨ω,fh k (C1 ω) J⟩)
 have n:mt (Q1 a) g.J=i:=oQ ω J λz L=>by
  have W:=(C4.1 L).1;have:z=nth g.J i:=(br L).symm;subst this;exact O0 ω
 have k:i<g.J.length->g.J[i]? = some (nth g.J i):=λX=>ar X
 have Y:=Dw g.J i ⟨h.b,a,size,t⟩ ω ω;rw[show addO g a size t = {g with J:=g.J.take i++⟨g.b,a,size,t⟩::g.J.drop i,b:=g.b+1} by unfold addO;rw[oC n],e]
 repeat'(first|refine gE ?_|with_reducible refine CK (aa (k ω)) ?_|refine gS (λb=>?_) (λb=>?_)|refine CM rfl (aa (k ω)) rfl ?_)
 all_goals
  rw[e];rfl
def cl(k:ah)(f c:Nat):Int:=nth (nth k.F.V.T f) c
structure At(k:ah)(a:Int)(f c:Nat):Prop where
 m:(af k.F.O (a / 16)).e≠0
 f:(af k.F.O (a / 16)).j=f
 c:a % 16=c
variable{k:ah}
theorem At.cell(h:At k a f c):gt k a=cl k f c:=by
 unfold gt cl;rw[h.f,h.c,t5,t5]
def At.mk'(c:aI k=true)(b:(af k.F.O (a / 16)).e≠0):At k a (cW k a) (a % 16).toNat:=by
 obtain⟨-,-,-,d,-⟩:=bD c b;exact⟨b,by unfold cW;omega,ω⟩
def At.uniq{b d:Nat}(h:At k a f c)(h':At k a b d):f=b/\c=d:=by
 have e:=h.f;have g:=h'.f;have i:=h.c;have j:=h'.c;omega
def U7(h:ac)(a:Int)(f c:Nat):Prop:=
 (∃s∈h.K,fA s a/\(af (tbl h) s.Q).j=f/\(c:Int) / csz s.d=d9 s a/\c<16)\/
 ∃l∈h.H,a=16*l.Q/\∃b:Int,16*l.Q<=b/\b<16*(l.Q+l.a1)/\At h.G b f c
variable{E:List Int}
theorem aY.pe(a:aY h E){s:aB}(b:s∈h.K):af (tbl h) s.Q=nth (tbl h).M s.Q.toNat:=by grind [aY.mapped,af]
variable{b:Int}
def wa{l:aC}(a:bI l=true)(h1:16*l.Q<=b)(h2:b<16*(l.Q+l.a1)):∃k:Nat,k<l.a1.toNat/\b / 16=l.Q+(k:Nat):=by
 have:=aR a;exact⟨(b / 16 - l.Q).toNat,ω,ω⟩
theorem nv(e:aY h E){l:aC}(i:l∈h.H)(h1:16*l.Q<=b)(h2:b<16*(l.Q+l.a1))(j:At h.G b f c){q:Int}(n:(af (tbl h) q).e≠0)(g:(af (tbl h) q).j=f):q=b / 16:=by
 obtain⟨k,r,t⟩:=wa (e.L.lok l i) h1 h2;obtain⟨u,w,o,-⟩:=bD e.ker j.m;obtain⟨y,A,p,-⟩:=bD e.ker n;have d:=j.f;rw[o]at d;have a:=n;change (af h.G.F.O q).e≠0 at a;change (af h.G.F.O q).j=f at g;rw[p]at a g;have:=e.pg.one l i (b / 16).toNat (eM.2 ψ) q.toNat (by show q.toNat<h.G.F.O.M.length;omega) a (by show _=(nth h.G.F.O.M _).j;rw[d];exact g);omega
theorem zL(d:aY h E)(H:U7 h a f c)(J:U7 h b f c):a=b:=by
 have V:∀s∈h.K,(af (tbl h) s.Q).j=f->∀l∈h.H,∀x:Int,16*l.Q<=x->x<16*(l.Q+l.a1)->At h.G x f c->False:=λs o W l p x K M X=>by
  obtain⟨N,q,r⟩:=d.mapped o;obtain⟨k,O,P⟩:=wa (d.L.lok l p) K M
  grind [nv,aY.pe,nu.dis,aY.L]
 rcases H with⟨s,o,t,Y,Q,Z⟩|⟨l,p,l1,x,w,A,R⟩<;>rcases J with⟨u,B,C,u2,S,u4⟩|⟨m,g,N,y,q,r,D⟩
 ·by_cases e:s.Q=u.Q
  ·obtain⟨i,F,rfl⟩:=aW o
   obtain⟨j,G,rfl⟩:=aW B;have:=du (f:=(·.Q)) d.L.nd F G e;subst this;exact DE (d.L.sok _ o) t.2.2.1 C.2.2.1 (Q.symm.trans S)
  exfalso;have g:=d.pg.mesh s o u B e (by grind [aY.pe]);unfold meshable at g;simp only[I0,C0]at g;obtain⟨⟨o1,o2⟩,e1,-,T⟩:=g;have b1:=(gG _ _).1 t.2.2.2;have b2:=(gG _ _).1 C.2.2.2;have hn:(a - 16*s.Q) / csz s.d=(b - 16*u.Q) / csz u.d:=by
   have U:d9 s a=d9 u b:=ψ
   exact U
  have:=O1 (λn=>Nat.testBit n ((a - 16*s.Q) / csz s.d).toNat) T
  grind
 ·grind
 ·grind
 have hq:=nv d p w A R D.m D.f;obtain⟨i,F,rfl⟩:=aW p;obtain⟨j,G,rfl⟩:=aW g;obtain⟨k,O,P⟩:=wa (d.L.lok _ p) w A;obtain⟨k',k3,k4⟩:=wa (d.L.lok _ g) q r
 grind [nu.one,aY.L]
def uq(h:ac)(o:bg)(f c:Nat):Prop:=∃j:Int,0<=j/\j<o.k/\At h.G (o.Addr+j) f c
variable{o:bg}
theorem lv(d:aY h E)(A:o∈h.J)(B:uq h o f c):U7 h o.Addr f c:=by
 obtain⟨k,J,K,a⟩:=B;rcases d.oow o A with⟨s,r,t,C⟩|⟨l,u,D,M⟩
 ·have b:=d.L.sok s r
  have g:=aJ b;have i:=bT g.2.2;have j:=t;obtain⟨N,O,F,-⟩:=t;have p:o.k<=csz s.d:=by
   have P:=iv (n:=o.k) ω;rw[C];have:o.k=1\/o.k=2\/o.k=3\/o.k=4\/o.k=5\/o.k=6\/o.k=7\/o.k=8:=ω
   rcases this with e|e|e|e|e|e|e|e<;>rw[e]<;>decide
  have G:(o.Addr+k) / 16=s.Q:=by rcases i with e|e|e|e<;>rw[e]at F p<;>omega
  have w:=a.f;have H:=a.c;rw[G]at w;refine .inl ⟨s,r,j,w,?_,ω⟩
  grind [d9]
 have q:=d.L.lok l u;have y:=q;unfold bI at y;rw[C0]at y;exact .inr ⟨l,u,D,o.Addr+k,ω,ω,a⟩
theorem PE(a:aY h E){u:bg}(b:o∈h.J)(d:u∈h.J)(h1:uq h o f c)(h2:uq h u f c):o=u:=by
 have e:=zL a (lv a b h1) (lv a d h2);obtain⟨i,g,rfl⟩:=aW b;obtain⟨j,k,rfl⟩:=aW d;rw[du (f:=(·.Addr)) (dv a.osr) g k e]
def JX(h:ac)(f c:Nat):Prop:=h.q=true/\(af (tbl h) h.a.X.a4).j=f/\(c:Int)∈h.a.X.T.take h.a.b.toNat
structure CI(h:ac):Prop where
 z:∀f c:Nat,c<16->cl h.G f c≠0->(∃o∈h.J,uq h o f c)\/JX h f c
 jv:h.q=true->∀c:Nat,(c:Int)∈h.a.X.T.take h.a.b.toNat->cl h.G (bV h.G h.a.X.a4) c=cl h.G (bV h.G h.a.X.a5) c
 jd:h.q=true->∀s∈h.K,s.Q=h.a.X.a4->∀c:Nat,c<16->(c:Int)∈h.a.X.T->bc s.a9 ((c:Int) / csz s.d)=false
 jc:h.q=true->∀s∈h.K,s.Q=h.a.X.a5->∀c:Nat,c<16->bc s.a9 ((c:Int) / csz s.d)=true->(c:Int)∈h.a.X.T
 jn:h.q=true->(h.a.b0=0->h.a.b=0)/\(h.a.b0=2->h.a.b=h.a.X.T.length)
 m1:∀q:Nat,(nth (tbl h).M q).e=1->h.q=true/\(q:Int)=h.a.X.a5/\h.a.b0≠0
 m2:h.q=true->h.a.b0≠0->(af (tbl h) h.a.X.a5).e=1
variable{h':ac}
theorem CI.keep(t:CI h)(g:h'.a=h.a)(l:h'.q=h.q)(u:∀q:Nat,(nth (tbl h').M q).e=1->(nth (tbl h).M q).e=1)(d:h.q=true->af (tbl h') h.a.X.a4=af (tbl h) h.a.X.a4/\af (tbl h') h.a.X.a5=af (tbl h) h.a.X.a5)(j:∀f c:Nat,c<16->cl h'.G f c≠0->cl h.G f c=cl h'.G f c\/∃o∈h'.J,uq h' o f c)(n:∀o∈h.J,∀f c:Nat,c<16->uq h o f c->cl h'.G f c≠0->∃w∈h'.J,uq h' w f c)(k:h.q=true->∀c:Nat,(c:Int)∈h.a.X.T.take h.a.b.toNat->cl h'.G (bV h.G h.a.X.a4) c=cl h.G (bV h.G h.a.X.a4) c/\cl h'.G (bV h.G h.a.X.a5) c=cl h.G (bV h.G h.a.X.a5) c)(y:h.q=true->∀b∈h'.K,b.Q=h.a.X.a4\/b.Q=h.a.X.a5->∃s∈h.K,s.Q=b.Q/\s.d=b.d/\∀i,bc b.a9 i=true->bc s.a9 i=true):CI h' where
 z f c a p:=by
  rcases j f c a p with e|e
  ·rcases t.z f c a (by rw[e];exact p) with⟨o,F,A⟩|⟨r,B,C⟩
   ·grind
   exact .inr ⟨by rw[l];exact r,by rw[g,(d r).1];exact B,by rw[g];exact C⟩
  exact .inl e
 jv h1 c h2:=by
  rw[l]at h1;rw[g]at h2 |-;obtain⟨G,H⟩:=k h1 c h2;obtain⟨D,E⟩:=d h1;have J:bV h'.G h.a.X.a4=bV h.G h.a.X.a4:=O1 (λe:bo=>e.j.toNat) D;have K:bV h'.G h.a.X.a5=bV h.G h.a.X.a5:=O1 (λe:bo=>e.j.toNat) E
  grind [CI.jv]
 jd h1 b hs' hp c a hcm:=by grind [CI.jd]
 jc h1 b hs' hp c a hb:=by grind [CI.jc]
 jn h1:=by grind [CI.jn]
 m1 q hq:=by grind [CI.m1]
 m2 h1 h2:=by grind [CI.m2]
def Kp(h h':ac):Prop:=∀o∈h'.J,o∈h.J/\∀j:Int,0<=j->j<o.k->gt h'.G (o.Addr+j)=gt h.G (o.Addr+j)
def Kp.refl(h:ac):Kp h h:=λ_ a=>⟨a,λ_ _ _=>rfl⟩
theorem Co:type_of% @Kp.refl:=@Kp.refl
theorem Kp.trans{h1 h2:ac}(a:Kp h h1)(b:Kp h1 h2):Kp h h2:=λo c=>by
 obtain⟨d,e⟩:=b o c;obtain⟨f,g⟩:=a o d
 grind
theorem aY.jobM(c:aY h E)(f:h.q=true):(af (tbl h) h.a.X.a4).e≠0/\(af (tbl h) h.a.X.a5).e≠0:=by
 obtain⟨-,⟨a,d,g⟩,b,e,i⟩:=c.job f;rw[<-g,<-i,c.pe d,c.pe e];exact⟨(c.mapped d).2.2,(c.mapped e).2.2⟩
variable{p:Int}
theorem nN(a:aI k=true)(b:(af k.F.O p).e≠0):(af k.F.O p).j=(bV k p:Nat):=by
 obtain⟨-,-,-,c,-⟩:=bD a b;unfold bV;omega
def CI.kern(A:aY h E)(M:CI h)(n:∀o∈h'.J,o∈h.J)(N:h'.a=h.a)(B:h'.q=h.q)(b:∀o∈h.J,o∉h'.J->∀f c:Nat,c<16->uq h o f c->cl h'.G f c=0)(F:∀q:Nat,(nth (tbl h').M q).e=1->(nth (tbl h).M q).e=1)(d:h.q=true->af (tbl h') h.a.X.a4=af (tbl h) h.a.X.a4/\af (tbl h') h.a.X.a5=af (tbl h) h.a.X.a5)(r:∀o∈h'.J,∀j:Int,0<=j->j<o.k->af (tbl h') ((o.Addr+j) / 16)=af (tbl h) ((o.Addr+j) / 16))(t:∀f c:Nat,cl h'.G f c=cl h.G f c\/(cl h'.G f c=0/\∀p:Int,(af (tbl h') p).e≠0->(af (tbl h') p).j≠f))(G:h.q=true->∀u∈h'.K,u.Q=h.a.X.a4\/u.Q=h.a.X.a5->∃s∈h.K,s.Q=u.Q/\s.d=u.d/\∀i,bc u.a9 i=true->bc s.a9 i=true):CI h'/\Kp h h':=by
 have cov:∀o∈h'.J,∀f c:Nat,uq h o f c->uq h' o f c:=λo O f c ⟨j,w,C,l⟩=>by
  have e:=r o O j w C;unfold tbl at e;exact⟨j,w,C,by rw[e];exact l.m,by rw[e];exact l.f,l.c⟩
 have H:∀{p:Int},af (tbl h') p=af (tbl h) p->(af (tbl h) p).e≠0->∀c,cl h'.G (bV h.G p) c=cl h.G (bV h.G p) c:=fun {p} e B c=>by
  rcases t (bV h.G p) c with g|⟨-,g⟩
  ·exact g
  refine absurd ?_ (g p (by rw[e];exact B));rw[e];exact nN A.ker B
 refine⟨M.keep N B F d (λf c _ J=>.inl ?_) (λo a f c K y J=>?_) (λD c _=>⟨H (d D).1 (A.jobM D).1 c,H (d D).2 (A.jobM D).2 c⟩) G,λo a=>⟨n o a,λj w C=>?_⟩⟩
 ·rcases t f c with g|g
  ·exact g.symm
  exact absurd g.1 J
 ·by_cases e:o∈h'.J
  ·exact⟨o,e,cov o e f c y⟩
  exact absurd (b o a e f c K y) J
 have e:=r o a j w C;have L:=(di A (n o a) (k:=j) ⟨w,ω⟩).1;have:=H e L ((o.Addr+j) % 16).toNat;unfold gt;unfold tbl at e;rw[e];exact this
theorem BV(g:aY h E)(q:U7 h a f c){s:aB}(o:s∈h.K)(d:pX (tbl h) s.Q)(D:(af (tbl h) s.Q).j=f):fA s a/\(c:Int) / csz s.d=d9 s a/\a / 16=s.Q:=by
 obtain⟨F,G,H⟩:=g.mapped o;rcases q with⟨u,p,n,J,r,K⟩|⟨l,t,-,b,w,y,M⟩
 ·obtain⟨N,O,A⟩:=g.mapped p
  have:=d u.Q.toNat A (by grind [aY.pe]);obtain⟨i,B,rfl⟩:=aW o;obtain⟨j,C,rfl⟩:=aW p;have e:=du (f:=(·.Q)) g.L.nd B C ω;subst e;exact⟨n,r,by have:=n.1;have:=n.2.1;omega⟩
 exfalso;obtain⟨k,P,Q⟩:=wa (g.L.lok l t) w y
 grind [nv,aY.pe,nu.dis,aY.L]
theorem wg(l:aY h E)(d:JI h)(n:CI h)(i:h.q=true)(o:U7 h a f c)(e:c<16)(g:(c:Int)∈h.a.X.T):(af (tbl h) h.a.X.a4).j≠f:=λp=>by
 obtain⟨s,j,b,-,k,-,-⟩:=d.sp i;obtain⟨q,r,-⟩:=BV l o j (by grind [JI.sk]) (by rw[k];exact p);have:=n.jd i s j k c e g;rw[r]at this;have t:=q.2.2.2
 grind [d9]
theorem KG(i:aY h E)(e:JI h)(j:CI h)(g:h.q=true)(k:U7 h a f c)(q:(af (tbl h) (a / 16)).e≠1)(d:(c:Int)∈h.a.X.T.take h.a.b.toNat):(af (tbl h) h.a.X.a5).j≠f:=λl=>by
 obtain⟨-,-,b,n,-,o,-⟩:=e.sp g;obtain⟨-,-,r⟩:=BV i k n (by grind [JI.sm]) (by rw[o];exact l);by_cases p:h.a.b0=0
 ·rw[(j.jn g).1 p]at d;cases d
 grind [CI.m2]
theorem Gt(n c:Nat):nth (List.replicate n (0:Int)) c=0:=by
 unfold nth;rw[O4,List.getElem?_replicate];split<;>rfl
structure KL(k k':ah)(lo n:Int):Prop where
 out:∀q:Int,¬(lo<=q/\q<lo+n)->af k'.F.O q=af k.F.O q
 ins:∀q:Int,lo<=q->q<lo+n->(af k'.F.O q).e=0
 cel:∀f c:Nat,cl k' f c=cl k f c\/(cl k' f c=0/\∀p:Int,(af k'.F.O p).e≠0->(af k'.F.O p).j≠f)
theorem P1(k:ah)(F:Int)(f c:Nat):cl (iB k F) f c=cl k f c\/(cl (iB k F) f c=0/\F.toNat=f/\(pagesOn k.F.O F).length=0):=by grind [bW,Gt,iB,cl]
theorem qh{t:aO}(h:(af t p).e≠0):0<=p/\p<t.M.length/\af t p=nth t.M p.toNat:=by grind [af]
theorem Vu{t:aO}{F:Int}(h:(pagesOn t F).length=0)(a:(af t p).e≠0):(af t p).j≠F:=λe=>by
 obtain⟨b,c,d⟩:=qh a
 grind [fL]
def KL.refl(k:ah)(lo:Int):KL k k lo 0:=⟨λ_ _=>rfl,ω,λ_ _=>.inl rfl⟩
theorem KL.unmap(d:aI k=true)(g:0<=p/\p<k.F.O.M.length):KL k (dm k p) p 1:=by
 have a:=uD d g;have b:=(nQ k p).1;have h:∀q:Int,af (dm k p).F.O q=if q=p then⟨0,0⟩ else af k.F.O q:=λq=>by grind [af]
 refine⟨ψ,ψ,λf c=>?_⟩;unfold dm;split
 ·exact .inl rfl
 rename_i i;rcases P1 (nE k p) (af k.F.O p).j f c with e|⟨j,l,n⟩
 ·exact .inl e
 grind [qj,Vu,nN]
variable{lo n:Int}
theorem KL.trans{d g:ah}{m:Int}(h:0<=n/\0<=m)(a:KL k d lo n)(b:KL d g (lo+n) m):KL k g lo (n+m):=by
 refine⟨λq i=>(b.out q ω).trans (a.out q ω),λq j l=>?_,λf c=>?_⟩
 ·by_cases e:lo+n<=q
  ·grind [KL.ins]
  rw[b.out q ω];grind [KL.ins]
 rcases b.cel f c with e|e
 all_goals grind [KL.cel,KL.ins,KL.out]
theorem KL.unmN{k:ah}(a:aI k=true){p:Int}(b:0<=p):∀n:Nat,p+n<=k.F.O.M.length->KL k (unmN k p n) p n
 | 0,_=>KL.refl k p
 | n+1,h=>by
  have c:=KL.unmN a b n ω;have d:=KL.unmap (iI a p n) (p:=p+n) ⟨ω,by grind [fY]⟩;have:=KL.trans ω c d;rw[show((n:Nat):Int)+1=((n+1:Nat):Int) by omega]at this;exact this
theorem KL.md{b:ah}(a:KL k b lo n)(c:b.F.O.M.length=k.F.O.M.length)(q:Nat)(h:(nth b.F.O.M q).e≠0):nth b.F.O.M q=nth k.F.O.M q:=by
 have d:=xb h;have e:af b.F.O (q:Nat)=nth b.F.O.M q:=by grind [af]
 grind [KL.ins,KL.out,af]
def HK(h:0<=aN n):n<=csz (aN n):=by
 have a:=iv h;have:n=1\/n=2\/n=3\/n=4\/n=5\/n=6\/n=7\/n=8:=ω
 rcases this with e|e|e|e|e|e|e|e<;>rw[e]<;>decide
theorem Vq(k:aY h E)(l:o∈h.J)(d:¬aN o.k<0)(g:uq h o f c):f=cW h.G o.Addr/\(o.Addr % 16).toNat<=c/\c<(o.Addr % 16).toNat+(csz (aN o.k)).toNat:=by
 obtain⟨⟨s,p,q,r⟩,-⟩:=(dJ k l).2 d;obtain⟨w,y,t,-⟩:=q;have a:=HK (n:=o.k) ω;have i:=bT (aJ (k.L.sok s p)).2.2;rw[<-r]at a |-;obtain⟨j,A,B,b⟩:=g;have u:=b.c;have C:=b.f;have D:(o.Addr+j) / 16=o.Addr / 16:=by rcases i with e|e|e|e<;>rw[e]at t a<;>omega
 grind [cW]
theorem CI.clrS{h:ac}{E:List Int}(n:aY h E)(p:CI h){i:Nat}{a:Int}(g:i<h.K.length)(l:fA (nth h.K i) a):CI (clrS h i a):=by
 have b:=n.L.sok _ (ax g);refine p.keep rfl rfl (λq h=>h) (λ_=>⟨rfl,rfl⟩) (λf c _ _=>.inl rfl) (λo r f c _ d _=>⟨o,r,d⟩) (λ_ c _=>⟨rfl,rfl⟩) λ_ u e _=>?_
 rcases g9 e with rfl|⟨j,w,-,rfl⟩
 ·refine⟨_,ax g,rfl,rfl,λk t=>((KN (eS b) (sW b ⟨l.1,l.2.1⟩) k).1 t).1⟩
 grind [ax]
variable{j:Int}
theorem UH(a:aY h E)(p:o∈h.J)(h1:0<=j)(h2:j<o.k){s:aB}(r:s∈h.K)(S:(o.Addr+j) / 16=s.Q):fA s o.Addr:=by
 obtain⟨T,U,V⟩:=a.mapped r;have t:=(di a p (k:=j) ⟨h1,ω⟩).1;have w:=At.mk' a.ker t;rcases lv a p ⟨j,h1,h2,w⟩ with⟨u,H,F,-,-,-⟩|⟨l,b,W,-⟩
 ·rcases a.oow o p with⟨v,q,c,J⟩|⟨l,b,K,M⟩
  ·have y:=a.L.sok v q
   have A:=aJ y;have B:=bT A.2.2;have N:=c;obtain⟨X,Y,O,-⟩:=c;have C:o.k<=csz v.d:=by
    have Z:=iv (n:=o.k) ω;rw[J];have:o.k=1\/o.k=2\/o.k=3\/o.k=4\/o.k=5\/o.k=6\/o.k=7\/o.k=8:=ω
    rcases this with e|e|e|e|e|e|e|e<;>rw[e]<;>decide
   have P:(o.Addr+j) / 16=v.Q:=by rcases B with e|e|e|e<;>rw[e]at O C<;>omega
   obtain⟨i,Q,rfl⟩:=aW r;obtain⟨k,R,rfl⟩:=aW q;have:=du (f:=(·.Q)) a.L.nd Q R ω
   grind
  exfalso;have:=aR (a.L.lok l b);exact a.L.dis u H l b 0 ω (by have:=F.1;have:=F.2.1;omega)
 exfalso;have G:=a.L.lok l b;unfold bI at G;rw[C0]at G;rcases a.oow o p with⟨v,q,c,-⟩|⟨D,d,K,M⟩
 ·exact a.L.dis v q l b 0 ω (by have:=c.1;have:=c.2.1;omega)
 have g:=a.L.lok D d;unfold bI at g;rw[C0]at g;exact a.L.dis s r D d ((o.Addr+j) / 16 - D.Q).toNat ω ω
theorem CI.giveP{h:ac}{E:List Int}(b:aY h E)(f:CI h){i:Nat}(e:i<h.K.length)(g:(nth h.K i).a9=0)(c:gq h (nth h.K i).Q=false):CI (giveP h i)/\Kp h (giveP h i):=by
 obtain⟨k,l,y⟩:=b.mapped (ax e);have kl:=KL.unmap b.ker (p:=(nth h.K i).Q) ⟨k,l⟩;refine CI.kern b f (λo a=>a) rfl rfl (λo a n=>absurd a n) (λq r=>?_) (λt=>?_) (λo a j u w=>?_) kl.cel (λ_ A d _=>?_)
 ·have:=kl.md (nQ _ _).1 q (by show(nth (tbl (Ab.giveP h i)).M q).e≠0;omega)
  show(nth h.G.F.O.M q).e=1;rw[<-this];exact r
 ·obtain⟨B,C⟩:=B5 c t
  exact⟨kl.out _ ω,kl.out _ ω⟩
 ·refine kl.out _ λD=>?_
  exact zH g _ (UH b a u w (ax e) ω)
 obtain⟨j,F,-,rfl⟩:=dZ.1 d
 grind [ax]
def CI.freeS{h:ac}{E:List Int}{a:Int}{i:Nat}(c:aY h (a::E))(j:CI h)(b:i<h.K.length)(d:fA (nth h.K i) a):CI (freeS h i a)/\Kp h (freeS h i a):=by
 have k:=c.give b d;have f:=CI.clrS c j b d;unfold Ab.freeS;split
 ·rename_i e
  have g:nth (Ab.clrS h i a).K i=mK (nth h.K i) (d9 (nth h.K i) a):=by unfold Ab.clrS;simp only[bW,true_and];rw[CL b]
  obtain⟨l,n⟩:=CI.giveP (h:=Ab.clrS h i a) k f (i:=i) (by unfold Ab.clrS;simp only[C3];exact b) (by rw[g];exact e.1) (by rw[g];exact e.2);exact⟨l,n⟩
 exact⟨f,Co h⟩
theorem CI.freeA{h:ac}{E:List Int}{a:Int}(b:aY h (a::E))(c:CI h):CI (freeA h a)/\Kp h (freeA h a):=by
 obtain⟨d,e,-⟩:=b.at (b.hin a ψ);exact CI.freeS b c d e
theorem CI.recyc{h:ac}{E:List Int}{a:Int}{t:Nat}(c:aY h (a::E))(b:CI h):CI (recyc t h a)/\Kp h (recyc t h a):=by
 unfold Ab.recyc;split
 ·exact⟨⟨b.z,b.jv,b.jd,b.jc,b.jn,b.m1,b.m2⟩,Co h⟩
 grind [CI.freeA]
def CI.recycs{t:Nat}{E:List Int} : ∀{az:List Int}{h:ac},aY h (az++E)->t<h.R.length->CI h->CI (recycs t h az)/\Kp h (recycs t h az)
 | [],h,_,_,b=>⟨b,Co h⟩
 | a::az,h,c,d,b=>by
  obtain⟨e,f⟩:=CI.recyc (t:=t) c b;obtain⟨g,i⟩:=CI.recycs (az:=az) (h:=Ab.recyc t h a) (c.recyc d) (by rw[(q7 t h a).1];exact d) e;exact⟨g,f.trans i⟩
def CI.freeAs{E:List Int} : ∀{az:List Int}{h:ac},aY h (az++E)->CI h->CI (freeAs h az)/\Kp h (freeAs h az)
 | [],h,_,b=>⟨b,Co h⟩
 | a::az,h,c,b=>by
  obtain⟨d,e⟩:=CI.freeA c b;obtain⟨f,g⟩:=CI.freeAs (az:=az) (h:=Ab.freeA h a) c.freeA d;exact⟨f,e.trans g⟩
theorem CI.flushN{t:Nat}{h:ac}(c:aY h [])(d:t<h.R.length)(e:CI h):∀{k:Nat},k<=4->CI (flushN t h k).1/\Kp h (flushN t h k).1
 | 0,_=>⟨e,Co h⟩
 | k+1,p=>by
  obtain⟨a,g⟩:=CI.flushN c d e (k:=k) ω;obtain⟨f,q,-⟩:=jT c d (k:=k) ω;have b:t<(Ab.flushN t h k).1.R.length:=ω
  have i:=oN (f.cach _ (ax b));have j:=f.spilt b (k:=k) ω;have l:CI (spilt (Ab.flushN t h k).1 t k):=⟨a.z,a.jv,a.jd,a.jc,a.jn,a.m1,a.m2⟩
  obtain⟨n,o⟩:=CI.freeAs j l;exact⟨n,g.trans o⟩
def CI.tick{h:ac}{n:Int}(c:aY h [])(a:CI h)(d:0<=n)(b:h.b1+n<=1000000):CI (tick h n)/\Kp h (tick h n):=by
 have e:=c.aged d b;have f:CI (aged h n):=⟨a.z,a.jv,a.jd,a.jc,a.jn,a.m1,a.m2⟩
 exact CI.freeAs e f
def CI.collect{h:ac}{t:Nat}(b:aY h [])(a:CI h)(c:t<h.R.length):CI (collect h t)/\Kp h (collect h t):=by
 have g:=(eC.1 b.mail).1;have d:=b.nc;have e:=b.coll (t:=t) ω;have f:CI {h with w:=jB h.w t}:=⟨a.z,a.jv,a.jd,a.jc,a.jn,a.m1,a.m2⟩
 exact CI.recycs e c f
theorem xz(r:List Int)(o:Nat):∀(n c:Nat),nth (ju r o n) c=if o<=c/\c<o+n then 0 else nth r c
 | 0,c=>by rw[CJ ω];rfl
 | n+1,c=>by
  unfold ju;rw[bW,xz r o n c,n9];by_cases e:o+n=c
  ·rw[CL (show o<=c/\c<o+(n+1) by omega)]
   by_cases a:c<r.length
   ·rw[CL ⟨e,a⟩]
   rw[CJ ω,CJ ω];unfold nth;rw[O4,I4 ω];rfl
  rw[CJ ω];by_cases a:o<=c/\c<o+n
  ·rw[CL a,CL ω]
  rw[CJ a,CJ ω]
theorem Am(k:ah)(a:Int)(n f c:Nat):cl (eI k a n) f c=cl k f c\/(cl (eI k a n) f c=0/\f=cW k a/\(a % 16).toNat<=c/\c<(a % 16).toNat+n):=by grind [bW,xz,cl,eI]
theorem L0{n:Nat}(h1:(a % 16).toNat<=c)(h2:c<(a % 16).toNat+n):cl (eI k a n) (cW k a) c=0:=by
 unfold cl eI;simp only[bW];by_cases e:cW k a<k.F.V.T.length
 ·grind [xz]
 rw[CJ (λx=>e x.2)];have:nth k.F.V.T (cW k a)=[]:=by
  unfold nth;rw[O4,I4 ω];rfl
 rw[this];rfl
theorem CI.clearO(b:aY h E)(V:JI h)(W:CI h)(y:i<h.J.length)(A:¬aN (nth h.J i).k<0)(hw:(af (tbl h) ((nth h.J i).Addr / 16)).e≠1)(B:h'.G=eI h.G (nth h.J i).Addr (csz (aN (nth h.J i).k)).toNat)(X:h'.J=dele h.J i)(e3:h'.K=h.K)(Y:h'.a=h.a)(Z:h'.q=h.q):CI h'/\Kp h h':=by
 obtain⟨⟨s,C,P,s2⟩,hc3⟩:=(dJ b (ax y)).2 A;have D:=P;obtain⟨g1,g2,g3,-⟩:=P;have q:=b.L.sok s C;have hcs:=bT (aJ q).2.2;obtain⟨m1,m2,m3⟩:=b.mapped C;have F:(nth h.J i).Addr / 16=s.Q:=ω
 have Q:tbl h'=tbl h:=by unfold tbl;rw[B];rfl
 have G:(af (tbl h) s.Q).j=(cW h.G (nth h.J i).Addr:Nat):=by
  unfold cW;rw[F];exact nN b.ker (by show(af (tbl h) s.Q).e≠0;grind [aY.pe])
 have R:∀c:Nat,((nth h.J i).Addr % 16).toNat<=c->c<((nth h.J i).Addr % 16).toNat+(csz (aN (nth h.J i).k)).toNat->U7 h (nth h.J i).Addr (cW h.G (nth h.J i).Addr) c/\c<16:=λc h1 h2=>by
  rw[<-s2]at h2;have l:c<16:=ψ
  refine⟨.inl ⟨s,C,D,G,?_,l⟩,l⟩
  grind [d9]
 have cv:∀o∈h.J,∀f c:Nat,uq h o f c->uq h' o f c:=λo d f c ⟨j,w,H,a⟩=>by
  have e:h'.G.F.O=h.G.F.O:=Q;exact⟨j,w,H,by rw[e];exact a.m,by rw[e];exact a.f,a.c⟩
 have same:∀o∈h.J,o≠nth h.J i->∀f c:Nat,uq h o f c->cl h'.G f c=cl h.G f c:=λo d hne f c r=>by
  rw[B];rcases Am h.G (nth h.J i).Addr (csz (aN (nth h.J i).k)).toNat f c with g|⟨-,J,K,M⟩
  ·exact g
  exfalso;have S:=(R c K M).1;rw[<-J]at S;have ea:=zL b (lv b d r) S;obtain⟨k,n,rfl⟩:=aW d;have:=du (f:=(·.Addr)) (dv b.osr) n y ea
  grind
 have notO:∀o∈h'.J,o≠nth h.J i/\o∈h.J:=λo d=>by
  rw[X]at d;obtain⟨k,n,N,rfl⟩:=dZ.1 d;refine⟨λe=>N ?_,ax n⟩;exact du (f:=(·.Addr)) (dv b.osr) n y (by rw[e])
 refine⟨W.keep Y Z ψ ψ (λf c _ h0=>.inl ?_) (λo d f c l r h0=>?_) (λhm c t=>?_) ψ,λo d=>⟨(notO o d).2,λj w H=>?_⟩⟩
 ·grind [Am]
 ·grind [Vq,L0,aW,dZ]
 ·have T:c<16:=by
   have O:=List.mem_of_mem_take t;obtain⟨k,n,e⟩:=aW O;have:=gx (dX.1 (b.job hm).1).1 n;omega
  have key:∀p:Int,(af (tbl h) p).e≠0->(∀c:Nat,U7 h (nth h.J i).Addr (cW h.G (nth h.J i).Addr) c->c<16->(c:Int)∈h.a.X.T.take h.a.b.toNat->(af (tbl h) p).j≠(cW h.G (nth h.J i).Addr:Nat))->cl h'.G (bV h.G p) c=cl h.G (bV h.G p) c:=λp hp N=>by
   rw[B];rcases Am h.G (nth h.J i).Addr (csz (aN (nth h.J i).k)).toNat (bV h.G p) c with g|⟨-,J,K,M⟩
   ·exact g
   exfalso;obtain⟨x1,x2⟩:=R c K M;refine N c x1 x2 t ?_;rw[<-J];exact nN b.ker hp
  grind [aY.jobM,wg,KG]
 obtain⟨o1,U⟩:=notO o d;have a:=At.mk' b.ker (di b U (k:=j) ⟨w,ω⟩).1;have u:At h'.G (o.Addr+j) (cW h.G (o.Addr+j)) ((o.Addr+j) % 16).toNat:=by
  have e:h'.G.F.O=h.G.F.O:=Q;exact⟨by rw[e];exact a.m,by rw[e];exact a.f,a.c⟩
 rw[u.cell,a.cell];exact same o U o1 _ _ ⟨j,w,H,a⟩
theorem sw(d:aI k=true)(g:∀p:Int,(af k.F.O p).e≠0->(af k.F.O p).j≠f)(c:Nat):cl k f c=0:=by
 obtain⟨-,h,-,i,-⟩:=aH.1 d;obtain⟨-,-,r,j⟩:=bi.1 h;unfold cl;by_cases n:f<k.F.V.T.length
 ·have o:nth k.F.V.a6 f=false:=by
   rw[i f ω,z9];intro a;obtain⟨q,t,u,w⟩:=fL.1 a;have e:af k.F.O (q:Nat)=nth k.F.O.M q:=by unfold af;simp_all
   grind
  have b:=j f n;unfold jw at b;rw[o]at b;simp only[I0,C0,O7]at b;by_cases y:c<(nth k.F.V.T f).length
  ·grind [ax,kw]
  unfold nth;rw[O4 (l:=List.getD _ _ _),I4 (by grind [nth])];rfl
 have:nth k.F.V.T f=[]:=by
  unfold nth;rw[O4,I4 ω];rfl
 rw[this];rfl
theorem CI.freeL{h:ac}{E:List Int}(d:aY h E)(T:CI h){i k:Nat}(N:i<h.J.length)(r:k<h.H.length)(U:(nth h.J i).Addr=16*(nth h.H k).Q):CI (freeL h i k)/\Kp h (freeL h i k):=by
 obtain⟨V,W⟩:=xT d r;have w:=d.L.lok _ (ax r);have X:=aR w;have kl:=KL.unmN d.ker V _ W;have ker:=iI d.ker (nth h.H k).Q (nth h.H k).a1.toNat;have t:=(fY h.G (nth h.H k).Q (nth h.H k).a1.toNat).1;have notO:∀o∈dele h.J i,o≠nth h.J i/\o∈h.J:=λo n=>by
  obtain⟨j,y,Y,rfl⟩:=dZ.1 n;exact⟨λe=>Y (du (f:=(·.Addr)) (dv d.osr) y N (by rw[e])),ax y⟩
 have onL:∀b:Int,(nth h.H k).Q<=b / 16->b / 16<(nth h.H k).Q+((nth h.H k).a1.toNat:Nat)->∀f c:Nat,At h.G b f c->U7 h (nth h.J i).Addr f c:=λb h1 h2 f c g=>.inr ⟨_,ax r,U,b,ω,ω,g⟩
 refine CI.kern d T (λo n=>(notO o n).2) rfl rfl (λo n Z f c h16 A=>?_) (λq hq=>?_) (λhm=>?_) (λo n j B O=>?_) kl.cel (λ_ s' C _=>⟨s',C,rfl,rfl,λ_ h=>h⟩)
 ·-- the object itself
  have D:o=nth h.J i:=by
   refine Classical.byContradiction λe=>Z ?_
   obtain⟨j,y,rfl⟩:=aW n;exact dZ.2 ψ
  subst D;rcases kl.cel f c with e|e
  ·refine sw ker (λp F G=>?_) c
   obtain⟨j,B,O,g⟩:=A;have hsz:(nth h.J i).k<=16*(nth h.H k).a1:=by
    rcases d.oow _ n with⟨s,H,P,-⟩|⟨l,Q,e1,e2⟩
    ·exact absurd (show s.Q=(nth h.H k).Q+((0:Nat):Int) by have:=P.1;have:=P.2.1;omega) (d.L.dis s H _ (ax r) 0 ω)
    obtain⟨m,J,rfl⟩:=aW Q;have:=d.L.one m k J r 0 0 (by have:=aR (d.L.lok _ Q);omega) ω ω
    grind [bI]
   by_cases R:(nth h.H k).Q<=p/\p<(nth h.H k).Q+((nth h.H k).a1.toNat:Nat)
   ·grind [KL.ins]
   have u:=kl.out p R;change af (unmN h.G (nth h.H k).Q (nth h.H k).a1.toNat).F.O p=_ at u;change (af (unmN h.G (nth h.H k).Q (nth h.H k).a1.toNat).F.O p).e≠0 at F;change (af (unmN h.G (nth h.H k).Q (nth h.H k).a1.toNat).F.O p).j=_ at G;rw[u]at F G;have:=nv d (ax r) (b:=(nth h.J i).Addr+j) ω ω g F G;omega
  exact e.1
 ·have:=kl.md t q (by show(nth (tbl (Ab.freeL h i k)).M q).e≠0;omega)
  show(nth h.G.F.O.M q).e=1;rw[<-this];exact hq
 ·obtain⟨-,⟨a,ha,K⟩,b,hb,eb⟩:=d.job hm
  have no:∀s∈h.K,¬((nth h.H k).Q<=s.Q/\s.Q<(nth h.H k).Q+((nth h.H k).a1.toNat:Nat)):=λs H R=>d.L.dis s H _ (ax r) (s.Q - (nth h.H k).Q).toNat ω ω
  exact⟨by rw[<-K];exact kl.out _ (no a ha),by rw[<-eb];exact kl.out _ (no b hb)⟩
 obtain⟨o1,M⟩:=notO o n;refine kl.out _ λS=>o1 ?_
 have g:=At.mk' d.ker (di d M (k:=j) ⟨B,ω⟩).1;have e:=zL d (lv d M ⟨j,B,O,g⟩) (onL _ S.1 S.2 _ _ g);obtain⟨m,J,rfl⟩:=aW M;rw[du (f:=(·.Addr)) (dv d.osr) J N e]
theorem CI.freeT{h:ac}{t i:Nat}(c:aY h [])(b:JI h)(e:CI h)(d:i<h.J.length)(g:t<h.R.length):CI (freeT h t i).1/\Kp h (freeT h t i).1:=by
 unfold Ab.freeT;split
 ·rename_i a
  obtain⟨l,q,j,-⟩:=(dJ c (ax d)).1 a
  grind [qr,CI.freeL]
 rename_i a;split
 ·grind [Co]
 rename_i f;split
 ·obtain⟨k,n⟩:=CI.clearO (h':=inQuar h i) c b e d a f rfl rfl rfl rfl rfl
  have j:=c.inQuar d a;obtain⟨o,p⟩:=CI.recycs (t:=t) (E:=[]) (az:=(vN h.a7 (jS h (nth h.J i))).map (·.Addr)) (h:=inQuar h i) ψ g k;exact⟨o,n.trans p⟩
 split
 ·exact CI.clearO (h':=Au h t i) c b e d a f rfl rfl rfl rfl rfl
 grind [Co]
structure KA(k k':ah)(lo n:Int):Prop where
 out:∀q:Int,¬(lo<=q/\q<lo+n)->af k'.F.O q=af k.F.O q
 md:∀q:Nat,(nth k'.F.O.M q).e=1->(nth k.F.O.M q).e=1
 cel:∀f c:Nat,cl k' f c=cl k f c
theorem Uf{a:ah}(b:a.F.O.M.length=k.F.O.M.length)(h:∀q:Nat,¬(lo<=q/\(q:Int)<lo+n)->nth a.F.O.M q=nth k.F.O.M q)(q:Int)(c:¬(lo<=q/\q<lo+n)):af a.F.O q=af k.F.O q:=by grind [af]
theorem KA.newK{r:ah × Bool}(s:vk k p r):KA k r.1 p 1:=by
 cases e:r.2 with
 | false=>rw[s.no e];exact⟨λ_ _=>rfl,λ_ h=>h,λ_ _=>rfl⟩
 | true=>
  obtain⟨f,-,-,a,-⟩:=s.yes e;refine⟨Uf s.len ψ,λq b=>?_,λf c=>by grind [vk.cells,cl]⟩
  grind
theorem KA.newsK{n:Nat}{r:ah × Nat}(s:gI k p n r):KA k r.1 p r.2:=by
 refine⟨Uf s.len s.out,λq a=>?_,λf c=>by grind [gI.cells,cl]⟩
 grind [gI.new,gI.out]
theorem qz(b:aY h E)(c:∀q:Nat,lo<=q->(q:Int)<lo+n->(nth (tbl h).M q).e=0)(a:(af (tbl h) p).e≠0):¬(lo<=p/\p<lo+n):=λd=>by
 obtain⟨e,-,f⟩:=qh a
 grind
theorem CI.mapped(a:aY h E)(l:CI h)(b:KA h.G h'.G lo n)(e:∀q:Nat,lo<=q->(q:Int)<lo+n->(nth (tbl h).M q).e=0)(p:h'.J=h.J)(r:h'.a=h.a)(g:h'.q=h.q)(t:h.q=true->∀i∈h'.K,i.Q=h.a.X.a4\/i.Q=h.a.X.a5->i∈h.K):CI h'/\Kp h h':=by
 refine CI.kern a l ψ r g ψ b.md (λd=>?_) (λo d j u A=>?_) (λf c=>.inl (b.cel f c)) ψ
 ·obtain⟨w,y⟩:=a.jobM d
  exact⟨b.out _ (qz a e w),b.out _ (qz a e y)⟩
 rw[p]at d;exact b.out _ (qz a e (di a d (k:=j) ⟨u,ω⟩).1)
structure CA(h:ac)(r:ac):Prop where
 ci:CI r
 kp:Kp h r
 ob:r.J=h.J
theorem CI.slotT{h:ac}(e:CI h){i:Nat}(r:i<h.K.length)(a:gq h (nth h.K i).Q=false):CI (slotT h i):=by
 refine e.keep rfl rfl (λq h=>h) (λ_=>⟨rfl,rfl⟩) (λf c _ _=>.inl rfl) (λo g f c _ b _=>⟨o,g,b⟩) (λ_ c _=>⟨rfl,rfl⟩) λk t d l=>?_
 rcases g9 d with rfl|⟨j,u,-,rfl⟩
 ·obtain⟨n,p⟩:=B5 a k
  exact(l.elim n p).elim
 grind [ax]
theorem CI.smallA{h:ac}{t c:Nat}(b:aY h [])(a:CI h)(K:t<h.R.length)(u:c<=3)(w:h.G.Calls<=90000):CA h (smallA h t c).1:=by
 unfold Ab.smallA;split
 ·exact⟨⟨a.z,a.jv,a.jd,a.jc,a.jn,a.m1,a.m2⟩,Co h,rfl⟩
 split
 ·rename_i i o
  have k:=List.find?_some o;have f:=List.mem_range.1 (List.mem_of_find?_eq_some o);unfold qQ at k;simp only[I0,C0,Bool.not_eq_true']at k;exact⟨CI.slotT a f k.2.1,Co h,rfl⟩
 split
 ·exact⟨a,Co h,rfl⟩
 rename_i A;have d:(ay h.o 1).2.2=true:=by simpa using A
 obtain⟨B,C,D,q⟩:=jQ b (O9 1) d;have s:=vk.of (p:=(ay h.o 1).2.1) b.ker ω ⟨B,by have:(ay h.o 1).2.1+1<=(h.G.F.O.M.length:Nat):=C;omega⟩ (D _ ω ω);have r:=KA.newK s;split
 ·obtain⟨g,j⟩:=CI.mapped (h':={h with G:=(newK h.G (ay h.o 1).2.1).1}) b a r ω rfl rfl rfl ψ
  exact⟨g,j,rfl⟩
 rename_i E;have F:(newK h.G (ay h.o 1).2.1).2=true:=by simpa using E
 have l:vk h.G (ay h.o 1).2.1 ((newK h.G (ay h.o 1).2.1).1,true):=ψ
 have L:=b.addS (c:=c) ω d l;have G:JK h (oz h c):=JK.addS l;have jno:∀n:h.q=true,(ay h.o 1).2.1≠h.a.X.a4/\(ay h.o 1).2.1≠h.a.X.a5:=λn=>by
  obtain⟨-,⟨y,M,N⟩,⟨z,O,P⟩⟩:=b.job n;exact⟨λe=>q _ (O9 _) ω (by grind [fw]),λe=>q _ (O9 _) ω (by grind [fw])⟩
 obtain⟨g,j⟩:=CI.mapped (h':=oz h c) b a r ω rfl rfl rfl (λn l f Q=>by
   rcases dy.1 f with rfl|f
   all_goals grind)
 obtain⟨H,J⟩:=HW (J4 (ay h.o 1).2.1) h.K ⟨(ay h.o 1).2.1,c,0⟩;unfold mr;split
 ·exact⟨g,j,rfl⟩
 refine⟨CI.slotT (h:=oz h c) g (i:=o8 h) H ?_,j,rfl⟩;show gq (oz h c) (nth (lA (J4 (ay h.o 1).2.1) h.K ⟨(ay h.o 1).2.1,c,0⟩) (o8 h)).Q=false;unfold o8;rw[J,G.pg,<-SA]
 grind [gq]
structure Xu(h h':ac)(x:bg):Prop where
 mem:∀o,o∈h'.J↔o=x\/o∈h.J
 ze:∀j:Int,0<=j->j<x.k->gt h'.G (x.Addr+j)=0
 ke:∀o∈h.J,∀j:Int,0<=j->j<o.k->gt h'.G (o.Addr+j)=gt h.G (o.Addr+j)
theorem Xu.of{g:ac}{H:List Int}{x:bg}(A:aY g E)(J:CI g)(b:aY h' H)(l:JI h')(w:CI h')(B:∀p:Int,(af (tbl g) p).e≠0->af (tbl h') p=af (tbl g) p)(d:∀f c,cl h'.G f c=cl g.G f c)(y:∀o,o∈h'.J↔o=x\/o∈g.J)(O:x∉g.J)(P:h'.a=g.a)(K:h'.q=g.q)(C:g.J=h.J)(L:Kp h g):Xu h h' x:=by
 have Q:∀o∈g.J,∀f c:Nat,uq g o f c->uq h' o f c:=λo C f c ⟨j,i,n,a⟩=>by
  have e:=B _ a.m;unfold tbl at e;exact⟨j,i,n,by rw[e];exact a.m,by rw[e];exact a.f,a.c⟩
 refine⟨ψ,λj i n=>?_,λo D j i n=>?_⟩
 ·have q:=(y x).2 (.inl rfl)
  have a:=At.mk' b.ker (di b q (k:=j) ⟨i,ω⟩).1;rw[a.cell];refine Classical.byContradiction λF=>?_
  have r:((x.Addr+j) % 16).toNat<16:=ω
  rw[d]at F;have t:uq h' x _ _:=⟨j,i,n,a⟩
  rcases J.z _ _ r F with⟨o,D,M⟩|⟨N,R,S⟩
  ·grind [PE]
  refine wg b l w (by rw[K];exact N) (lv b q t) r ψ ?_
  grind [aY.jobM]
 have G:o∈g.J:=by rw[C];exact D
 refine Eq.trans ?_ ((L o G).2 j i n);have a:=At.mk' A.ker (di A G (k:=j) ⟨i,ω⟩).1;have e:=B _ a.m;have u:At h'.G (o.Addr+j) (cW g.G (o.Addr+j)) ((o.Addr+j) % 16).toNat:=by
  unfold tbl at e;exact⟨by rw[e];exact a.m,by rw[e];exact a.f,a.c⟩
 rw[u.cell,a.cell,d]
def CI.addO{h:ac}(e:CI h)(a size t:Int):CI (addO h a size t):=
 e.keep rfl rfl (λq h=>h) (λ_=>⟨rfl,rfl⟩) (λf c _ _=>.inl rfl) (λo g f c _ b _=>⟨o,dy.2 (.inr g),b⟩) (λ_ c _=>⟨rfl,rfl⟩) λ_ i d _=>⟨i,d,rfl,rfl,λ_ h=>h⟩
structure AL(h:ac)(t size:Int)(r:ac × Int × Int):Prop where
 ci:CI r.1
 no:r.2.2≠0->r.1.J=h.J/\Kp h r.1/\r.1.b=h.b/\r.2.1 = -1
 yes:r.2.2=0->Xu h r.1 ⟨h.b,r.2.1,size,t⟩/\r.1.b=h.b+1/\1<=size/\size<=1000/\0<=r.2.1
theorem TV(b:aY h E){size t:Int} : (⟨h.b,a,size,t⟩ : bg)∉h.J:=λc=>by
 have:=(b.onu _ c).2.1
 grind
theorem CI.largeA{h:ac}{t size:Int}(b:aY h [])(A:JI h)(w:CI h)(J:9<=size/\size<=1000)(R:h.b<1000000)(B:h.G.Calls<=90000)(S:0<=t/\t<=h.R.length - 1):AL h t size (largeA h t size):=by
 have hl:(iO size:Int)=(size+15) / 16:=by unfold iO;omega
 have a:=Gm b J R B S;unfold Ab.largeA at a |-;by_cases C:(ay h.o (iO size:Nat)).2.2=false
 ·rw[CL C]
  exact⟨w,λ_=>⟨rfl,Co h,rfl,rfl⟩,λe=>by cases e⟩
 rw[CJ C]at a |-;have D:(ay h.o (iO size:Nat)).2.2=true:=by simpa using C
 obtain⟨K,L,T,u4⟩:=jQ b ω D;have s:gI h.G (ay h.o (iO size:Nat)).2.1 (iO size) (fp h size):=gI.of (p:=(ay h.o (iO size:Nat)).2.1) (n:=iO size) b.ker ω ⟨K,L⟩ T (iO size) (C5 _);have d:=KA.newsK s;have U:=s.le;have i:∀q:Nat,(ay h.o (iO size:Nat)).2.1<=q->(q:Int)<(ay h.o (iO size:Nat)).2.1+(fp h size).2->(nth (tbl h).M q).e=0:=ψ
 by_cases M:(fp h size).2=iO size
 ·rw[CL M]at a |-
  obtain⟨N,E⟩:=a;have ji1:=A.keep N E;have r:∀o,o∈(addL h (fp h size).1 (ay h.o (iO size:Nat)).1 (ay h.o (iO size:Nat)).2.1 (iO size:Nat) size t).J↔o = ⟨h.b,16*(ay h.o (iO size:Nat)).2.1,size,t⟩\/o∈h.J:=λo=>dy
  have V:=CI.mapped (h':={h with G:=(fp h size).1}) b w d i rfl rfl rfl ψ;have y:CI (addL h (fp h size).1 (ay h.o (iO size:Nat)).1 (ay h.o (iO size:Nat)).2.1 (iO size:Nat) size t):=
   V.1.keep rfl rfl (λq h=>h) (λ_=>⟨rfl,rfl⟩) (λf c _ _=>.inl rfl) (λo u f c _ F _=>⟨o,dy.2 (.inr u),F⟩) (λ_ c _=>⟨rfl,rfl⟩) λ_ W G _=>⟨W,G,rfl,rfl,λ_ h=>h⟩
  refine⟨y,λe=>absurd rfl e,λ_=>⟨?_,rfl,ω,J.2,ψ⟩⟩;exact Xu.of (g:=h) b w N ji1 y (λp X=>d.out p (qz b i X)) d.cel r (TV b) rfl rfl rfl (Co h)
 rw[CJ M]at a |-;have H:=s.len;have kl:=KL.unmN s.ker K (fp h size).2 (by rw[H];have:(ay h.o (iO size:Nat)).2.1+((iO size:Nat):Int)<=(h.G.F.O.M.length:Nat):=L;omega);have l:=((fY (fp h size).1 (ay h.o (iO size:Nat)).2.1 (fp h size).2).1)
 obtain⟨y,Y⟩:=CI.kern (h':={h with G:=unmN (fp h size).1 (ay h.o (iO size:Nat)).2.1 (fp h size).2}) b w (λo u=>u) rfl rfl ψ (λq O=>d.md q (by rw[<-kl.md l q (by show(nth (unmN (fp h size).1 _ _).F.O.M q).e≠0;have:(nth (unmN (fp h size).1 (ay h.o (iO size:Nat)).2.1 (fp h size).2).F.O.M q).e=1:=O;omega)];exact O)) (λZ=>by
     obtain⟨P,Q⟩:=b.jobM Z;exact⟨(kl.out _ (qz b i P)).trans (d.out _ (qz b i P)),(kl.out _ (qz b i Q)).trans (d.out _ (qz b i Q))⟩) (λo u j E j2=>by
     have:=qz b i (di b u (k:=j) ⟨E,ω⟩).1;exact(kl.out _ this).trans (d.out _ this)) (λf c=>by
     rcases kl.cel f c with e|e
     · grind [KA.cel]
     exact .inr e) ψ
 exact⟨y,λ_=>⟨rfl,Y,rfl,rfl⟩,λe=>by cases e⟩
theorem CI.allocH{h:ac}{t size:Int}(d:aY h [])(f:JI h)(j:CI h):AL h t size (allocH h t size):=by
 have a:=G5 (t:=t) (size:=size) d;have no:∀n:Int,n≠0->AL h t size (h,-1,n):=λn D=>⟨j,λ_=>⟨rfl,Co h,rfl,rfl⟩,ψ⟩
 unfold Ab.allocH at a |-;by_cases u:1000000<=h.b\/90000<h.G.Calls
 ·grind
 rw[CJ u]at a |-;by_cases w:¬(0<=t/\t<=h.R.length - 1)
 ·grind
 rw[CJ w]at a |-;by_cases y:¬(1<=size/\size<=1000)
 ·grind
 rw[CJ y]at a |-;by_cases A:h.c1<pB h+size
 ·grind
 rw[CJ A]at a |-;by_cases i:0<=aN size
 ·rw[CL i]at a |-
  have B:aN size<=3:=by grind [aN]
  have s:=qk (t:=t.toNat) (c:=(aN size).toNat) d ω ω ω;have b:=CI.smallA (t:=t.toNat) (c:=(aN size).toNat) d j ω ω ω;generalize Ab.smallA h t.toNat (aN size).toNat=r at s b a |-;by_cases e:r.2<0
  ·rw[CL e]at a |-
   exact⟨b.ci,λ_=>⟨b.ob,b.kp,s.nx,rfl⟩,λe=>by cases e⟩
  rw[CJ e]at a |-;obtain⟨k,C⟩:=a;obtain⟨l,-⟩:=s.yes ω;have q:=CI.addO b.ci r.2 size t;refine⟨q,ψ,λ_=>⟨?_,by show r.1.b+1=h.b+1;rw[s.nx],ω,ω,ψ⟩⟩;have:=Xu.of (h:=h) (g:=r.1) (x:=⟨r.1.b,r.2,size,t⟩) l b.ci k (f.keep k C) q (λp _=>rfl) (λ_ _=>rfl) (λo=>dy) (TV l) rfl rfl b.ob b.kp
  grind [XA.nx]
 grind [CI.largeA,aN]
theorem uA(k:ah)(a v:Int)(f c:Nat):cl (dN k a v) f c=cl k f c\/(cl (dN k a v) f c=v/\f=cW k a/\c=(a % 16).toNat):=by grind [bW,cl,dN,setCell]
variable{v:Int}
theorem Gg(b:aI k=true)(d:(af k.F.O (a / 16)).e≠0):cl (dN k a v) (cW k a) (a % 16).toNat=v:=by
 have c:=(jb b d).1;have e:=(xl b (f:=cW k a) c).1;unfold cl dN setCell;show nth (nth (List.set _ _ _) _) _=v;rw[bW,CL ⟨rfl,c⟩,bW,CL ω]
theorem PC(d:uq h o f c):uq {h with G:=dN h.G a v} o f c:=by
 obtain⟨j,e,g,b⟩:=d;exact⟨j,e,g,⟨b.m,b.f,b.c⟩⟩
theorem Wp(a:aY h E)(g:o∈h.J){x:Int}(q:0<=x/\x<o.k)(r:0<=j/\j<o.k)(h1:At h.G (o.Addr+x) f c)(h2:At h.G (o.Addr+j) f c):x=j:=by
 have t:=h1.c;have u:=h2.c;rcases a.oow o g with⟨s,i,w,y⟩|⟨l,d,A,B⟩
 ·have k:=aJ (a.L.sok s i)
  have p:=HK (n:=o.k) ω
  grind [bT]
 have e:=a.L.lok l d;unfold bI at e;rw[C0]at e;have:=nv a d (b:=o.Addr+x) ω ω h1 h2.m h2.f;omega
theorem CI.store(b:aY h E)(u:JI h)(G:CI h)(T:i<h.J.length)(P:0<=j/\j<=(nth h.J i).k - 1)(hw:(af (tbl h) (((nth h.J i).Addr+j) / 16)).e≠1):CI {h with G:=dN h.G ((nth h.J i).Addr+j) v}/\
  ∀o∈h.J,∀x:Int,0<=x->x<o.k->gt (dN h.G ((nth h.J i).Addr+j) v) (o.Addr+x)=if o=nth h.J i/\x=j then v else gt h.G (o.Addr+x):=by
 have d:=ax T;have H:=(di b d P).1;have J:=At.mk' b.ker H;have g:uq h (nth h.J i) _ _:=⟨j,P.1,ω,J⟩
 have w:=lv b d g;have U:(((nth h.J i).Addr+j) % 16).toNat<16:=ω
 have key:∀p:Int,(af (tbl h) p).e≠0->(af (tbl h) p).j≠(cW h.G ((nth h.J i).Addr+j):Nat)->∀c,cl (dN h.G ((nth h.J i).Addr+j) v) (bV h.G p) c=cl h.G (bV h.G p) c:=λp Q A c=>by
  rcases uA h.G ((nth h.J i).Addr+j) v (bV h.G p) c with e|⟨-,e,-⟩
  ·exact e
  refine absurd ?_ A;rw[<-e];exact nN b.ker Q
 refine⟨G.keep rfl rfl (λq h=>h) (λ_=>⟨rfl,rfl⟩) (λf c _ _=>?_) (λo d f c _ g _=>⟨o,d,PC g⟩) (λF c B=>?_) ψ,λo d x R V=>?_⟩
 ·grind [uA,PC]
 ·obtain⟨jm1,jm2⟩:=b.jobM F
  have S:c<16:=by
   obtain⟨k,W,e⟩:=aW (List.mem_of_mem_take B);have:=gx (dX.1 (b.job F).1).1 W;omega
  constructor
  ·grind [uA,wg]
  rcases uA h.G ((nth h.J i).Addr+j) v (bV h.G h.a.X.a5) c with e|⟨-,K,M⟩
  ·exact e
  exfalso;rw[<-K,<-M]at w;refine KG b u G F w ?_ B (nN b.ker jm2);rcases b.oow _ d with⟨s,X,Y,Z⟩|⟨l,hl,l1,-⟩
  ·have N:=aJ (b.L.sok s X)
   have C:=HK (n:=(nth h.J i).k) ω;rw[<-Z]at C;obtain⟨g1,g2,g3,-⟩:=Y;have Q:((nth h.J i).Addr+j) / 16=(nth h.J i).Addr / 16:=by rcases bT N.2.2 with e|e|e|e<;>rw[e]at g3 C<;>omega
   grind
  intro D;obtain⟨a1,a2,a3⟩:=qh (t:=tbl h) (p:=(nth h.J i).Addr / 16) ω;rw[a3]at D;have h3:=(G.m1 _ D).2.1;obtain⟨-,-,y,hy,-,ey,-⟩:=u.sp F;have hpl:=aR (b.L.lok l hl)
  grind [nu.dis,aY.L]
 have O:=(di b d (k:=x) ⟨R,ω⟩).1;have a:=At.mk' b.ker O;have r:At (dN h.G ((nth h.J i).Addr+j) v) (o.Addr+x) (cW h.G (o.Addr+x)) ((o.Addr+x) % 16).toNat:=⟨a.m,a.f,a.c⟩
 rw[r.cell,a.cell];split
 ·grind [Gg,aY.ker]
 rename_i A;rcases uA h.G ((nth h.J i).Addr+j) v (cW h.G (o.Addr+x)) ((o.Addr+x) % 16).toNat with e|⟨-,K,M⟩
 ·exact e
 exfalso;rw[K,M]at a;have hcx:uq h o _ _:=⟨x,R,V,a⟩
 grind [PE,Wp]
structure JP(h:ac):Prop where
 km:(af (tbl h) h.a.X.a4).e≠0
 mm:(af (tbl h) h.a.X.a5).e≠0
 kf:(af (tbl h) h.a.X.a4).j=(bV h.G h.a.X.a4:Nat)
 mf:(af (tbl h) h.a.X.a5).j=(bV h.G h.a.X.a5:Nat)
 ne:bV h.G h.a.X.a4≠bV h.G h.a.X.a5
 pe:h.a.X.a4≠h.a.X.a5
 k2:CI h->(af (tbl h) h.a.X.a4).e≠1
theorem JP.of(g:aY h E)(i:JI h)(j:h.q=true):JP h:=by
 obtain⟨k,b⟩:=g.jobM j;have a:=(dX.1 (g.job j).1).1;unfold gc at a;simp only[I0,C0]at a;have c:=a.2.2.2.2.2;have l:=nN g.ker k;have n:=nN g.ker b;obtain⟨q,r,o⟩:=qh k;obtain⟨t,u,p⟩:=qh b;refine⟨k,b,l,n,λe=>c ?_,c,λw y=>?_⟩
 ·have d:(af (tbl h) h.a.X.a4).j=(bV h.G h.a.X.a4:Nat):=l
  have f:(af (tbl h) h.a.X.a5).j=(bV h.G h.a.X.a5:Nat):=n;rw[o]at d;rw[p]at f b;have:=i.sk j h.a.X.a5.toNat b (by rw[d,f,e]);omega
 grind [CI.m1]
def hJ(h:ac)(k:ah)(j:cY):ac:={h with G:=k,q:=true,a:=j}
def hE(h:ac)(k:ah):ac:={h with G:=k,q:=false,a:=⟨⟨0,0,[]⟩,0,0⟩}
theorem Ub(a:h.q=true):mStep h=if over (gC h.G h.a).2=true then hE h (gC h.G h.a).1 else hJ h (gC h.G h.a).1 (gC h.G h.a).2:=by grind [mStep,hE,hJ]
def zN(g:aY h E)(l:h'.J=h.J)(n:∀p,(af (tbl h) p).e≠0->(af (tbl h') p).e≠0/\(af (tbl h') p).j=(af (tbl h) p).j)(q:∀o∈h.J,∀f c,uq h o f c->cl h'.G f c=cl h.G f c):Kp h h':=λo e=>by
 rw[l]at e;refine⟨e,λj i r=>?_⟩;have b:=(di g e (k:=j) ⟨i,ω⟩).1;have a:=At.mk' g.ker b;obtain⟨t,u⟩:=n _ b;have d:At h'.G (o.Addr+j) (cW h.G (o.Addr+j)) ((o.Addr+j) % 16).toNat:=⟨t,u.trans a.f,a.c⟩
 rw[d.cell,a.cell];exact q o e _ _ ⟨j,i,r,a⟩
def A2(b:∀p,(af (tbl h) p).e≠0->(af (tbl h') p).e≠0/\(af (tbl h') p).j=(af (tbl h) p).j)(d:uq h o f c):uq h' o f c:=by
 obtain⟨j,e,g,a⟩:=d;obtain⟨i,k⟩:=b _ a.m;exact⟨j,e,g,i,k.trans a.f,a.c⟩
theorem wt{m:Int}(a:(af k.F.O p).e≠0)(q:Int):af (mV k p m).F.O q=if q=p then {af k.F.O p with e:=m} else af k.F.O q:=by grind [bW,mV,af]
theorem Pe{t:aO}{q:Nat}(h:(nth t.M q).e≠0):af t (q:Int)=nth t.M q:=by
 have:=xb h
 grind [af]
theorem CI.ended(l:aY h E)(n:CI h)(t:h.q=true)(u:h.a.b=0)(g:∀f c,cl k f c=cl h.G f c)(i:∀p,(af (tbl h) p).e≠0->(af k.F.O p).e≠0/\(af k.F.O p).j=(af (tbl h) p).j)(h1:∀q:Nat,(nth k.F.O.M q).e≠1):CI (hE h k)/\Kp h (hE h k):=by
 refine⟨⟨λf c a b=>?_,λe=>(by cases e),λe=>(by cases e),λe=>(by cases e),λe=>(by cases e),λq r=>absurd r (h1 q),λe=>(by cases e)⟩,zN l rfl i λo j f c _=>g f c⟩;change cl k f c≠0 at b;rw[g]at b;rcases n.z f c a b with⟨o,j,d⟩|⟨-,-,e⟩
 ·exact .inl ⟨o,j,A2 i d⟩
 simp_all
theorem PK{p:cL}(h:gc p=true){i:Nat} : ∀{j:Nat},i<j->j<p.T.length->nth p.T i<nth p.T j
 | 0,a,_=>absurd a (Nat.not_lt_zero i)
 | j+1,a,d=>by
  have b:=h;unfold gc at b;simp only[I0]at b;have c:=fS b.1 d;unfold po at c;rw[C0]at c;have f:nth p.T j<nth p.T (j+1):=ψ
  by_cases e:i=j
  ·rw[e];exact f
  have:=PK h (i:=i) (j:=j) ω ω;omega
theorem vj(k:ah)(a:Nat)(b v:Int)(f c:Nat):cl (setCell k a b v) f c=cl k f c\/(cl (setCell k a b v) f c=v/\f=a/\c=b.toNat):=by grind [bW,cl,setCell]
theorem tV(b:aI k=true)(c:(af k.F.O p).e≠0)(d:0<=a/\a<=15):cl (setCell k (bV k p) a v) (bV k p) a.toNat=v:=by grind [jb,xl,bW,cl,setCell]
def Mi{j:cY}(d:uq h o f c):uq (hJ h (setCell h.G (bV h.G p) b v) j) o f c:=by
 obtain⟨x,e,g,a⟩:=d;exact⟨x,e,g,⟨a.m,a.f,a.c⟩⟩
theorem Qp{j:cY}(a:aY h [])(b:JI h)(n:CI h)(l:h.q=true)(y:JP h){d:Int}(q:d∈h.a.X.T)(v:Int):Kp h (hJ h (setCell h.G (bV h.G h.a.X.a4) d v) j):=by
 obtain⟨k,r,e⟩:=aW q;have t:=gx (dX.1 (a.job l).1).1 r;refine zN a rfl (λp u=>⟨u,rfl⟩) λo w f c i=>?_
 rcases vj h.G (bV h.G h.a.X.a4) d v f c with g|⟨-,A,B⟩
 ·exact g
 exfalso;refine wg a b n l (lv a w i) ω ?_ (by grind [JP.kf])
 grind
theorem CI.copied(j:aY h [])(k:JI h)(b:CI h)(d:h.q=true)(B:JP h)(K:h.a.b0=1)(L:0<=h.a.b/\h.a.b<h.a.X.T.length):CI (hJ h (r8 h.G h.a.X.a5 h.a.X.a4 (nth h.a.X.T h.a.b.toNat)) {h.a with b:=h.a.b+1})/\Kp h (hJ h (r8 h.G h.a.X.a5 h.a.X.a4 (nth h.a.X.T h.a.b.toNat)) {h.a with b:=h.a.b+1}):=by
 have a:h.a.b.toNat<h.a.X.T.length:=ω
 have i:=ax a;have l:=gx (dX.1 (j.job d).1).1 a;have D:h.a.X.T.take (h.a.b+1).toNat=h.a.X.T.take h.a.b.toNat++[nth h.a.X.T h.a.b.toNat]:=by
  rw[show(h.a.b+1).toNat=h.a.b.toNat+1 by omega,CB,ar a];rfl
 unfold r8;have n:=tV j.ker (p:=h.a.X.a4) (v:=nth (nth h.G.F.V.T (bV h.G h.a.X.a5)) (nth h.a.X.T h.a.b.toNat).toNat) B.km l;have r:=vj h.G (bV h.G h.a.X.a4) (nth h.a.X.T h.a.b.toNat) (nth (nth h.G.F.V.T (bV h.G h.a.X.a5)) (nth h.a.X.T h.a.b.toNat).toNat);refine⟨⟨λf c t E=>?_,λ_ c u=>?_,λ_=>b.jd d,λ_=>b.jc d,λ_=>⟨λe=>absurd e (by show ¬h.a.b0=0;omega),λe=>absurd e (by show ¬h.a.b0=2;omega)⟩,λq F=>?_,λ_ _=>b.m2 d ω⟩,Qp j k b d B i _⟩
 ·rcases r f c with g|⟨-,M,N⟩
  ·have w:cl h.G f c≠0:=by rw[<-g];exact E
   rcases b.z f c t w with⟨o,G,H⟩|⟨J,y,C⟩
   ·exact .inl ⟨o,G,Mi H⟩
   refine .inr ⟨rfl,y,?_⟩;show(c:Int)∈h.a.X.T.take (h.a.b+1).toNat
   grind
  refine .inr ⟨rfl,?_,?_⟩
  ·show(af (tbl h) h.a.X.a4).j=f;grind [JP.kf]
  show(c:Int)∈h.a.X.T.take (h.a.b+1).toNat
  grind
 ·change (c:Int)∈h.a.X.T.take (h.a.b+1).toNat at u
  show cl (setCell h.G (bV h.G h.a.X.a4) _ _) (bV h.G h.a.X.a4) c=cl (setCell h.G (bV h.G h.a.X.a4) _ _) (bV h.G h.a.X.a5) c;have A:cl (setCell h.G (bV h.G h.a.X.a4) (nth h.a.X.T h.a.b.toNat) (nth (nth h.G.F.V.T (bV h.G h.a.X.a5)) (nth h.a.X.T h.a.b.toNat).toNat)) (bV h.G h.a.X.a5) c=cl h.G (bV h.G h.a.X.a5) c:=by grind [JP.ne]
  rw[A];by_cases O:(c:Int)=nth h.a.X.T h.a.b.toNat
  ·have:c=(nth h.a.X.T h.a.b.toNat).toNat:=ω
   rw[this,n];rfl
  grind [CI.jv]
 obtain⟨J,y,C⟩:=b.m1 q F;exact⟨rfl,y,C⟩
theorem CI.undone(L:aY h [])(u:JI h)(d:CI h)(l:h.q=true)(t:JP h)(Z:h.a.b0=3)(hp:0<h.a.b):CI (hJ h {h.G with F:=(gN h.G.F (h.a.X.a4*16+nth h.a.X.T (h.a.b - 1).toNat) 0).1} {h.a with b:=h.a.b - 1})/\Kp h (hJ h {h.G with F:=(gN h.G.F (h.a.X.a4*16+nth h.a.X.T (h.a.b - 1).toNat) 0).1} {h.a with b:=h.a.b - 1}):=by
 obtain⟨n,-,-,n0,n1⟩:=dX.1 (L.job l).1;have a:(h.a.b - 1).toNat<h.a.X.T.length:=ω
 have p:=ax a;have M:=gx n a;have N:=(qh t.km).1;have O:(h.a.X.a4*16+nth h.a.X.T (h.a.b - 1).toNat) / 16=h.a.X.a4:=ω
 have P:(h.a.X.a4*16+nth h.a.X.T (h.a.b - 1).toNat) % 16=nth h.a.X.T (h.a.b - 1).toNat:=ω
 have w:(af h.G.F.O h.a.X.a4).e≠0:=t.km;have y:(af h.G.F.O h.a.X.a4).e≠1:=t.k2 d;have Q:({h.G with F:=(gN h.G.F (h.a.X.a4*16+nth h.a.X.T (h.a.b - 1).toNat) 0).1} : ah)=setCell h.G (bV h.G h.a.X.a4) (nth h.a.X.T (h.a.b - 1).toNat) 0:=by
  unfold gN;rw[O,P,CJ w,CJ y]
  rfl
 rw[Q];have r:=vj h.G (bV h.G h.a.X.a4) (nth h.a.X.T (h.a.b - 1).toNat) 0;have A:h.a.X.T.take h.a.b.toNat=h.a.X.T.take (h.a.b - 1).toNat++[nth h.a.X.T (h.a.b - 1).toNat]:=by
  rw[show h.a.b.toNat=(h.a.b - 1).toNat+1 by omega,CB,ar a];rfl
 have R:nth h.a.X.T (h.a.b - 1).toNat∉h.a.X.T.take (h.a.b - 1).toNat:=λB=>by
  obtain⟨k,S,T⟩:=aW B;rw[I3]at S;have C:nth (h.a.X.T.take (h.a.b - 1).toNat) k=nth h.a.X.T k:=by
   refine br ?_;rw[List.getElem?_take,CL ω]
   grind [ar]
  rw[C]at T;have:=PK n (i:=k) (j:=(h.a.b - 1).toNat) ω a;omega
 refine⟨⟨λf c D E=>?_,λ_ c F=>?_,λ_=>d.jd l,λ_=>d.jc l,λ_=>⟨λe=>absurd e (by show ¬h.a.b0=0;omega),λe=>absurd e (by show ¬h.a.b0=2;omega)⟩,λq U=>?_,λ_ _=>d.m2 l ω⟩,Qp L u d l t p _⟩
 ·rcases r f c with g|⟨V,-,-⟩
  ·have G:cl h.G f c≠0:=by rw[<-g];exact E
   rcases d.z f c D G with⟨o,W,X⟩|⟨Y,H,b⟩
   ·exact .inl ⟨o,W,Mi X⟩
   rw[A]at b;rcases z5.1 b with b|b
   ·exact .inr ⟨rfl,H,b⟩
   exfalso;have ec:=z3.1 b;have J:f=bV h.G h.a.X.a4:=by grind [JP.kf]
   refine E ?_;show cl (setCell h.G (bV h.G h.a.X.a4) _ 0) f c=0;rw[J,show c=(nth h.a.X.T (h.a.b - 1).toNat).toNat by omega]
   grind [tV,aY.ker]
  exact absurd V E
 ·change (c:Int)∈h.a.X.T.take (h.a.b - 1).toNat at F
  show cl (setCell h.G (bV h.G h.a.X.a4) _ 0) (bV h.G h.a.X.a4) c=cl (setCell h.G (bV h.G h.a.X.a4) _ 0) (bV h.G h.a.X.a5) c;have K:cl (setCell h.G (bV h.G h.a.X.a4) (nth h.a.X.T (h.a.b - 1).toNat) 0) (bV h.G h.a.X.a5) c=cl h.G (bV h.G h.a.X.a5) c:=ψ
  rw[K];rcases r (bV h.G h.a.X.a4) c with g|⟨-,-,g2⟩
  ·grind [CI.jv]
  grind
 obtain⟨Y,H,b⟩:=d.m1 q U;exact⟨rfl,H,b⟩
theorem CI.meshed(A:aY h [])(B:JI h)(J:CI h)(L:h.q=true)(n:JP h)(hn:h.a.b=h.a.X.T.length)(C:h.G.Calls≠100000)(U:(w8 h.G h.a.X.a5 h.a.X.a4).2=true):CI (hE h (w8 h.G h.a.X.a5 h.a.X.a4).1)/\Kp h (hE h (w8 h.G h.a.X.a5 h.a.X.a4).1):=by
 have D:=Po A.ker (p:=h.a.X.a5) (o:=h.a.X.a4) n.mm U;obtain⟨m1,m2,V⟩:=qh n.mm;obtain⟨k1,k2,k3⟩:=qh n.km;have W:=(D 0).1;generalize E:(w8 h.G h.a.X.a5 h.a.X.a4).1=K at *;have M:∀q:Int,af K.F.O q=if q=h.a.X.a5 then⟨2,(af (tbl h) h.a.X.a4).j⟩ else af (tbl h) q:=λq=>by grind [af,tbl]
 have F:∀f c,cl K f c=cl h.G f c\/(cl K f c=0/\f=bV h.G h.a.X.a5):=λf c=>by
  unfold w8 at E U;by_cases e:refd h.G=true
  ·grind
  rw[CJ e]at E;simp only at E;rw[<-E];rcases P1 (xM (cN h.G) h.a.X.a5.toNat ⟨2,(nth (cN h.G).F.O.M h.a.X.a4.toNat).j⟩) (nth (cN h.G).F.O.M h.a.X.a5.toNat).j f c with g|⟨N,O,-⟩
  ·exact .inl g
  refine .inr ⟨N,?_⟩;rw[<-O];have X:nth (cN h.G).F.O.M h.a.X.a5.toNat=af h.G.F.O h.a.X.a5:=V.symm;rw[X];rfl
 have r:h.a.X.T.take h.a.b.toNat=h.a.X.T:=ψ
 have P:∀p:Int,(af (tbl h) p).e≠0->(af (tbl h) p).j=(bV h.G h.a.X.a5:Nat)->p=h.a.X.a5:=λp u Y=>by
  obtain⟨p1,p2,p3⟩:=qh u;have G:=n.mf;rw[p3]at u Y;rw[V]at G;have:=B.sm L p.toNat u (by rw[Y,G]);omega
 have Q:∀c,cl K (bV h.G h.a.X.a4) c=cl h.G (bV h.G h.a.X.a4) c:=λc=>by grind [JP.ne]
 have place:∀o∈h.J,∀x:Int,0<=x->x<o.k->∀f c:Nat,At h.G (o.Addr+x) f c->(f≠bV h.G h.a.X.a5->At K (o.Addr+x) f c)/\(f=bV h.G h.a.X.a5->At K (o.Addr+x) (bV h.G h.a.X.a4) c/\(c:Int)∈h.a.X.T):=λo d x i j f c a=>by
  constructor
  ·intro hne
   have u:(o.Addr+x) / 16≠h.a.X.a5:=λe=>by
    have:=a.f;rw[e]at this;have X:(af h.G.F.O h.a.X.a5).j=_:=n.mf;omega
   exact⟨by rw[M,CJ u];exact a.m,by rw[M,CJ u];exact a.f,a.c⟩
  intro he;have u:=P _ a.m (by rw[<-he];exact a.f);refine⟨⟨ψ,by grind [JP.kf],a.c⟩,?_⟩;obtain⟨-,-,b,Z,-,eb,-⟩:=B.sp L;have l:c<16:=by grind [At.c]
  obtain⟨e1,e2,-⟩:=BV A (lv A d ⟨x,i,j,a⟩) Z (by grind [JI.sm]) (by grind [JP.mf]);refine J.jc L b Z eb c l ?_;rw[e2];exact e1.2.2.2
 refine⟨⟨λf c l w=>?_,λe=>(by cases e),λe=>(by cases e),λe=>(by cases e),λe=>(by cases e),λq hq=>?_,λe=>(by cases e)⟩,λo d=>⟨d,λx i j=>?_⟩⟩
 ·change cl K f c≠0 at w
  rcases F f c with g|⟨g,-⟩
  rotate_left
  ·exact absurd g w
  rw[g]at w;have R:f≠bV h.G h.a.X.a5:=λe=>by
   refine w ?_;rw[<-g,e];have hkk:aI K=true:=by
    rw[<-E];exact Tx A.ker C n.mm n.km (Ne.symm n.pe)
   grind [sw,JP.kf,JP.ne]
  rcases J.z f c l w with⟨o,d,x,i,j,a⟩|⟨-,q2,q3⟩
  ·exact .inl ⟨o,d,x,i,j,(place o d x i j f c a).1 R⟩
  rw[r]at q3;have H:f=bV h.G h.a.X.a4:=by grind [JP.kf]
  rw[H,J.jv L c (by rw[r];exact q3)]at w;rcases J.z _ c l w with⟨o,d,x,i,j,a⟩|⟨-,r2,-⟩
  ·exact .inl ⟨o,d,x,i,j,by rw[H];exact((place o d x i j _ c a).2 rfl).1⟩
  omega
 ·have y:(nth K.F.O.M q).e=1:=hq
  have:=Pe (t:=K.F.O) (q:=q) (by rw[y];decide);rw[M]at this;by_cases e:(q:Int)=h.a.X.a5
  ·grind
  rw[CJ e]at this;rw[<-this]at y;obtain⟨a1,a2,a3⟩:=qh (t:=tbl h) (p:=(q:Int)) (by rw[y];decide)
  grind [CI.m1]
 have S:=(di A d (k:=x) ⟨i,ω⟩).1;have a:=At.mk' A.ker S;obtain⟨N,O⟩:=place o d x i j _ _ a;show gt K (o.Addr+x)=gt h.G (o.Addr+x);by_cases e:cW h.G (o.Addr+x)=bV h.G h.a.X.a5
 ·obtain⟨T,g4⟩:=O e
  rw[T.cell,a.cell,Q,e]
  grind [CI.jv]
 have T:=N e;rw[T.cell,a.cell]
 grind
theorem CI.mStep{h:ac}(w:aY h [])(y:JI h)(a:CI h)(b:h.q=true):CI (mStep h)/\Kp h (mStep h):=by
 have E:=JP.of w y b;have X:=y.ph b;obtain⟨jn0,jn2⟩:=a.jn b;obtain⟨-,-,-,n0,n1⟩:=dX.1 (w.job b).1;rw[Ub b];have stay:∀(k:ah)(j:cY),k.F=h.G.F->j.X=h.a.X->j.b=h.a.b->(j.b0=0↔h.a.b0=0)->(j.b0=2->j.b=j.X.T.length)->CI (hJ h k j)/\Kp h (hJ h k j):=λk j R A S H Y=>by
  have J:tbl (hJ h k j)=tbl h:=by grind [tbl,hJ]
  have F:∀f c,cl k f c=cl h.G f c:=λf c=>by unfold cl;rw[R]
  have l:∀o f c,uq h o f c->uq (hJ h k j) o f c:=λo f c=>A2 ψ
  refine⟨⟨λf c n B=>?_,λ_ c d=>?_,λ_=>?_,λ_=>?_,λ_=>⟨λe=>?_,Y⟩,λq g=>?_,λ_ e=>?_⟩,zN w rfl ψ λo _ f c _=>F f c⟩
  ·change cl k f c≠0 at B
   rw[F]at B;rcases a.z f c n B with⟨o,K,L⟩|⟨Z,M,N⟩
   ·exact .inl ⟨o,K,l o f c L⟩
   refine .inr ⟨rfl,?_,?_⟩
   ·rw[J];show(af (tbl h) j.X.a4).j=f;rw[A];exact M
   show(c:Int)∈j.X.T.take j.b.toNat;grind
  ·change (c:Int)∈j.X.T.take j.b.toNat at d
   show cl k (bV k j.X.a4) c=cl k (bV k j.X.a5) c;rw[A,S]at d;rw[A,F,F];unfold bV;rw[R];exact a.jv b c d
  ·grind [CI.jd,hJ]
  ·grind [CI.jc,hJ]
  ·exact(show j.b=h.a.b from S).trans (jn0 (H.1 e))
  ·rw[J]at g
   obtain⟨Z,M,N⟩:=a.m1 q g;exact⟨rfl,by show(q:Int)=j.X.a5;rw[A];exact M,λe=>N (H.1 e)⟩
  rw[J];show(af (tbl h) j.X.a5).e=1;rw[A];exact a.m2 b λx=>e (H.2 x)
 have prot:∀C:Int,C=1\/C=2->∀p,(af (tbl h) p).e≠0->(af (mV (cN h.G) h.a.X.a5 C).F.O p).e≠0/\(af (mV (cN h.G) h.a.X.a5 C).F.O p).j=(af (tbl h) p).j:=λC hmo p O=>by
  rw[wt (k:=cN h.G) E.mm];by_cases e:p=h.a.X.a5
  ·rw[CL e,e]
   exact⟨ψ,rfl⟩
  rw[CJ e];exact⟨O,rfl⟩
 unfold gC;by_cases D:jmay h.G h.a=true;rotate_left
 ·grind [over]
 rw[CL D];unfold jstep;by_cases G:h.a.b0=0
 ·rw[CL G]
  have r:=jn0 G;simp only;unfold jx;by_cases u:refd h.G=true
  ·rw[CL u]
   simp only[Bool.false_eq_true,if_false];rw[CL (show over {h.a with b0:=5} = true from O0 (.inr rfl))];refine CI.ended w a b r (λ_ _=>rfl) (λp O=>⟨O,rfl⟩) λq g=>(a.m1 q g).2.2 G
  rw[CJ u];simp only[if_true];rw[CJ (by grind [over])];have l:∀o f c,uq h o f c->uq (hJ h (mV (cN h.G) h.a.X.a5 1) {h.a with b0:=1}) o f c:=λo f c=>A2 (prot 1 (.inl rfl))
  refine⟨⟨λf c n B=>?_,λ_ c d=>?_,λ_=>a.jd b,λ_=>a.jc b,λ_=>⟨λe=>absurd e (by show ¬(1:Int)=0;decide),λe=>absurd e (by show ¬(1:Int)=2;decide)⟩,λq g=>?_,λ_ _=>?_⟩,zN w rfl (prot 1 (.inl rfl)) λ_ _ _ _ _=>rfl⟩
  ·rcases a.z f c n B with⟨o,K,L⟩|⟨-,-,N⟩
   ·exact .inl ⟨o,K,l o f c L⟩
   simp_all
  ·change (c:Int)∈h.a.X.T.take h.a.b.toNat at d
   simp_all
  ·refine⟨rfl,?_,by show ¬(1:Int)=0;decide⟩
   show(q:Int)=h.a.X.a5;refine Classical.byContradiction λP=>?_
   have i:(nth (mV (cN h.G) h.a.X.a5 1).F.O.M q).e=1:=g;have:=Pe (t:=(mV (cN h.G) h.a.X.a5 1).F.O) (q:=q) (by rw[i];decide);rw[wt (k:=cN h.G) E.mm,CJ P]at this;rw[<-this]at i;obtain⟨a1,a2,a3⟩:=qh (t:=tbl h) (p:=(q:Int)) (by show(af h.G.F.O q).e≠0;have:(af h.G.F.O q).e=1:=i;rw[this];decide);have Q:(af (tbl h) q).e=1:=i
   grind [CI.m1]
  show(af (mV (cN h.G) h.a.X.a5 1).F.O h.a.X.a5).e=1;rw[wt (k:=cN h.G) E.mm,CL rfl]
 rw[CJ G];by_cases T:h.a.b0=1
 ·rw[CL T]
  by_cases U:h.a.b=h.a.X.T.length
  ·rw[CL U]
   grind [over]
  rw[CJ U]
  grind [CI.copied,over]
 rw[CJ T];by_cases V:h.a.b0=2
 ·rw[CL V]
  simp only;cases u:(w8 h.G h.a.X.a5 h.a.X.a4).2 with
  | false=>
   simp only[Bool.false_eq_true,if_false];rw[CJ (by grind [over])];rw[Us u];exact stay (cN h.G) {h.a with b0:=3} rfl rfl rfl ψ ψ
  | true=>
   grind [CI.meshed,over,jmay]
 rw[CJ V];have p3:h.a.b0=3:=ω
 rw[CL p3];by_cases W:0<h.a.b
 ·rw[CL W]
  simp only
  grind [CI.undone,over]
 rw[CJ W];have r:h.a.b=0:=ω
 simp only;unfold jx;by_cases u:refd h.G=true
 ·rw[CL u]
  simp only[Bool.false_eq_true,if_false];rw[CJ (by grind [over])];exact stay (cN h.G) {h.a with b0:=3} rfl rfl rfl ψ ψ
 rw[CJ u];simp only[if_true];rw[CL (show over {h.a with b0:=5} = true from O0 (.inr rfl))];refine CI.ended w a b r (λ_ _=>rfl) (prot 2 (.inr rfl)) λq g=>?_
 have:=Pe (t:=(mV (cN h.G) h.a.X.a5 2).F.O) (q:=q) (by rw[g];decide);rw[wt (k:=cN h.G) E.mm]at this;by_cases e:(q:Int)=h.a.X.a5
 ·grind
 rw[CJ e]at this;rw[<-this]at g;obtain⟨a1,a2,a3⟩:=qh (t:=tbl h) (p:=(q:Int)) (by have:(af (tbl h) q).e=1:=g;rw[this];decide);have Q:(af (tbl h) q).e=1:=g
 grind [CI.m1]
end Go.Proofs.YtiopgblagimpmaaGreat.Ab
