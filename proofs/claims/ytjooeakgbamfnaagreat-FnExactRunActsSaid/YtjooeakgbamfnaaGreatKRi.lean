/- An object freed by whatever thread, an address freed that is none: the program's. No condition. (wkR, Yo) -/
import Derived.Test.YtjooeakgbamfnaaGreatKRd
import Derived.Test.YtjooeakgbamfnaaGreatKRh
import Derived.Test.YtjooeakgbamfnaaGreatKRg
import Derived.Test.YtjooeakgbamfnaaGreatKRe
import Derived.Test.YtjooeakgbamfnaaGreatKRf
import Derived.Lib.Overlaps
import Derived.Lib.AppendZerosOnto
import Derived.Laws.NewBlocks
import Derived.Laws.Externs
import Derived.Test.YtjooeakgbamfnaaGreatKRc
set_option linter.unusedVariables false
set_option linter.defProp false
set_option linter.unusedSimpArgs false
set_option linter.constructorNameAsVariable false
namespace Go.Proofs.YtjooeakgbamfnaaGreat.Ab
open Go.RowKit
set_option maxRecDepth 20000
set_option maxHeartbeats 4000000
def hC(m:aI)(k:Int)(a:aI.sml m):zzA 290 false [.val (some 2) (aI.enc .O m),.vI k] .one [B (decide (0<=k/\k<=m.T.length - 1)&&bG m)]:=by
 have b:=pb m a;have g:m.T.length<=1048576:=a.1.1;have c:=aG k 0 (m.T.length - 1:Int);cases e:bG m<;>rw[e]at b<;>cases d:decide (0<=k/\k<=(m.T.length:Int) - 1)<;>rw[d]at c
 all_goals
  refine fO 15 [] Tryz.func290 rfl ?_
  refine σP ?_
  rfl
def Tf(m:aI)(f:Nat)(p:aX)(k:bG m=true)(d:f<m.T.length):zzA 282 false [.val (some 2) (aI.enc .O m),.vI (f:Nat),.val (some 2) (aX.enc .O p)] (.tup [some 2,none]) (aI.enc .own (if bG (gz m f p)=true then gz m f p else m)++[B (bG (gz m f p))]):=by
 have c:=jp.of k;have l:=c.sml;have q:=c.b4;have g:=hC m f l;rw[k,O0 ω]at g;have n:=gC m l;have h:=G0 c d p;have i:=pb (gz m f p) h;have a:=Rf d;have o:=c.bl f d;have j:=Ct (gz m f p);have b:=Cn (gz m f p);rw[yW]at j b;cases e:bG (gz m f p)<;>rw[e]at i
 ·rw[CI (by simp)]
  refine fO 35 [(4,267,[17,18,19,20,21,22,23,24,25,26,28,0,1,2,3,4,5,6,7,8,9,10,1000,1001,1002,11,12])] Tryz.func282 rfl ?_ (.inr (a7 (Cn _) ⟨tV1,tV1⟩))
  repeat'(first|refine gP ?_|refine CH (ce a) ?_|refine CL rfl (ce a) rfl ?_|refine Cg rfl rfl (aa a) rfl (O2 rfl) rfl rfl ?_|refine CR rfl rfl (ce a) rfl (O2 rfl) (show [C.s eL.own ((m.T.map (bg .own)).set f (bg .own (nth m.T f++[p]))),C.s .own (m.g.map (aE .own))]=_ from by simp only[List.set_cons_zero,List.set_set,O4];rfl) ?_|refine Cc (aN λ_=>rfl) rfl kd qs (dZ _ _ _) ?_|refine CM (i) ⟨⟨rfl,j⟩,tV1⟩ ?_)
  rfl
 rw[CJ rfl,yW];refine fO 35 [(4,267,[17,18,19,20,21,22,23,24,25,26,28,0,1,2,3,4,5,6,7,8,9,10,1000,1001,1002,11,12])] Tryz.func282 rfl ?_ (.inr (a7 b ⟨tV1,tV1⟩))
 repeat'(first|refine gP ?_|refine CH (ce a) ?_|refine CL rfl (ce a) rfl ?_|refine Cg rfl rfl (aa a) rfl (O2 rfl) rfl rfl ?_|refine CR rfl rfl (ce a) rfl (O2 rfl) (show [C.s eL.own ((m.T.map (bg .own)).set f (bg .own (nth m.T f++[p]))),C.s .own (m.g.map (aE .own))]=_ from by simp only[List.set_cons_zero,List.set_set,O4];rfl) ?_|refine Cc (aN λ_=>rfl) rfl kd qs (dZ _ _ _) ?_|refine CM (i) ⟨⟨rfl,j⟩,tV1⟩ ?_)
 rfl
def Jr(h:ac)(o:aW)(t:Nat)(R:ac.sml h)(M:fw h=true)(hc:h.G.Calls≠100000)(E:o∈h.K)(S:t<h.R.length):zzA 123 false [.val (some 24) (ac.enc .O h),.vI (t:Nat),.vI o.Addr] (.tup [some 24,none]) (dq (freeT h t (kR h o.Addr)).1++[I (freeT h t (kR h o.Addr)).2]):=by
 by_cases T:o.w=t
 ·have hh:=FK h o t R M hc E T
  rwa [<-yn (by obtain⟨-,d,-⟩:=(bm.of M).objAt E;rw[d];exact T)]at hh
 have b:=bm.of M;have F:=cW h R;rw[eR,M]at F;obtain⟨r,d,G⟩:=b.objAt E;have j:=pE b E;have hon:=b.onu o E;have a:=b.lens;have hno:=a.objs;have hnl:=a.larges;have hlc:=a.caches;have H:=aG (t:Nat) 0 (h.R.length - 1:Int);rw[O0 ω]at H;have C:=vG h o.Addr ω;rw[G]at C;have J:=BU h R (gU r);generalize kR h o.Addr=i at r d C;subst d;have N:=ar r;have O:=nh (nth h.K i).y;have u:=AO h.K i r;have U:=bk b.ker;have V:=de h.G.F.Q ((nth h.K i).Addr / 16) U.1.2;have p:dq h=cE h (oS h) (oL h) (.s .own (h.K.map (aW.enc .own))):=by unfold dq oO;rw[tj λe=>gU r (List.map_eq_nil_iff.1 e)]
 unfold freeT;by_cases n:aU (nth h.K i).y<0
 ·rw[CJ n]
  obtain⟨l,hl,h1,-⟩:=(eS b (ax r)).1 n;obtain⟨K,ea,-,W⟩:=wU hl h1;have X:=mB h.H (VD (nth h.K i).Addr) ω;rw[show cy (VD (nth h.K i).Addr) h.H=(wy h (nth h.K i).Addr:Nat) by unfold cy VD;rw[W]]at X;generalize wy h (nth h.K i).Addr=g at K ea X;have hf:=bf (b.L.lok _ (ax K));have Y:=ar K;have D:=wH h.H g K;have P:=ku {h with K:=dele h.K i,H:=dele h.H g} ⟨(nth h.H g).S,(nth h.H g).a0⟩ (nth h.H g).a0.toNat b.ker hc (by show h.b.length<=_;have:=a.free;omega) ⟨by show(nth h.H g).a0=_;omega,by show 0<=(nth h.H g).S;omega,by show(nth h.H g).S<=_;omega,ω⟩;have hg:dq {h with K:=dele h.K i,H:=dele h.H g} = cE h (oS h) (oE ((dele h.H g).map (a8.enc .own))) (oE ((dele h.K i).map (aW.enc .own))):=rfl;have Z:oL h=.s .own (h.H.map (a8.enc .own)):=by unfold oL;rw[tj λe=>gU K (List.map_eq_nil_iff.1 e)]
  rw[Z]at J;rw[hg]at P;have hpg:∀y∈h.H,0<=y.S/\y.S<=32:=λy hy=>by have:=bf (b.L.lok y hy);omega
  rcases ug (rows:=(dele h.K i).map (aW.enc .own)) with e|⟨-,e⟩<;>rcases ug (rows:=(dele h.H g).map (a8.enc .own)) with e'|⟨-,e'⟩
  all_goals
   rw[e]at u P;rw[e']at D P;refine fP 163 [(276,[1,0,0]),(279,[1,0,0]),(280,[2,0]),(281,[2,0,0]),(132,[2,0,0])] [(20,12,[85,86,87,88,89,90,91,92,93,94,95,96]),(24,4,[111,112,113,114])] Tryz.func123 rfl ?_ (.inr (a7 (cn _) ⟨tV1,tV1⟩))
   repeat'(first|refine gB ?_|refine gS (λw=>?_) (λw=>?_)|refine Cq.mk (sB (some 3) (a8.enc .O) (VD (nth h.K i).Addr) h.H) (oR ⟨0,0,0⟩ (nth h.K i).Addr ⟨by decide,by decide⟩).has (λL k rcs hQ=>?_) ?_)
   ·obtain⟨y,hy,rfl,rfl,rfl⟩:=hQ
    exact oR y _ (hpg y hy)
   rfl
 rw[CI n];obtain⟨s1,s2,s3,s4⟩:=Yw.of b (ax r) n;have hcz:=H5 s1;by_cases Q:(ay (tbl h) ((nth h.K i).Addr / 16)).o=1
 ·rw[CJ Q]
  unfold tbl at Q;have c:=cn h;simp only;rw[p]at c |-;rcases ug (rows:=(dele h.K i).map (aW.enc .own)) with e|⟨-,e⟩
  all_goals
   rw[e]at u;refine fP 163 [(276,[1,0,0]),(279,[1,0,0]),(280,[2,0]),(281,[2,0,0]),(132,[2,0,0])] [(20,12,[85,86,87,88,89,90,91,92,93,94,95,96]),(24,4,[111,112,113,114])] Tryz.func123 rfl ?_ (.inr (a7 c ⟨tV1,tV1⟩))
   repeat'(first|refine gB ?_|refine gS (λw=>?_) (λw=>?_)|refine CT qs ?_|refine CS (lQ j) ?_)
   rfl
 rw[CI Q,CI T];unfold tbl at Q;have c:=cn h;have q:=cn (GF h t i);have B:=dB (aU (nth h.K i).y);rw[show csz (aU (nth h.K i).y)=((csz (aU (nth h.K i).y)).toNat:Nat) by omega]at B;have cS:=Tf h.e t ⟨(nth h.K i).w,(nth h.K i).Addr⟩ b.mail (by rw[<-b.nc];exact S);rcases ug (rows:=(dele h.K i).map (aW.enc .own)) with e|⟨-,e⟩
 all_goals
  have hoo:oO (GF h t i)=_:=e;rw[e]at u;have D:=mH h (oS h) (oL h) (oE ((dele h.K i).map (aW.enc .own))) (nth h.K i).Addr (csz (aU (nth h.K i).y)).toNat b.ker j s2 ω s4;rw[e]at D;cases em:bG (gz h.e t ⟨(nth h.K i).w,(nth h.K i).Addr⟩)<;>rw[em]at cS
  ·rw[CI (by simp)]at cS |-
   simp only;rw[p]at c |-;refine fP 163 [(276,[1,0,0]),(279,[1,0,0]),(280,[2,0]),(281,[2,0,0]),(132,[2,0,0])] [(20,12,[85,86,87,88,89,90,91,92,93,94,95,96]),(24,4,[111,112,113,114])] Tryz.func123 rfl ?_ (.inr (a7 c ⟨tV1,tV1⟩))
   repeat'(first|refine gB ?_|refine gS (λw=>?_) (λw=>?_)|refine CT qs ?_|refine CS (lQ j) ?_)
   rfl
  rw[CJ rfl]at cS |-;simp only;have he:dq (GF h t i)=cE (GF h t i) (oS h) (oL h) (oE ((dele h.K i).map (aW.enc .own))):=rfl;rw[he,e]at q |-;refine fP 163 [(276,[1,0,0]),(279,[1,0,0]),(280,[2,0]),(281,[2,0,0]),(132,[2,0,0])] [(20,12,[85,86,87,88,89,90,91,92,93,94,95,96]),(24,4,[111,112,113,114])] Tryz.func123 rfl ?_ (.inr (a7 q ⟨tV1,tV1⟩))
  repeat'(first|refine gB ?_|refine gS (λw=>?_) (λw=>?_)|refine CT qs ?_|refine CS (lQ j) ?_)
  rfl
variable{r:List C}{rows:List (List C)}
def Wb{j:Nat}{r':List C}(h:cP r=cP r'):fz (.s .own (rows.set j r))=fz (.s .own (rows.set j r')):=by
 simp only[Ww,CC];rw[<-bX,<-bX,h]
def lh(b:Bool):zzA 41 false [.val none [B b]] .one [I (if b=true then 0 else 90)]:=by
 cases b
 all_goals
  refine fO 4 [] Tryz.func41 rfl ?_
  refine σP ?_
  rfl
def WQ(m:aI)(f:Nat)(i:bG m=true)(k:f<m.T.length):zzA 129 true [.val (some 2) (aI.enc .O m),.vI (f:Nat)] (.tup [some 2,none]) (aI.enc .O (if 0<(nth m.T f).length then ed m f else m)++[B (decide (0<(nth m.T f).length))]):=by
 have d:=jp.of i;have E:=d.sml;have M:=d.b4;have H:=d.i4;have l:=hC m f E;rw[i,O0 ω]at l;have F:=gC m E;have a:=Rf k;have J:=d.bl f k;by_cases e:0<(nth m.T f).length
 ·rw[CJ e,O0 e]
  have g:=((dH.1 i).2.1 f k).1 _ (ax e);obtain⟨t,n⟩:=t5 g.1;have q:t<m.g.length:=ω
  have u:=ar e;have b:=ar q;have K:=d.il t ω;have w:=Ct (ed m f);rw[D4 m f t n]at w;generalize N:nth (nth m.T f) 0=p at *;obtain⟨O,G⟩:=p;simp only at n g w;subst n;have L:zzA 238 false [.val (some 2) (aI.enc .O m)] .agg [.s .own ((m.T.map (bg .own)).set f (bg .O (nth m.T f))),.s .own (m.g.map (aE .own))]:=by
   have h:=F.fzAt (off:=0) (o:=.own) (rows:=m.T.map (bg .own)) rfl (by simp) (j:=f) (aa a);rw[rU]at h;exact h
  have y:((m.T.map (bg .own)).set f (bg .O (nth m.T f)))[f]? = some (bg .O (nth m.T f)):=I6 (by rw[I2];omega);have key:zzA 129 true [.val (some 2) (aI.enc .O m),.vI (f:Nat)] (.tup [some 2,none]) ([.s .own ((m.T.map (bg .own)).set f [.s .O (((nth m.T f).drop 1).map (aX.enc .O))]),.s .own ((m.g.map (aE .own)).set t (aE .own (nth m.g t++[G])))]++[B true]):=by
   refine fO 57 [(5,9,[31,32,33,34,35,36,37,38,39]),(6,270,[41,42,43,44,45,46,47,48,49,50,51,52,53,55,0,1,2,3,4,5,6,7,8,9,10,11,12,13,1000,1001,1002,1003,14,15])] Tryz.func129 rfl ?_ (.inl rfl)
   repeat'(first|refine gB ?_|refine gS (λD=>?_) (λD=>?_)|refine CQ qs (aa u) ?_|refine CH y ?_|refine CH (ce b) ?_|refine CL rfl y rfl ?_|refine CL rfl (ce b) rfl ?_|refine Rw.two rfl (aa a) rfl rfl (aa u) rfl ?_|refine Cg rfl rfl (aa b) rfl (O2 rfl) rfl rfl ?_|refine Cf 1 rfl (by rw[I2];omega) (aN λ_=>rfl) I8 ?_|refine CR rfl rfl y rfl (O2 rfl) (show [C.s eL.own ((m.T.map (bg .own)).set f [.s .O (((nth m.T f).drop 1).map (aX.enc .O))]),C.s .own (m.g.map (aE .own))]=_ from by simp only[List.set_cons_zero,List.set_set,O4];rfl) ?_|refine CR rfl rfl (ce b) rfl (O2 rfl) (show [C.s eL.own ((m.T.map (bg .own)).set f [.s .O (((nth m.T f).drop 1).map (aX.enc .O))]),C.s .own ((m.g.map (aE .own)).set t (aE .own (nth m.g t++[G])))]=_ from by simp only[List.set_cons_zero,List.set_cons_succ,List.set_set,O4];rfl) ?_|refine Cc (aN λ_=>rfl) rfl kd qs (dZ _ _ _) ?_)
   rfl
  have c:=key.fzR;change ah _ _ _ _ _ [fz (.s .own _),fz (.s .own _),fz (B true)]at c;rw[Wb (r:=[.s .O (((nth m.T f).drop 1).map (aX.enc .O))]) (r':=[.s .own (((nth m.T f).drop 1).map (aX.enc .O))]) rfl]at c;rw[<-w];exact c
 rw[CI e,C1 e];have key:zzA 129 true [.val (some 2) (aI.enc .O m),.vI (f:Nat)] (.tup [some 2,none]) (aI.enc .own m++[B false]):=by
  refine fO 57 [(5,9,[31,32,33,34,35,36,37,38,39]),(6,270,[41,42,43,44,45,46,47,48,49,50,51,52,53,55,0,1,2,3,4,5,6,7,8,9,10,11,12,13,1000,1001,1002,1003,14,15])] Tryz.func129 rfl ?_ (.inl rfl)
  repeat'(first|refine gB ?_|refine gS (λD=>?_) (λD=>?_)|fail)
  rfl
 have c:=key.fzR;rw[ge,Ct]at c;exact c
def Hq(m:aI)(t:Nat)(d:bG m=true)(h:t<m.T.length):zzA 131 false [.val (some 2) (aI.enc .O m),.vI (t:Nat)] (.tup [some 2,none]) (aI.enc .own (jP m t)++aE .own (nth m.g t)):=by
 have b:=jp.of d;have e:=b.sml;have p:=b.b4;have j:=b.i4;have g:=hC m t e;rw[d,O0 ω]at g;have k:=gC m e;have c:=ar (xs:=m.g) (i:=t) ω;have l:=b.il t h;have n:=cK (nth m.g t) ω;have a:=a7 (Cn (jP m t)) (bH (nth m.g t));have o:aI.enc .own (jP m t)=[.s .own (m.T.map (bg .own)),.s .own ((m.g.map (aE .own)).set t [.s .own []])]:=by simp[aI.enc,jP,CC];rfl
 rw[o]at a |-;refine fO 25 [(5,7,[18,19,20,21,22,23,24])] Tryz.func131 rfl ?_ (.inr a)
 repeat'((conv=>whnf);first|with_reducible (first|refine Lm ?_|refine Wm ω ?_|refine CH (aa c) ?_|refine Bn ?_|refine km.dk rfl ?_)|refine Bt ?_|refine Bu ?_|refine CG ?_|refine CF (g) ?_|refine CF (k) ?_|refine CF (n) ?_|refine CL rfl (aa c) rfl ?_|refine CR rfl rfl (aa c) rfl (O2 rfl) rfl ?_|refine CG ?_)
 exact .cons (.rfl_ _) (.cons (Tq.set _ _ (.cons .z_ .nil)) (.cons (.rfl_ _) .nil))
def qn(h:ac)(t:Int)(l:ac.sml h)(a:bm h []):zzA 42 false [.val (some 24) (ac.enc .O h),.vI t] (.tup [some 24,none]) (dq (if h.G.Calls≠100000/\0<=t/\t<=h.R.length - 1 then collect h t.toNat else h)++[I (if h.G.Calls≠100000/\0<=t/\t<=h.R.length - 1 then((nth h.e.g t.toNat).length:Nat) else 0)]):=by
 have r:=a.nc;have u:=(dH.1 a.mail).1.2.2;have n:=dM h l;have b:=rD h t l;rw[a.to]at b;by_cases e:h.G.Calls≠100000/\0<=t/\t<=h.R.length - 1;rotate_left
 ·rw[CI e,CI e]
  rw[show(decide (0<=t/\t<=h.R.length - 1)&&decide (h.G.Calls≠100000)&&true)=false by
    rw[Bool.and_true,<-IA,I0,C0,C0];exact λx=>e ⟨x.2,x.1⟩]at b
  refine fP 40 [(132,[2,0,0])] [] Tryz.func42 rfl ?_ (.inr (a7 (cn _) ⟨tV1,tV1⟩))
  refine σP ?_
  rfl
 rw[CJ e,CJ e];obtain⟨o,p⟩:=e;rw[show(decide (0<=t/\t<=h.R.length - 1)&&decide (h.G.Calls≠100000)&&true)=true by
   rw[Bool.and_true,I0,C0,C0];exact⟨p,o⟩]at b
 obtain⟨T,rfl⟩:=t5 p.1;simp only[O4];have q:=Hq h.e T a.mail ω;have d:=(jp.of a.mail).il T ω;have g:=a.coll (t:=T) ω;rw[List.append_nil]at g;unfold collect;generalize nth h.e.g T=out at q g d |-;refine fP 40 [(132,[2,0,0])] [] Tryz.func42 rfl ?_ (.inr (a7 (cn _) ⟨tV1,tV1⟩))
 refine σP ?_
 refine lp0 out.length (λk=>[(1,fN T),(4,.X .box jX),(6,bS (dq (recycs T {h with e:=jP h.e T} (out.take k)))),(8,bC (aE .own out)),(27,.c6 8 0 [] none),(28,fI out.length),(29,fN k)]) λk y=>?_
 by_cases i:k<out.length
 ·have c:=ar i
  have j:bm (recycs T {h with e:=jP h.e T} (out.take k)) (nth out k::out.drop (k+1)):=by
   refine bm.recycs ?_ (by show T<h.R.length;omega);rw[<-gT i,List.take_append_drop];exact g
  have w:=xD _ _ T _ j (by rw[(gt T _ _).1];show T<h.R.length;omega) (by rw[(gt T _ _).2.2.1];exact o)
  refine σE ?_
  (refine CP (k+1) ω ω ?_)
  rw[zR _ _ _ _ i];exact wC
 obtain rfl:k=out.length:=ω
 rw[O9]
 refine σE ?_
 rfl
def mod1(k:af)(q:Nat):Prop:=(nth k.F.Q.M q).o=1
def K1(k a:af):Prop:=∀q,mod1 a q->mod1 k q
structure S1(h g:ac):Prop where
 k:K1 h.G g.G
 m:g.a2=h.a2
 j:g.a5=h.a5
def Ly(h:ac)(a:Int):Int:=cy (xa a) h.K
variable{a:Int}{h:ac}
def We(e:0<=Ly h a):(Ly h a).toNat<h.K.length/\(nth h.K (Ly h a).toNat).Addr<=a/\a<(nth h.K (Ly h a).toNat).Addr+(nth h.K (Ly h a).toNat).y:=by
 obtain⟨b,c,-⟩:=eZ (xa a) h.K e;exact⟨b,of_decide_eq_true c⟩
def zQ(o:aW)(a:Int)(c:0<=o.y/\o.y<=1000/\0<=o.Addr/\o.Addr<=1000):zzA 480 false [.val (some 4) (aW.enc .O o),.ptr [I a]] .one [B (xa a o)]:=by
 have b:=aG a o.Addr (o.Addr+o.y - 1);refine fO 14 [] Tryz.func480 rfl ?_
 refine σP ?_
 exact bx ((by unfold xa;exact decide_eq_decide.2 ω))
def Fy(h:ac)(a:Int)(e:h.K.length<=1048576)(b:∀o∈h.K,0<=o.y/\o.y<=1000/\0<=o.Addr/\o.Addr<=1000):zzA 413 false [.val (some 24) (ac.enc .O h),.vI a] .one [I (Ly h a)]:=by
 refine fO 9 [] Tryz.func413 rfl ?_
 repeat'(first|refine gP ?_|refine Cq.mk (sB (some 4) (aW.enc .O) (xa a) h.K) (zQ ⟨0,0,0,0⟩ a qs).has (λL k rcs c=>?_) ?_|refine CF (lJ h.K (xa a) ω) ?_)
 ·obtain⟨y,d,rfl,rfl,rfl⟩:=c
  exact zQ y a (b y d)
 rfl
def vu(h:ac)(a:Int)(e:ac.sml h)(b:bm h []):zzA 286 false [.val (some 24) (ac.enc .O h),.vI a] .one [I (Ly h a)]:=by
 have c:=cW h e;rw[eR,b.to]at c;have g:=b.lens.objs;have i:=Fy h a ω (λo d=>by
   have j:=b.objSz o d;have k:=pE b d;omega)
 refine fO 11 [] Tryz.func286 rfl ?_
 refine σP ?_
 rfl
def QL(b:bm h [])(e:0<=Ly h a):(ay (tbl h) (a / 16)).o≠0/\0<=a/\a<512:=by
 obtain⟨c,d,f⟩:=We e;have:=kX b (ax c) (k:=a - (nth h.K (Ly h a).toNat).Addr) ω;rw[show(nth h.K (Ly h a).toNat).Addr+(a - (nth h.K (Ly h a).toNat).Addr)=a by omega]at this;exact⟨this.1,ω,ω⟩
def Hw(h:ac)(a v:Int):ac × Int:=if Ly h a<0 then(h,1) else if(ay (tbl h) (a / 16)).o=1 then(h,2) else({h with G:=ja h.G a v},0)
def DZ(h:ac)(a v:Int)(l:ac.sml h)(b:bm h [])(o:0<=v/\v<=999):zzA 125 false [.val (some 24) (ac.enc .O h),.vI a,.vI v] (.tup [some 24,none]) (dq (Hw h a v).1++[I (Hw h a v).2]):=by
 have i:=dM h l;have j:=vu h a l b;unfold Hw;by_cases e:Ly h a<0
 ·rw[CJ e]
  refine fO 38 [] Tryz.func125 rfl ?_ (.inr (a7 (cn _) ⟨tV1,tV1⟩))
  repeat'(first|refine gE ?_|refine gS (λd=>?_) (λd=>?_)|fail)
  rfl
 rw[CI e];obtain⟨n,p⟩:=QL b (show 0<=Ly h a by omega);have k:=bk b.ker;obtain⟨-,-,-,q,u⟩:=bU b.ker n;have r:=(bi.1 (aF.1 b.ker).2.1).2.2.1;have c:=Dl h.G.F a v (jc b.ker) k.1 p o (λ_=>⟨q,ω,b.lens.row _ (ax ω)⟩);unfold iN at c;rw[CI (show ¬(ay h.G.F.Q (a / 16)).o=0 from n)]at c;by_cases g:(ay h.G.F.Q (a / 16)).o=1
 ·rw[CJ g]at c
  rw[CJ (show(ay (tbl h) (a / 16)).o=1 from g)];refine fO 38 [] Tryz.func125 rfl ?_ (.inr (a7 (cn _) ⟨tV1,tV1⟩))
  repeat'(first|refine gB ?_|refine gS (λd=>?_) (λd=>?_)|fail)
  rfl
 rw[CI g]at c;rw[CI (show ¬(ay (tbl h) (a / 16)).o=1 from g)];have t:dq {h with G:=ja h.G a v} = (dq h).set 0 (.s .own ((ja h.G a v).F.V.U.map (aE .own))):=rfl;refine fO 38 [] Tryz.func125 rfl ?_ (.inr (a7 (cn _) ⟨tV1,tV1⟩))
 repeat'(first|refine gB ?_|refine gS (λd=>?_) (λd=>?_)|fail)
 rfl
def U1{k:af}{a:Int}(b:fQ k a<k.F.V.U.length):∀m:Nat,a % 16+m<=16->zK k a m=fj k a m
 | 0,_=>by
  unfold zK fj jS;rw[Qg b]
 | m+1,h=>by
  have c:(ay k.F.Q ((a+m) / 16))=ay k.F.Q (a / 16):=by rw[show(a+(m:Int)) / 16=a / 16 by omega]
  have d:((a+(m:Int)) % 16).toNat=(a % 16).toNat+m:=ω
  show ja (zK k a m) (a+m) 0=_;rw[U1 b m ω];unfold ja setCell fQ fj;simp only[c,d,jS];rw[show(ay k.F.Q (a / 16)).j.toNat=fQ k a from rfl,cT,CJ ⟨rfl,b⟩,List.set_set]
def AR(l:a8)(n:Int)(d:cq l=true):zzA 289 false [.val (some 3) (a8.enc .O l),.vI n] (.tup [some 3,some 2,none]) (if 9<=n/\n<=l.y then a8.enc .own (trimL l n)++aC.enc .own (k7 l n)++[B true] else a8.enc .own l++[I 0,I 0]++[B false]):=by
 have b:=qM l;rw[d]at b;have a:=aG n 9 l.y;have g:=d;unfold cq at g;rw[C0]at g;by_cases e:9<=n/\n<=l.y
 ·rw[O0 e]at a
  rw[CJ e];have c:=pO n;rw[show fe n=(n+15) / 16 by unfold fe;rw[CJ ω]]at c;unfold k7;by_cases h:(n+15) / 16<l.a0
  ·rw[CJ h]
   refine fO 45 [(3,7,[20,21,22,23,24,25,7]),(6,268,[33,34,35,36,37,38,39,40,41,42,43,44,0,1,2,3,4,5,6,7,8,9,10,11,12,1001,1002,1003,1004,1005,1006,1007,1008,1009,1010,1011,13,14])] Tryz.func289 rfl ?_ (.inr ⟨tV1,tV1,tV1,tV1,tV1,tV1,tV1⟩)
   refine σB ?_
   rfl
  rw[CI h];have i:(n+15) / 16=l.a0:=ω
  refine fO 45 [(3,7,[20,21,22,23,24,25,7]),(6,268,[33,34,35,36,37,38,39,40,41,42,43,44,0,1,2,3,4,5,6,7,8,9,10,11,12,1001,1002,1003,1004,1005,1006,1007,1008,1009,1010,1011,13,14])] Tryz.func289 rfl ?_ (.inr ⟨tV1,tV1,tV1,tV1,tV1,tV1,tV1⟩)
  refine σB ?_
  rfl
 rw[C1 e]at a;rw[CI e];refine fO 45 [(3,7,[20,21,22,23,24,25,7]),(6,268,[33,34,35,36,37,38,39,40,41,42,43,44,0,1,2,3,4,5,6,7,8,9,10,11,12,1001,1002,1003,1004,1005,1006,1007,1008,1009,1010,1011,13,14])] Tryz.func289 rfl ?_ (.inr ⟨tV1,tV1,tV1,tV1,tV1,tV1,tV1⟩)
 refine σP ?_
 rfl
theorem dy(l:a8)(a:Int)(b:0<=l.S/\l.S<=32):zzA 288 false [.val (some 3) (a8.enc .O l),.ptr [I a]] .one [B (mZ a l)]:=by
 refine fO 9 [] Tryz.func288 rfl ?_
 refine σP ?_
 grind [mZ]
theorem Nh(h:ac)(i g:Nat)(n:Int)(K:af)(a:h.H≠[])(b:h.K≠[]):dq (ic h i g n K)=cE {h with G:=K} (oS h) (.s .own ((h.H.map (a8.enc .own)).set g (a8.enc .own (trimL (nth h.H g) n)))) (.s .own ((h.K.map (aW.enc .own)).set i (splice (aW.enc .own (nth h.K i)) 2 [I n]))):=by
 have c:oL (ic h i g n K)=.s .own ((h.H.map (a8.enc .own)).set g (a8.enc .own (trimL (nth h.H g) n))):=by
  unfold oL;rw[tj (by simp[ic];exact a)]
  grind [CC,ic]
 have d:oO (ic h i g n K)=.s .own ((h.K.map (aW.enc .own)).set i (splice (aW.enc .own (nth h.K i)) 2 [I n])):=by
  unfold oO;rw[tj (by simp[ic];exact b),Gh]
 unfold dq;rw[c,d];rfl
theorem Fn(h:ac)(i:Nat)(n:Int)(hs:ac.sml h)(l:bm h [])(Q:i<h.K.length):zzA 127 false [.val (some 24) (ac.enc .O h),.val none [I (nth h.K i).Addr],.vI n] (.tup [some 24,none]) (dq (if h.G.Calls≠100000/\je h i n then trimH h i (sW h (nth h.K i).Addr).toNat n else h)++[B (decide (h.G.Calls≠100000/\je h i n))]):=by
 have p:=l.lens;have hnl:=p.larges;have hno:=p.objs;have hpg:fT h<=32:=p.ents;have F:=dM h hs;have G:=cW h hs;rw[eR,l.to]at G;have u:=mB h.H (mZ (nth h.K i).Addr) ω;have d:∀y∈h.H,0<=y.S/\y.S<=32:=λy o=>by have:=bf (l.L.lok y o);omega
 change ah _ _ _ _ _ [I (sW h (nth h.K i).Addr)]at u;by_cases e1:sW h (nth h.K i).Addr<0
 ·rw[CI (λx=>by have:=x.2.1;omega),C1 (λx=>by have:=x.2.1;omega)]
  refine fP 81 [(281,[2,0,0]),(280,[2,0])] [(9,6,[53,54,55,56,57,58])] Tryz.func127 rfl ?_ (.inr (a7 (cn _) ⟨tV1,tV1⟩))
  repeat'(first|refine gE ?_|refine Cq.mk (sB (some 3) (a8.enc .O) (mZ (nth h.K i).Addr) h.H) (dy ⟨0,0,0⟩ (nth h.K i).Addr ⟨by decide,by decide⟩).has (λL k rcs q=>?_) ?_)
  ·obtain⟨y,o,rfl,rfl,rfl⟩:=q
   exact dy y _ (d y o)
  rfl
 by_cases e2:h.G.Calls=100000
 ·rw[CI (λx=>x.1 e2),C1 (λx=>x.1 e2)]
  refine fP 81 [(281,[2,0,0]),(280,[2,0])] [(9,6,[53,54,55,56,57,58])] Tryz.func127 rfl ?_ (.inr (a7 (cn _) ⟨tV1,tV1⟩))
  repeat'(first|refine gB ?_|refine Cq.mk (sB (some 3) (a8.enc .O) (mZ (nth h.K i).Addr) h.H) (dy ⟨0,0,0⟩ (nth h.K i).Addr ⟨by decide,by decide⟩).has (λL k rcs q=>?_) ?_)
  ·obtain⟨y,o,rfl,rfl,rfl⟩:=q
   exact dy y _ (d y o)
  rfl
 obtain⟨f1,f2,f3⟩:=eZ (mZ (nth h.K i).Addr) h.H (by grind [sW]);obtain⟨g,R⟩:=t5 (show 0<=sW h (nth h.K i).Addr by omega);have r:g<h.H.length:=by grind [sW]
 have hga:(nth h.H g).S*16=(nth h.K i).Addr:=by grind [mZ,sW]
 have S:je h i n↔9<=n/\n<=(nth h.H g).y:=by grind [je]
 rw[R,O4];rw[R]at u;have b:=ar r;have H:=AR (nth h.H g) n (l.L.lok _ (ax r));by_cases T:9<=n/\n<=(nth h.H g).y;rotate_left
 ·rw[CI ψ,C1 ψ]
  rw[CI T]at H;refine fP 81 [(281,[2,0,0]),(280,[2,0])] [(9,6,[53,54,55,56,57,58])] Tryz.func127 rfl ?_ (.inr (a7 (cn _) ⟨tV1,tV1⟩))
  repeat'(first|refine gB ?_|refine Cq.mk (sB (some 3) (a8.enc .O) (mZ (nth h.K i).Addr) h.H) (dy ⟨0,0,0⟩ (nth h.K i).Addr ⟨by decide,by decide⟩).has (λL k rcs q=>?_) ?_)
  ·obtain⟨y,o,rfl,rfl,rfl⟩:=q
   exact dy y _ (d y o)
  rfl
 rw[CJ ⟨e2,S.2 T⟩,O0 ⟨e2,S.2 T⟩];rw[CJ T]at H;change ah _ _ _ _ _ ([I (nth h.H g).S,I ((n+15) / 16),I n]++aC.enc .own (k7 (nth h.H g) n)++[B true]) at H;obtain⟨-,U,t⟩:=l.objAt (ax Q);have hii:kR h (nth h.K i).Addr=i:=by
  have h2:=(l.objAt (ax Q)).1;exact i6 (f:=(·.Addr)) (iu l.osr) h2 Q (by rw[U])
 rw[hii]at t;have V:=vG h (nth h.K i).Addr ω;rw[t]at V;have c:=ar Q;have h8:=l.L.lok _ (ax r);unfold cq at h8;rw[C0]at h8;have W:h.H≠[]:=gU r;have X:h.K≠[]:=gU Q;have heh:dq h=cE h (oS h) (.s .own (h.H.map (a8.enc .own))) (.s .own (h.K.map (aW.enc .own))):=by grind [tj,List.map_eq_nil_iff,dq,oL,oO]
 rw[heh]at F;have Y:=λK=>Nh h i g n K W X
 have w:((nth h.H g).S*16+n).tmod 16=((nth h.H g).S*16+n) % 16:=fg ω;have J:=DP l r T (z5 _);have Z:=oN l r (a:=16*(nth h.H g).S+n - 1) ω;have M:=y5 h.G (16*(nth h.H g).S+n) (16*((n+15) / 16) - n).toNat;have N:trimH h i g n = {ic h i g n (sA h g n) with G:=dJ (sA h g n) ((nth h.H g).S+(n+15) / 16) (dE (nth h.H g) n),b:=zn h g n}:=rfl;obtain⟨K,hK⟩ : ∃K,K=sA h g n:=⟨_,rfl⟩
 have C:(((nth h.H g).S*16+n) % 16=0->K=h.G)/\(((nth h.H g).S*16+n) % 16≠0->K=fj h.G ((nth h.H g).S*16+n) (16 - ((nth h.H g).S*16+n) % 16).toNat):=by
  rw[hK];unfold sA;constructor
  ·intro z
   rw[show(16*((n+15) / 16) - n).toNat=0 by omega];rfl
  intro z;rw[show(16*((n+15) / 16) - n).toNat=(16 - ((nth h.H g).S*16+n) % 16).toNat by omega,show 16*(nth h.H g).S+n=(nth h.H g).S*16+n by omega];refine U1 ?_ _ ω;obtain⟨-,-,-,q0,q1⟩:=bU l.ker Z;have hul:=(bi.1 (aF.1 l.ker).2.1).2.2.1
  grind [fQ]
 rw[N,<-hK];have hkk:aH K=true:=by rw[hK];exact J
 have hkc:K.Calls≠100000:=by rw[hK];show(zK _ _ _).Calls≠_;omega
 have hke:K.F.Q.M.length=h.G.F.Q.M.length:=by rw[hK];show(zK _ _ _).F.Q.M.length=_;rw[M.1]
 have hpn:fT (ic h i g n K)=fT h:=hke;clear N J M;have c9:=ku (ic h i g n K) (k7 (nth h.H g) n) (dE (nth h.H g) n) hkk hkc (by show h.b.length<=_;grind [oH.free]) (by grind [k7,dE]);rw[hpn,Y]at c9;have hd:dq {ic h i g n K with G:=dJ K ((nth h.H g).S+(n+15) / 16) (dE (nth h.H g) n),b:=zn h g n} = if(n+15) / 16<(nth h.H g).a0 then dq {ic h i g n K with G:=dJ K (k7 (nth h.H g) n).At (dE (nth h.H g) n),b:=(cr (fT h) h.b (k7 (nth h.H g) n)).getD h.b} else cE {h with G:=K} (oS h) (.s .own ((h.H.map (a8.enc .own)).set g (a8.enc .own (trimL (nth h.H g) n)))) (.s .own ((h.K.map (aW.enc .own)).set i (splice (aW.enc .own (nth h.K i)) 2 [I n]))):=by
  by_cases e:(n+15) / 16<(nth h.H g).a0
  ·grind [k7,dE,zn]
  rw[CI e,<-Y];have O:dE (nth h.H g) n=0:=by unfold dE;omega
  unfold zn;rw[O,CI ω];rfl
 rw[hd];have D:(k7 (nth h.H g) n).a4=if(n+15) / 16<(nth h.H g).a0 then(nth h.H g).a0 - (n+15) / 16 else 0:=by grind [k7]
 have j:gl (if(n+15) / 16<(nth h.H g).a0 then dq {ic h i g n K with G:=dJ K (k7 (nth h.H g) n).At (dE (nth h.H g) n),b:=(cr (fT h) h.b (k7 (nth h.H g) n)).getD h.b} else cE {h with G:=K} (oS h) (.s .own ((h.H.map (a8.enc .own)).set g (a8.enc .own (trimL (nth h.H g) n)))) (.s .own ((h.K.map (aW.enc .own)).set i (splice (aW.enc .own (nth h.K i)) 2 [I n])))):=by grind [cn]
 clear hd hga t U f1 f2 f3;by_cases e5:((nth h.H g).S*16+n) % 16=0
 ·have E:=C.1 e5
  rw[E]at c9 j |-;clear C;by_cases O:(n+15) / 16<(nth h.H g).a0
  ·rw[CJ O]at j D |-
   refine fP 81 [(281,[2,0,0]),(280,[2,0])] [(9,6,[53,54,55,56,57,58])] Tryz.func127 rfl ?_ (.inr (a7 j ⟨tV1,tV1⟩))
   repeat'(first|refine gB ?_|refine gS (λP=>?_) (λP=>?_)|refine Cq.mk (sB (some 3) (a8.enc .O) (mZ (nth h.K i).Addr) h.H) (dy ⟨0,0,0⟩ (nth h.K i).Addr ⟨by decide,by decide⟩).has (λL k rcs q=>?_) ?_|refine CR rfl rfl (aa b) rfl (O2 rfl) rfl ?_|refine CR rfl rfl (aa c) rfl (O2 rfl) rfl ?_|refine CT qs ?_|refine CX w ?_)
   ·obtain⟨y,o,rfl,rfl,rfl⟩:=q
    exact dy y _ (d y o)
   rfl
  rw[CI O]at j D |-;refine fP 81 [(281,[2,0,0]),(280,[2,0])] [(9,6,[53,54,55,56,57,58])] Tryz.func127 rfl ?_ (.inr (a7 j ⟨tV1,tV1⟩))
  repeat'(first|refine gB ?_|refine gS (λP=>?_) (λP=>?_)|refine Cq.mk (sB (some 3) (a8.enc .O) (mZ (nth h.K i).Addr) h.H) (dy ⟨0,0,0⟩ (nth h.K i).Addr ⟨by decide,by decide⟩).has (λL k rcs q=>?_) ?_|refine CR rfl rfl (aa b) rfl (O2 rfl) rfl ?_|refine CR rfl rfl (aa c) rfl (O2 rfl) rfl ?_|refine CT qs ?_|refine CX w ?_)
  ·obtain⟨y,o,rfl,rfl,rfl⟩:=q
   exact dy y _ (d y o)
  rfl
 have E:=C.2 e5;have hcc:0<=(ay h.G.F.Q (((nth h.H g).S*16+n) / 16)).j/\(ay h.G.F.Q (((nth h.H g).S*16+n) / 16)).j<h.G.F.V.U.length:=by
  obtain⟨-,-,-,q0,q1⟩:=bU l.ker Z;have hul:=(bi.1 (aF.1 l.ker).2.1).2.2.1
  grind
 have c8:=mH h (oS h) (.s .own ((h.H.map (a8.enc .own)).set g (a8.enc .own (trimL (nth h.H g) n)))) (.s .own ((h.K.map (aW.enc .own)).set i (splice (aW.enc .own (nth h.K i)) 2 [I n]))) ((nth h.H g).S*16+n) (16 - ((nth h.H g).S*16+n) % 16).toNat l.ker ω hcc ω (p.row _ (ax (by unfold fQ;omega)));rw[<-E,show(((16 - ((nth h.H g).S*16+n) % 16).toNat:Nat):Int)=16 - ((nth h.H g).S*16+n) % 16 by omega]at c8;clear C E;by_cases O:(n+15) / 16<(nth h.H g).a0
 ·rw[CJ O]at j D |-
  refine fP 81 [(281,[2,0,0]),(280,[2,0])] [(9,6,[53,54,55,56,57,58])] Tryz.func127 rfl ?_ (.inr (a7 j ⟨tV1,tV1⟩))
  repeat'(first|refine gB ?_|refine gS (λP=>?_) (λP=>?_)|refine Cq.mk (sB (some 3) (a8.enc .O) (mZ (nth h.K i).Addr) h.H) (dy ⟨0,0,0⟩ (nth h.K i).Addr ⟨by decide,by decide⟩).has (λL k rcs q=>?_) ?_|refine CR rfl rfl (aa b) rfl (O2 rfl) rfl ?_|refine CR rfl rfl (aa c) rfl (O2 rfl) rfl ?_|refine CT qs ?_|refine CX w ?_)
  ·obtain⟨y,o,rfl,rfl,rfl⟩:=q
   exact dy y _ (d y o)
  rfl
 rw[CI O]at j D |-;refine fP 81 [(281,[2,0,0]),(280,[2,0])] [(9,6,[53,54,55,56,57,58])] Tryz.func127 rfl ?_ (.inr (a7 j ⟨tV1,tV1⟩))
 repeat'(first|refine gB ?_|refine gS (λP=>?_) (λP=>?_)|refine Cq.mk (sB (some 3) (a8.enc .O) (mZ (nth h.K i).Addr) h.H) (dy ⟨0,0,0⟩ (nth h.K i).Addr ⟨by decide,by decide⟩).has (λL k rcs q=>?_) ?_|refine CR rfl rfl (aa b) rfl (O2 rfl) rfl ?_|refine CR rfl rfl (aa c) rfl (O2 rfl) rfl ?_|refine CT qs ?_|refine CX w ?_)
 ·obtain⟨y,o,rfl,rfl,rfl⟩:=q
  exact dy y _ (d y o)
 rfl
def H2(h:ac)(t a:Int)(b:ac.sml h)(e:fw h=true)(j:h.G.Calls≠100000)(g:¬(0<=t/\t<=h.R.length - 1)):zzA 123 false [.val (some 24) (ac.enc .O h),.vI t,.vI a] (.tup [some 24,none]) (dq h++[I 1]):=by
 have c:=cW h b;rw[eR,e]at c;have i:h.R.length<=1048576:=b.2.2.2.2.2.1.1;have d:=aG t 0 (h.R.length - 1:Int);rw[C1 g]at d;refine fP 163 [(276,[1,0,0]),(279,[1,0,0]),(280,[2,0]),(281,[2,0,0]),(132,[2,0,0])] [(20,12,[85,86,87,88,89,90,91,92,93,94,95,96]),(24,4,[111,112,113,114])] Tryz.func123 rfl ?_ (.inr (a7 (cn _) ⟨tV1,tV1⟩))
 repeat'(first|refine gB ?_|refine CF (dM h b) ?_)
 rfl
def Tm(m:aL)(a v:Int)(h:dn m=true)(c:aL.sml m)(i:0<=a/\a<512)(j:¬(0<=v/\v<=999))(k:(ay m.Q (a / 16)).o≠0):zzA 287 false [.val (some 3) (aL.enc .O m),.vI a,.vI v] (.tup [some 3,none]) (aL.enc .own m++[I (if(ay m.Q (a / 16)).o=1 then 2 else 3)]):=by
 have d:=lv m c;have e:=xQ m a h c i;have b:=aG v 0 999;rw[C1 j]at b;by_cases g:(ay m.Q (a / 16)).o=1
 ·rw[CJ g]
  refine fO 42 [] Tryz.func287 rfl ?_ (.inr (a7 (aL.enc_fr m) ⟨tV1,tV1⟩))
  refine σB ?_
  rfl
 rw[CI g];refine fO 42 [] Tryz.func287 rfl ?_ (.inr (a7 (aL.enc_fr m) ⟨tV1,tV1⟩))
 refine σB ?_
 rfl
def F9(h:ac)(a v:Int)(i:ac.sml h)(b:bm h [])(n:¬(0<=v/\v<=999))(e:0<=Ly h a):zzA 125 false [.val (some 24) (ac.enc .O h),.vI a,.vI v] (.tup [some 24,none]) (dq h++[I (if(ay (tbl h) (a / 16)).o=1 then 2 else 3)]):=by
 have j:=dM h i;have k:=vu h a i b;obtain⟨o,p⟩:=QL b e;have d:=bk b.ker;have c:=Tm h.G.F a v (jc b.ker) d.1 p n o;unfold tbl;by_cases l:(ay h.G.F.Q (a / 16)).o=1
 ·rw[CJ l]at c |-
  refine fO 38 [] Tryz.func125 rfl ?_ (.inr (a7 (cn _) ⟨tV1,tV1⟩))
  repeat'(first|refine gB ?_|refine gS (λg=>?_) (λg=>?_)|fail)
  rfl
 rw[CI l]at c |-;refine fO 38 [] Tryz.func125 rfl ?_ (.inr (a7 (cn _) ⟨tV1,tV1⟩))
 repeat'(first|refine gB ?_|refine gS (λg=>?_) (λg=>?_)|fail)
 rfl
set_option maxRecDepth 100000
def N7:∀w,(zeroValue 265).run Tryz.prog w=.ok (.agg #[.int .i64 0,.int .i64 0]) w:=λ_=>by kernel_rfl
def HB:y3 Tryz.prog 472 2:=by
 refine⟨⟨_,Tryz.func472,by kernel_rfl,by kernel_rfl⟩,λw g n c i news r y o B C b=>?_⟩;obtain⟨A,X,a⟩:=w7 o y r B;have a:Hid (∀t u,news[t]? = some u->w.drew.cell? (A.add t)=some u):=a;have T:Hid (news.length=(n - (i+1))*2):=o;have Y:Hid (∀u∈news,u.oneCell'=true):=C;have Z:Hid (∀t,t<news.length->(w.drew.cell? ⟨g,0+i*2+t,none⟩).isSome=true/\w.drew.frozen? ⟨g,0+i*2+t,none⟩ = false):=λt ht=>by
  rw[SD];exact b (i*2+t) ω
 obtain⟨p,d⟩ : ∃p,p=w.drew.setCells g (0+i*2) news:=⟨_,rfl⟩
 have K:∀q,q<n*2->(p.cell? ⟨g,q,none⟩).isSome=true/\p.frozen? ⟨g,q,none⟩ = false:=λq U=>by
  have D:∀j,j<news.length->∃z,cel w.drew g (0+i*2+j)=some z:=λj L=>by
   have:=(b (0+i*2+j) ω).1;exact Option.isSome_iff_exists.1 this
  refine⟨?_,by rw[d];exact(O1 Prod.fst (ch g _ news w.drew g q)).trans (b q U).2⟩;rw[d];by_cases h:0+i*2<=q/\q<0+i*2+news.length
  ·have:=b6 D (z4 (show q - (0+i*2)<news.length by omega))
   rw[show 0+i*2+(q - (0+i*2))=q by omega]at this;show(cel _ g q).isSome=true;rw[this];rfl
  show(cel _ g q).isSome=true;rw[bp (λx=>h x.2)];exact(b q U).1
 obtain⟨M,E,F,G⟩:=xK (P:=Tryz.prog) p 67 265 2 (.agg #[.int .i64 0,.int .i64 0]) Tryz.underlying67 N7 rfl (by intro v V;simp[Value.cells]at V;subst V;rfl) g ((i+(n - (i+1)))*2) (n - (i+(n - (i+1)))) ω qs (λj L=>(K _ ω).1) (λj L=>(K _ ω).2);have k:Hid (M.length=(n - (i+(n - (i+1))))*2):=E;have H:Hid (∀v∈M,v.oneCell'=true):=F;have W:Hid (p=w.drew.setCells g (0+i*2) news):=d;have hic:i<=c:=ω
 have N:i+1<=c:=ω
 have O:¬i=i+1:=ω
 have Q:i+1<=n:=r;have l:n - 1=i+(n - (i+1)):=ω
 clear d K b B C o E F;rw[l];generalize L:i+1=j at X a T G k N O Q l |-;obtain⟨J,R,S⟩ : ∃J,Tryz.prog.info? 265=some J/\J.size=2:=by
  have h:=(rV 265 _ rfl).1;cases e : Tryz.prog.info? 265 with
  | none=>rw[e]at h;cases h
  | some x=>rw[e]at h;simp only[S9,C2,Prod.mk.injEq]at h;exact⟨x,rfl,h.2.1⟩
 have mixed : Tryz.prog.follows .mixedOrders=true:=by kernel_rfl
 go_enter Tryz.func472,Tryz.ntmps472
 go_wp2_with fail
 go_region_law_o (refine step_append_room rfl (.tmp 22) (.tmp 25) 67 rfl 265 J 2 Tryz.underlying67 R S g 0 i c (by simp[Act.eval,Act.put]) A (n - j) (c - j) news (by simp[Act.eval,Act.put]) T.out a.out Y.out ω Z.out ?_;rw[<-W.out])
 go_wp2
 go_ret
 refine⟨rfl,M,by have:=k.out;omega,H.out,?_⟩;rw[W.out,SD]
def H9(xs:List aC)(i:Nat)(a:i<xs.length):zzB 472 false [.mut none [.s .own (xs.map (aC.enc .own))],.vI (i:Nat),.vI ((i+1:Nat):Int)] [.mut none [.x],.vI (i:Nat),.vI ((i+1:Nat):Int)] .one [oE ((dele xs i).map (aC.enc .own))]:=by
 have h:=Dh HB (rows:=xs.map (aC.enc .own)) (i:=i) (by rw[I2];exact a) (aN λ_=>rfl) (bj _ _ λx _=>aC.enc_fr x)
 rwa [show dele (xs.map (aC.enc .own)) i=(dele xs i).map (aC.enc .own) by simp[dele,C8,I8]]at h
variable{α:Type}
def V3(xs:List α)(b:Nat)(y:α):dele (xs.set b y) b=dele xs b:=by
 unfold dele;rw[List.take_set_of_le (z5 b),List.drop_set_of_lt (Nat.lt_succ_self b)]
def xp(k:af)(p:Int)(c:aH k=true)(w:k.Calls≠100000)(n:0<=p/\p<k.F.Q.M.length)(y:(nth k.F.Q.M p.toNat).o=0):zzA 402 false [.val (some 5) (af.enc .O k),.vI p] (.tup [some 5,none]) (af.enc .own (dY k p).1++[B (dY k p).2]):=by
 have h:=bk c;have C:=(aF.1 c).2.2.2;have D:=(bz.1 (aF.1 c).2.2.1).2.2;have d:=jg k h;rw[c,O0 w]at d;have g:=rx k h ⟨ω,ω⟩;have a:=DI k.F.V (aF.1 c).2.1 h.1.1;have j:ay k.F.Q p=nth k.F.Q.M p.toNat:=by unfold ay;exact CJ n
 have o:=aG p 0 ((k.F.Q.M.length:Int) - 1);rw[O0 ω]at o;have q:=fY k p h.1.2;rw[j,y,C1 qs]at q;have r:=ar (xs:=k.F.Q.M) (i:=p.toNat) ω;unfold zM at a;unfold dY;cases e:refd k<;>rw[e]at g
 ·by_cases b:su k<0
  ·rw[CJ (.inr b)]
   rw[CJ (show cy (λu=>!u) k.F.V.a3<0 from b)]at a;simp only at a;refine fO 64 [] Tryz.func402 rfl ?_ (.inr (a7 (Ci _) ⟨tV1,tV1⟩))
   refine σP ?_
   rfl
  rw[CI (by simp[b])];rw[CI (show ¬cy (λu=>!u) k.F.V.a3<0 from b)]at a;simp only at a;obtain⟨f,t⟩:=t5 (show 0<=su k by omega);have l:cy (λu=>!u) k.F.V.a3=(f:Nat):=t;rw[l]at a;rw[t];simp only[O4]at a |-;rw[G3]at a;rw[BQ];refine fO 64 [] Tryz.func402 rfl ?_ (.inr (a7 (by rw[<-BQ];exact Ci _) ⟨tV1,tV1⟩))
  repeat'(first|refine gP ?_|refine CQ n.1 (aa r) ?_|refine CR rfl rfl (aa r) rfl (O2 rfl) rfl ?_)
  rfl
 rw[CJ (.inl rfl)];by_cases b:su k<0
 ·rw[CJ (show cy (λu=>!u) k.F.V.a3<0 from b)]at a
  simp only at a;refine fO 64 [] Tryz.func402 rfl ?_ (.inr (a7 (Ci _) ⟨tV1,tV1⟩))
  refine σP ?_
  rfl
 rw[CI (show ¬cy (λu=>!u) k.F.V.a3<0 from b)]at a;simp only at a;refine fO 64 [] Tryz.func402 rfl ?_ (.inr (a7 (Ci _) ⟨tV1,tV1⟩))
 refine σP ?_
 rfl
def YX(xs:List aC)(n:Int):List C:=(if(aD xs n).2.2=true then [oE ((aD xs n).1.map (aC.enc .own))] else bn .own xs)++[I (aD xs n).2.1,B (aD xs n).2.2]
def Yr(xs:List aC)(n:Int):gl (YX xs n):=by
 unfold YX;split
 ·exact a7 ⟨Dz (jY _).1.2,tV1⟩ ⟨tV1,tV1,tV1⟩
 exact a7 (jY _) ⟨tV1,tV1,tV1⟩
def GJ(xs:List aC)(b:Nat)(y:aC):(xs.set b y).map (aC.enc .own)=(xs.map (aC.enc .own)).set b [I y.At,I y.a4]:=by rw[CC];rfl
def BI(pages:Int)(xs:List aC)(n:Int)(J:0<=pages/\pages<=1048576)(u:bN pages xs=true)(Q:1<=n/\n<=1000)(R:xs.length<=4096):zzA 400 false [.vI pages,.val none (bn .O xs),.vI n] (.tup [none,none,none]) (YX xs n):=by
 have p:f9 xs:=⟨ω,λ_ _=>tV1⟩
 have w:=pZ pages xs J p;rw[u]at w;have K:=mP xs p;have B:=(xS u).2;refine fP 91 [(472,[1,0,0])] [(8,15,[32,33,34,35,36,37,38,39,40,41,42,43,44,45,46])] Tryz.func400 rfl ?_ (.inr (Yr xs n))
 refine σE ?_
 refine lp0 xs.length (λi=>[(1,bC (bn .O xs)),(2,fI n),(9,bC (bn .own xs)),(10,fI (gY xs n i)),(25,bC (bn .O xs)),(26,fI xs.length),(27,fN i)]) λi L=>?_
 have l:=w8 xs n i L;by_cases D:i<xs.length
 ·have k:=ar D
  have M:=B _ (ax D);have d:gY xs n (i+1)=if n<=(nth xs i).a4/\(gY xs n i<0\/(nth xs i).a4<(nth xs (gY xs n i).toNat).a4) then((i:Nat):Int) else gY xs n i:=rfl
  by_cases E:n<=(nth xs i).a4
  ·by_cases N:gY xs n i<0
   ·rw[CJ ⟨E,.inl N⟩]at d
    repeat'(first|refine gE ?_|refine gS (λh=>?_) (λh=>?_)|fail)
    (refine CP (i+1) ω ω ?_)
    rw[d];exact wC
   have a:=ar (xs:=xs) (i:=(gY xs n i).toNat) ω;by_cases O:(nth xs i).a4<(nth xs (gY xs n i).toNat).a4
   ·rw[CJ ⟨E,.inr O⟩]at d
    repeat'(first|refine gE ?_|with_reducible refine CQ ω (aa a) ?_|refine gS (λh=>?_) (λh=>?_)|fail)
    (refine CP (i+1) ω ω ?_)
    rw[d];exact wC
   rw[CI ω]at d
   repeat'(first|refine gE ?_|with_reducible refine CQ ω (aa a) ?_|refine gS (λh=>?_) (λh=>?_)|fail)
   (refine CP (i+1) ω ω ?_)
   rw[d];exact wC
  rw[CI ω]at d
  repeat'(first|refine gE ?_|refine gS (λh=>?_) (λh=>?_)|fail)
  (refine CP (i+1) ω ω ?_)
  rw[d];exact wC
 obtain rfl:i=xs.length:=ω
 change g0 xs n = -1\/_ at l;unfold YX aD;rw[show gY xs n xs.length=g0 xs n from rfl];by_cases e:g0 xs n<0
 ·rw[CJ e]
  rw[show g0 xs n = -1 from l.resolve_right λg=>by have S:0<=g0 xs n:=g.1;omega]
  repeat'(first|refine gE ?_|refine gS (λh=>?_) (λh=>?_)|fail)
  rfl
 rw[CI e];obtain⟨P,F,T⟩:=l.resolve_left ω;change 0<=g0 xs n at P;change g0 xs n<xs.length at F;obtain⟨b,r⟩:=t5 (show 0<=g0 xs n by omega);rw[r]at F |-;simp only[O4];have a:=ar (xs:=xs) (i:=b) ω;have M:=B _ (ax (xs:=xs) (i:=b) ω);have c:((xs.map (aC.enc .own)).set b [I ((nth xs b).At+n),I (nth xs b).a4])[b]? = some [I ((nth xs b).At+n),I (nth xs b).a4]:=kD ω;have j:((xs.set b ⟨(nth xs b).At+n,(nth xs b).a4 - n⟩).map (aC.enc .own))[b]? = some [I ((nth xs b).At+n),I ((nth xs b).a4 - n)]:=by rw[GJ];exact kD ω
 have o:∀t:List C,t.set 0 (.s .own (((xs.map (aC.enc .own)).set b [I ((nth xs b).At+n),I (nth xs b).a4]).set b [I ((nth xs b).At+n),I ((nth xs b).a4 - n)]))=t.set 0 (.s .own ((xs.set b ⟨(nth xs b).At+n,(nth xs b).a4 - n⟩).map (aC.enc .own))):=λt=>by rw[GJ,List.set_set]
 have q:=H9 (xs.set b ⟨(nth xs b).At+n,(nth xs b).a4 - n⟩) b (by rw[C3];omega);rw[V3]at q;by_cases G:(nth xs b).a4=n
 ·rw[CJ G]
  generalize dele xs b=H at q |-;cases H with
  | nil=>
   repeat'(first|refine gB ?_|refine gS (λh=>?_) (λh=>?_)|refine CH c ?_|refine CH j ?_|refine CL rfl c rfl ?_|refine CL rfl j rfl ?_|refine CR rfl rfl (aa a) rfl (O2 rfl) rfl ?_|refine CR rfl rfl c rfl (O2 rfl) (o _).symm ?_)
   rfl
  | cons y H=>
   repeat'(first|refine gB ?_|refine gS (λh=>?_) (λh=>?_)|refine CH c ?_|refine CH j ?_|refine CL rfl c rfl ?_|refine CL rfl j rfl ?_|refine CR rfl rfl (aa a) rfl (O2 rfl) rfl ?_|refine CR rfl rfl c rfl (O2 rfl) (o _).symm ?_)
   rfl
 rw[CI G]
 repeat'(first|refine gB ?_|refine gS (λh=>?_) (λh=>?_)|refine CH c ?_|refine CH j ?_|refine CL rfl c rfl ?_|refine CL rfl j rfl ?_|refine CR rfl rfl (aa a) rfl (O2 rfl) rfl ?_|refine CR rfl rfl c rfl (O2 rfl) (o _).symm ?_)
 rw[CJ rfl,tj (by rw[Ne,List.map_eq_nil_iff,<-List.length_eq_zero_iff,C3];omega)]
 rfl
variable{P:Program}
def r6(w:World)(dT sT ty elem:TypeId)(k b o dLen dCap:Nat)(a:Addr)(sLen sCap n:Nat)(cs:List Value)(h:P.underlying dT=some (.slice elem))(g:(P.info? elem).map (·.size)=some k)(l:Nat.min sLen dLen=n)(p:cs.length=n*k)(c:∀j v,cs[j]? = some v->w.cell? (a.add j)=some v)(q:∀j,j<cs.length->(w.cell? ⟨b,o+j,none⟩).isSome=true)(r:∀j,j<cs.length->w.frozen? ⟨b,o+j,none⟩ = false)(h1:∀v∈cs,v.oneCell'=true) :
  (Builtin.copy_ #[dT,sT] ty #[.slice (some ⟨b,o,none⟩) dLen dCap,.slice (some a) sLen sCap]).run P w=.ok (goInt n) (w.setCells b o cs):=by
 have d:=run_loadCells_list (P:=P) w a cs c;have e:=run_storeCells_cells (P:=P) b o cs 0 w (by simpa using q) (by simpa using r) h1;rw[p]at d;cases f:P.info? elem with
 | none=>simp[f]at g
 | some i=>
  have t:i.size=k:=by simpa[f] using g
  simp[Builtin.copy_,run_underlying h,Builtin.lenOf,Builtin.firstCells,sizeOf,typeInfo,f,t,l,d,e]
variable{Q:Exit->Act->World->Prop}{ops:Array Oper}
def pS(w:World){rest:List Oper}{o:Oper}{a:Act}(b:o.guard=none)(d s:Operand)(t c:TypeId)(g:o.op=.call {callee:=.builtin .copy,args:=#[d,s],argTypes:=#[t,c]})(v u:Value)(i:a.eval d=v)(j:a.eval s=u){e:Value}{f:World}(k:(Builtin.copy_ #[t,c] o.type #[v,u]).run P w=.ok e f)(h:wpList P ops Q rest (a.put o.dst e) f):wpList P ops Q (o::rest) a w:=by
 refine wpList_plain b λ_ l=>?_
 unfold Oper.wp execOp;simp only[g,resolve,invoke,builtin,Sem.run_bind,Sem.run_pure,Result.andThen_ok,List.map_toArray,OB,List.map_nil,i,j,k];exact l _ _ h
variable{w:World}
theorem z6{o:Oper}{a:Act}{K:Act->World->Prop}{E:Prop}(k:o.guard=none)(d x:Operand)(dT sT:TypeId)(b:o.op=Op.call {callee:=Callee.builtin Builtin.copy,args:=#[d,x],argTypes:=#[dT,sT]})(v u:Value)(f:a.eval d=v)(g:a.eval x=u){c:Value}{e:World}(h:(Builtin.copy_ #[dT,sT] o.type #[v,u]).run P w=.ok c e)(i:K (a.put o.dst c) e) :
  if Region.wanted o (yielded ops a.tmps)=true then Oper.wp P o a w K Q else E:=by
 have j:Region.wanted o (yielded ops a.tmps)=true:=by grind [Go.Region.wanted]
 rw[CJ j];unfold Oper.wp;simp[execOp,b,resolve,invoke,builtin,f,g,h,Result.andThen];exact i
def PL(b:Nat):∀(vs:List Value)(o:Nat)(w:World),(w.setCells b o vs).drew=w.drew.setCells b o vs
 | [],_,_=>rfl
 | v::r,o,w=>by rw[World.setCells,World.setCells,PL b r];rfl
theorem Hf(b:Nat)(vs:List Value)(o:Nat)(w:World)(h:∀j,j<vs.length->(w.cell? ⟨b,o+j,none⟩).isSome=true)(q:Nat)(c:(w.cell? ⟨b,q,none⟩).isSome=true):((w.setCells b o vs).cell? ⟨b,q,none⟩).isSome=true:=by
 by_cases a:o<=q/\q<o+vs.length
 ·have:=World.cell?_setCells_in b vs o w h (q - o) ω
  grind
 grind [Go.World.cell?_setCells_out]
variable{g:Nat}
theorem MD{z:Value}(c:cel w g 0=some z)(a:fro w g 0=NF):∃t k,w.shape? g=some (t,k)/\k≠0/\w.frozen? ⟨g,0,none⟩ = false/\w.frozen? ⟨g,k,none⟩ = false:=by
 have d:=O1 Prod.fst a;have b:=O1 Prod.snd a;simp only[fro]at d b;unfold mp at b;unfold cel World.cell? at c;unfold World.shape?
 grind [Go.World.frozen?]
variable{e k:Nat}
def Mx{tS tR a b:Nat}{z h:Value}(i:P.underlying tS=some (.slice e))(j:∀w,(Go.sizeOf e).run P w=.ok k w)(c:a≠b)(h1:cel w a 0=some z)(h2:fro w a 0=NF)(l:cel w b 0=some h)(n:fro w b 0=NF)(x la d f g:Nat) :
  (Extern.SlicesOverlaps.overlaps #[tS,tS] #[tR] #[.slice (some ⟨a,0,none⟩) la d,.slice (some ⟨b,x,none⟩) f g]).run P w=.ok (.bool false) w:=by
 obtain⟨tA,kA,o,u,p,q⟩:=MD h1 h2;obtain⟨tB,kB,r,t,-,-⟩:=MD l n;exact Lib.run_overlaps_apart w tS tR e i k j ⟨a,0,none⟩ ⟨b,x,none⟩ la d f g c tA tB kA kB o r t p q
structure Eh(w w':World)(g G k n c c' i:Nat)(olds vs:List Value):Prop where
 keep:bK (λb o=>b=g/\o<c*k) w w'
 cel:∀q u,(olds.take (i*k)++vs++olds.drop (i*k))[q]? = some u->cel w' G q=some u
 all:∀q,q<c'*k->(∃z,Ab.cel w' G q=some z/\z.oneCell'=true)/\fro w' G q=NF
 at_:(G=g/\c'=c)\/(w.heap.size<=G/\G<w'.heap.size)
variable{i n:Nat}{olds vs:List Value}
theorem KW{q:Nat}{u:Value}(a:i<n)(b:olds.length=n*k)(c:vs.length=k)(h:(olds.take (i*k)++vs++olds.drop (i*k))[q]? = some u) :
  q<(n+1)*k/\((q<i*k/\olds[q]? = some u)\/(i*k<=q/\q<i*k+k/\vs[q - i*k]? = some u)\/(i*k+k<=q/\(olds.drop (i*k))[q - (i*k+k)]? = some u)):=by grind [OE]
theorem KS{c:Nat}(p:i<n)(r:n+1<=c)(y:olds.length=n*k)(A:vs.length=k)(J:∀t u,olds[t]? = some u->cel w g t=some u)(h1:∀u∈olds,u.oneCell'=true)(h2:∀u∈vs,u.oneCell'=true)(a:∀q,q<c*k->(∃z,cel w g q=some z/\z.oneCell'=true)/\fro w g q=NF) :
  Eh w ((w.drew.setCells g ((i+1)*k) (olds.drop (i*k))).setCells g (i*k) vs) g g k n c c i olds vs:=by
 have B:i*k<=n*k:=OE k ω;have C:(n+1)*k<=c*k:=OE k r;have K:(n+1)*k=n*k+k:=ψ
 have L:(i+1)*k=i*k+k:=ψ
 have D:(olds.drop (i*k)).length=n*k - i*k:=ψ
 have M:∀b q,cel w.drew b q=cel w b q:=λ_ _=>rfl
 have in1:∀j,j<(olds.drop (i*k)).length->∃z,cel w.drew g ((i+1)*k+j)=some z:=λj E=>by
  obtain⟨⟨z,e,-⟩,-⟩:=a ((i+1)*k+j) ω;exact⟨z,e⟩
 have all1:∀q,q<c*k->∃z,cel (w.drew.setCells g ((i+1)*k) (olds.drop (i*k))) g q=some z/\z.oneCell'=true:=λq d=>by
  by_cases h:(i+1)*k<=q/\q<(i+1)*k+(olds.drop (i*k)).length
  ·obtain⟨u,F⟩ : ∃u,(olds.drop (i*k))[q - (i+1)*k]? = some u:=(ψ)
   grind [b6]
  grind [bp]
 have in2:∀j,j<vs.length->∃z,cel (w.drew.setCells g ((i+1)*k) (olds.drop (i*k))) g (i*k+j)=some z:=λj E=>by
  obtain⟨z,e,-⟩:=all1 (i*k+j) ω;exact⟨z,e⟩
 refine⟨?_,λq u d=>?_,λq d=>⟨?_,by rw[ch,ch];exact(a q d).2⟩,.inl ⟨rfl,rfl⟩⟩
 ·have G:=fk (g:=g) (X:=λb o=>b=g/\o<c*k) (olds.drop (i*k)) ((i+1)*k) w.drew ω
  have H:=fk (g:=g) (X:=λb o=>b=g/\o<c*k) vs (i*k) (w.drew.setCells g ((i+1)*k) (olds.drop (i*k))) ω;exact((Dv w).up λ_ _ h=>h.elim).trans (G.trans H λ_ _ h=>.inr h) λ_ _ h=>.inr h
 ·obtain⟨-,⟨l,f⟩|⟨l,f,N⟩|⟨l,f⟩⟩:=KW p y A d
  ·grind [bp]
  ·grind [b6]
  rw[bp ω];have O:=b6 in1 f
  simp_all
 by_cases h:i*k<=q/\q<i*k+vs.length
 ·obtain⟨u,F⟩ : ∃u,vs[q - i*k]? = some u:=(ψ)
  grind [b6]
 grind [bp]
theorem Nw{a:World}{c G:Nat}{Z:Array Value}(V:a.heap=(w.alloc (.cells ((olds.take (i*k)).toArray++Builtin.zeroCells Z (n+1 - i)++Builtin.zeroCells Z (G - (n+1))) e)).heap)(t:a.os=w.os)(y:a.tape=w.tape)(A:a.output=w.output)(W:i<n)(Y:n+1<=G)(hZ:Z.size=k)(hz1:∀v∈Z.toList,v.oneCell'=true)(M:olds.length=n*k)(l:vs.length=k)(h1:∀u∈olds,u.oneCell'=true)(h2:∀u∈vs,u.oneCell'=true) :
  Eh w ((a.setCells w.heap.size (i*k) vs).setCells w.heap.size ((i+1)*k) (olds.drop (i*k))) g w.heap.size k n c G i olds vs:=by
 have B:i*k<=n*k:=OE k ω;have hGk:(n+1)*k<=G*k:=OE k Y;have e1:(n+1)*k=n*k+k:=ψ
 have e2:(i+1)*k=i*k+k:=ψ
 have hdl:(olds.drop (i*k)).length=n*k - i*k:=ψ
 generalize hcells:(olds.take (i*k)).toArray++Builtin.zeroCells Z (n+1 - i)++Builtin.zeroCells Z (G - (n+1))=cells at V;have C:∀b q,cel a b q=cel (w.alloc (.cells cells e)) b q:=λb q=>by grind [Go.World.cell?]
 have d:∀b q,fro a b q=fro (w.alloc (.cells cells e)) b q:=λb q=>by grind [Go.World.frozen?,mp]
 have hsz:cells.size=G*k:=by
  rw[<-hcells];simp only[Array.size_append,List.size_toArray,I3,size_zeroCells,hZ,M,Nat.min_eq_left B];rw[<-Nat.add_mul,<-Nat.add_mul]
  congr 1;omega
 have N:∀v∈cells.toList,v.oneCell'=true:=by
  have hzz:∀m,∀v∈(Builtin.zeroCells Z m).toList,v.oneCell'=true:=λm v l=>by
   rw[Array.mem_toList_iff]at l;simp only[Builtin.zeroCells,Array.mem_map,Array.mem_range]at l
   grind [Nat.mod_lt]
  grind
 have O:∀q,cel a w.heap.size q=cells[q]?:=by simp_all
 have D:∀q,q<G*k->∃z,cel a w.heap.size q=some z/\z.oneCell'=true:=by simp_all
 have E:∀q u,q<i*k->olds[q]? = some u->cells[q]? = some u:=ψ
 have P:∀q,fro a w.heap.size q=NF:=λq=>(d _ _).trans (j9 w cells e q)
 have hK:bK NO w a:=by
  have Q:bK NO w (w.alloc (.cells cells e)):=df w _;exact⟨t,y,A,by simp_all,λb p r=>by grind [bK.blk],λb o p r=>(C b o).trans (Q.cel b o p r),λb o p r=>(d b o).trans (Q.fro b o p r)⟩
 have hS:a.heap.size=w.heap.size+1:=by simp_all
 have R:=fk (g:=w.heap.size) (X:=λb o=>b=w.heap.size) vs (i*k) a λj F=>rfl
 have S:=fk (g:=w.heap.size) (X:=λb o=>b=w.heap.size) (olds.drop (i*k)) ((i+1)*k) (a.setCells w.heap.size (i*k) vs) λj F=>rfl
 have in1:∀j,j<vs.length->∃z,cel a w.heap.size (i*k+j)=some z:=λj F=>by
  obtain⟨z,H,-⟩:=D (i*k+j) ω;exact⟨z,H⟩
 have all1:∀q,q<G*k->∃z,cel (a.setCells w.heap.size (i*k) vs) w.heap.size q=some z/\z.oneCell'=true:=λq J=>by
  by_cases h:i*k<=q/\q<i*k+vs.length
  ·obtain⟨u,K⟩ : ∃u,vs[q - i*k]? = some u:=⟨_,z4 ω⟩
   have f:=b6 in1 K;rw[show i*k+(q - i*k)=q by omega]at f
   grind
  grind [bp]
 have in2:∀j,j<(olds.drop (i*k)).length->∃z,cel (a.setCells w.heap.size (i*k) vs) w.heap.size ((i+1)*k+j)=some z:=λj F=>by
  obtain⟨z,H,-⟩:=all1 ((i+1)*k+j) ω;exact⟨z,H⟩
 have T:w.heap.size<((a.setCells w.heap.size (i*k) vs).setCells w.heap.size ((i+1)*k) (olds.drop (i*k))).heap.size:=by
  have:=R.size;have:=S.size;omega
 refine⟨?_,λq u J=>?_,λq J=>⟨?_,by grind [ch]⟩,.inr ω⟩
 ·exact(hK.up λ_ _ h=>h.elim).trans (R.trans S λ_ _ h=>.inr h) ω
 ·obtain⟨-,⟨U,L⟩|⟨U,L,a3⟩|⟨U,L⟩⟩:=KW W M l J
  ·grind [bp]
  ·rw[bp ω]
   have f:=b6 in1 a3
   simp_all
  have f:=b6 in2 L
  simp_all
 by_cases h:(i+1)*k<=q/\q<(i+1)*k+(olds.drop (i*k)).length
 ·obtain⟨u,K⟩ : ∃u,(olds.drop (i*k))[q - (i+1)*k]? = some u:=⟨_,z4 ω⟩
  have f:=b6 in2 K;rw[show(i+1)*k+(q - (i+1)*k)=q by omega]at f
  grind
 grind [bp]
structure UX(P:Program)(f k T b:Nat):Prop where
 has:N6 P f
 end_:∀(w w1:World)(base:Option Addr)(n c vb m vc:Nat)(r:Value),m=1->n<=c->n<=1073741824->(base=none->n=0/\c=0)->(Builtin.append_ #[T,T] T #[.slice base n c,.slice (some ⟨vb,0,none⟩) m vc]).run P w=.ok r w1->
  Calls P f #[.slice base n c,.int .i64 n,.slice (some ⟨vb,0,none⟩) m vc] w λe w'=>e=.returned r/\w'=w1
 mid:∀(w:World)(g n c i vb m vc:Nat)(olds vs:List Value),m=1->i<n->n<=c->n<=1073741824->b<=1000->olds.length=n*k->vs.length=k->(∀t u,olds[t]? = some u->cel w g t=some u)->(∀t u,vs[t]? = some u->cel w vb t=some u)->
  (∀u∈olds,u.oneCell'=true)->(∀u∈vs,u.oneCell'=true)->(∀q,q<c*k->(∃z,cel w g q=some z/\z.oneCell'=true)/\fro w g q=NF)->fro w vb 0=NF->vb≠g->
  Calls P f #[.slice (some ⟨g,0,none⟩) n c,.int .i64 i,.slice (some ⟨vb,0,none⟩) m vc] w λe w'=>∃G c',e=.returned (.slice (some ⟨G,0,none⟩) (n+1) c')/\n+1<=c'/\Eh w w' g G k n c c' i olds vs
def inse(xs:List α)(i:Nat)(y:α):List α:=xs.take i++y::xs.drop i
theorem MK(xs:List α)(i:Nat)(y:α):(inse xs i y).length=xs.length+1:=by grind [inse]
theorem DH{xs:List α}{y z:α}(h:z∈inse xs i y):z=y\/z∈xs:=by grind [inse]
theorem B7{β:Type}(e:α->β)(xs:List α)(i:Nat)(y:α):inse (xs.map e) i (e y)=(inse xs i y).map e:=by grind [C8,I8,inse]
variable{c:C}{row:List C}
theorem TR{a b:Nat}(d:i<=rows.length)(q:olds.length=rows.length*k)(e:vs.length=k)(t:b<k)(f:∀(a b:Nat)(r:List C)(c:C),rows[a]? = some r->r[b]? = some c->∃z,c=C.v z/\olds[a*k+b]? = some z)(u:∀(b:Nat)(c:C),row[b]? = some c->∃z,c=C.v z/\vs[b]? = some z)(h1:(inse rows i row)[a]? = some r)(h2:r[b]? = some c):∃z,c=.v z/\(olds.take (i*k)++vs++olds.drop (i*k))[a*k+b]? = some z:=by
 have g:i*k<=rows.length*k:=OE k d;have j:(olds.take (i*k)).length=i*k:=ψ
 unfold inse at h1;by_cases h:a<i
 ·grind [cG]
 rw[t9 ψ,I3,Nat.min_eq_left d]at h1;have l:i*k<=a*k:=OE k ω;by_cases w:a=i
 ·grind
 obtain⟨m,rfl⟩ : ∃m,a=i+(m+1):=⟨a - i - 1,ω⟩
 rw[show i+(m+1) - i=m+1 by omega,List.getElem?_cons_succ,List.getElem?_drop]at h1;obtain⟨z,rfl,n⟩:=f (i+m) b r c h1 h2;have o:(i+(m+1))*k=i*k+k+m*k:=ψ
 have p:(i+m)*k=i*k+m*k:=Nat.add_mul ..;refine⟨z,rfl,?_⟩;rw[t9 ψ,I5,j,e,List.getElem?_drop,o,show i*k+(i*k+k+m*k+b - (i*k+k))=i*k+m*k+b by omega,<-p];exact n
theorem YP(h:XD rows):HN rows:=by
 have b:∀r:List C,(∀c∈r,∃z,c=C.v z)->gl r:=by
  intro r
  induction r with
  | nil=>exact λ_=>tV1
  | cons c r a=>intro h;obtain⟨z,rfl⟩:=h c (by simp);exact⟨tV1,a ψ⟩
 induction rows with
 | nil=>exact tV1
 | cons r e a=>exact⟨b r (h r (by simp)),a λr d=>h r (by simp[d])⟩
variable{f:Nat}
theorem Nu{T:Nat}{d:TypeInfo}{z0:Value}(ht:P.underlying T=some (.slice e))(hi0:P.info? e=some d)(hk0:d.size=k)(hz:d.zero=some z0)(hzs:z0.cells.size=d.size)(hz1:∀x∈z0.cells.toList,x.oneCell'=true)(hby:d.bytes<=1000)(hf:UX P f k T d.bytes)(hi:i<=rows.length)(W:∀r∈rows,r.length=k)(hr:row.length=k)(hpk:0<k)(hsc:XD rows)(hsr:XD [row])(hlen:rows.length+1<=1073741824) :
  aT P f false [.mut none [.s .own rows],.vI (i:Nat),.mut none [.s .own [row]]] [.mut none [.x],.vI (i:Nat),.mut none [.x]] .one [.s .own (inse rows i row)]:=by
 subst hk0;refine⟨hf.has,λw S V vs hS hV hVV F=>?_⟩
 match vs,F with
 | [v,v1,v2],⟨F,hA1,hA2,_⟩=>
  have p:=bA.rep1 (show bA w S (V 0) none [C.s .own rows] v from F);have e1:v1=.int .i64 (i:Nat):=by
   have:=bA.rep1 (show bA w S NO none [C.v (.int .i64 (i:Nat))] v1 from hA1);cases this;rfl
  have A:=bA.rep1 (show bA w S (V 2) none [C.s .own [row]] v2 from hA2);subst e1;have hk2:∀r∈[row],r.length=d.size:=(ψ)
  have hsc':XD (inse rows i row):=λr L=>(DH L).elim (λh=>hsr r (by simp[h])) (hsc r)
  have B:∀(w1:World)(vv:Value)(X:am),bK (λb o=>∃i,V i b o) w w1->(∀b o,X b o->V 0 b o\/V 2 b o\/(w.heap.size<=b/\b<w1.heap.size))->di w1 S X (.s .own (inse rows i row)) vv->
    ∃K,Ending.returned vv=Ending.returned K/\bK (λb o=>∃i,V i b o) w w1/\∃(X:am)(Y:Nat->am)(S1:am),
   (∀b o,X b o->(∃i,V i b o)\/(b<w1.heap.size/\w.heap.size<=b))/\(∀i b o,Y i b o->(∃i,V i b o)\/(b<w1.heap.size/\w.heap.size<=b))/\
   (∀b o,S1 b o->(false=true/\S b o)\/(∃i,V i b o)\/(b<w1.heap.size/\w.heap.size<=b))/\
   (∀i i',i≠i'->∀b o,Y i b o->¬Y i' b o)/\(∀i b o,X b o->¬Y i b o)/\(∀b o,X b o->¬S1 b o)/\(∀i b o,Y i b o->¬S1 b o)/\
   gG w1 NO .one 1 K/\cz w1 S1 X [.s .own (inse rows i row)] (cu w1 .one K)/\Fr w1 (λb o=>S b o\/S1 b o) Y [.mut none [.x],.vI (i:Nat),.mut none [.x]] [v,.int .i64 (i:Nat),v2]:=by
   intro w1 vv X l hX hR;have hfr:Gg (.s .own (inse rows i row)):=by grind [YP,Gg]
   exact⟨_,rfl,l,X,λ_=>NO,NO,ψ,λ_ _ _ h=>h.elim,λ_ _ h=>h.elim,λ_ _ _ _ _ h=>h.elim,λ_ _ _ _ h=>h.elim,λ_ _ _ h=>h.elim,λ_ _ _ h=>h.elim,rfl,row1 (hR.fresh hfr),
       ⟨⟨rfl,λ_=>v,rfl,row1 (.x _ _ p.one)⟩,tV1,⟨rfl,λ_=>v2,rfl,row1 (.x _ _ A.one)⟩,tV1⟩⟩
  rcases A.els (by simp) hk2 with⟨h,-⟩|⟨M,vc,u2,f2,rfl,-,hvc,hcell2,hu2,t⟩
  ·cases h
  simp only[List.length_singleton,Nat.one_mul]at hvc hu2;by_cases hin:i=rows.length
  ·have hreads:so w (some ⟨M,0,none⟩) ([row].length*d.size) ((List.range ([row].length*d.size)).map u2):=by
    refine⟨by simp,ψ,λad j u had hj=>?_⟩
    grind [Go.Addr.add_lit]
   obtain⟨K,w1,hrun,hk1,hR⟩:=wd (P:=P) (ty:=T) ht hi0 hz hzs hz1 p W (V:=V 2) (xr:=[row]) (u2:=u2) (f2:=f2) ⟨t.hk,λq N b o h=>(t.hf q N b o h).1,t.hd,t.hc⟩ (b:=some ⟨M,0,none⟩) (c:=vc)
    hreads
    ψ ψ ψ ψ hS kd (by
      have:(rows.length+[row].length)*d.bytes<=1073741824*1000:=Nat.mul_le_mul (by simpa using hlen) hby;omega)
   have hins:inse rows i row=rows++[row]:=by grind [inse]
   rw[<-hins]at hR;have hfin:∀(base:Option Addr)(c:Nat),v=.slice base rows.length c->rows.length<=c->(base=none->rows.length=0/\c=0)->Calls P f #[v,.int .i64 (i:Nat),.slice (some ⟨M,0,none⟩) 1 vc] w λe H=>e=.returned K/\H=w1:=λbase c hv hc hb=>by
    subst hv;rw[hin];exact hf.end_ w w1 base rows.length c M 1 vc K rfl hc ω hb hrun
   have hgo:Calls P f #[v,.int .i64 (i:Nat),.slice (some ⟨M,0,none⟩) 1 vc] w λe H=>e=.returned K/\H=w1:=by
    rcases p.els (by simp) W with⟨h0,a0,hv⟩|⟨g,O,u,f',hv,hpos,D,-⟩
    all_goals grind
   refine hgo.mono λe H ⟨he,hw⟩=>?_
   subst he hw;exact B H K _ (hk1.up ψ) (λb o h=>h) hR
  rcases p.els (by simp) W with⟨h0,a0,hv⟩|⟨g,O,u,f',rfl,hpos,D,E,hu,hE⟩
  ·grind
  have hlt:i<rows.length:=ω
  have Q:∀(n j:Nat)(y:Value)(uu:Nat->Value),((List.range n).map uu)[j]? = some y->j<n/\y=uu j:=ψ
  have hmapr:∀(n j:Nat)(uu:Nat->Value),j<n->((List.range n).map uu)[j]? = some (uu j):=ψ
  obtain⟨olds,R⟩ : ∃olds,olds=(List.range (rows.length*d.size)).map u:=⟨_,rfl⟩
  obtain⟨vs,hvs⟩ : ∃vs,vs=(List.range d.size).map u2:=⟨_,rfl⟩
  have hol:olds.length=rows.length*d.size:=by rw[R];simp
  have hvl:vs.length=d.size:=by rw[hvs];simp
  have hck:rows.length*d.size<=O*d.size:=OE _ D;have hv0:=hcell2 0 (Nat.mul_pos ω hpk);have hg0:=E 0 (Nat.mul_pos ω hpk);have hne:M≠g:=ψ
  refine(hf.mid w g rows.length O i M 1 vc olds vs rfl hlt D ω hby hol hvl ψ ψ (λy hy=>ψ) (λy hy=>by
      rw[hvs]at hy;obtain⟨j,hj⟩:=List.getElem?_of_mem hy;obtain⟨a1,rfl⟩:=Q _ _ _ _ hj;exact t.one (by simpa using a1)) (λq N=>(E q N).2) hv0.2.2 hne).mono λe H ⟨G,c',he,U,F⟩=>?_
  subst he;have l:bK (λb o=>∃i,V i b o) w H:=F.keep.up ψ;refine B H _ (λb o=>V 0 b o\/(w.heap.size<=b/\b<H.heap.size)) l ψ ?_;refine .own _ .own G d.size (rows.length+1) c' _ (λq=>(cel H G q).getD undef) (λ_=>NO) tV1 (MK ..) (λr L=>(DH L).elim ψ (W r)) U ω (λq N=>⟨?_,F.all q N⟩) (λq N=>?_) (λ_ _ _ _ h=>h.elim) (λ_ _ _ _ _ _ _ h=>h.elim) (λa b r c ha hb=>?_)
  ·rcases F.at_ with⟨rfl,rfl⟩|h
   all_goals grind
  ·obtain⟨z,J,-⟩:=(F.all q (C7 N (OE _ U))).1
   rw[J];rfl
  have hbk:b<d.size:=by
   have:r.length=d.size:=(DH (t4 ha)).elim ψ (W r)
   grind
  have hal:=(C4.1 ha).1;rw[MK]at hal;obtain⟨y,rfl,hy⟩:=TR (olds:=olds) (vs:=vs) hi hol hvl hbk (λa b r c h1 h2=>by
      obtain⟨y,rfl⟩:=hsc r ψ c ψ;have Z:=hE.hc a b r _ h1 h2;have h4:=pF rfl W h1 h2;generalize hyy:u (a*d.size+b)=yy at Z;cases Z
      grind [cG]) (λb c h2=>by
      obtain⟨y,rfl⟩:=hsr row (by simp) c ψ;have Z:=t.hc 0 b row _ rfl h2;simp only[Nat.zero_mul,SD]at Z;have h4:=(C4.1 h2).1;generalize hyy:u2 b=yy at Z;cases Z
      grind) ha hb
  have J:=F.cel _ y hy;simp only[J,Option.getD_some];obtain⟨z,h5,h6⟩:=(F.all (a*d.size+b) (C7 (cG hal hbk) (OE _ U))).1;rw[J]at h5;cases h5;exact .v _ _ h6
set_option maxRecDepth 100000
inductive IQ:Nat->Nat->Nat->Nat->Nat->Prop
 |oq:IQ 122 272 70 128 4
 |lq:IQ 271 405 69 270 3
 |sq:IQ 404 476 68 219 3
section
variable{f v S E k:Nat}
def IQ.u(q:IQ f v S E k) : Tryz.prog.underlying S=some (.slice E):=by cases q<;>kernel_rfl
def IQ.sz(q:IQ f v S E k):∀w,(Go.sizeOf E).run Tryz.prog w=.ok k w:=by cases q<;>exact λ_=>by kernel_rfl
def IQ.pos(q:IQ f v S E k):3<=k/\k<=4:=by cases q<;>exact⟨by decide,by decide⟩
def Ws{E:Nat}{t:TI}{n:Nat}(g:TE E=some t)(i:t.size=n)(j:t.zero.length=n)(k:t.bytes=8*n)(l:(t.zero.map cval).all (λv=>v.oneCell')=true):∃(b:TypeInfo)(c:Value),Tryz.prog.info? E=some b/\b.size=n/\b.zero=some c/\c.cells.size=n/\(∀v∈c.cells.toList,v.oneCell'=true)/\b.bytes=8*n:=by
 have h:=(rV E _ g).1;cases e : Tryz.prog.info? E with
 | none=>rw[e]at h;cases h
 | some x=>
  rw[e]at h;simp only[S9,C2,Prod.mk.injEq]at h;obtain⟨a,o,p⟩:=h;cases d:x.zero with
  | none=>rw[d]at a;cases a
  | some z=>
   rw[d]at a;simp only[S9,C2]at a;refine⟨x,z,rfl,o.trans i,d,?_,λv f=>?_,p.trans k⟩
   ·rw[<-Array.length_toList,a,I2];exact j
   rw[a]at f;exact O7.1 l v f
def DA(q:IQ f v S E k):∃(a:TypeInfo)(b:Value),Tryz.prog.info? E=some a/\a.size=k/\a.zero=some b/\b.cells.size=k/\(∀v∈b.cells.toList,v.oneCell'=true)/\a.bytes=8*k:=by cases q<;>exact Ws rfl rfl rfl rfl rfl
def IQ.has(q:IQ f v S E k):N6 Tryz.prog f:=by
 cases q
 ·exact⟨_,Tryz.func122,by kernel_rfl,by kernel_rfl⟩
 ·exact⟨_,Tryz.func271,by kernel_rfl,by kernel_rfl⟩
 exact⟨_,Tryz.func404,by kernel_rfl,by kernel_rfl⟩
def Yd(q:IQ f v S E k){w:World}{a g m n:Nat}{y p:Value}(o:Nat)(b:a≠g)(r:cel w a 0=some y)(c:fro w a 0=NF)(d:cel w g 0=some p)(h:fro w g 0=NF):∀i j,(callFunc v #[.slice (some ⟨a,0,none⟩) m n,.slice (some ⟨g,o,none⟩) i j]).run Tryz.prog w=.ok (.value (.bool false)) w:=λi j=>by
 have l:=Mx (tR:=4) q.u q.sz b r c d h o m n i j;cases q
 ·rw[run_callFunc_extern Tryz.func272 (by kernel_rfl) (by kernel_rfl) (by kernel_rfl) (e:=Extern.SlicesOverlaps.overlaps #[70,70] #[4]) (by kernel_rfl),l];rfl
 ·rw[run_callFunc_extern Tryz.func405 (by kernel_rfl) (by kernel_rfl) (by kernel_rfl) (e:=Extern.SlicesOverlaps.overlaps #[69,69] #[4]) (by kernel_rfl),l];rfl
 rw[run_callFunc_extern Tryz.func476 (by kernel_rfl) (by kernel_rfl) (by kernel_rfl) (e:=Extern.SlicesOverlaps.overlaps #[68,68] #[4]) (by kernel_rfl),l];rfl
def UW(q:IQ f v S E k)(w w1:World)(base:Option Addr)(n c d m g:Nat)(r:Value)(i:m=1)(j:n<=c)(h:n<=1073741824)(l:base=none->n=0/\c=0)(b:(Builtin.append_ #[S,S] S #[.slice base n c,.slice (some ⟨d,0,none⟩) m g]).run Tryz.prog w=.ok r w1) :
  Calls Tryz.prog f #[.slice base n c,.int .i64 n,.slice (some ⟨d,0,none⟩) m g] w λe o=>e=.returned r/\o=w1:=by
 have mixed : Tryz.prog.follows .mixedOrders=true:=by kernel_rfl
 have p:0<m:=ω
 have t:m<=1:=ω
 clear i;have u:¬((m:Int)=0):=ω
 cases q
 case' oq=>go_enter Tryz.func122,Tryz.ntmps122
 case' lq=>go_enter Tryz.func271,Tryz.ntmps271
 case' sq=>go_enter Tryz.func404,Tryz.ntmps404
 all_goals
  cases base with
  | none=>
   obtain⟨rfl,rfl⟩:=l rfl
   go_wp2_with (at_builtin;refine Lib.wpList_append_run _ rfl _ _ _ _ rfl _ _ rfl rfl _ _ b ?_)
   go_ret
   exact⟨rfl,rfl⟩
  | some a=>
   obtain⟨y,B,asp⟩:=a
   go_wp2_with (at_builtin;refine Lib.wpList_append_run _ rfl _ _ _ _ rfl _ _ rfl rfl _ _ b ?_)
   all_goals(go_ret;exact⟨rfl,rfl⟩)
def Nr(q:IQ f v S E k)(w:World)(g n c i p m M:Nat)(olds vs:List Value)(X:m=1)(hi:i<n)(Y:n<=1073741824)(r:n+m<=c)(O:olds.length=n*k)(D:vs.length=k)(ho:∀t u,olds[t]? = some u->cel w g t=some u)(N:∀t u,vs[t]? = some u->cel w p t=some u)(h1:∀u∈olds,u.oneCell'=true)(h2:∀u∈vs,u.oneCell'=true)(b:∀q,q<c*k->(∃z,cel w g q=some z/\z.oneCell'=true)/\fro w g q=NF)(P:fro w p 0=NF)(F:p≠g) :
  Calls Tryz.prog f #[.slice (some ⟨g,0,none⟩) n c,.int .i64 i,.slice (some ⟨p,0,none⟩) m M] w λe w'=>e=.returned (.slice (some ⟨g,0,none⟩) (n+m) c)/\w'=(w.drew.setCells g ((i+m)*k) (olds.drop (i*k))).setCells g (i*k) vs:=by
 have mixed : Tryz.prog.follows .mixedOrders=true:=by kernel_rfl
 have hm1:0<m:=ω
 have hm2:m<=1:=ω
 have hk:=q.pos;have p3:m*k=k:=by rw[X,Nat.one_mul]
 have p1:=Nat.add_mul n m k;have p2:=Nat.add_mul i m k;have p4:=Nat.sub_mul n i k;have p5:i*k+k<=n*k:=by rw[<-Nat.succ_mul];exact OE k hi
 have p6:(n+m)*k<=c*k:=OE k r;clear X;have hz1:¬((m:Int)=0):=ω
 have hz2:¬((i:Int)=(n:Int)):=ω
 have hz3:¬((c:Int)<(n:Int)+(m:Int)):=ω
 have G:(Tryz.prog.info? E).map (·.size)=some k:=by obtain⟨i0,z0,e1,e2,-⟩:=DA q;rw[e1];simp[e2]
 have cell:∀q,q<(n+m)*k->(w.cell? ⟨g,q,none⟩).isSome=true/\w.frozen? ⟨g,q,none⟩ = false:=λq Z=>by
  obtain⟨⟨z,hz,-⟩,hf⟩:=b q ω;exact⟨by show(cel w g q).isSome=true;rw[hz];rfl,O1 Prod.fst hf⟩
 have Q:∀lb cb,(callFunc v #[.slice (some ⟨p,0,none⟩) m M,.slice (some ⟨g,(i+m)*k,none⟩) lb cb]).run Tryz.prog w=.ok (.value (.bool false)) w:=by
  obtain⟨y,hy⟩ : ∃y,vs[0]? = some y:=⟨_,z4 ω⟩
  obtain⟨⟨y',R,-⟩,T⟩:=b 0 ω;exact Yd q _ F (N 0 y hy) P R T
 have l:(olds.drop (i*k)).length=(n - i)*k:=by rw[O5,O];omega
 have hw1:IntKind.i64.wrap ((i:Int)+(m:Int))=(i:Int)+(m:Int):=by rw[IntKind.wrap_i64];omega
 have hw2:IntKind.i64.wrap ((n:Int)+(m:Int))=(n:Int)+(m:Int):=by rw[IntKind.wrap_i64];omega
 have hb1:(0:Int)<=(i:Int)+(m:Int):=ω
 have hin:i<=n:=ω
 have htn:((i:Int)+(m:Int)).toNat=i+m:=ω
 have hb2:¬(c=i+m):=ω
 have hb3:(i:Int)<=(n:Int)+(m:Int):=ω
 have hb4:¬(c=i):=ω
 have o:∀B C U,(Builtin.copy_ #[S,S] B #[.slice (some ⟨g,(i+m)*k,none⟩) (n+m - (i+m)) C,.slice (some ⟨g,i*k,none⟩) (n+m - i) U]).run Tryz.prog w.drew=.ok (goInt ((n - i:Nat):Int)) (w.drew.setCells g ((i+m)*k) (olds.drop (i*k))):=λB C U=>
  r6 w.drew _ _ B E k g ((i+m)*k) (n+m - (i+m)) C ⟨g,i*k,none⟩ (n+m - i) U (n - i) (olds.drop (i*k)) q.u G (by simp only[Nat.min_def];split<;>omega) l
   (λj v a=>by rw[Addr.add_lit];exact ho (i*k+j) v (by rwa [List.getElem?_drop]at a))
   (λj a=>by rw[l]at a;exact(cell _ ω).1) (λj a=>by rw[l]at a;exact(cell _ ω).2) (λv N=>h1 v (List.mem_of_mem_drop N))
 obtain⟨H,d⟩ : ∃H,H=w.drew.setCells g ((i+m)*k) (olds.drop (i*k)):=⟨_,rfl⟩
 have J:∀q,q<(n+m)*k->(H.cell? ⟨g,q,none⟩).isSome=true:=λq Z=>by
  rw[d];exact Hf g _ _ _ (λj a=>by rw[l]at a;exact(cell _ ω).1) _ (cell q Z).1
 have K:∀(W:World),(∀x,W.cell? x=H.cell? x)->(∀x,W.frozen? x=H.frozen? x)->∀B C,(Builtin.copy_ #[S,S] B #[.slice (some ⟨g,i*k,none⟩) (n+m - i) C,.slice (some ⟨p,0,none⟩) m M]).run Tryz.prog W=.ok (goInt ((1:Nat):Int)) (W.setCells g (i*k) vs):=λW L V B C=>
  r6 W _ _ B E k g (i*k) (n+m - i) C ⟨p,0,none⟩ m M 1 vs q.u G (by simp only[Nat.min_def];split<;>omega) ω
   (λj v a=>by
     rw[Addr.add_lit,SD,L,d,World.cell?_setCells_out g _ _ _ _ (λh _=>absurd h F)];exact N j v a)
   (λj a=>by rw[L];rw[D]at a;exact J _ ω) (λj a=>by rw[V,d,World.frozen?_setCells];rw[D]at a;exact(cell _ ω).2) h2
 rw[<-d]at o;clear cell b p1 p2 p3 p4 p5 p6 hk;cases q
 case' oq=>go_enter Tryz.func122,Tryz.ntmps122
 case' lq=>go_enter Tryz.func271,Tryz.ntmps271
 case' sq=>go_enter Tryz.func404,Tryz.ntmps404
 all_goals
  go_wp2_with (simp only[Q])
  go_region_law_o (refine z6 rfl _ _ _ _ rfl _ _ (by simp[Act.eval,Act.put]) (by simp[Act.eval,Act.put]) (o _ _ _) ?_)
  go_wp2_with (at_builtin;refine pS _ rfl _ _ _ _ rfl _ _ rfl rfl (K _ (λ_=>rfl) (λ_=>rfl) _ _) ?_)
  go_ret
  first|exact⟨rfl,rfl⟩|exact⟨rfl,by rw[d]⟩
def RQ(q:IQ f v S E k){L:TypeInfo}{y:Value}(M : Tryz.prog.info? E=some L)(N:L.size=k)(hz0:L.zero=some y)(hzz:y.cells.size=k)(O:L.bytes=8*k)(w:World)(g n c i B m vc:Nat)(olds vs:List Value)(hm:m=1)(hi:i<n)(hn63:n<=1073741824)(hnc:n<=c)(F:c<n+m)(P:olds.length=n*k)(Q:vs.length=k)(ho:∀t u,olds[t]? = some u->cel w g t=some u)(Y:∀t u,vs[t]? = some u->cel w B t=some u)(h1:∀u∈olds,u.oneCell'=true)(h2:∀u∈vs,u.oneCell'=true) :
  Calls Tryz.prog f #[.slice (some ⟨g,0,none⟩) n c,.int .i64 i,.slice (some ⟨B,0,none⟩) m vc] w λe w'=>e=.returned (.slice (some ⟨w.heap.size,0,none⟩) (n+m) (grownCap w (n+m) c E))/\
   w'=(((w.alloc (.cells ((olds.take (i*k)).toArray++Builtin.zeroCells y.cells (n+m - i)++Builtin.zeroCells y.cells (grownCap w (n+m) c E - (n+m))) E)).drew.setCells w.heap.size (i*k) vs).drew).setCells w.heap.size ((i+m)*k) (olds.drop (i*k)):=by
 have mixed : Tryz.prog.follows .mixedOrders=true:=by kernel_rfl
 have hm1:0<m:=ω
 have hm2:m<=1:=ω
 have hk:=q.pos;have p3:m*k=k:=by rw[hm,Nat.one_mul]
 have p1:=Nat.add_mul n m k;have p2:=Nat.add_mul i m k;have p4:=Nat.sub_mul n i k;have p5:i*k+k<=n*k:=by rw[<-Nat.succ_mul];exact OE k hi
 have p7:=Nat.sub_mul (n+m) i k;clear hm;have hz1:¬((m:Int)=0):=ω
 have hz2:¬((i:Int)=(n:Int)):=ω
 have hz3:(c:Int)<(n:Int)+(m:Int):=ω
 have R:(Tryz.prog.info? E).map (·.size)=some k:=by rw[M];simp[N]
 have hbw:g<w.heap.size:=block_lt_of_cell (ho 0 _ (z4 ω));have hvw:B<w.heap.size:=block_lt_of_cell (Y 0 _ (z4 ω));have T:(n:Int)+(m:Int) - (i:Int)=((n+m - i:Nat):Int):=ω
 have H:i+(n+m - i)=n+m:=ω
 have C:(Builtin.firstCells L.size i (.slice (some ⟨g,0,none⟩) i c)).run Tryz.prog w.drew=.ok (olds.take (i*k)).toArray w.drew:=by
  rw[N];exact run_firstCells_some w.drew k i ⟨g,0,none⟩ i c (olds.take (i*k)) (by rw[I3];omega) (λj v a=>by
    rw[Addr.add_lit,SD];rw[List.getElem?_take]at a;split at a
    · exact ho j v a
    cases a)
 have r:∀d,(Builtin.append_ #[S,3] d #[.slice (some ⟨g,0,none⟩) i c,.int .i64 ((n:Int)+(m:Int) - (i:Int))]).run Tryz.prog w =
   .ok (.slice (some ⟨w.heap.size,0,none⟩) (n+m) (grownCap w (n+m) c E)) (w.drew.alloc (.cells ((olds.take (i*k)).toArray++Builtin.zeroCells y.cells (n+m - i)++Builtin.zeroCells y.cells (grownCap w (n+m) c E - (n+m))) E)):=λd=>by
  have h:=Lib.run_append_grow_zeros w S 3 d E L _ .i64 .i64 q.u Tryz.underlying3 M hz0 (some ⟨g,0,none⟩) i c (olds.take (i*k)) C (n+m - i) ω ω ω ω (by rw[O];exact C9 (Nat.mul_le_mul_left _ (show 8*k<=32 by omega)) ω) (by rw[O,H];exact growslice_fits F (C9 (Nat.mul_le_mul_left _ (show 8*k<=32 by omega)) ω));rw[H]at h;rw[T];exact h
 obtain⟨G,Z⟩ : ∃G,G=grownCap w (n+m) c E:=⟨_,rfl⟩
 obtain⟨ROW,l⟩ : ∃ROW:Array Value,ROW=(olds.take (i*k)).toArray++Builtin.zeroCells y.cells (n+m - i)++Builtin.zeroCells y.cells (G - (n+m)):=⟨_,rfl⟩
 rw[<-Z]at r |-;rw[<-l]at r |-;have hRl:(n+m)*k<=ROW.size:=by
  rw[l];simp only[Array.size_append,List.size_toArray,I3,size_zeroCells,hzz,P];omega
 obtain⟨p,b⟩ : ∃p,p=w.drew.alloc (.cells ROW E):=⟨_,rfl⟩
 rw[<-b]at r;have hN:∀j,j<(n+m)*k->(p.cell? ⟨w.heap.size,j,none⟩).isSome=true:=λj a=>by
  rw[b,World.cell?_alloc_at (w:=w.drew) ROW _ w.heap.size j rfl,OC ω];rfl
 have U:∀j,p.frozen? ⟨w.heap.size,j,none⟩ = false:=λj=>by rw[b];exact World.frozen?_alloc_at (w:=w.drew) ROW _ w.heap.size j rfl
 have hOb:∀j v,w.cell? ⟨g,j,none⟩ = some v->p.cell? ⟨g,j,none⟩ = some v:=λj v h=>by rw[b,World.cell?_alloc_past (w:=w.drew) _ g j hbw];exact h
 have hOv:∀j v,w.cell? ⟨B,j,none⟩ = some v->p.cell? ⟨B,j,none⟩ = some v:=λj v h=>by rw[b,World.cell?_alloc_past (w:=w.drew) _ B j hvw];exact h
 have V:∀(W:World),(∀x,W.cell? x=p.cell? x)->(∀x,W.frozen? x=p.frozen? x)->∀d J,(Builtin.copy_ #[S,S] d #[.slice (some ⟨w.heap.size,i*k,none⟩) (n+m - i) J,.slice (some ⟨B,0,none⟩) m vc]).run Tryz.prog W=.ok (goInt ((1:Nat):Int)) (W.setCells w.heap.size (i*k) vs):=λW o K d J=>
  r6 W _ _ d E k w.heap.size (i*k) (n+m - i) J ⟨B,0,none⟩ m vc 1 vs q.u R (by simp only[Nat.min_def];split<;>omega) ω
   (λj v a=>by rw[Addr.add_lit,SD,o];exact hOv _ v (Y j v a))
   (λj a=>by rw[o];rw[Q]at a;exact hN _ ω) (λj a=>by rw[K];exact U _) h2
 have hGn:n+m<=G:=by rw[Z];exact grownCap_ge w _ _ _
 have hG63:G<=9223372036854775807:=by
  have:=grownCap_le_maxLen w (n+m) c E (by unfold maxLen;omega);rw[<-Z]at this;unfold maxLen at this;omega
 have hGi:¬(G=i):=ω
 have hGim:¬(G=i+m):=ω
 have hci:¬(c=i):=ω
 have hbN:g≠w.heap.size:=ω
 have X:(olds.drop (i*k)).length=(n - i)*k:=by rw[O5,P];omega
 have D:∀(W:World),(∀x,W.cell? x=(p.setCells w.heap.size (i*k) vs).cell? x)->(∀x,W.frozen? x=(p.setCells w.heap.size (i*k) vs).frozen? x)->∀d J sc,(Builtin.copy_ #[S,S] d #[.slice (some ⟨w.heap.size,(i+m)*k,none⟩) (n+m - (i+m)) J,.slice (some ⟨g,i*k,none⟩) (n - i) sc]).run Tryz.prog W=.ok (goInt ((n - i:Nat):Int)) (W.setCells w.heap.size ((i+m)*k) (olds.drop (i*k))):=λW o K d J sc=>
  r6 W _ _ d E k w.heap.size ((i+m)*k) (n+m - (i+m)) J ⟨g,i*k,none⟩ (n - i) sc (n - i) (olds.drop (i*k)) q.u R (by simp only[Nat.min_def];split<;>omega) X
   (λj v a=>by
     rw[Addr.add_lit,o,World.cell?_setCells_out _ _ _ _ _ (λh _=>absurd h hbN)];exact hOb _ v (ho (i*k+j) v (by rwa [List.getElem?_drop]at a)))
   (λj a=>by rw[o];rw[X]at a;exact Hf _ _ _ _ (λt ht=>by rw[Q]at ht;exact hN _ ω) _ (hN _ ω))
   (λj a=>by rw[K,World.frozen?_setCells];exact U _) (λv Y=>h1 v (List.mem_of_mem_drop Y))
 subst b;have hE1:∀x,((w.alloc (.cells ROW E)).drew).cell? x=(w.drew.alloc (.cells ROW E)).cell? x:=λx=>rfl
 have hE2:∀x,((w.alloc (.cells ROW E)).drew).frozen? x=(w.drew.alloc (.cells ROW E)).frozen? x:=λx=>rfl
 have hF1:∀x,(((w.alloc (.cells ROW E)).drew.setCells w.heap.size (i*k) vs).drew).cell? x=((w.drew.alloc (.cells ROW E)).setCells w.heap.size (i*k) vs).cell? x:=λx=>rfl
 have hF2:∀x,(((w.alloc (.cells ROW E)).drew.setCells w.heap.size (i*k) vs).drew).frozen? x=((w.drew.alloc (.cells ROW E)).setCells w.heap.size (i*k) vs).frozen? x:=λx=>rfl
 have hw1:IntKind.i64.wrap ((i:Int)+(m:Int))=(i:Int)+(m:Int):=by rw[IntKind.wrap_i64];omega
 have hw2:IntKind.i64.wrap ((n:Int)+(m:Int))=(n:Int)+(m:Int):=by rw[IntKind.wrap_i64];omega
 have hw3:IntKind.i64.wrap ((n:Int)+(m:Int) - (i:Int))=(n:Int)+(m:Int) - (i:Int):=by rw[IntKind.wrap_i64];omega
 have hb1:(0:Int)<=(i:Int)+(m:Int):=ω
 have hin:i<=n:=ω
 have htn:((i:Int)+(m:Int)).toNat=i+m:=ω
 have hb3:(i:Int)<=(n:Int):=ω
 clear T H C l Z hRl p1 p2 p3 p4 p5 p7 hk;cases q
 case' oq=>go_enter Tryz.func122,Tryz.ntmps122
 case' lq=>go_enter Tryz.func271,Tryz.ntmps271
 case' sq=>go_enter Tryz.func404,Tryz.ntmps404
 all_goals
  go_wp2_with (first
    | (at_builtin;refine Lib.wpList_append_run _ rfl _ _ _ _ rfl _ _ rfl rfl _ _ (r _) ?_)
    | (at_builtin;refine pS _ rfl _ _ _ _ rfl _ _ rfl rfl (V _ hE1 hE2 _ _) ?_)
    | (at_builtin;refine pS _ rfl _ _ _ _ rfl _ _ rfl rfl (D _ (λ_=>rfl) (λ_=>rfl) _ _ _) ?_))
  go_region_law_o (refine z6 rfl _ _ _ _ rfl (.slice (some ⟨w.heap.size,(i+m)*_,none⟩) (n+m - (i+m)) (G - (i+m))) (.slice (some ⟨g,i*_,none⟩) (n - i) (c - i)) (by simp[Act.eval,Act.put]) (by simp[Act.eval,Act.put]) (D _ hF1 hF2 3 (G - (i+m)) (c - i)) ?_)
  go_wp2
  go_ret
  exact⟨rfl,rfl⟩
def Ew(q:IQ f v S E k):UX Tryz.prog f k S (8*k):=by
 refine⟨q.has,UW q,λw g n c i M m N olds O o p u h R b d y P r t j B C=>?_⟩;obtain⟨T,U,D,F,G,l,H,J⟩:=DA q;by_cases a:n+m<=c
 ·refine(Nr q w g n c i M m N olds O o p h a b d y P r t j B C).mono λe Q ⟨K,L⟩=>?_
  subst o;rw[L];exact⟨g,c,K,a,KS p a b d y r t j⟩
 refine(RQ q D F G l J w g n c i M m N olds O o p h u ω b d y P r t).mono λe Q ⟨K,L⟩=>?_
 subst o;rw[L,PL];exact⟨_,_,K,grownCap_ge w _ _ _,Nw (e:=E) rfl rfl rfl rfl p (grownCap_ge w _ _ _) l H b d r t⟩
end
def zx(xs:List aW):XD (xs.map (aW.enc .own)):=λr b c a=>by
 obtain⟨s,-,rfl⟩:=O8.1 b;simp[aW.enc]at a;rcases a with rfl|rfl|rfl|rfl<;>exact⟨_,rfl⟩
def B2(xs:List aW)(i:Nat)(x:aW)(j:i<=xs.length)(k:xs.length+1<=1073741824):zzB 122 false [.mut none [.s .own (xs.map (aW.enc .own))],.vI (i:Nat),.mut none [.s .own [aW.enc .own x]]] [.mut none [.x],.vI (i:Nat),.mut none [.x]] .one [.s .own ((inse xs i x).map (aW.enc .own))]:=by
 obtain⟨l,n,c,a,d,e,g,b⟩:=DA .oq;have h:=Nu (row:=aW.enc .own x) (IQ.u .oq) c a d (by rw[a,e]) g (by rw[b];decide) (by rw[b];exact Ew .oq) (rows:=xs.map (aW.enc .own)) (i:=i) (by rw[I2];exact j) (aN λ_=>rfl) rfl qs (zx xs) (zx [x]) (by rw[I2];exact k)
 rwa [B7]at h
def uV(xs:List a8):XD (xs.map (a8.enc .own)):=λr b c a=>by
 obtain⟨s,-,rfl⟩:=O8.1 b;simp[a8.enc]at a;rcases a with rfl|rfl|rfl<;>exact⟨_,rfl⟩
def HD(xs:List a8)(i:Nat)(x:a8)(j:i<=xs.length)(k:xs.length+1<=1073741824):zzB 271 false [.mut none [.s .own (xs.map (a8.enc .own))],.vI (i:Nat),.mut none [.s .own [a8.enc .own x]]] [.mut none [.x],.vI (i:Nat),.mut none [.x]] .one [.s .own ((inse xs i x).map (a8.enc .own))]:=by
 obtain⟨l,n,c,a,d,e,g,b⟩:=DA .lq;have h:=Nu (row:=a8.enc .own x) (IQ.u .lq) c a d (by rw[a,e]) g (by rw[b];decide) (by rw[b];exact Ew .lq) (rows:=xs.map (a8.enc .own)) (i:=i) (by rw[I2];exact j) (aN λ_=>rfl) rfl qs (uV xs) (uV [x]) (by rw[I2];exact k)
 rwa [B7]at h
def x4(xs:List aA):XD (xs.map (aA.enc .own)):=λr b c a=>by
 obtain⟨s,-,rfl⟩:=O8.1 b;simp[aA.enc]at a;rcases a with rfl|rfl|rfl<;>exact⟨_,rfl⟩
def Kt(xs:List aA)(i:Nat)(x:aA)(j:i<=xs.length)(k:xs.length+1<=1073741824):zzB 404 false [.mut none [.s .own (xs.map (aA.enc .own))],.vI (i:Nat),.mut none [.s .own [aA.enc .own x]]] [.mut none [.x],.vI (i:Nat),.mut none [.x]] .one [.s .own ((inse xs i x).map (aA.enc .own))]:=by
 obtain⟨l,n,c,a,d,e,g,b⟩:=DA .sq;have h:=Nu (row:=aA.enc .own x) (IQ.u .sq) c a d (by rw[a,e]) g (by rw[b];decide) (by rw[b];exact Ew .sq) (rows:=xs.map (aA.enc .own)) (i:=i) (by rw[I2];exact j) (aN λ_=>rfl) rfl qs (x4 xs) (x4 [x]) (by rw[I2];exact k)
 rwa [B7]at h
def oF(h:ac):C:=oE (h.b.map (aC.enc .own))
def js(h:ac):List C:=[.s .own (h.G.F.V.U.map (aE .own)),.s .own (h.G.F.V.a3.map (rB .own)),.s .own (h.G.F.Q.M.map (aS.enc .own)),I h.G.Calls,.s .own (h.G.a.map (rI .own)),oF h,.s .own (h.J.map (aA.enc .own)),.s .own (h.H.map (a8.enc .own)),.s .own (h.K.map (aW.enc .own)),.s .own (h.R.map (aB.enc .own)),.s .own (h.e.T.map (bg .own)),.s .own (h.e.g.map (aE .own)),I h.a1.c0,.s .own (h.a1.q.map (aJ.enc .own)),I h.c1,I h.b1,I h.c2,I h.k,B h.a2,I h.a5.d.b0,I h.a5.d.b2,.s .own (h.a5.d.U.map (rI .own)),I h.a5.b5,I h.a5.k]
def Qt(h:ac):List C:=[.x,.x,.x,.x,.x,oF h,.s .own (h.J.map (aA.enc .own)),.s .own (h.H.map (a8.enc .own)),.s .own (h.K.map (aW.enc .own)),.s .own (h.R.map (aB.enc .own)),.s .own (h.e.T.map (bg .own)),.s .own (h.e.g.map (aE .own)),I h.a1.c0,.s .own (h.a1.q.map (aJ.enc .own)),I h.c1,I h.b1,I h.c2,I h.k,B h.a2,I h.a5.d.b0,I h.a5.d.b2,.s .own (h.a5.d.U.map (rI .own)),I h.a5.b5,I h.a5.k]
def X0(h:ac):fz (oF h)=.s .O (h.b.map (aC.enc .O)):=(Qw _).trans (List.cons.inj (er h.b)).1
def lD(h:ac):cP (js h)=ac.enc .O h:=by
 have a:=ac.enc_fz h;have b:cP (js h)=(cP (ac.enc .own h)).set 5 (fz (oF h)):=rfl;rw[b,a,X0];rfl
def oX(h:ac):gl (js h):=by
 have a:=ac.enc_fr h;simp only[ac.enc,gl]at a;unfold js;simp only[gl];refine⟨a.1,a.2.1,a.2.2.1,a.2.2.2.1,a.2.2.2.2.1,Dz ?_,a.2.2.2.2.2.2⟩;exact a.2.2.2.2.2.1.2
variable{S Y:am}
theorem V9{u:Nat->Value}(a:cz w S Y (ac.enc .own h) u):cz w S Y (js h) u:=by
 obtain⟨f,b,d,e⟩:=a;refine⟨f,λj c g=>?_,d,e⟩;have i:js h=(ac.enc .own h).set 5 (oF h):=rfl;rw[i]at g;by_cases k:j=5
 ·subst k
  have:c=oF h:=ψ
  rw[this];exact vZ (b 5 _ rfl)
 grind
def MS(h:ac)(a:ac.sml h):zzA 104 false [.val (some 24) (ac.enc .O h)] .agg (js h):=by
 obtain⟨b,c⟩:=jw h a;refine⟨b,λw S d g i=>(c w S d g i).mono λe w1 j=>?_⟩;obtain⟨v,k,l,X,S1,n,o,p,q,r⟩:=j;exact⟨v,k,l,X,S1,n,o,p,q,V9 r⟩
def XO{b:Bool}{X Y:Prop}(h:b=true)(a:X):cond b X Y:=by subst h;exact a
def Pj{b:Bool}{X Y:Prop}(h:b=false)(a:Y):cond b X Y:=by subst h;exact a
theorem YO(h:ac):bu [oF h]=false\/(bu [oF h]=true/\h.b=[]):=by
 unfold oF;cases a:h.b with
 | nil=>grind
 | cons y b=>exact .inl rfl
theorem Zg(a:bu [oF h]=true):[oF h]=bn .O h.b:=by
 unfold oF at a |-;cases b:h.b with
 | nil=>rfl
 | cons y c=>grind [oE,bu,f6]
def AW(h:ac)(n:Nat):ac × Int × Bool:=
 if(aD h.b (n:Nat)).2.2=false then(h,-1,false)
 else if(bL h.G (aD h.b (n:Nat)).2.1 n).2=n then({h with G:=(bL h.G (aD h.b (n:Nat)).2.1 n).1,b:=(aD h.b (n:Nat)).1},(aD h.b (n:Nat)).2.1,true)
 else({h with G:=dJ (bL h.G (aD h.b (n:Nat)).2.1 n).1 (aD h.b (n:Nat)).2.1 (bL h.G (aD h.b (n:Nat)).2.1 n).2},-1,false)
theorem sV(h:ac)(n:Nat)(w:bm h [])(U:h.G.Calls<=90000)(hn:1<=n/\n<=63):zzB 268 false [.ptr (js h),.vI (n:Nat)] [.ptr (js (AW h n).1),.vI (n:Nat)] (.tup [none,none]) [I (AW h n).2.1,B (AW h n).2.2]:=by
 have P:fT h<=32:=w.lens.ents;have M:=w;have C:cP [oF h]=bn .O h.b:=O1 (λy=>[y]) (X0 h);have N:=xb h;have t:=BI (fT h:Nat) h.b (n:Nat) ω w.rng ω (by grind [oH.free,bm.lens]);unfold YX at t;have D:=lM w (show(1:Int)<=(n:Nat) by omega);unfold AW;have c:bu [oF h]=false\/(bu [oF h]=true/\(aD h.b (n:Nat)).2.2=false):=(YO h).imp id λg=>⟨g.1,by rw[g.2];rfl⟩
 generalize aD h.b (n:Nat)=r at t D c |-;obtain⟨V,p,ok⟩:=r;simp only at t D c |-;refine fM 76 [] [(1,270,[15,16,17,18,19,20,21,22,23,24,14,25,26,27,0,1,2,3,4,5,6,7,8,9,10,11,12,13,14,1012,1013,15,1013,16])] [(0,0),(0,0)] Tryz.func268 rfl (λu q=>?_) (.inr ⟨tV1,tV1,tV1⟩);rcases c with c|⟨c,Q⟩
 ·cases ok with
   | false=>
    rw[CJ rfl];rw[CI (by simp)]at t
    repeat'(first|refine gP ?_|refine CM (N) ⟨⟨rfl,lD h⟩,tV1⟩ ?_|refine CM (t) ⟨⟨rfl,rfl⟩,⟨rfl,C⟩,⟨rfl,rfl⟩,tV1⟩ ?_|refine Pj c ?_)
    exact kk
   | true=>
    rw[CI (by simp)];rw[CJ rfl]at t;obtain⟨O,J,K,u4⟩:=D rfl;change p+(n:Nat)<=(h.G.F.Q.M.length:Nat) at J;change ∀q:Nat,p<=q->(q:Int)<p+(n:Nat)->(nth h.G.F.Q.M q).o=0 at K
    have W:h.G.F.Q.M.length<=32:=P;cases V with
    | nil=>
      repeat'(first|refine gP ?_|refine CM (N) ⟨⟨rfl,lD h⟩,tV1⟩ ?_|refine CM (t) ⟨⟨rfl,rfl⟩,⟨rfl,C⟩,⟨rfl,rfl⟩,tV1⟩ ?_|refine Pj c ?_)
      refine gn n (λi=>[(0,bS (Qt h)),(1,fN n),(6,bC ([oE (([]:List aC).map (aC.enc .own))])),(7,fI p),(9,bS (af.enc .own (bL h.G p i).1)),(10,fN i)]) (λi=>(bL h.G p i).2=i) rfl λi w=>?_
      obtain⟨E,L⟩:=w;have s:=iV.of (p:=p) (n:=n) M.ker ω ⟨O,J⟩ K i E;have R:=s.calls;have S:=s.len;by_cases X:i<n
      ·have F:(nth (bL h.G p i).1.F.Q.M (p+(i:Nat)).toNat).o=0:=by grind [iV.out]
       have l:=xp (bL h.G p i).1 (p+(i:Nat)) s.ker ω ω F;have a:bL h.G p (i+1)=((dY (bL h.G p i).1 (p+(i:Nat))).1,if(dY (bL h.G p i).1 (p+(i:Nat))).2=true then i+1 else i):=by
        show(if(bL h.G p i).2=i then _ else _)=_;rw[CJ L]
       cases e:(dY (bL h.G p i).1 (p+(i:Nat))).2 with
       | true=>
        rw[e]at l a;rw[CJ rfl]at a;have G:(dY (bL h.G p i).1 (p+(i:Nat))).1=(bL h.G p (i+1)).1:=by rw[a]
        rw[G]at l
        repeat'(first|refine gE ?_|refine CM (l) ⟨⟨rfl,CU _⟩,⟨rfl,rfl⟩,tV1⟩ ?_)
        (exact dt (i+1) ψ)
       | false=>
        rw[e]at l a;rw[CI (by simp)]at a;have o:=lg (k:=h.G) (p:=p) (i:=i+1) ψ (n - (i+1));rw[show i+1+(n - (i+1))=n by omega]at o;have H:=iV.of (p:=p) (n:=n) M.ker ω ⟨O,J⟩ K (i+1) ω;rw[CI ω,o.1];have b:=H.calls;rw[a]at H b |-;have d:=H.ker;simp only at d b |-;generalize (dY (bL h.G p i).1 (p+(i:Nat))).1=k at l d b |-
        repeat'(first|refine gE ?_|refine CM (l) ⟨⟨rfl,CU _⟩,⟨rfl,rfl⟩,tV1⟩ ?_)
        refine lp0 i (λj=>[(0,bS (Qt h)),(7,fI p),(9,bS (af.enc .own (dJ k p j))),(10,fN i),(13,fI (p+(j:Nat)))]) λj Y=>?_
        have T:=uh (dJ k p j) (p+(j:Nat)) (kK d p j) (by grind [ip]);by_cases Z:j<i
        ·repeat'(first|refine gE ?_|refine CM (T) ⟨⟨rfl,CU _⟩,⟨rfl,rfl⟩,tV1⟩ ?_)
         (exact dt (j+1) ω)
        obtain rfl:j=i:=ω
        refine σE ?_
        exact kk
      obtain rfl:i=n:=ω
      rw[CJ L];generalize (bL h.G p i).1=k
      refine σE ?_
      exact kk
    | cons y ys=>
      repeat'(first|refine gP ?_|refine CM (N) ⟨⟨rfl,lD h⟩,tV1⟩ ?_|refine CM (t) ⟨⟨rfl,rfl⟩,⟨rfl,C⟩,⟨rfl,rfl⟩,tV1⟩ ?_|refine Pj c ?_)
      refine gn n (λi=>[(0,bS (Qt h)),(1,fN n),(6,bC ([oE ((y::ys).map (aC.enc .own))])),(7,fI p),(9,bS (af.enc .own (bL h.G p i).1)),(10,fN i)]) (λi=>(bL h.G p i).2=i) rfl λi w=>?_
      obtain⟨E,L⟩:=w;have s:=iV.of (p:=p) (n:=n) M.ker ω ⟨O,J⟩ K i E;have R:=s.calls;have S:=s.len;by_cases X:i<n
      ·have F:(nth (bL h.G p i).1.F.Q.M (p+(i:Nat)).toNat).o=0:=by grind [iV.out]
       have l:=xp (bL h.G p i).1 (p+(i:Nat)) s.ker ω ω F;have a:bL h.G p (i+1)=((dY (bL h.G p i).1 (p+(i:Nat))).1,if(dY (bL h.G p i).1 (p+(i:Nat))).2=true then i+1 else i):=by
        show(if(bL h.G p i).2=i then _ else _)=_;rw[CJ L]
       cases e:(dY (bL h.G p i).1 (p+(i:Nat))).2 with
       | true=>
        rw[e]at l a;rw[CJ rfl]at a;have G:(dY (bL h.G p i).1 (p+(i:Nat))).1=(bL h.G p (i+1)).1:=by rw[a]
        rw[G]at l
        repeat'(first|refine gE ?_|refine CM (l) ⟨⟨rfl,CU _⟩,⟨rfl,rfl⟩,tV1⟩ ?_)
        (exact dt (i+1) ψ)
       | false=>
        rw[e]at l a;rw[CI (by simp)]at a;have o:=lg (k:=h.G) (p:=p) (i:=i+1) ψ (n - (i+1));rw[show i+1+(n - (i+1))=n by omega]at o;have H:=iV.of (p:=p) (n:=n) M.ker ω ⟨O,J⟩ K (i+1) ω;rw[CI ω,o.1];have b:=H.calls;rw[a]at H b |-;have d:=H.ker;simp only at d b |-;generalize (dY (bL h.G p i).1 (p+(i:Nat))).1=k at l d b |-
        repeat'(first|refine gE ?_|refine CM (l) ⟨⟨rfl,CU _⟩,⟨rfl,rfl⟩,tV1⟩ ?_)
        refine lp0 i (λj=>[(0,bS (Qt h)),(7,fI p),(9,bS (af.enc .own (dJ k p j))),(10,fN i),(13,fI (p+(j:Nat)))]) λj Y=>?_
        have T:=uh (dJ k p j) (p+(j:Nat)) (kK d p j) (by grind [ip]);by_cases Z:j<i
        ·repeat'(first|refine gE ?_|refine CM (T) ⟨⟨rfl,CU _⟩,⟨rfl,rfl⟩,tV1⟩ ?_)
         (exact dt (j+1) ω)
        obtain rfl:j=i:=ω
        refine σE ?_
        exact kk
      obtain rfl:i=n:=ω
      rw[CJ L];generalize (bL h.G p i).1=k
      refine σE ?_
      exact kk
 subst Q;rw[CJ rfl];rw[CI (by simp)]at t
 repeat'(first|refine gP ?_|refine CM (N) ⟨⟨rfl,lD h⟩,tV1⟩ ?_|refine CM (t) ⟨⟨rfl,rfl⟩,⟨rfl,Zg c⟩,⟨rfl,rfl⟩,tV1⟩ ?_|refine XO c ?_)
 exact kk
theorem Af(h:ac)(p c:Int)(w:h.J.length<=4096):zzB 269 false [.ptr (js h),.val (some 3) [I p,I c,I 0]] [.ptr (js {h with J:=lB (Kf p) h.J ⟨p,c,0⟩}),.val (some 3) [I p,I c,I 0]] .one [I (mh (Kf p) h.J:Nat)]:=by
 refine fM 40 [(404,[1,0,1])] [(2,18,[6,7,8,9,10,11,12,13,14,15,16,17,18,19,20,21,22,23]),(4,264,[28,29,30,31,32,33,34,35,0,1,2,3,4,5,6,7,8,1000,9,10,11])] [(0,0),(0,0)] Tryz.func269 rfl (λu q=>?_)
 refine σP ?_
 refine gn h.J.length (λi=>[(0,bS (js h)),(3,bS ([I p,I c,I 0])),(5,fN i)]) (λi=>∀(j:Nat)(z:aA),j<i->h.J[j]? = some z->Kf p z=false) ψ λi g=>?_
 obtain⟨k,d⟩:=g;by_cases l:i<h.J.length/\(nth h.J i).S<p
 ·have b:=ar l.1
  refine σE ?_
  (exact dt (i+1) ⟨ω,fH b (C1 ω) d⟩)
 have a:mh (Kf p) h.J=i:=oV ω d λz e=>by
  have n:=(C4.1 e).1;have:z=nth h.J i:=(bB e).symm;subst this;exact O0 ω
 have b:i<h.J.length->h.J[i]? = some (nth h.J i):=λo=>ar o
 have r:=Kt h.J i ⟨p,c,0⟩ ω ω;rw[pj a,a]
 repeat'(first|refine gE ?_|with_reducible refine CH (aa (b ω)) ?_|refine gS (λt=>?_) (λt=>?_)|refine CL rfl (aa (b ω)) rfl ?_)
 all_goals
  exact kk
def NV(h:ac)(i:Nat):js (slotT h i)=((js h).set 14 (I (EA h.c1))).set 6 (.s .own ((h.J.map (aA.enc .own)).set i [I (nth h.J i).S,I (nth h.J i).Z,I (iT (nth h.J i).a6 (q7 h i))])):=by
 simp[js,slotT,uO,CC,aA.enc,oF]
def F4(h:ac)(E:List Int)(i:Nat)(a:bm h E)(b:i<h.J.length)(p:(iS h i).length=0):zzA 267 false [.ptr (ac.enc .O h),.vI (i:Nat)] (.tup [none,none]) [I (-1),B false]:=by
 have g:=ar b;have c:=a.L.sok _ (ax b);have d:=eM c;have j:=(bz.1 (aF.1 a.ker).2.2.1).2.2;have n:=a.lens.spans;have e:=nK a.L.sok (ps:=aZ h (nth h.J i).S) d (aZ h (nth h.J i).S).length;change 0<=eH h i/\eH h i<=65535 at e;have o:=ik (nth h.J i).Z;have k:=vf h i ⟨ω,λ_ _=>tV1⟩ ⟨ω,λ_ _=>tV1⟩ a.L.sok b;rw[zO a.L.sok b]at k;have l:=sL (nth h.J i).Z (eH h i) ω;change ah _ _ _ _ _ (aE .own (iS h i)) at l;refine fO 63 [(2,7,[17,18,19,20,21,22,23]),(7,12,[43,44,45,46,47,48,49,50,51,52,53,54]),(8,5,[57,58,59,60,61])] Tryz.func267 rfl ?_ (.inr ⟨tV1,tV1,tV1⟩)
 refine σB ?_
 rfl
def rZ(h:ac)(E:List Int)(i:Nat)(b:bm h E)(j:i<h.J.length):zzB 267 false [.ptr (js h),.vI (i:Nat)] [.ptr (js (mW h i).1),.vI (i:Nat)] (.tup [none,none]) [I (mW h i).2,B (decide (0<(iS h i).length))]:=by
 have F:=b.lens.spans;have d:=ar j;have c:=b.L.sok _ (ax j);have e:=eM c;have a:=b.nums;unfold cv at a;rw[C0]at a;have y:=(bz.1 (aF.1 b.ker).2.2.1).2.2;have k:=nK b.L.sok (ps:=aZ h (nth h.J i).S) e (aZ h (nth h.J i).S).length;change 0<=eH h i/\eH h i<=65535 at k;have C:=ik (nth h.J i).Z;have l:=vf h i ⟨ω,λ_ _=>tV1⟩ ⟨ω,λ_ _=>tV1⟩ b.L.sok j;rw[zO b.L.sok j]at l;have o:=sL (nth h.J i).Z (eH h i) ω;change ah _ _ _ _ _ (aE .own (iS h i)) at o;have p:=Er (nth h.J i).Z (eH h i);change (iS h i).length<=16 at p;unfold mW;by_cases D:(iS h i).length=0
 ·rw[CJ D,C1 ω]
  refine fM 63 [] [(2,7,[17,18,19,20,21,22,23]),(7,12,[43,44,45,46,47,48,49,50,51,52,53,54]),(8,5,[57,58,59,60,61])] [(0,0),(0,0)] Tryz.func267 rfl (λu q=>?_) (.inr ⟨tV1,tV1,tV1⟩)
  repeat'(first|refine gB ?_|refine CM (l) ⟨⟨rfl,lD h⟩,⟨rfl,rfl⟩,tV1⟩ ?_)
  exact kk
 rw[CI D,O0 ω];have G:=yB (h:=h) (i:=i) ω;obtain⟨H,O,P⟩:=wv G;have J:=(iv (aO c).2.2).2.2.1;have r:=tw h.c1 (n:=((iS h i).length:Nat)) ω;have K:=zr h.c1 ((iS h i).length:Nat) ω ω;have M:=Fd (nth h.J i).a6 (q7 h i) e ω;obtain⟨N,t⟩:=t5 H;have w:=uT (nth h.J i) N c ω;unfold lN at w;rw[<-t]at w;have g:(iS h i)[(Ke h.c1 ((iS h i).length:Nat)).toNat]? = some (q7 h i):=ar ω;unfold ta;rw[NV];refine fM 63 [] [(2,7,[17,18,19,20,21,22,23]),(7,12,[43,44,45,46,47,48,49,50,51,52,53,54]),(8,5,[57,58,59,60,61])] [(0,0),(0,0)] Tryz.func267 rfl (λu q=>?_) (.inr ⟨tV1,tV1,tV1⟩)
 repeat'(first|refine gB ?_|refine CM (l) ⟨⟨rfl,lD h⟩,⟨rfl,rfl⟩,tV1⟩ ?_|refine CQ r.1 (aa g) ?_|refine CR rfl rfl (aa d) rfl (O2 rfl) rfl ?_)
 refine CN rfl ?_ ?_
 ·rfl
 exact wC
def Ri(k:af)(p:Int):bL k p 1=((dY k p).1,if(dY k p).2=true then 1 else 0):=by
 show(if(0:Nat)=0 then((dY k (p+((0:Nat):Int))).1,if(dY k (p+((0:Nat):Int))).2=true then 0+1 else 0) else(k,0))=_;rw[CJ rfl,show p+((0:Nat):Int)=p by omega]
def Rh(h:ac):AW h 1=if(aD h.b 1).2.2=false then(h,-1,false)
  else if(dY h.G (aD h.b 1).2.1).2=false then({h with G:=(dY h.G (aD h.b 1).2.1).1},-1,false)
  else({h with G:=(dY h.G (aD h.b 1).2.1).1,b:=(aD h.b 1).1},(aD h.b 1).2.1,true):=by
 unfold AW;rw[show((1:Nat):Int)=1 from rfl,Ri];cases e:(dY h.G (aD h.b 1).2.1).2
 ·simp[dJ]
 simp
def Vs(h:ac)(a:C):List C:=(js h).set 9 a
def DB(h:ac)(size:Int)(e:bm h [])(l:9<=size/\size<=1000)(n:h.G.Calls<=90000):zzB 121 false [.ptr (js h),.vI size] [.ptr (js (EO h size).1),.vI size] (.tup [none,none]) [I (EO h size).2,B (decide (0<=(EO h size).2))]:=by
 have E:=e.lens.larges;have R:=e;have o:fe size=((nB size:Nat):Int):=by unfold fe nB;split<;>omega
 have F:1<=nB size/\nB size<=63:=by unfold nB;omega
 have g:=pO size;rw[o]at g;have a:=sV h (nB size) e n F;have c:=lM e (show(1:Int)<=(nB size:Nat) by omega);unfold AW at a;unfold EO k6;generalize nB size=N at *;generalize aD h.b (N:Nat)=r at a c |-;obtain⟨G,p,ok⟩:=r;simp only at a c |-;refine fM 56 [(268,[2,0]),(271,[1,0,1])] [(7,268,[39,40,41,42,43,44,45,46,47,48,49,50,0,1,2,3,4,5,6,7,8,9,10,11,12,1000,13,14,15])] [(0,0),(0,0)] Tryz.func121 rfl (λu q=>?_) (.inr ⟨tV1,tV1,tV1⟩);cases ok with
 | false=>
  rw[CJ rfl]at a |-
  refine σP ?_
  exact kk
 | true=>
  rw[CI (by simp)]at a |-;obtain⟨S,H,-,-⟩:=c rfl;have J:h.G.F.Q.M.length<=32:=e.lens.ents;have t:p+(N:Nat)<=(h.G.F.Q.M.length:Nat):=H;by_cases w:(bL h.G p N).2=N
  ·rw[CJ w]at a |-
   rw[O0 (show(0:Int)<=16*p by omega)];generalize (bL h.G p N).1=k at a |-
   refine σP ?_
   refine gn h.H.length (λm=>[(0,bS (js {h with G:=k,b:=G})),(1,fI size),(6,fI p),(8,fN m)]) (λm=>∀(j:Nat)(z:a8),j<m->h.H[j]? = some z->VF p z=false) (λj z T=>ω) λm K=>?_
   obtain⟨L,C⟩:=K;by_cases M:m<h.H.length/\(nth h.H m).S<p
   ·have d:=ar M.1
    repeat'(first|refine gP ?_|refine Bf.D (λb=>?_) (λb=>absurd b (by first|omega|(simp only at *;omega))))
    (exact dt (m+1) ⟨ω,fH d (C1 ω) C⟩)
   have i:mh (VF p) h.H=m:=oV ω C λz l=>by
    have O:=(C4.1 l).1;have:z=nth h.H m:=(bB l).symm;subst this;exact O0 ω
   have d:m<h.H.length->h.H[m]? = some (nth h.H m):=λP=>ar P
   have Q:=HD h.H m ⟨p,(N:Nat),size⟩ ω ω;rw[pj i]
   repeat'(first|refine gP ?_|refine Bf.D (λb=>?_) (λb=>absurd b (by first|omega|(simp only at *;omega)))|refine Bf.D (λb=>absurd b (by first|omega|(simp only at *;omega))) (λb=>?_)|refine Bf.D (λb=>?_) (λb=>?_)|refine CH (aa (d (by first|omega|(simp only at *;omega)))) ?_|refine CL rfl (aa (d (by first|omega|(simp only at *;omega)))) rfl ?_)
   all_goals
    refine CN rfl ?_ ?_
    ·exact O1 (λy=>[I y,B true]) (show p*16=16*p by omega)
    exact wC
  rw[CI w]at a |-
  refine σP ?_
  exact kk
def cl(k:af)(f c:Nat):Int:=nth (nth k.F.V.U f) c
structure At(k:af)(a:Int)(f c:Nat):Prop where
 m:(ay k.F.Q (a / 16)).o≠0
 f:(ay k.F.Q (a / 16)).j=f
 c:a % 16=c
def At.cell{k:af}{c:Nat}(h:At k a f c):yM k a=cl k f c:=by
 unfold yM cl;rw[h.f,h.c,O4,O4]
structure New(h h':ac)(x:aW):Prop where
 mem:∀o,o∈h'.K↔o=x\/o∈h.K
 ze:∀j:Int,0<=j->j<x.y->yM h'.G (x.Addr+j)=0
 ke:∀o∈h.K,∀j:Int,0<=j->j<o.y->yM h'.G (o.Addr+j)=yM h.G (o.Addr+j)
def hE(h:ac)(k:af):ac:={h with G:=k,a2:=false,a5:=⟨⟨0,0,[]⟩,0,0⟩}
def sm{α:Type}(f:α->Int):List α->Int
 | []=>0
 | a::l=>f a+sm f l
def cells1(xs:List Int)(i:Nat)(h:i<xs.length):[rI .O (nth xs i)]=((xs.map (rI .O)).take (i+1)).drop i:=by
 rw[List.drop_take,<-I8,gT h,show i+1 - i=1 by omega]
 rfl
def Jw(k:af)(j:bW)(c:aH k=true)(D:kN j=true):zzA 301 false [.val (some 5) (af.enc .O k),.val (some 5) (bW.enc .O j)] (.tup [some 5,some 5]) (af.enc .own (iA k j).1++bW.enc .own (iA k j).2):=by
 obtain⟨F,Y,Z,Q,j6⟩:=gV.1 D;have R:=o6 F;have y:=bk c;have g:=iq k y;have l:=xx j (yS D);have b:=jg k y;rw[c,Bool.and_true]at b;have o:=Bd j (yS D);rw[D]at o;have d:=fY k j.d.b0 y.1.2;have p:=fY k j.d.b2 y.1.2;have r:=de k.F.Q j.d.b0 y.1.2;have t:=de k.F.Q j.d.b2 y.1.2;have L:=(bz.1 (aF.1 c).2.2.1).2.2;have S:=(bi.1 (aF.1 c).2.1).2.2.1;have q:jmay k j=false->iA k j=(k,j):=λe=>by unfold iA;rw[e];rfl
 refine fO 149 [(1,262,[11,12,13,14,15,16,0,1,2,3,4,5,6,1003,1004,1005,7]),(2,6,[17,18,19,20,8,9]),(3,33,[21,22,23,24,25,26,27,28,29,30,31,32,33,34,35,36,37,38,39,40,41,42,43,44,45,46,47,48,49,50,51,52,53]),(4,258,[56,57,0,1,2,1001,3]),(15,272,[82,83,84,85,86,87,88,89,90,91,92,93,94,81,95,96,0,1,2,3,4,5,6,7,8,9,10,11,12,13,14,15,16,1015]),(25,273,[123,124,125,126,127,128,129,130,131,132,133,134,135,122,136,137,138,0,1,2,3,4,5,6,7,8,9,10,11,12,13,14,15,16,17,1015]),(29,258,[147,148,0,1,2,1001,3])] Tryz.func301 rfl ?_ (.inr (a7 (Ci _) (bW.enc_fr _)));by_cases u:k.Calls=100000
 ·rw[C1 (λn=>n u)]at b
  rw[q (by rw[<-IA,iK];exact λh=>h.1.2 u)]
  refine σP ?_
  rfl
 rw[O0 u]at b;by_cases B:(ay k.F.Q j.d.b0).o=0
 ·rw[C1 (λn=>n B)]at d
  rw[q (by rw[<-IA,iK];exact λh=>h.2.2.1 B)]
  refine σP ?_
  rfl
 rw[O0 B]at d;by_cases w:(ay k.F.Q j.d.b2).o=0
 ·rw[C1 (λn=>n w)]at p
  rw[q (by rw[<-IA,iK];exact λh=>h.2.2.2.1 w)]
  refine σP ?_
  rfl
 rw[O0 w]at p;by_cases G:(ay k.F.Q j.d.b0).j=(ay k.F.Q j.d.b2).j
 ·rw[q (by rw[<-IA,iK];exact λh=>h.2.2.2.2 G)]
  refine σB ?_
  rfl
 have T:jmay k j=true:=iK.2 ⟨⟨c,u⟩,D,B,w,G⟩;rw[show iA k j=jstep k j by unfold iA;rw[T];rfl];have H:j.d.b2≠j.d.b0:=λe=>G (by rw[e])
 unfold jstep;by_cases M:j.b5=0
 ·rw[CJ M]
  have a:=v7 k j.d.b2 1 c u w (.inl rfl);cases e:(jR k j.d.b2 1).2<;>rw[e]at a
  all_goals
   refine σB ?_
   rfl
 rw[CI M];by_cases N:j.b5=1
 ·rw[CJ N]
  by_cases E:j.k=j.d.U.length
  ·rw[CJ E]
   refine σB ?_
   rfl
  rw[CI E];obtain⟨n,C⟩:=t5 Q;have a:=Nj k j.d.b2 j.d.b0 (nth j.d.U j.k.toNat) c u w B (kV F ω);rw[C,O4]at a;have J:n<j.d.U.length:=ω
  rw[show nth j.d.U j.k.toNat=nth j.d.U n by rw[C];rfl]
  repeat'(first|refine gB ?_|refine Sl.mid (rows':=[rI .O (nth j.d.U n)]) n (n+1) C ω ω (by rw[I2];omega) (aN λ_=>rfl) (cells1 _ _ J) ?_)
  rfl
 rw[CI N];by_cases O:j.b5=2
 ·rw[CJ O]
  have a:=Lr k j.d.b2 j.d.b0 c u w B H;cases e:(DJ k j.d.b2 j.d.b0).2<;>rw[e]at a
  all_goals
   refine σB ?_
   rfl
 rw[CI O];by_cases K:j.b5=3
 ·rw[CJ K]
  obtain⟨p1,p2,p3,U,p5⟩:=bU c B;by_cases E:0<j.k
  ·rw[CJ E]
   have P:=kV F (i:=(j.k - 1).toNat) ω;have V:=ar (xs:=j.d.U) (i:=(j.k - 1).toNat) ω;have W:0<=j.d.b0*16+nth j.d.U (j.k - 1).toNat/\j.d.b0*16+nth j.d.U (j.k - 1).toNat<512:=ω
   have X:(j.d.b0*16+nth j.d.U (j.k - 1).toNat) / 16=j.d.b0:=ω
   have a:=Dl k.F (j.d.b0*16+nth j.d.U (j.k - 1).toNat) 0 (jc c) y.1 W ω (λ_=>by rw[X];exact⟨U,ω,row16 c (f:=ko k j.d.b0) (by unfold ko;omega)⟩);generalize (iN k.F (j.d.b0*16+nth j.d.U (j.k - 1).toNat) 0).1=m at a |-;generalize (iN k.F (j.d.b0*16+nth j.d.U (j.k - 1).toNat) 0).2=e at a
   repeat'(first|refine gB ?_|refine CQ ω (aa V) ?_)
   rfl
  rw[CI E];have a:=v7 k j.d.b2 2 c u w (.inr rfl);cases e:(jR k j.d.b2 2).2<;>rw[e]at a
  all_goals
   refine σB ?_
   first|rfl|(rw[<-K];rfl)
 rw[CI K]
 refine σB ?_
 rfl
def Z8(h:ac):Int:=(iA h.G h.a5).2.b5
def Fc(h:ac)(l:bm h [])(n:h.a2=true)(o:ac.sml h)(t:h.G.Calls<=99000):zzA 140 false [.val (some 24) (ac.enc .O h)] (.tup [some 24,none,none]) (ac.enc .own (mStep h)++[I (Z8 h),B true]):=by
 obtain⟨q,-,-⟩:=l.job n;have i:=jw h o;have c:=cW h o;rw[eR,l.to]at c;have j:=Jw h.G h.a5 l.ker q;have a:=a7 (b:=[I (Z8 h),B true]) (ac.enc_fr (mStep h)) ⟨tV1,tV1,tV1⟩;unfold Z8 mStep at a |-;generalize iA h.G h.a5=r at j a |-;have d:(ac.enc .O h)=(ac.enc .O h).set 18 (B true):=by rw[<-n];rfl
 rw[d];rw[d]at i c;by_cases e:r.2.b5=4
 ·rw[CJ (show over r.2=true from O0 (.inl e)),CJ (show over r.2=true from O0 (.inl e))]at a |-
  refine fO 51 [(3,260,[23,24,25,26,0,1,2,3,4,1001,1002,1003,5,6])] Tryz.func140 rfl ?_ (.inr a)
  repeat'((conv=>whnf);first|with_reducible (first|refine Lm ?_|refine Wm ω ?_|refine dF ω (λg=>?_)|refine eT ω (λg=>?_)|refine eF ω (λg=>?_)|refine Bn ?_|refine km.wk rfl ?_)|refine Bt ?_|refine Bu ?_|refine CG ?_|refine CF (i) ?_|refine CF (c) ?_|refine CF (j) ?_|refine CG ?_)
  rw[e];exact wC
 by_cases k:r.2.b5=5
 ·rw[CJ (show over r.2=true from O0 (.inr k)),CJ (show over r.2=true from O0 (.inr k))]at a |-
  refine fO 51 [(3,260,[23,24,25,26,0,1,2,3,4,1001,1002,1003,5,6])] Tryz.func140 rfl ?_ (.inr a)
  repeat'((conv=>whnf);first|with_reducible (first|refine Lm ?_|refine Wm ω ?_|refine dF ω (λg=>?_)|refine eT ω (λg=>?_)|refine eF ω (λg=>?_)|refine Bn ?_|refine km.wk rfl ?_)|refine Bt ?_|refine Bu ?_|refine CG ?_|refine CF (i) ?_|refine CF (c) ?_|refine CF (j) ?_|refine CG ?_)
  rw[k];exact wC
 have p:¬over r.2=true:=by unfold over;simp[e,k]
 rw[CI p,CI p]at a |-;refine fO 51 [(3,260,[23,24,25,26,0,1,2,3,4,1001,1002,1003,5,6])] Tryz.func140 rfl ?_ (.inr a)
 refine σB ?_
 rw[n]
 rfl
def Qp:List MA->Bool
 | []=>true
 | .ptr _::_=>false
 | _::A=>Qp A
def Q8:MA->MA
 | .mut ag cs=>.mut ag (List.replicate cs.length .x)
 | m=>m
def FZ:Nat->List MA->List (Nat × AV)
 | _,[]=>[]
 | i,.val a cs::A=>(i,.X (mi a) cs)::FZ (i+1) A
 | i,.mut a cs::A=>(i,.X (mi a) cs)::FZ (i+1) A
 | i,.ptr cs::A=>(i,.X .box cs)::FZ (i+1) A
def Xq:MA->AV
 | .val a cs=>.X (mi a) cs
 | .mut a cs=>.X (mi a) cs
 | .ptr cs=>.X .box cs
def Y7(TE:Nat->Option TI)(c:List ResultVar)(k:Kd)(rcs:List C):Exit->(Nat->AV)->Prop:=λe F=>
 match e with
 | .normal=>resA TE F c [] λa b=>aV (ix a) k b rcs True
 | .ret=>resA TE F c [] λa b=>aV (ix a) k b rcs True
 | _=>False
section
variable{P:Program}{w0 w w1:World}{M S0 S:am}{N:gk}{φ:Nat->am}{F:Nat->AV}{a:Act}{TE:Nat->Option TI}
def Gd:∀{A:List MA}{vs:List Value}{V:Nat->am}(i:Nat),Tt w S V A vs->∀t,(lay (FZ i A) t=.dead)\/(∃m v,i<=t/\vs[t - i]? = some v/\A[t - i]? = some m/\lay (FZ i A) t=Xq m/\tH w S (V (t - i)) m v)
 | [],_,_,i,_,t=>.inl rfl
 | m::A,[],_,i,h,t=>h.elim
 | m::A,v::vs,V,i,h,t=>by
  have c:lay (FZ i (m::A)) t=bif Nat.beq t i then Xq m else lay (FZ (i+1) A) t:=by cases m<;>rfl
  rw[c];cases a:Nat.beq t i with
  | true=>
   have:=v4 a;subst this;exact .inr ⟨m,v,z5 _,by simp,by simp,rfl,by rw[Nat.sub_self];exact h.1⟩
  | false=>
   have d:t≠i:=λe=>by subst e;rw[Nat.beq_refl]at a;cases a
   rcases Gd (i+1) h.2 t with b|⟨f,g,b,j,k,l,n⟩
   ·exact .inl b
   refine .inr ⟨f,g,ω,?_,?_,l,?_⟩
   ·rw[show t - i=(t - (i+1))+1 by omega];simpa using j
   ·rw[show t - i=(t - (i+1))+1 by omega];simpa using k
   rw[show t - i=(t - (i+1))+1 by omega];exact n
def Bi{d:World}{S':am} : ∀{A:List MA}{vs:List Value}{V:Nat->am},Qp A=true->Tt w S V A vs->Fr d S' (λ_=>NO) (A.map Q8) vs
 | [],[],_,_,_=>trivial
 | [],_::_,_,_,h=>h.elim
 | _::_,[],_,_,h=>h.elim
 | .ptr _::_,_::_,_,a,_=>by cases a
 | .val ag cs::A,v::vs,V,a,h=>⟨tV1,Bi (A:=A) a h.2⟩
 | .mut ag cs::A,v::vs,V,a,h=>by
  refine⟨?_,Bi (A:=A) a h.2⟩;obtain⟨e,f,g⟩:=bA.celF (show bA w S (V 0) ag cs v from h.1);refine⟨by rw[O6];exact e,celF v,f,λ_=>NO,λj c i=>?_,λ_ _ _ _ h=>h.elim,λ_ _ _ _ _ _ _ h=>h.elim⟩;obtain⟨b,rfl⟩:=List.getElem?_replicate.symm.trans i |> λh=>by
   rw[<-List.getElem?_replicate]at h;have b:=(C4.1 h).1;rw[O6]at b;rw[List.getElem?_replicate,CJ b]at h;exact CK b (Option.some.inj h).symm
  exact .x _ _ (g.one b)
def RG{f : Nat}{g : Func}{c : Code}{A : List MA}{k : Kd}{rcs : List C}{mo : List (Nat × List Nat)}{n : Nat}(L : ∀t i, TE t = some i -> jo P t i)(hf : P.funcs[f]? = some g)(hn : (g.name == "runtime.NumGoroutine") = false)(B:g.body=some c){ck:Nat->Array Oper->Bool}{D:gk->Nat->Array Oper->((Nat->AV)->Prop)->(Nat->AV)->Prop}(hD:∀N,Dk P N ck (D N))(hc:iy ck c=true)(hN:A.length+(g.ntmps - A.length)=n)(T:Qp A=true)(U:gl rcs)(hp:aw P TE ⟨n,[],mo⟩ (D ⟨n,[],mo⟩) c (Y7 TE g.results.toList k rcs) (lay (FZ 0 A))):aT P f false A (A.map Q8) k rcs:=by
 refine⟨⟨g,hf,hn,by rw[B];rfl⟩,λw S V p hS hV W Z=>?_⟩;have hlen:=Hj Z;refine calls_of_wp hf B ?_;have htv:∀t v,p[t]? = some v->tvs {tmps:=p.toArray++Array.replicate (g.ntmps - p.toArray.size) undef,defers:=[]} t=v:=λt v E=>by
  have hlt:=(C4.1 E).1;simp only[tvs,CD];rw[Array.getElem?_append_left (by simpa using hlt)];simp only[List.getElem?_toArray];rw[E];rfl
 have hst:St w (λb o=>∃i,V i b o) S ⟨n,[],mo⟩ (lay (FZ 0 A)) {tmps:=p.toArray++Array.replicate (g.ntmps - p.toArray.size) undef,defers:=[]} w:=by
  refine⟨S,V,λt=>?_,W,λt b o h=>(hV t b o h).2,λt b o h=>⟨(hV t b o h).1,.inr ⟨t,h⟩⟩,λ_ _ h=>h,λb o h=>⟨hS b o h,.inl h⟩,Ck _ _,by simp;omega,rfl,λq hq=>by simp at hq⟩;rcases Gd 0 Z t with h1|⟨m,v,-,E,h2',h3,H⟩
  ·rw[h1];trivial
  rw[h3];rw[Nat.sub_zero]at E H;rw[htv t v E];cases m with
  | val y r=>exact(bA.mono (show bA w S NO y r v from H) (λ_ _ h=>h) (λ_ _ h=>h.elim)).slot
  | «mut» y r=>exact bA.slot (show bA w S (V t) y r v from H)
  | ptr r=>exact H
 refine kL L (hD _) c hc _ _ _ _ w hp hst λe F' J d he hs'=>?_
 obtain⟨S',φ',h⟩:=hs';have fin:resA TE F' g.results.toList [] (λsh r=>aV (ix sh) k r rcs True)->J.defers=[]/\∃v,(results g J.tmps).run P d=.ok v d/\(∃v',Ending.returned v=.returned v'/\bK (λb o=>∃i,V i b o) w d/\∃(X:am)(K:Nat->am)(S1:am),
     (∀b o,X b o->(∃i,V i b o)\/(b<d.heap.size/\w.heap.size<=b))/\(∀i b o,K i b o->(∃i,V i b o)\/(b<d.heap.size/\w.heap.size<=b))/\
     (∀b o,S1 b o->(false=true/\S b o)\/(∃i,V i b o)\/(b<d.heap.size/\w.heap.size<=b))/\
     (∀i i',i≠i'->∀b o,K i b o->¬K i' b o)/\(∀i b o,X b o->¬K i b o)/\(∀b o,X b o->¬S1 b o)/\(∀i b o,K i b o->¬S1 b o)/\
     gG d NO k rcs.length v'/\cz d S1 X rcs (cu d k v')/\Fr d (λb o=>S b o\/S1 b o) K (A.map Q8) p):=by
  intro hr;obtain⟨shs,r,a,u',M,O,u,hln,Q,hcells,l,R⟩:=h.resA L hr;obtain⟨rfl,rfl,-⟩:=M.out;refine⟨h.defers,?_⟩;have G:(results g J.tmps).run P d=.ok (if h:a.toArray.size=1 then a.toArray[0] else .tuple a.toArray) d:=by
   have e:results g J.tmps=(do let p <-g.results.mapM (GM J.tmps);pure (if h:p.size=1 then p[0] else .tuple p)):=by
    unfold results
    congr 1
   rw[e,<-Array.toArray_toList (xs:=g.results),List.mapM_toArray];simp only[Sem.run_bind,Sem.run_map,O,Result.andThen_ok,Sem.run_pure]
  have hex:∀t b o,φ' t b o->(∃i,V i b o)\/(b<d.heap.size/\w.heap.size<=b):=λt b o B=>(h.ex t b o B).2.elim (λh'=>.inr ⟨(h.ex t b o B).1,h'⟩) .inl
  refine⟨_,G,_,rfl,h.old,λb o=>∃t,t∉([]:List Nat)/\φ' t b o,λ_=>NO,NO,λb o ⟨t,_,B⟩=>hex t b o B,λ_ _ _ h=>h.elim,λ_ _ h=>h.elim,λ_ _ _ _ _ h=>h.elim,λ_ _ _ _ h=>h.elim,λ_ _ _ h=>h.elim,λ_ _ _ h=>h.elim,?_⟩;have hk:gG d NO (ix shs) r.length (if h:a.toArray.size=1 then a.toArray[0] else .tuple a.toArray)/\cz d S' (λb o=>∃t,t∉([]:List Nat)/\φ' t b o) r (cu d (ix shs) (if h:a.toArray.size=1 then a.toArray[0] else .tuple a.toArray)):=by
   match shs,u,l,Q with
   | [],u,_,Q=>
    cases a with
    | cons _ _=>exact u.elim
    | nil=>
     have:r=[]:=SE (by simpa[z8] using Q.symm);subst this;exact⟨⟨_,rfl,tV1,rfl⟩,cz.nil _ _ _ _⟩
   | [y],_,l,_=>
    obtain⟨v,rfl,hv⟩:=l y rfl;have:=hv.slot (F:=F') (tv:=tvs J);obtain⟨X1,Y,h1,E,h3,H,h5⟩:=this;refine⟨?_,h5.mono (λ_ _ h=>h) E⟩;cases y<;>exact H
   | y::ag2::sh,u,_,Q=>
    have hsz:¬a.toArray.size=1:=by
     match a,u with
     | [],u=>simp
     | [v],u=>cases y<;>cases ag2<;>exact u.2.elim
     | _::_::_,_=>simp
    rw[dif_neg hsz];refine⟨⟨_,rfl,u,Q⟩,R.congr λj hj=>?_⟩;simp only[cu,ix,nI,hcells];simp[List.getD,hj]
  exact⟨hk.1,(hk.2.fresh U).mono (λ_ _ h=>h.elim) (λ_ _ h=>h),Bi T Z⟩
 cases e with
 | normal=>exact fin he
 | ret=>exact fin he
 | _=>exact he.elim
end
variable{rcs: List C}
def tP{mo : List (Nat × List Nat)}{a : Func}{c : Code}{A : List MA}{k : Kd}(e : Tryz.prog.funcs[f]? = some a)(g : (a.name == "runtime.NumGoroutine") = false)(h : a.body = some c){tb : List (Nat × Nat × List Nat)}(i : iy (rL tb) c = true)(j:A.length+(a.ntmps - A.length)=n)(b:Qp A=true)(d:gl rcs)(l:aw Tryz.prog TE ⟨n,[],mo⟩ (DF Tryz.prog TE ⟨n,[],mo⟩ tb) c (Y7 TE a.results.toList k rcs) (lay (FZ 0 A))):zzB f false A (A.map Q8) k rcs:=
 RG rV e g h (λN=>wo rV vR N tb) i j b d l
def Tr{t:List C}{u:Nat->Value}(d:cz w S Y (ac.enc .own h++t) u):cz w S Y (dq h++t) u:=by
 obtain⟨f,b,e,g⟩:=d;refine⟨f,λj c a=>?_,e,g⟩;have i:dq h++t=(((ac.enc .own h++t).set 6 (oS h)).set 7 (oL h)).set 8 (oO h):=rfl;rw[i]at a;by_cases k:j=8
 ·subst k
  have:c=oO h:=by simpa[ac.enc] using a.symm
  rw[this];exact vZ (b 8 _ rfl)
 by_cases l:j=7
 ·subst l
  have:c=oL h:=by simpa[ac.enc] using a.symm
  rw[this];exact vZ (b 7 _ rfl)
 by_cases n:j=6
 ·subst n
  have:c=oS h:=by simpa[ac.enc] using a.symm
  rw[this];exact vZ (b 6 _ rfl)
 rw[List.getElem?_set_ne ω,List.getElem?_set_ne ω,List.getElem?_set_ne ω]at a;exact b j c a
def ah.E{sh:Bool}{A:List RA}{k:Kd}{t:List C}(c:ah P f sh A k (ac.enc .own h++t)):ah P f sh A k (dq h++t):=by
 obtain⟨a,b⟩:=c;refine⟨a,λw S d g i=>(b w S d g i).mono λe w1 j=>?_⟩;obtain⟨v,l,n,X,S1,o,p,q,r,u⟩:=j;exact⟨v,l,n,X,S1,o,p,q,r,Tr u⟩
def zL(h:ac)(a:ac.sml h)(b:h.a2=false):zzA 140 false [.val (some 24) (ac.enc .O h)] (.tup [some 24,none,none]) (dq h++[I h.a5.b5,B false]):=by
 have c:=dM h a;refine fO 51 [(3,260,[23,24,25,26,0,1,2,3,4,1001,1002,1003,5,6])] Tryz.func140 rfl ?_ (.inr (a7 (cn _) ⟨tV1,tV1,tV1⟩))
 repeat'(first|refine gP ?_|refine Bf.f b ?_)
 rfl
def stp1(h:ac):ac:=if h.a2=true then mStep h else h
def Po(h:ac)(d:bm h [])(b:ac.sml h)(e:h.G.Calls<=99000):zzA 47 false [.val (some 24) (ac.enc .O h)] (.tup [some 24,none]) (dq (stp1 h)++[B h.a2]):=by
 unfold stp1;cases c:h.a2 with
 | true=>
  rw[CJ rfl];have a:=(Fc h d c b e).E;generalize mStep h=g at a |-;refine fO 15 [] Tryz.func47 rfl ?_ (.inr (a7 (cn _) ⟨tV1,tV1⟩))
  refine σP ?_
  rfl
 | false=>
  rw[CI (by simp)];have a:=zL h b c;refine fO 15 [] Tryz.func47 rfl ?_ (.inr (a7 (cn _) ⟨tV1,tV1⟩))
  refine σP ?_
  rfl
def Ay(q:bh)(now:Int)(l:hB q=true)(L:q.q.length<=4096)(E:0<=now/\now<=1000000)(b:∀y∈q.q,y.b7<=1000000):zzA 135 false [.val (some 2) (bh.enc .O q),.vI now,.vI 100] (.tup [some 2,none]) (LB q now):=by
 have p:bh.sml q:=⟨ω,λ_ _=>tV1⟩
 have F:=pw q p;have r:=t7 q p;rw[l]at r;have t:=aG now 0 1000000;rw[O0 E]at t;have u:=aG 100 0 1000000;rw[O0 qs]at u;have n:=(jv.1 l).1;have a:gl (LB q now):=a7 (bh.enc_fr _) (oK _);have w:∀i,i<q.q.length->0<=(nth q.q i).b7:=λi c=>(n _ (ax c)).2.2.2
 unfold LB at a |-;generalize G:rd now q.q=k at a |-;refine fO 59 [] Tryz.func135 rfl ?_ (.inr a)
 refine σP ?_
 refine Lp.fz 8 (ι:=Nat) (λi=>[(1,fI now),(2,fI 100),(3,bS (bh.enc .O q)),(6,bS [I 0,.z]),(8,bS (bh.enc .O q)),(9,fN i)]) (λi=>i<=q.q.length/\∀j,j<i->(nth q.q j).b7<now - 100) (λi=>q.q.length - i) 0 ?_ ⟨I1 _,λj H=>ω⟩ λi c=>?_
 ·(repeat'(first|exact tV1|rfl|exact CK rfl (show RB (cP (bh.enc .own q)) (bh.enc .O q) by rw[bh.enc_fz];exact lX _)|refine CK ?_ ?_))
 obtain⟨c,B⟩:=c;by_cases d:i<q.q.length/\(nth q.q i).b7<now - 100
 ·have g:=ar d.1
  have:=w i d.1;have:=b _ (ax d.1)
  refine σE ?_
  (exact dt (i+1) ⟨ω,λj H=>by by_cases e:j=i;(subst e;exact d.2);exact B j ω⟩)
 have h:=Jy now (i:=i) c B (λJ K=>d ⟨J,K⟩);rw[G]at h;subst h;have C:=nk (q.q.take k) (by rw[I3];omega);have D:=nk (q.q.drop k) (by rw[O5];omega);by_cases o:k<q.q.length
 ·have g:=ar o
  have:=w k o;have:=b _ (ax o)
  repeat'(first|refine gE ?_|refine gS (λl=>?_) (λl=>?_)|refine CZ k rfl (by rw[I2];omega) (aN λ_=>rfl) C8 ?_|refine Cf k rfl (by rw[I2];omega) (aN λ_=>rfl) I8 ?_)
  rfl
 repeat'(first|refine gE ?_|refine CZ k rfl (by rw[I2];omega) (aN λ_=>rfl) C8 ?_|refine Cf k rfl (by rw[I2];omega) (aN λ_=>rfl) I8 ?_)
 rfl
def RP(h:ac)(xs:List aJ)(k:Nat)(a:k<xs.length):freeAs h ((xs.take (k+1)).map (·.Addr))=freeA (freeAs h ((xs.take k).map (·.Addr))) (nth xs k).Addr:=by
 unfold freeAs;rw[OA,ar a];simp
def F5(h:ac)(n:Int)(o:ac.sml h)(c:bm h [])(u:h.G.Calls≠100000)(p:0<=n/\n<=1000)(e:h.b1+n<=1000000):zzA 44 false [.val (some 24) (ac.enc .O h),.vI n] (.tup [some 24,none]) (dq (tick h n)++[I ((ni h n).length:Nat)]):=by
 have w:=dM h o;have q:=cW h o;rw[eR,c.to]at q;have r:=aG n 0 1000;rw[O0 p]at r;have a:=c.nums;unfold cv at a;rw[C0]at a;have B:=c.lens.quar;have t:=Ay h.a1 (h.b1+n) c.quar ω ω (λy C=>by have:=c.snc y C;omega);unfold LB at t;have b:=c.aged (n:=n) p.1 e;have D:((h.a1.q.take (rd (h.b1+n) h.a1.q))).length<=512:=by rw[I3];omega
 have g:ni h n=(h.a1.q.take (rd (h.b1+n) h.a1.q)).map (·.Addr):=rfl;have E:dq (aged h n)=((dq h).set 15 (I (h.b1+n))).set 13 (.s .own ((h.a1.q.drop (rd (h.b1+n) h.a1.q)).map (aJ.enc .own))):=rfl;unfold tick;rw[g]at b |-;rw[List.append_nil]at b;generalize h.a1.q.take (rd (h.b1+n) h.a1.q)=out at *;refine fP 63 [(134,[2,0])] [] Tryz.func44 rfl ?_ (.inr (a7 (cn _) ⟨tV1,tV1⟩))
 refine σB ?_
 refine lp0 out.length (λk=>[(4,.X .box jX),(6,bS (dq (freeAs (aged h n) ((out.take k).map (·.Addr))))),(8,bC (bY .own out)),(50,.c6 8 0 [] none),(51,fI out.length),(52,fN k)]) λk G=>?_
 by_cases i:k<out.length
 ·have d:=ar i
  have j:out.map (·.Addr)=(out.take k).map (·.Addr)++(nth out k).Addr::(out.drop (k+1)).map (·.Addr):=by
   conv=>lhs;rw[<-List.take_append_drop k out,gT i]
   simp
  have l:bm (freeAs (aged h n) ((out.take k).map (·.Addr))) ((nth out k).Addr::(out.drop (k+1)).map (·.Addr)):=bm.freeAs (by rw[<-j];exact b);have F:=mq _ _ _ l (by rw[(jT _ _).2.2.1];exact u)
  refine σE ?_
  (refine CP (k+1) ω ω ?_)
  rw[RP _ out k i];exact wC
 obtain rfl:k=out.length:=ω
 rw[O9]
 refine σE ?_
 rw[I2]
 rfl
def JT(h:ac)(t:Int)(a:ac.sml h)(c:bm h [])(d:¬(h.G.Calls≠100000/\0<=t/\t<=h.R.length - 1)):zzA 43 false [.val (some 24) (ac.enc .O h),.vI t] (.tup [some 24,none]) (dq h++[I 0]):=by
 have e:=dM h a;have b:=rD h t a;rw[c.to,show(decide (0<=t/\t<=h.R.length - 1)&&decide (h.G.Calls≠100000)&&true)=false by
   rw[Bool.and_true,<-IA,I0,C0,C0];exact λx=>d ⟨x.2,x.1⟩]at b
 refine fP 52 [(134,[2,0])] [] Tryz.func43 rfl ?_ (.inr (a7 (cn _) ⟨tV1,tV1⟩))
 refine σP ?_
 rfl
def Km(h:ac)(n:Int)(g:ac.sml h)(i:bm h [])(j:¬(h.G.Calls≠100000/\(0<=n/\n<=1000)/\h.b1+n<=1000000)):zzA 44 false [.val (some 24) (ac.enc .O h),.vI n] (.tup [some 24,none]) (dq h++[I 0]):=by
 have d:=dM h g;have b:=cW h g;rw[eR,i.to]at b;have c:=aG n 0 1000;have a:=i.nums;unfold cv at a;rw[C0]at a;by_cases k:h.G.Calls=100000
 ·refine fP 63 [(134,[2,0])] [] Tryz.func44 rfl ?_ (.inr (a7 (cn _) ⟨tV1,tV1⟩))
  refine σB ?_
  rfl
 by_cases e:0<=n/\n<=1000
 ·rw[O0 e]at c
  have l:¬h.b1+n<=1000000:=λx=>j ⟨k,e,x⟩
  refine fP 63 [(134,[2,0])] [] Tryz.func44 rfl ?_ (.inr (a7 (cn _) ⟨tV1,tV1⟩))
  refine σB ?_
  rfl
 rw[C1 e]at c;refine fP 63 [(134,[2,0])] [] Tryz.func44 rfl ?_ (.inr (a7 (cn _) ⟨tV1,tV1⟩))
 refine σB ?_
 rfl
def LG(h:ac)(a:ac.sml h)(b:h.a2=true)(d:99000<h.G.Calls):zzA 140 false [.val (some 24) (ac.enc .O h)] (.tup [some 24,none,none]) (dq h++[I h.a5.b5,B false]):=by
 have c:=dM h a;refine fO 51 [(3,260,[23,24,25,26,0,1,2,3,4,1001,1002,1003,5,6])] Tryz.func140 rfl ?_ (.inr (a7 (cn _) ⟨tV1,tV1,tV1⟩))
 repeat'(first|refine gE ?_|refine Bf.t b ?_)
 rfl
def JC(h:ac)(i:bm h [])(a:ac.sml h):zzA 47 false [.val (some 24) (ac.enc .O h)] (.tup [some 24,none]) (dq (if qq h=true then mStep h else h)++[B (qq h)]):=by
 by_cases b:h.G.Calls<=99000
 ·have c:=Po h i a b
  unfold stp1 at c;have e:qq h=h.a2:=by unfold qq;rw[O0 b,Bool.and_true]
  rw[e];exact c
 have e:qq h=false:=by unfold qq;rw[C1 b,Bool.and_false]
 rw[e,CI (by simp)];cases g:h.a2 with
 | true=>
  have d:=LG h a g ω;refine fO 15 [] Tryz.func47 rfl ?_ (.inr (a7 (cn _) ⟨tV1,tV1⟩))
  refine σP ?_
  rfl
 | false=>
  have d:=zL h a g;refine fO 15 [] Tryz.func47 rfl ?_ (.inr (a7 (cn _) ⟨tV1,tV1⟩))
  refine σP ?_
  rfl
def PA(h:ac):∀k,(kS h k).2<=k
 | 0=>z5 _
 | k+1=>by
  have:=PA h k;unfold kS;split
  ·show(kS h k).2+1<=_;omega
  omega
def W5{w:aR}{m:Nat}(h:qm w m)(d:im w.Y.G.a)(k:Nat)(f:k<=50):ac.sml (kS w.Y k).1:=by
 have e:∀a:bF,a.b3=10->a.N=(k:Nat)->(pk w a).1.Y=(kS w.Y k).1:=λa c b=>by
  unfold pk;rw[CI ω,CI ω,CI ω,CI ω,CI ω,CJ ω];show(kS w.Y a.N.toNat).1=_;rw[b];rfl
 have c:=h.act ⟨10,0,(k:Nat),0,0⟩;have b:=Me h ⟨10,0,(k:Nat),0,0⟩;unfold rfs at b;rw[<-e ⟨10,0,(k:Nat),0,0⟩ rfl rfl];exact(c.fit (by rw[b];exact d)).1
inductive oB:C->C->Prop
 |rfl_ (c:C):oB c c
 |z_:oB .z (.s .suf [])
 |i_:oB (.s .O []) (.s .suf [])
 |s_ (o:eL) (rows rows':List (List C)) (ho:o=.own\/o=.suf) (hl:rows.length=rows'.length) (hk:∀(i:Nat)(r r':List C),rows[i]? = some r->rows'[i]? = some r'->r.length=r'.length)
   (hr:∀(i j:Nat)(r r':List C)(c c':C),rows[i]? = some r->rows'[i]? = some r'->r[j]? = some c->r'[j]? = some c'->oB c c'):oB (.s o rows) (.s .suf rows')
def yL(cs a:List C):Prop:=cs.length=a.length/\∀(j:Nat)(c b:C),cs[j]? = some c->a[j]? = some b->oB c b
def yL.nil:yL [] []:=⟨rfl,λj c a h=>by simp at h⟩
variable{cs:List C}
def yL.cons{e:C}{a:List C}(h:oB c e)(f:yL cs a):yL (c::cs) (e::a):=by
 refine⟨by simp[f.1],λj y g b d=>?_⟩;cases j with
 | zero=>simp at b d;subst b d;exact h
 | succ j=>exact f.2 j y g (by simpa using b) (by simpa using d)
def yL.append{a e b f:List C}(h:yL a e)(g:yL b f):yL (a++b) (e++f):=by
 refine⟨by simp[h.1,g.1],λj y i c d=>?_⟩;by_cases k:j<a.length
 ·rw[a9 k]at c
  rw[a9 (by rw[<-h.1];exact k)]at d;exact h.2 j y i c d
 rw[t9 ω]at c;rw[t9 (by rw[<-h.1];omega),<-h.1]at d;exact g.2 _ y i c d
def yL.refl(cs:List C):yL cs cs:=⟨rfl,λj c d b a=>by rw[b]at a;cases a;exact .rfl_ _⟩
def oB.map{f g:α->List C}(xs:List α)(h:∀x∈xs,yL (f x) (g x)):oB (.s .own (xs.map f)) (.s .suf (xs.map g)):=by
 refine .s_ .own _ _ (.inl rfl) (by simp) (λi r e a b=>?_) (λi j r e c k a b l n=>?_)
 all_goals
  rw[C5]at a b;cases d:xs[i]? with
  | none=>rw[d]at a;cases a
  | some x=>
   rw[d]at a b;simp only[S9,C2]at a b;subst a b
   first|exact(h x (t4 d)).1|exact(h x (t4 d)).2 j c k l n
def oB.setR{rows':List (List C)}{r':List C}(h:oB (.s .own rows) (.s .suf rows'))(p:yL r r')(g:rows'[k]? = some r'):oB (.s .own (rows.set k r)) (.s .suf rows'):=by
 cases h with
 | s_ o _ _ y w l n=>
  refine .s_ .own _ _ (.inl rfl) (by simpa using w) (λi a b d f=>?_) (λi j a b c q d f t u=>?_)
  ·by_cases e:k=i
   ·subst e
    rw[g]at f;cases f;rw[I6 (by have:=(C4.1 g).1;omega)]at d;cases d;exact p.1
   rw[List.getElem?_set_ne e]at d;exact l i a b d f
  by_cases e:k=i
  ·subst e
   rw[g]at f;cases f;rw[I6 (by have:=(C4.1 g).1;omega)]at d;cases d;exact p.2 j c q t u
  rw[List.getElem?_set_ne e]at d;exact n i j a b c q d f t u
theorem VS{v:Value}(h:di w S Y c v):∀B,oB c B->di w S Y B v:=by
 induction h with
 | z F a=>intro B t;cases t with|rfl_=>exact .z _ _|z_=>exact .nil _ _ _ tV1
 | nil F o a H=>
  intro B t;cases t with
  | rfl_=>exact .nil _ _ _ H
  | i_=>exact .nil _ _ _ tV1
  | s_ _ _ d _ M=>obtain rfl:d=[]:=SE (by simpa using M.symm);exact .nil _ _ _ tV1
 | O F g D k n y p u J R l hS N ih=>
  intro B t;cases t with
  | rfl_=>exact .O _ g D k n y p u J R l hS N
  | i_=>
   have hn0:n=0:=by simpa using J.symm
   subst hn0;exact .suf _ .suf g D k 0 y [] u (λ_=>NO) tV1 rfl (λr T=>by cases T) (I1 _) (λq K=>ω) (λq K=>ω) (λq K=>ω) (λq q' K=>ω) (λi j r c hi hj=>by simp at hi)
  | s_ _ _ _ H=>rcases H with e|e<;>cases e
 | suf F o g D k n y p u f H J R l G U V t N ih=>
  intro B O;cases O with
  | rfl_=>exact .suf _ o g D k n y p u f H J R l G U V t N
  | i_=>exact H.elim
  | s_ _ _ d _ M W T=>
   have L:∀(i:Nat)(P:List C),d[i]? = some P->∃r,p[i]? = some r:=ψ
   refine .suf _ .suf g D k n y d u f tV1 (M.symm.trans J) (λP X=>?_) l G U V t ψ
   all_goals grind [List.mem_iff_getElem?]
 | own F o g k n y p u f H J R l Z G U V t N ih=>
  intro B O;cases O with
  | rfl_=>exact .own _ o g k n y p u f H J R l Z G U V t N
  | i_=>exact H.elim
  | s_ _ _ d _ M W T=>
   have hnk:n*k<=y*k:=OE k l;have L:∀(i:Nat)(P:List C),d[i]? = some P->∃r,p[i]? = some r:=ψ
   refine .suf _ .suf g 0 k n y d u f tV1 (M.symm.trans J) (λP X=>?_) l (λq K=>?_) (λq K=>?_) (λq K b o hb=>?_) t ψ
   ·obtain⟨i,hi⟩:=List.mem_iff_getElem?.1 X
    obtain⟨r,hr0⟩:=L i P hi;rw[<-W i r P hr0 hi];exact R r (t4 hr0)
   ·rw[SD];have:=G q ω;exact⟨this.1,this.2.2⟩
   ·rw[SD]
    obtain⟨-,⟨z,h2,h3⟩,-⟩:=G q ω;have h4:=U q K;rw[h4]at h2;simp only[C2]at h2;exact⟨h4,by rw[h2];exact h3⟩
   obtain⟨h1,h2⟩:=V q K b o hb;exact⟨h1,λh=>h2 ⟨h.1,ω⟩⟩
 | v F x h1=>intro B t;cases t;exact .v _ _ h1
 | x F u h1=>intro B t;cases t;exact .x _ u h1
 | m F b A es E G hb he hv Q=>intro B t;cases t;exact .m _ b A es E G hb he hv Q
 | it F r b since c0 A seen E cur left G T hb Q N hv M hcur=>intro B t;cases t;exact .it _ r b since c0 A seen E cur left G T hb Q N hv M hcur
def Wj{b:List C}{u:Nat->Value}(h:cz w S Y cs u)(c:yL cs b):cz w S Y b u:=by
 obtain⟨f,i,k,l⟩:=h;refine⟨f,λj g a=>?_,λj a=>k j (by rw[c.1];exact a),λj n a e=>l j n (by rw[c.1];exact a) (by rw[c.1];exact e)⟩;have d:j<cs.length:=by rw[c.1];exact(C4.1 a).1
 exact VS (i j _ (z4 d)) g (c.2 j _ g (z4 d) a)
def ah.sf{sh:Bool}{A:List RA}{k:Kd}{rcs':List C}(h:ah P f sh A k rcs)(a:yL rcs rcs'):ah P f sh A k rcs':=
 ⟨h.has,λw S b c d=>(h.run w S b c d).mono λ_ _ ⟨v,e,g,X,S1,i,j,l,n,o⟩=>⟨v,e,g,X,S1,i,j,l,by rw[<-a.1];exact n,Wj o a⟩⟩
def YU(c:aB)(k:Nat):List C:=if 0<(nth c.W k).length then [.s .own ((c.W.map (aE .own)).set k [oP (((nth c.W k).take ((nth c.W k).length - 1)).map (rI .own))]),I (nth (nth c.W k) ((nth c.W k).length - 1)),B true] else aB.enc .own c++[I (-1),B false]
def XA(h:HN rows):Gg (oP rows):=by
 cases rows with
 | nil=>exact⟨.inr rfl,tV1⟩
 | cons r a=>exact⟨.inl (λe=>by cases e),h⟩
def wI(h:HN rows)(b:gl r):HN (rows.set k r):=by
 induction rows generalizing k with
 | nil=>exact h
 | cons a d c=>
  simp only[HN]at h;cases k with
  | zero=>simp only[List.set_cons_zero,HN];exact⟨b,h.2⟩
  | succ k=>simp only[List.set_cons_succ,HN];exact⟨h.1,c h.2⟩
def XR(c:aB)(k:Nat):gl (YU c k):=by
 unfold YU;split
 ·refine⟨⟨.inl (λe=>by cases e),wI (bj _ _ λx _=>bH x) ⟨XA (bj _ _ λx _=>sM x),tV1⟩⟩,tV1,tV1,tV1⟩
 exact a7 (Cp _) ⟨tV1,tV1,tV1⟩
def EP(c:aB)(k:Nat)(p:bE c=true)(B:k<=3):zzA 265 false [.val (some 1) (aB.enc .O c),.vI (k:Nat)] (.tup [some 1,none,none]) (YU c k):=by
 obtain⟨D,q⟩:=ee p;have t:aB.sml c:=⟨ω,λl w=>by have:=q l w;show l.length<=1048576;omega⟩
 have j:=ww c k t;rw[p,O0 ω]at j;have n:=ky c t;have a:=nz (c:=c) (k:=k) ω;have y:=q _ (ax (xs:=c.W) (i:=k) ω);have b:=XR c k;unfold YU at b |-;by_cases u:0<(nth c.W k).length
 ·rw[CJ u]at b |-
  have o:=ar (xs:=nth c.W k) (i:=(nth c.W k).length - 1) ω;have d:(nth c.W k)[(((nth c.W k).length:Int) - 1).toNat]? = some (nth (nth c.W k) ((nth c.W k).length - 1)):=by rw[show(((nth c.W k).length:Int) - 1).toNat=(nth c.W k).length - 1 by omega];exact o
  have e:((((nth c.W k).length:Nat):Int) - 1)=(((nth c.W k).length - 1:Nat):Int):=ω
  have g:∀x:List C,((c.W.map (aE .own)).set k x).set k [oP (((nth c.W k).take ((nth c.W k).length - 1)).map (rI .own))]=(c.W.map (aE .own)).set k [oP (((nth c.W k).take ((nth c.W k).length - 1)).map (rI .own))]:=λx=>List.set_set ..
  have h:((nth c.W k).map (rI .own)).take ((nth c.W k).length - 1)=((nth c.W k).take ((nth c.W k).length - 1)).map (rI .own):=C8.symm;generalize ((nth c.W k).take ((nth c.W k).length - 1)).map (rI .own)=R at *;cases R with
  | nil=>
   refine fP 54 [(7000050,[])] [(6,266,[41,42,43,44,45,46,47,48,49,51,0,1,2,3,4,5,6,7,8,9,1000,1001,1002,10,11])] Tryz.func265 rfl ?_ (.inr b)
   repeat'(first|refine gB ?_|refine CL rfl (ce a) rfl ?_|refine CH (ce a) ?_|refine CQ ω (aa d) ?_|refine Cg rfl rfl (aa a) rfl (O2 rfl) rfl rfl ?_|refine CZ ((nth c.W k).length - 1) e (by rw[I2];omega) (aN λ_=>rfl) h.symm ?_|refine CR rfl rfl (ce a) rfl (O2 rfl) (O1 (λz=>[C.s eL.own z]) (g _).symm) ?_)
   rfl
  | cons r E=>
   refine fP 54 [(7000050,[])] [(6,266,[41,42,43,44,45,46,47,48,49,51,0,1,2,3,4,5,6,7,8,9,1000,1001,1002,10,11])] Tryz.func265 rfl ?_ (.inr b)
   repeat'(first|refine gB ?_|refine CL rfl (ce a) rfl ?_|refine CH (ce a) ?_|refine CQ ω (aa d) ?_|refine Cg rfl rfl (aa a) rfl (O2 rfl) rfl rfl ?_|refine CZ ((nth c.W k).length - 1) e (by rw[I2];omega) (aN λ_=>rfl) h.symm ?_|refine CR rfl rfl (ce a) rfl (O2 rfl) (O1 (λz=>[C.s eL.own z]) (g _).symm) ?_)
   rfl
 rw[CI u]at b |-;refine fP 54 [(7000050,[])] [(6,266,[41,42,43,44,45,46,47,48,49,51,0,1,2,3,4,5,6,7,8,9,1000,1001,1002,10,11])] Tryz.func265 rfl ?_ (.inr b)
 refine σB ?_
 rfl
structure FT(m:aI)(g:ac):Prop where
 sml:ac.sml g
 wf:ac.wf g
 lens:oH g
 mail:g.e=m
def FT.cnt{m:aI}{g:ac}(f:FT m g)(b:aI.cnt m<=8388608):ac.cnt g<=20000000:=by
 have a:=f.lens.cnt;rw[f.mail]at a;have c:g.a5.d.U.length<=1048576:=f.sml.2.2.2.2.2.2.2.2;unfold bW.cnt b9.cnt ek at a;omega
def PY(h:gl cs)(b:Gg c):gl (cs.set k c):=by
 induction cs generalizing k with
 | nil=>exact h
 | cons a e d=>
  simp only[gl]at h;cases k with
  | zero=>simp only[List.set_cons_zero,gl];exact⟨b,h.2⟩
  | succ k=>simp only[List.set_cons_succ,gl];exact⟨h.1,d h.2⟩
def MR(h:ac)(a:C):Prop:=a=.s .own (h.R.map (aB.enc .own))\/∃t c,t<h.R.length/\(nth h.R t).W[c]? = some []/\a=.s .own ((h.R.map (aB.enc .own)).set t [.s .own (((nth h.R t).W.map (aE .own)).set c [.s .O []])])
def MR.own(h:ac):MR h (.s .own (h.R.map (aB.enc .own))):=.inl rfl
def MR.fr{a:C}(b:MR h a):Gg a:=by
 rcases b with e|⟨t,c,d,b,e⟩
 ·subst e;exact⟨.inl (λe=>by cases e),bj _ _ λx _=>Cp x⟩
 subst e;refine⟨.inl (λe=>by cases e),wI (bj _ _ λx _=>Cp x) ⟨⟨.inl (λe=>by cases e),wI (bj _ _ λx _=>bH x) ⟨⟨.inr rfl,tV1⟩,tV1⟩⟩,tV1⟩⟩
def Q6{a:C}(b:Gg a):gl (Vs h a):=PY (oX h) b
def Z6(h:ac)(t c:Nat):C:=.s .own ((h.R.map (aB.enc .own)).set t [.s .own (((nth h.R t).W.map (aE .own)).set c [oP (((nth (nth h.R t).W c).take ((nth (nth h.R t).W c).length - 1)).map (rI .own))])])
def XV(h:ac){t c:Nat}(d:t<h.R.length)(e:c<(nth h.R t).W.length):MR {h with R:=h.R.set t (xM (nth h.R t) c)} (Z6 h t c):=by
 have f:xM (nth h.R t) c = ⟨(nth h.R t).W.set c ((nth (nth h.R t).W c).take ((nth (nth h.R t).W c).length - 1))⟩:=rfl;rw[f];unfold Z6;generalize (nth (nth h.R t).W c).take ((nth (nth h.R t).W c).length - 1)=R;cases R with
 | cons a R=>
  refine .inl ?_;show _=C.s .own ((h.R.set t _).map _);rw[CC];show _=C.s .own ((h.R.map (aB.enc .own)).set t [.s .own (((nth h.R t).W.set c (a::R)).map (aE .own))]);rw[CC]
  rfl
 | nil=>
  have b:nth (h.R.set t (⟨(nth h.R t).W.set c []⟩ : aB)) t = ⟨(nth h.R t).W.set c []⟩:=bB (I6 ω);refine .inr ⟨t,c,by simpa using d,?_,?_⟩
  ·show(nth (h.R.set t (⟨(nth h.R t).W.set c []⟩ : aB)) t).W[c]? = _
   rw[b];exact I6 e
  show _=C.s .own (((h.R.set t (⟨(nth h.R t).W.set c []⟩ : aB)).map (aB.enc .own)).set t [.s .own (((nth (h.R.set t (⟨(nth h.R t).W.set c []⟩ : aB)) t).W.map (aE .own)).set c [.s .O []])]);rw[b,CC,List.set_set];show _=C.s .own ((h.R.map (aB.enc .own)).set t [.s .own ((((nth h.R t).W.set c []).map (aE .own)).set c [.s .O []])]);rw[CC,List.set_set]
  rfl
def EU(h:ac)(t c:Nat)(o:bm h [])(E:t<h.R.length)(S:c<=3)(r:h.G.Calls<=90000):∃V,MR (f7 h t c).1 V/\zzB 120 false [.ptr (js h),.vI (t:Nat),.vI (c:Nat)] [.ptr (Vs (f7 h t c).1 V),.vI (t:Nat),.vI (c:Nat)] (.tup [none,none]) [I (f7 h t c).2,B (decide (0<=(f7 h t c).2))]:=by
 have w:=o.cach _ (ax E);have Z:=tQ w;have d:=ar E;have F:=EP (nth h.R t) c w S;have hls:=o.lens.spans;have C:=o;unfold YU at F;by_cases M:0<(nth (nth h.R t).W c).length
 ·obtain⟨N,G⟩:=o.pop E ω M (P7 w c)
  have k:=kM.nn o G;unfold f7;rw[CJ M]at F |-;refine⟨Z6 h t c,XV h E ω,?_⟩;simp only;rw[O0 k];refine fM 86 [(267,[2,0]),(268,[2,0]),(269,[2,0]),(4000062,[]),(5000077,[])] [(3,6,[31,32,33,34,35,36]),(8,10,[49,50,51,52,53,54,55,56,57,58])] [(0,0),(0,0),(0,0)] Tryz.func120 rfl (λu q=>?_) (.inr ⟨tV1,tV1,tV1⟩)
  repeat'(first|refine gP ?_|refine CH (ce d) ?_|refine CL rfl (ce d) rfl ?_|refine CM (F) ⟨⟨rfl,Co _⟩,⟨rfl,rfl⟩,tV1⟩ ?_|refine CR rfl rfl (aa d) rfl (O2 rfl) rfl ?_)
  exact kk
 rw[CI M]at F;refine⟨_,MR.own _,?_⟩;change aT _ _ _ _ [.ptr (js (f7 h t c).1),_,_] _ _;have e:f7 h t c=match qG h c with
  | some i=>(slotT h i,ta h i)
  | none=>if(aD h.b 1).2.2=false then(h,-1)
   else if(dY h.G (aD h.b 1).2.1).2=false then({h with G:=(dY h.G (aD h.b 1).2.1).1},-1)
   else mW (sC h c) (rp h):=by unfold f7;exact CI M
 refine fM 86 [(267,[2,0]),(268,[2,0]),(269,[2,0]),(4000062,[]),(5000077,[])] [(3,6,[31,32,33,34,35,36]),(8,10,[49,50,51,52,53,54,55,56,57,58])] [(0,0),(0,0),(0,0)] Tryz.func120 rfl (λu q=>?_) (.inr ⟨tV1,tV1,tV1⟩)
 repeat'(first|refine gP ?_|refine CH (ce d) ?_|refine CL rfl (ce d) rfl ?_|refine CM (F) ⟨⟨rfl,Co _⟩,⟨rfl,rfl⟩,tV1⟩ ?_)
 refine gn h.J.length (λi=>[(0,bS (js h)),(2,fN c),(42,.c6 0 6 [] none),(43,fI h.J.length),(44,fN i)]) (λi=>∀j,j<i->sF h c j=false) (λj hj=>ω) λi o=>?_
 obtain⟨hi1,H⟩:=o;by_cases J:i<h.J.length
 ·have n:=ar J
  by_cases W:(nth h.J i).Z=c
  ·have K:=Hd h (nth h.J i).S
   cases O:ib h (nth h.J i).S with
   | true=>
    rw[O]at K
    repeat'(first|refine gB ?_|refine CM (K) ⟨⟨rfl,lD h⟩,⟨rfl,rfl⟩,tV1⟩ ?_)
    (exact dt (i+1) ⟨ω,nE (by unfold sF;rw[O];simp) H⟩)
   | false=>
    rw[O]at K;by_cases L:(iS h i).length=0
    ·have y:=F4 h [] i C J L
     repeat'(first|refine gB ?_|refine CM (K) ⟨⟨rfl,lD h⟩,⟨rfl,rfl⟩,tV1⟩ ?_|refine Ch.pl ?_|refine CM (y) ⟨lD h,⟨rfl,rfl⟩,tV1⟩ ?_)
     (exact dt (i+1) ⟨ω,nE (by unfold sF;rw[C1 (by omega:¬0<(iS h i).length)];simp) H⟩)
    have y:=rZ h [] i C J;unfold mW at y;rw[CI L,O0 (by omega:0<(iS h i).length)]at y;have T:qG h c=some i:=zz J (by unfold sF;rw[O0 W,O,O0 ω];rfl) H;rw[T]at e;simp only at e;obtain⟨N,G⟩:=C.slotT J (by omega:0<(iS h i).length);have k:=kM.nn N G;rw[e];generalize slotT h i=g at y |-;generalize ta h i=a at y k |-;rw[O0 k]
    repeat'(first|refine gB ?_|refine CM (K) ⟨⟨rfl,lD h⟩,⟨rfl,rfl⟩,tV1⟩ ?_|refine Ch.lt ?_)
    exact kk
  refine σB ?_
  (exact dt (i+1) ⟨ω,nE (by unfold sF;rw[C1 W];rfl) H⟩)
 obtain rfl:i=h.J.length:=ω
 have T:qG h c=none:=zt H;rw[T]at e;simp only at e;have l:=sV h 1 C r ⟨ω,ω⟩;rw[Rh]at l;rw[e];by_cases P:(aD h.b 1).2.2=false
 ·rw[CJ P]at l |-
  refine σE ?_
  exact kk
 rw[CI P]at l |-;by_cases Q:(dY h.G (aD h.b 1).2.1).2=false
 ·rw[CJ Q]at l |-
  refine σE ?_
  exact kk
 rw[CI Q]at l |-;obtain⟨X,Y⟩:=MF C S r P Q;have D:=Af {h with G:=(dY h.G (aD h.b 1).2.1).1,b:=(aD h.b 1).1} (aD h.b 1).2.1 (c:Nat) (by show h.J.length<=4096;omega);have R:=rZ (sC h c) [] (rp h) X Y;have U:=uk C E S r;rw[e,CI P,CI Q]at U;have k:decide (0<(iS (sC h c) (rp h)).length)=decide (0<=(mW (sC h c) (rp h)).2):=by
  unfold mW;by_cases L:(iS (sC h c) (rp h)).length=0
  ·rw[CJ L,C1 ω];rfl
  rw[CI L,O0 ω];obtain⟨N,G⟩:=X.slotT Y ω;exact(O0 (kM.nn N G)).symm
 rw[k]at R;change aT _ _ _ _ [.ptr (js (sC h c)),_] _ [I ((rp h:Nat):Int)]at D;generalize (aD h.b 1).2.1=p at l D;generalize sC h c=g at D R |-;generalize rp h=b at D R |-;generalize ({h with G:=(dY h.G p).1,b:=(aD h.b 1).1} : ac)=h1 at l D
 refine σE ?_
 exact kk
def Mh(h:ac)(t size:Int)(Z:ac.sml h)(l:bm h [])(O:lS h=true):∃D,MR (fA h t size).1 D/\zzA 35 false [.val (some 24) (ac.enc .O h),.vI t,.vI size] (.tup [some 24,none,none]) (Vs (fA h t size).1 D++[I (fA h t size).2.1,I (fA h t size).2.2]):=by
 have hl:=l.lens;have hlc:=hl.caches;have P:=hl.objs;have u:=l.nums;unfold cv at u;rw[C0]at u;have Q:=qo l.objSz h.K.length (z5 _);change 0<=qI h/\qI h<=_ at Q;have q:=MS h Z;have p:=cW h Z;rw[O]at p;have r:=aG t 0 ((h.R.length:Int) - 1);have y:=aG size 1 1000;have E:=BV h l.objSz ω;have F:=nh size;unfold fA;by_cases h1:1000000<=h.k
 ·rw[CJ (.inl h1)]
  refine⟨_,MR.own _,?_⟩;change ah _ _ _ _ _ (js _++_);refine fP 108 [(120,[2,0,0]),(121,[2,0]),(122,[1,0,1])] [(8,6,[47,48,49,50,51,52])] Tryz.func35 rfl ?_ (.inr (a7 (oX _) ⟨tV1,tV1,tV1⟩))
  refine σB ?_
  rfl
 by_cases h2:90000<h.G.Calls
 ·rw[CJ (.inr h2)]
  refine⟨_,MR.own _,?_⟩;change ah _ _ _ _ _ (js _++_);refine fP 108 [(120,[2,0,0]),(121,[2,0]),(122,[1,0,1])] [(8,6,[47,48,49,50,51,52])] Tryz.func35 rfl ?_ (.inr (a7 (oX _) ⟨tV1,tV1,tV1⟩))
  repeat'(first|refine gB ?_|refine gS (λb=>?_) (λb=>?_)|fail)
  rfl
 rw[CI ω];by_cases C:¬(0<=t/\t<=h.R.length - 1)
 ·rw[CJ C]
  rw[C1 C]at r;refine⟨_,MR.own _,?_⟩;change ah _ _ _ _ _ (js _++_);refine fP 108 [(120,[2,0,0]),(121,[2,0]),(122,[1,0,1])] [(8,6,[47,48,49,50,51,52])] Tryz.func35 rfl ?_ (.inr (a7 (oX _) ⟨tV1,tV1,tV1⟩))
  repeat'(first|refine gB ?_|refine gS (λb=>?_) (λb=>?_)|fail)
  rfl
 rw[CI C];replace C:=Decidable.not_not.1 C;rw[O0 C]at r;by_cases B:¬(1<=size/\size<=1000)
 ·rw[CJ B]
  rw[C1 B]at y;refine⟨_,MR.own _,?_⟩;change ah _ _ _ _ _ (js _++_);refine fP 108 [(120,[2,0,0]),(121,[2,0]),(122,[1,0,1])] [(8,6,[47,48,49,50,51,52])] Tryz.func35 rfl ?_ (.inr (a7 (oX _) ⟨tV1,tV1,tV1⟩))
  repeat'(first|refine gB ?_|refine gS (λb=>?_) (λb=>?_)|fail)
  rfl
 rw[CI B];replace B:=Decidable.not_not.1 B;rw[O0 B]at y;by_cases h5:h.c2<qI h+size
 ·rw[CJ h5]
  refine⟨_,MR.own _,?_⟩;change ah _ _ _ _ _ (js _++_);refine fP 108 [(120,[2,0,0]),(121,[2,0]),(122,[1,0,1])] [(8,6,[47,48,49,50,51,52])] Tryz.func35 rfl ?_ (.inr (a7 (oX _) ⟨tV1,tV1,tV1⟩))
  repeat'(first|refine gB ?_|refine gS (λb=>?_) (λb=>?_)|fail)
  rfl
 rw[CI h5];by_cases G:0<=aU size
 ·rw[CJ G]
  have hc3:aU size<=3:=by unfold aU;repeat' split<;>omega
  obtain⟨T,rfl⟩:=t5 C.1;obtain⟨K,hK⟩:=t5 G;obtain⟨D,n,d⟩:=EU h T K l ω ω ω;have s:=uk (t:=T) (c:=K) l ω ω ω;rw[hK]at F |-;simp only[O4];generalize f7 h T K=w at d s n |-;obtain⟨g,a⟩:=w;have e:g.k=h.k:=s.nx;simp only at d |-;by_cases H:a<0
  ·rw[CJ H]
   rw[C1 ω]at d;refine⟨D,n,?_⟩;refine fP 108 [(120,[2,0,0]),(121,[2,0]),(122,[1,0,1])] [(8,6,[47,48,49,50,51,52])] Tryz.func35 rfl ?_ (.inr (a7 (Q6 n.fr) ⟨tV1,tV1,tV1⟩))
   repeat'(first|refine gB ?_|refine gS (λb=>?_) (λb=>?_)|fail)
   rfl
  rw[CI H];rw[O0 ω]at d;obtain⟨k1,k2⟩:=s.yes (show(0:Int)<=a by omega);have R:g.K.length<=512:=k1.lens.objs;have S:1<=g.k/\g.k<=1000000:=ω
  refine⟨D,n,?_⟩;refine fP 108 [(120,[2,0,0]),(121,[2,0]),(122,[1,0,1])] [(8,6,[47,48,49,50,51,52])] Tryz.func35 rfl ?_ (.inr (a7 (Q6 n.fr) ⟨tV1,tV1,tV1⟩))
  repeat'(first|refine gB ?_|refine gS (λb=>?_) (λb=>?_)|fail)
  refine gn g.K.length (λi=>[(1,fN T),(2,fI size),(3,bS (ac.enc .O h)),(6,bS (jX)),(9,bS (Vs g D)),(10,fI a),(13,fN i)]) (λi=>∀(j:Nat)(z:aW),j<i->g.K[j]? = some z->QM a z=false) (λj z hj=>ω) λi l=>?_
  obtain⟨U,J⟩:=l;by_cases V:i<g.K.length/\(nth g.K i).Addr<a
  ·have k:=ar V.1
   refine σE ?_
   (exact dt (i+1) ⟨ω,fH k (C1 ω) J⟩)
  have o:mh (QM a) g.K=i:=oV ω J λz L=>by
   have W:=(C4.1 L).1;have:z=nth g.K i:=(bB L).symm;subst this;exact O0 ω
  have k:i<g.K.length->g.K[i]? = some (nth g.K i):=λX=>ar X
  have Y:=B2 g.K i ⟨h.k,a,size,(T:Nat)⟩ ω ω;rw[show addO g a size (T:Nat) = {g with K:=g.K.take i++⟨g.k,a,size,(T:Nat)⟩::g.K.drop i,k:=g.k+1} by unfold addO;rw[pj o],e]
  repeat'(first|refine gE ?_|with_reducible refine CH (aa (k ω)) ?_|refine gS (λb=>?_) (λb=>?_)|refine CL rfl (aa (k ω)) rfl ?_)
  all_goals
   rw[e];rfl
 rw[CI G];have M:9<=size:=by unfold aU at G;repeat' split at G<;>omega
 have d:=DB h size l ⟨M,B.2⟩ ω;rw[Gc t l ⟨M,B.2⟩];have hg:(EO h size).1.k=h.k/\(EO h size).1.K=h.K:=by
  unfold EO;split
  ·exact⟨rfl,rfl⟩
  split<;>exact⟨rfl,rfl⟩
 generalize EO h size=w at d hg |-;obtain⟨g,a⟩:=w;obtain⟨e,N⟩:=hg;simp only at d e N |-;have R:g.K.length<=512:=by rw[N];exact P
 have S:1<=g.k/\g.k<=1000000:=ω
 by_cases H:a<0
 ·rw[CJ H]
  rw[C1 ω]at d;refine⟨_,MR.own _,?_⟩;change ah _ _ _ _ _ (js _++_);refine fP 108 [(120,[2,0,0]),(121,[2,0]),(122,[1,0,1])] [(8,6,[47,48,49,50,51,52])] Tryz.func35 rfl ?_ (.inr (a7 (oX _) ⟨tV1,tV1,tV1⟩))
  repeat'(first|refine gB ?_|refine gS (λb=>?_) (λb=>?_)|fail)
  rfl
 rw[CI H];rw[O0 ω]at d;refine⟨_,MR.own _,?_⟩;change ah _ _ _ _ _ (js _++_);refine fP 108 [(120,[2,0,0]),(121,[2,0]),(122,[1,0,1])] [(8,6,[47,48,49,50,51,52])] Tryz.func35 rfl ?_ (.inr (a7 (oX _) ⟨tV1,tV1,tV1⟩))
 repeat'(first|refine gB ?_|refine gS (λb=>?_) (λb=>?_)|fail)
 refine gn g.K.length (λi=>[(1,fI t),(2,fI size),(3,bS (ac.enc .O h)),(6,bS (jX)),(9,bS (js g)),(10,fI a),(13,fN i)]) (λi=>∀(j:Nat)(z:aW),j<i->g.K[j]? = some z->QM a z=false) (λj z hj=>ω) λi l=>?_
 obtain⟨U,J⟩:=l;by_cases V:i<g.K.length/\(nth g.K i).Addr<a
 ·have k:=ar V.1
  refine σE ?_
  (exact dt (i+1) ⟨ω,fH k (C1 ω) J⟩)
 have o:mh (QM a) g.K=i:=oV ω J λz L=>by
  have W:=(C4.1 L).1;have:z=nth g.K i:=(bB L).symm;subst this;exact O0 ω
 have k:i<g.K.length->g.K[i]? = some (nth g.K i):=λX=>ar X
 have Y:=B2 g.K i ⟨h.k,a,size,t⟩ ω ω;rw[show addO g a size t = {g with K:=g.K.take i++⟨g.k,a,size,t⟩::g.K.drop i,k:=g.k+1} by unfold addO;rw[pj o],e]
 repeat'(first|refine gE ?_|with_reducible refine CH (aa (k ω)) ?_|refine gS (λb=>?_) (λb=>?_)|refine CL rfl (aa (k ω)) rfl ?_)
 all_goals
  rw[e];rfl
def nA(x:List Int):cP (aE .suf x)=aE .O x:=by simp[cP,aE,rI,cP]
def aS.enc_fzS(x:aS):cP (aS.enc .suf x)=aS.enc .O x:=by simp[cP,aS.enc]
def aC.enc_fzS(x:aC):cP (aC.enc .suf x)=aC.enc .O x:=by simp[cP,aC.enc]
def aA.enc_fzS(x:aA):cP (aA.enc .suf x)=aA.enc .O x:=by simp[cP,aA.enc]
def a8.enc_fzS(x:a8):cP (a8.enc .suf x)=a8.enc .O x:=by simp[cP,a8.enc]
def aW.enc_fzS(x:aW):cP (aW.enc .suf x)=aW.enc .O x:=by simp[cP,aW.enc]
def aB.enc_fzS(x:aB):cP (aB.enc .suf x)=aB.enc .O x:=by simp[cP,aB.enc,nA,<-bX,IB]
def aX.enc_fzS(x:aX):cP (aX.enc .suf x)=aX.enc .O x:=by simp[cP,aX.enc]
def zS(x:List aX):cP (bg .suf x)=bg .O x:=by simp[cP,bg,aX.enc_fzS,<-bX,IB]
def aJ.enc_fzS(x:aJ):cP (aJ.enc .suf x)=aJ.enc .O x:=by simp[cP,aJ.enc]
def ac.enc_fzS(x:ac):cP (ac.enc .suf x)=ac.enc .O x:=by simp[cP,ac.enc,aB.enc_fzS,aS.enc_fzS,a8.enc_fzS,aW.enc_fzS,aC.enc_fzS,aA.enc_fzS,aJ.enc_fzS,rB,zS,rI,nA,<-bX,IB]
def Cs:type_of% @ac.enc_fzS:=@ac.enc_fzS
def aK.enc_fzS(x:aK):cP (aK.enc .suf x)=aK.enc .O x:=by simp[cP,aK.enc,rI,<-bX,IB]
def au.enc_fzS(x:au):cP (au.enc .suf x)=au.enc .O x:=by simp[cP,au.enc,aK.enc_fzS,<-bX,IB]
def aR.enc_fzS(x:aR):cP (aR.enc .suf x)=aR.enc .O x:=by simp[cP,aR.enc,aB.enc_fzS,aS.enc_fzS,a8.enc_fzS,aW.enc_fzS,aC.enc_fzS,aK.enc_fzS,aA.enc_fzS,aJ.enc_fzS,rB,zS,rI,nA,<-bX,IB]
def AX(xs:List Int):oB (.s .own (xs.map (rI .own))) (.s .suf (xs.map (rI .suf))):=oB.map _ λ_ _=>.refl _
def Y5(xs:List Bool):oB (.s .own (xs.map (rB .own))) (.s .suf (xs.map (rB .suf))):=oB.map _ λ_ _=>.refl _
def A6(xs:List (List Int)):oB (.s .own (xs.map (aE .own))) (.s .suf (xs.map (aE .suf))):=oB.map _ λx _=>.cons (AX x) .nil
def xE(xs:List (List aX)):oB (.s .own (xs.map (bg .own))) (.s .suf (xs.map (bg .suf))):=oB.map _ λx _=>.cons (oB.map _ λ_ _=>.refl _) .nil
def qx(xs:List aB):oB (.s .own (xs.map (aB.enc .own))) (.s .suf (xs.map (aB.enc .suf))):=oB.map _ λx _=>.cons (A6 x.W) .nil
def Qm(xs:List aK):oB (.s .own (xs.map (aK.enc .own))) (.s .suf (xs.map (aK.enc .suf))):=oB.map _ λx _=>.cons (.rfl_ _) (.cons (AX x.U) .nil)
def LW{f g:α->List C}{xs:List α}(h:oB (.s .own (xs.map f)) (.s .suf (xs.map g))):oB (oE (xs.map f)) (.s .suf (xs.map g)):=by
 cases xs with
 | nil=>exact .i_
 | cons x xs=>exact h
def fW{f g:α->List C}(h:∀x,f x=g x)(xs:List α):oB (.s .own (xs.map f)) (.s .suf (xs.map g)):=oB.map _ λx _=>by rw[h x];exact .refl _
def AJ{f s l o b:C}(d:oB f (.s .suf (h.b.map (aC.enc .suf))))(e:oB s (.s .suf (h.J.map (aA.enc .suf))))(g:oB l (.s .suf (h.H.map (a8.enc .suf))))(i:oB o (.s .suf (h.K.map (aW.enc .suf))))(j:oB b (.s .suf (h.R.map (aB.enc .suf))))(a:oB c (.s .suf (h.e.T.map (bg .suf)))) :
  yL [.s .own (h.G.F.V.U.map (aE .own)),.s .own (h.G.F.V.a3.map (rB .own)),.s .own (h.G.F.Q.M.map (aS.enc .own)),I h.G.Calls,.s .own (h.G.a.map (rI .own)),f,s,l,o,b,c,.s .own (h.e.g.map (aE .own)),I h.a1.c0,.s .own (h.a1.q.map (aJ.enc .own)),I h.c1,I h.b1,I h.c2,I h.k,B h.a2,I h.a5.d.b0,I h.a5.d.b2,.s .own (h.a5.d.U.map (rI .own)),I h.a5.b5,I h.a5.k] (ac.enc .suf h):=by
 refine .cons (A6 _) (.cons (Y5 _) (.cons (fW (λ_=>rfl) _) (.cons (.rfl_ _) (.cons (AX _) (.cons d (.cons e (.cons g (.cons i (.cons j (.cons a (.cons (A6 _) (.cons (.rfl_ _) (.cons (fW (λ_=>rfl) _) (.cons (.rfl_ _) (.cons (.rfl_ _) (.cons (.rfl_ _) (.cons (.rfl_ _) (.cons (.rfl_ _) (.cons (.rfl_ _) (.cons (.rfl_ _) (.cons (AX _) (.cons (.rfl_ _) (.cons (.rfl_ _) .nil)))))))))))))))))))))))
def WR(h:ac):yL (dq h) (ac.enc .suf h):=
 AJ (fW (λ_=>rfl) _) (LW (fW (λ_=>rfl) _)) (LW (fW (λ_=>rfl) _)) (LW (fW (λ_=>rfl) _)) (qx _) (xE _)
def Tw(h:ac):yL (ac.enc .own h) (ac.enc .suf h):=
 AJ (fW (λ_=>rfl) _) (fW (λ_=>rfl) _) (fW (λ_=>rfl) _) (fW (λ_=>rfl) _) (qx _) (xE _)
def Wo{b:C}(a:MR h b):yL (Vs h b) (ac.enc .suf h):=by
 refine AJ (LW (fW (λ_=>rfl) _)) (fW (λ_=>rfl) _) (fW (λ_=>rfl) _) (fW (λ_=>rfl) _) ?_ (xE _);rcases a with e|⟨t,c,d,a,e⟩
 ·subst e;exact qx _
 subst e;refine oB.setR (qx _) (.cons ?_ .nil) (aa (ar d));exact oB.setR (r':=aE .suf []) (A6 _) (.cons .i_ .nil) (aa a)
def rz(r:au):yL (au.enc .own r) (au.enc .suf r):=.cons (.rfl_ _) (.cons (Qm _) .nil)
def YG(m:aI)(f t:Nat)(a:Int):List C:=[.s .own ((m.T.map (bg .own)).set f [.s .suf (((nth m.T f).drop 1).map (aX.enc .own))]),.s .own ((m.g.map (aE .own)).set t (aE .own (nth m.g t++[a])))]
def sQ{o:eL}(a:o≠.O)(h:HN rows):Gg (.s o rows):=⟨.inl a,h⟩
def W4(m:aI)(f t:Nat)(a:Int):gl (YG m f t a):=
 ⟨sQ (by simp) (wI (bj _ _ λx _=>ry x) ⟨sQ (by simp) (bj _ _ λx _=>aX.enc_fr x),tV1⟩),sQ (by simp) (wI (bj _ _ λx _=>bH x) (bH _)),tV1⟩
def Md(m:aI)(f:Int)(a:bG m=true)(d:¬(0<=f/\f<=m.T.length - 1)):zzA 129 false [.val (some 2) (aI.enc .O m),.vI f] (.tup [some 2,none]) (aI.enc .own m++[B false]):=by
 have e:=jp.of a;have b:=e.sml;have c:=hC m f b;rw[a,C1 d]at c;have g:=gC m b;refine fP 57 [(7000039,[])] [(5,265,[31,32,33,34,35,36,37,38,40,0,1,2,3,4,5,6,7,8,1000,1001,1002,9,10]),(6,270,[41,42,43,44,45,46,47,48,49,50,51,52,53,55,0,1,2,3,4,5,6,7,8,9,10,11,12,13,1000,1001,1002,1003,14,15])] Tryz.func129 rfl ?_ (.inr (a7 (Cn m) ⟨tV1,tV1⟩))
 refine σP ?_
 rfl
def HQ(m:aI)(f:Nat)(l:bG m=true)(n:f<m.T.length)(e:0<(nth m.T f).length):∃o:List (List C),oB (.s .own o) (.s .suf ((ed m f).T.map (bg .suf)))/\Gg (.s .own o)/\zzA 129 false [.val (some 2) (aI.enc .O m),.vI (f:Nat)] (.tup [some 2,none]) ([.s .own o,.s .own ((ed m f).g.map (aE .own))]++[B true]):=by
 have h:=jp.of l;have E:=h.sml;have Q:=h.b4;have J:=h.i4;have F:=hC m f E;rw[l,O0 ω]at F;have K:=gC m E;have c:=Rf n;have L:=h.bl f n;have i:=((dH.1 l).2.1 f n).1 _ (ax e);obtain⟨t,q⟩:=t5 i.1;have u:t<m.g.length:=ω
 have w:=ar e;have g:=ar u;have M:=h.il t ω;have d:=W4 m f t (nth (nth m.T f) 0).Addr;refine⟨_,?_,d.1,?_⟩
 ·unfold ed
  simp only[CC];have G:=xE (m.T.set f ((nth m.T f).drop 1));rw[CC,CC]at G;have N:oB (.s .suf (((nth m.T f).drop 1).map (aX.enc .own))) (.s .suf (((nth m.T f).drop 1).map (aX.enc .suf))):=.rfl_ _;have H:=oB.setR (k:=f) (r:=[.s .suf (((nth m.T f).drop 1).map (aX.enc .own))]) (r':=bg .suf ((nth m.T f).drop 1)) G (.cons N .nil) (I6 (by rw[I2];omega));rw[List.set_set]at H;exact H
 have j:(ed m f).g.map (aE .own)=(m.g.map (aE .own)).set t (aE .own (nth m.g t++[(nth (nth m.T f) 0).Addr])):=by
  unfold ed;simp only[CC,q,O4]
 rw[j];generalize R:nth (nth m.T f) 0=p at *;obtain⟨S,O⟩:=p;simp only at q i;subst q;have y:∀x:List C,((m.T.map (bg .own)).set f x).set f [.s .suf (((nth m.T f).drop 1).map (aX.enc .own))]=(m.T.map (bg .own)).set f [.s .suf (((nth m.T f).drop 1).map (aX.enc .own))]:=λx=>List.set_set ..
 have D:(((nth m.T f).drop 1).map (aX.enc .own))=((nth m.T f).map (aX.enc .own)).drop 1:=I8;have a:=a7 (b:=[B true]) d ⟨tV1,tV1⟩;clear d j;unfold YG at a;refine fP 57 [(7000039,[])] [(5,265,[31,32,33,34,35,36,37,38,40,0,1,2,3,4,5,6,7,8,1000,1001,1002,9,10]),(6,270,[41,42,43,44,45,46,47,48,49,50,51,52,53,55,0,1,2,3,4,5,6,7,8,9,10,11,12,13,1000,1001,1002,1003,14,15])] Tryz.func129 rfl ?_ (.inr a)
 repeat'(first|refine gB ?_|refine gS (λP=>?_) (λP=>?_)|refine CQ qs (aa w) ?_|refine CH (ce c) ?_|refine CH (ce g) ?_|refine CL rfl (ce g) rfl ?_|refine CL rfl (ce c) rfl ?_|refine Rw.two rfl (aa c) rfl rfl (aa w) rfl ?_|refine Cg rfl rfl (aa c) rfl (O2 rfl) rfl rfl ?_|refine Cg rfl rfl (aa g) rfl (O2 rfl) rfl rfl ?_|refine Cf 1 rfl (by rw[I2];omega) (aN λ_=>rfl) D ?_|refine CR rfl rfl (ce c) rfl (O2 rfl) (O1 (λz=>[C.s eL.own z,C.s .own (m.g.map (aE .own))]) (y _).symm) ?_|refine CR rfl rfl (ce g) rfl (O2 rfl) (show [C.s eL.own ((m.T.map (bg .own)).set f [.s .suf (((nth m.T f).drop 1).map (aX.enc .own))]),C.s .own ((m.g.map (aE .own)).set t (aE .own (nth m.g t++[O])))]=_ from by simp only[List.set_cons_zero,List.set_cons_succ,List.set_set,O4];rfl) ?_|refine Cc (aN λ_=>rfl) rfl kd qs (dZ _ _ _) ?_)
 rfl
def ER(h:ac)(t:Int)(n:ac.sml h)(a:bm h []):zzA 40 false [.val (some 24) (ac.enc .O h),.vI t] (.tup [some 24,none]) (ac.enc .suf (if(0<=t/\t<=h.R.length - 1)/\0<(nth h.e.T t.toNat).length then {h with e:=ed h.e t.toNat} else h)++[B (decide ((0<=t/\t<=h.R.length - 1)/\0<(nth h.e.T t.toNat).length))]):=by
 have r:=a.nc;have o:=jw h n;have g:=cW h n;rw[eR,a.to]at g;have no:∀m b,zzA 129 false [.val (some 2) (aI.enc .O h.e),.vI t] (.tup [some 2,none]) (aI.enc .own m++[B false])->b=false->zzA 40 false [.val (some 24) (ac.enc .O h),.vI t] (.tup [some 24,none]) (ac.enc .suf h++[B b]):=λm b c u=>by
  subst u;refine ah.sf (rcs:=ac.enc .own h++[B false]) ?_ ((Tw h).append (.refl _));refine fO 29 [] Tryz.func40 rfl ?_ (.inr (a7 (ac.enc_fr h) ⟨tV1,tV1⟩))
  refine σP ?_
  rfl
 by_cases d:0<=t/\t<=h.R.length - 1
 ·obtain⟨k,rfl⟩:=t5 d.1
  simp only[O4];by_cases e:0<(nth h.e.T k).length
  ·rw[CJ ⟨d,e⟩,O0 ⟨d,e⟩]
   obtain⟨w,i,j,c⟩:=HQ h.e k a.mail ω e;have y:=a7 (b:=[B true]) (PY (k:=10) (ac.enc_fr {h with e:=ed h.e k}) j) ⟨tV1,tV1⟩;refine ah.sf (rcs:=(ac.enc .own {h with e:=ed h.e k}).set 10 (.s .own w)++[B true]) ?_ (yL.append (AJ (h:={h with e:=ed h.e k}) (fW (λ_=>rfl) _) (fW (λ_=>rfl) _) (fW (λ_=>rfl) _) (fW (λ_=>rfl) _) (qx _) i) (.refl _));refine fO 29 [] Tryz.func40 rfl ?_ (.inr y)
   refine σP ?_
   rfl
  rw[CI (λx=>e x.2),C1 (λx=>e x.2)];refine no h.e _ ?_ rfl;have l:=jp.of a.mail;have p:=hC h.e k l.sml;rw[a.mail,O0 ω]at p;have c:=gC h.e l.sml;have q:=Rf (m:=h.e) (f:=k) ω;have C:=l.bl k ω;refine fP 57 [(7000039,[])] [(5,265,[31,32,33,34,35,36,37,38,40,0,1,2,3,4,5,6,7,8,1000,1001,1002,9,10]),(6,270,[41,42,43,44,45,46,47,48,49,50,51,52,53,55,0,1,2,3,4,5,6,7,8,9,10,11,12,13,1000,1001,1002,1003,14,15])] Tryz.func129 rfl ?_ (.inr (a7 (Cn h.e) ⟨tV1,tV1⟩))
  repeat'(first|refine gB ?_|refine gS (λD=>?_) (λD=>?_)|fail)
  rfl
 rw[CI (λx=>d x.1),C1 (λx=>d x.1)];exact no h.e _ (Md h.e t a.mail ω) rfl
end Go.Proofs.YtjooeakgbamfnaaGreat.Ab
