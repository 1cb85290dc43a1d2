/- An object freed, and all objects of a thread: the program's contracts. No condition. (wkR, WV) -/
import Derived.Test.YtfdfgipemcbekaaGreatDoorKTd
import Derived.Test.YtfdfgipemcbekaaGreatDoorKTf
import Derived.Test.YtfdfgipemcbekaaGreatDoorKTh
import Derived.Test.YtfdfgipemcbekaaGreatDoorKTe
import Derived.Test.YtfdfgipemcbekaaGreatDoorKTg
import Derived.Lib.Overlaps
import Derived.Lib.AppendZerosOnto
import Derived.Laws.NewBlocks
import Derived.Laws.Externs
set_option linter.unusedVariables false
set_option linter.defProp false
set_option linter.unusedSimpArgs false
set_option linter.constructorNameAsVariable false
namespace Go.Proofs.YtfdfgipemcbekaaGreatDoor.Ab
open Go.RowKit
set_option maxRecDepth 20000
set_option maxHeartbeats 4000000
def U5(a:Int)(l:aB):Bool:=decide (l.S*16=a)
def ni(l:aB)(a:Int)(b:0<=l.S/\l.S<=32):zzA 329 false [.val (some 3) (aB.enc .R l),.ptr [I a]] .one [B (U5 a l)]:=by
 refine fO 9 [] Tryz.func329 rfl ?_
 refine σP ?_
 exact bY ((by unfold U5;rw[O9];simp))
def zG(h:ac)(b:ac.sml h)(a:h.K≠[]):zzA 239 false [ν h] .agg (cE h (oS h) (oL h) (.s .own (h.K.map (bc.enc .own)))):=by
 have c:=dG h b
 rwa [show dh h=cE h (oS h) (oL h) (.s .own (h.K.map (bc.enc .own))) by unfold dh oO;rw[r7 λe=>a (List.map_eq_nil_iff.1 e)]]at c
def Ga(h:ac)(t a:Int)(b:ac.sml h)(d:cz h=true)(e:h.G.b=100000):zzA 245 false [ν h,.vI t,.vI a] (.tup [some 24,none]) (dh h++[I 6]):=by
 have c:=cR h b;rw[ed,d]at c;refine fP 163 [(327,[1,0,0]),(330,[1,0,0]),(331,[2,0]),(332,[2,0,0]),(254,[2,0,0])] [ς2,ς3] Tryz.func245 rfl ?_ (.inr (ay (ce _) ⟨tV1,tV1⟩))
 repeat'(first|refine gB ?_|apply CF (dG h b))
 rfl
def D2(h:ac)(o:bc)(t:Nat)(R:ac.sml h)(e1:cz h=true)(hc:h.G.b≠100000)(W:o∈h.K)(ht:o.a1=t):zzA 245 false [ν h,.vI (t:Nat),.vI o.U] (.tup [some 24,none]) (dh (freeOb h t (kb h o.U)).1++[I (freeOb h t (kb h o.U)).2]):=by
 have b:=bf.of e1;have S:=cR h R;rw[ed,e1]at S;obtain⟨p,F,G⟩:=b.objAt W;have q:=nD b W;have hon:=b.onu o W;have a:=b.lens;have hno:=a.objs;have hnl:=a.larges;have hlc:=a.caches;have H:t<h.Q.length:=ω
 have T:=aH (t:Nat) 0 (h.Q.length - 1:Int);rw[O0 ω]at T;have J:=tj h o.U ω;rw[G]at J;have U:=zG h R (gu p);generalize kb h o.U=i at p F J;subst F;have X:=ar p;have Y:=lS (nth h.K i).k;have C:=zu h.K i p;have Z:=aX b.ker;have c6:=cG h.G.F.O ((nth h.K i).U / 16) Z.1.2;have K:dh h=cE h (oS h) (oL h) (.s .own (h.K.map (bc.enc .own))):=by unfold dh oO;rw[r7 λe=>gu p (List.map_eq_nil_iff.1 e)]
 unfold freeOb;by_cases d:aP (nth h.K i).k<0
 ·rw[CJ d]
  obtain⟨l,hl,h1,-⟩:=(eE b (ax p)).1 d;obtain⟨r,ea,-,hfi⟩:=vz hl h1;have D:=l8 h.J (U5 (nth h.K i).U) ω;rw[show cu (U5 (nth h.K i).U) h.J=(u7 h (nth h.K i).U:Nat) by unfold cu U5;rw[hfi]]at D;generalize u7 h (nth h.K i).U=g at r ea D;have hf:=aV (b.L.lok _ (ax r));have hxl:=ar r;have M:=uY h.J g r;have E:=jQ {h with K:=dele h.K i,J:=dele h.J g} ⟨(nth h.J g).S,(nth h.J g).a2⟩ (nth h.J g).a2.toNat b.ker hc (by show h.e.length<=_;have:=a.free;omega) ⟨by show(nth h.J g).a2=_;omega,by show 0<=(nth h.J g).S;omega,by show(nth h.J g).S<=_;omega,ω⟩;have hg:dh {h with K:=dele h.K i,J:=dele h.J g} = cE h (oS h) (oE ((dele h.J g).map (aB.enc .own))) (oE ((dele h.K i).map (bc.enc .own))):=rfl;have u:oL h=.s .own (h.J.map (aB.enc .own)):=by unfold oL;rw[r7 λe=>gu r (List.map_eq_nil_iff.1 e)]
  rw[u]at U;rw[hg]at E;have hpg:∀y∈h.J,0<=y.S/\y.S<=32:=λy w=>by have:=aV (b.L.lok y w);omega
  rcases rh (rows:=(dele h.K i).map (bc.enc .own)) with e|⟨-,e⟩<;>rcases rh (rows:=(dele h.J g).map (aB.enc .own)) with e'|⟨-,e'⟩
  all_goals
   rw[e]at C E;rw[e']at M E;refine fP 163 [(327,[1,0,0]),(330,[1,0,0]),(331,[2,0]),(332,[2,0,0]),(254,[2,0,0])] [ς2,ς3] Tryz.func245 rfl ?_ (.inr (ay (ce _) ⟨tV1,tV1⟩))
   repeat'(first|refine gB ?_|refine gS (λN=>?_) (λN=>?_)|refine Cq.mk (qj (some 3) (aB.enc .R) (U5 (nth h.K i).U) h.J) (ni ⟨0,0,0⟩ (nth h.K i).U ⟨by decide,by decide⟩).has (λL k rcs hQ=>?_) ?_)
   ·obtain⟨y,w,rfl,rfl,rfl⟩:=hQ
    exact ni y _ (hpg y w)
   rfl
 rw[CI d];obtain⟨s1,s2,s3,s4⟩:=X3.of b (ax p) d;have hcz:=Ge s1;by_cases V:(au (tbl h) ((nth h.K i).U / 16)).y=1
 ·rw[CJ V]
  unfold tbl at V;have B:=ce h;simp only;rw[K]at B |-;rcases rh (rows:=(dele h.K i).map (bc.enc .own)) with e|⟨-,e⟩
  all_goals
   rw[e]at C;refine fP 163 [(327,[1,0,0]),(330,[1,0,0]),(331,[2,0]),(332,[2,0,0]),(254,[2,0,0])] [ς2,ς3] Tryz.func245 rfl ?_ (.inr (ay B ⟨tV1,tV1⟩))
   repeat'(first|refine gB ?_|refine gS (λN=>?_) (λN=>?_)|apply CT qs|apply CR (kV q))
   rfl
 rw[CI V];unfold tbl at V;have B:fe h.G (nth h.K i).U<h.G.F.W.V.length:=by unfold fe;omega
 have j:=b.inQuar p d;have O:=dx (aP (nth h.K i).k);rw[show csz (aP (nth h.K i).k)=((csz (aP (nth h.K i).k)).toNat:Nat) by omega]at O;have n:=b.nums;unfold ch at n;rw[C0]at n;have P:=(b.dropO p (jZ.any (c:=aP (nth h.K i).k) (by obtain⟨⟨s,R,k1,k2⟩,-⟩:=(eE b (ax p)).2 d;exact⟨s,R,k1,.inr k2⟩))).nd;rw[List.cons_append,List.nil_append]at P;have D:=Gs h.a4 (jN h (nth h.K i)) (by have:=a.quar;omega) b.quar ⟨s1.1,s1.2,q.1,n.2.2.1⟩ (λy w=>b.snc y w) (λy w e=>(List.nodup_cons.1 P).1 (by rw[show(nth h.K i).U=y.U from e.symm];unfold holders;simp only[I5];exact .inl (.inr (O8.2 ⟨y,w,rfl⟩))));unfold RW at D;have u:(wT h.a4 (jN h (nth h.K i))).length<=513:=by have:=a.quar;unfold wT;rw[Z2,C6];simp only[List.length_singleton];omega
 have hfq:Po h t i=recycs t (inQuar h i) ((wT h.a4 (jN h (nth h.K i))).map (·.U)):=rfl;have hqc:(inQuar h i).G.b≠100000:=hc;rw[hfq];rcases rh (rows:=(dele h.K i).map (bc.enc .own)) with e|⟨-,e⟩
 all_goals
  have hoo:oO (inQuar h i)=_:=e;rw[e]at C;have M:=lC h (oS h) (oL h) (oE ((dele h.K i).map (bc.enc .own))) (nth h.K i).U (csz (aP (nth h.K i).k)).toNat b.ker q s2 ω s4;rw[e]at M;refine fP 163 [(327,[1,0,0]),(330,[1,0,0]),(331,[2,0]),(332,[2,0,0]),(254,[2,0,0])] [ς2,ς3] Tryz.func245 rfl ?_ (.inr (ay (ce _) ⟨tV1,tV1⟩))
  repeat'(first|refine gB ?_|refine gS (λN=>?_) (λN=>?_)|apply CT qs|apply CR (kV q))
  generalize wT h.a4 (jN h (nth h.K i))=out at j u
  (conv=>whnf)
  refine Lp.mk (ι:=Nat) (λk=>[(1,fN t),(6,.Y .box mj),(8,bF (dh (recycs t (inQuar h i) ((out.take k).map (·.U))))),(16,bK (cA .own out)),(151,.c5 16 0 [] none),(152,fI out.length),(153,fN k)]) (λk=>k<=out.length) (λk=>out.length - k) (0) ?_ (C1 _) λk hk=>?_
  ·exact wE
  by_cases r:k<out.length
  ·have Q:=ar r
   have hsp:out.map (·.U)=(out.take k).map (·.U)++(nth out k).U::(out.drop (k+1)).map (·.U):=by
    conv=>lhs;rw[<-List.take_append_drop k out,gn r]
    simp
   have hik:bf (recycs t (inQuar h i) ((out.take k).map (·.U))) ((nth out k).U::(out.drop (k+1)).map (·.U)):=bf.recycs (by rw[<-hsp];exact j) H;have E:=uE _ _ t _ hik (by rw[(fQ t _ _).1];exact H) (by rw[(fQ t _ _).2.2.1];exact hqc)
   refine σE ?_
   (refine CP (k+1) ω ω ?_)
   rw[yb t _ out k r];exact wC
  obtain rfl:k=out.length:=ω
  rw[CA]
  refine σE ?_
  rfl
def jR(m:aL)(k:Int)(a:aL.sml m):zzA 341 false [.val (some 2) (aL.enc .R m),.vI k] .one [B (decide (0<=k/\k<=m.T.length - 1)&&bE m)]:=by
 have b:=mW m a;have g:m.T.length<=1048576:=a.1.1;have c:=aH k 0 (m.T.length - 1:Int);cases e:bE m<;>rw[e]at b<;>cases d:decide (0<=k/\k<=(m.T.length:Int) - 1)<;>rw[d]at c
 all_goals
  refine fO 15 [] Tryz.func341 rfl ?_
  refine σP ?_
  rfl
def PH(m:aL)(f:Nat)(p:cX)(k:bE m=true)(d:f<m.T.length):zzA 333 false [.val (some 2) (aL.enc .R m),.vI (f:Nat),.val (some 2) (cX.enc .R p)] (.tup [some 2,none]) (aL.enc .own (if bE (fT m f p)=true then fT m f p else m)++[B (bE (fT m f p))]):=by
 have c:=jK.of k;have l:=c.sml;have q:=c.b4;have g:=jR m f l;rw[k,O0 ω]at g;have n:=iR m l;have h:=Ex c d p;have i:=mW (fT m f p) h;have a:=UO d;have o:=c.bl f d;have j:=Ct (fT m f p);have b:=Cs (fT m f p);rw[wZ]at j b;cases e:bE (fT m f p)<;>rw[e]at i
 ·rw[CI ϕ]
  refine fO 35 [ςh] Tryz.func333 rfl ?_ (.inr (ay (Cs _) ⟨tV1,tV1⟩))
  repeat'(first|refine gP ?_|refine CH (cn a) ?_|refine CK rfl (cn a) rfl ?_|refine Lq.one rfl rfl (aa a) rfl δ rfl rfl ?_|refine CS rfl rfl (cn a) rfl δ (show [C.s ek.own ((m.T.map (bL .own)).set f (bL .own (nth m.T f++[p]))),C.s .own (m.w.map (aE .own))]=_ from by simp only[List.set_cons_zero,List.set_set,Z4];rfl) ?_|refine Cf (aI λ_=>rfl) rfl kd qs (en _ _ _) ?_|refine CL (i) ⟨⟨rfl,j⟩,tV1⟩ ?_)
  rfl
 rw[CJ rfl,wZ];refine fO 35 [ςh] Tryz.func333 rfl ?_ (.inr (ay b ⟨tV1,tV1⟩))
 repeat'(first|refine gP ?_|refine CH (cn a) ?_|refine CK rfl (cn a) rfl ?_|refine Lq.one rfl rfl (aa a) rfl δ rfl rfl ?_|refine CS rfl rfl (cn a) rfl δ (show [C.s ek.own ((m.T.map (bL .own)).set f (bL .own (nth m.T f++[p]))),C.s .own (m.w.map (aE .own))]=_ from by simp only[List.set_cons_zero,List.set_set,Z4];rfl) ?_|refine Cf (aI λ_=>rfl) rfl kd qs (en _ _ _) ?_|refine CL (i) ⟨⟨rfl,j⟩,tV1⟩ ?_)
 rfl
def GE(h:ac)(o:bc)(t:Nat)(R:ac.sml h)(M:cz h=true)(hc:h.G.b≠100000)(E:o∈h.K)(S:t<h.Q.length):zzA 245 false [ν h,.vI (t:Nat),.vI o.U] (.tup [some 24,none]) (dh (freeT h t (kb h o.U)).1++[I (freeT h t (kb h o.U)).2]):=by
 by_cases T:o.a1=t
 ·have hh:=D2 h o t R M hc E T
  rwa [<-xk (by obtain⟨-,d,-⟩:=(bf.of M).objAt E;rw[d];exact T)]at hh
 have b:=bf.of M;have F:=cR h R;rw[ed,M]at F;obtain⟨r,d,G⟩:=b.objAt E;have j:=nD b E;have hon:=b.onu o E;have a:=b.lens;have hno:=a.objs;have hnl:=a.larges;have hlc:=a.caches;have H:=aH (t:Nat) 0 (h.Q.length - 1:Int);rw[O0 ω]at H;have C:=tj h o.U ω;rw[G]at C;have J:=zG h R (gu r);generalize kb h o.U=i at r d C;subst d;have N:=ar r;have O:=lS (nth h.K i).k;have u:=zu h.K i r;have U:=aX b.ker;have V:=cG h.G.F.O ((nth h.K i).U / 16) U.1.2;have p:dh h=cE h (oS h) (oL h) (.s .own (h.K.map (bc.enc .own))):=by unfold dh oO;rw[r7 λe=>gu r (List.map_eq_nil_iff.1 e)]
 unfold freeT;by_cases n:aP (nth h.K i).k<0
 ·rw[CJ n]
  obtain⟨l,hl,h1,-⟩:=(eE b (ax r)).1 n;obtain⟨K,ea,-,W⟩:=vz hl h1;have X:=l8 h.J (U5 (nth h.K i).U) ω;rw[show cu (U5 (nth h.K i).U) h.J=(u7 h (nth h.K i).U:Nat) by unfold cu U5;rw[W]]at X;generalize u7 h (nth h.K i).U=g at K ea X;have hf:=aV (b.L.lok _ (ax K));have Y:=ar K;have D:=uY h.J g K;have P:=jQ {h with K:=dele h.K i,J:=dele h.J g} ⟨(nth h.J g).S,(nth h.J g).a2⟩ (nth h.J g).a2.toNat b.ker hc (by show h.e.length<=_;have:=a.free;omega) ⟨by show(nth h.J g).a2=_;omega,by show 0<=(nth h.J g).S;omega,by show(nth h.J g).S<=_;omega,ω⟩;have hg:dh {h with K:=dele h.K i,J:=dele h.J g} = cE h (oS h) (oE ((dele h.J g).map (aB.enc .own))) (oE ((dele h.K i).map (bc.enc .own))):=rfl;have Z:oL h=.s .own (h.J.map (aB.enc .own)):=by unfold oL;rw[r7 λe=>gu K (List.map_eq_nil_iff.1 e)]
  rw[Z]at J;rw[hg]at P;have hpg:∀y∈h.J,0<=y.S/\y.S<=32:=λy hy=>by have:=aV (b.L.lok y hy);omega
  rcases rh (rows:=(dele h.K i).map (bc.enc .own)) with e|⟨-,e⟩<;>rcases rh (rows:=(dele h.J g).map (aB.enc .own)) with e'|⟨-,e'⟩
  all_goals
   rw[e]at u P;rw[e']at D P;refine fP 163 [(327,[1,0,0]),(330,[1,0,0]),(331,[2,0]),(332,[2,0,0]),(254,[2,0,0])] [ς2,ς3] Tryz.func245 rfl ?_ (.inr (ay (ce _) ⟨tV1,tV1⟩))
   repeat'(first|refine gB ?_|refine gS (λw=>?_) (λw=>?_)|refine Cq.mk (qj (some 3) (aB.enc .R) (U5 (nth h.K i).U) h.J) (ni ⟨0,0,0⟩ (nth h.K i).U ⟨by decide,by decide⟩).has (λL k rcs hQ=>?_) ?_)
   ·obtain⟨y,hy,rfl,rfl,rfl⟩:=hQ
    exact ni y _ (hpg y hy)
   rfl
 rw[CI n];obtain⟨s1,s2,s3,s4⟩:=X3.of b (ax r) n;have hcz:=Ge s1;by_cases Q:(au (tbl h) ((nth h.K i).U / 16)).y=1
 ·rw[CJ Q]
  unfold tbl at Q;have c:=ce h;simp only;rw[p]at c |-;rcases rh (rows:=(dele h.K i).map (bc.enc .own)) with e|⟨-,e⟩
  all_goals
   rw[e]at u;refine fP 163 [(327,[1,0,0]),(330,[1,0,0]),(331,[2,0]),(332,[2,0,0]),(254,[2,0,0])] [ς2,ς3] Tryz.func245 rfl ?_ (.inr (ay c ⟨tV1,tV1⟩))
   repeat'(first|refine gB ?_|refine gS (λw=>?_) (λw=>?_)|apply CT qs|apply CR (kV j))
   rfl
 rw[CI Q,CI T];unfold tbl at Q;have c:=ce h;have q:=ce (Fh h t i);have B:=dx (aP (nth h.K i).k);rw[show csz (aP (nth h.K i).k)=((csz (aP (nth h.K i).k)).toNat:Nat) by omega]at B;have cS:=PH h.q t ⟨(nth h.K i).a1,(nth h.K i).U⟩ b.mail (by rw[<-b.nc];exact S);rcases rh (rows:=(dele h.K i).map (bc.enc .own)) with e|⟨-,e⟩
 all_goals
  have hoo:oO (Fh h t i)=_:=e;rw[e]at u;have D:=lC h (oS h) (oL h) (oE ((dele h.K i).map (bc.enc .own))) (nth h.K i).U (csz (aP (nth h.K i).k)).toNat b.ker j s2 ω s4;rw[e]at D;cases em:bE (fT h.q t ⟨(nth h.K i).a1,(nth h.K i).U⟩)<;>rw[em]at cS
  ·rw[CI ϕ]at cS |-
   simp only;rw[p]at c |-;refine fP 163 [(327,[1,0,0]),(330,[1,0,0]),(331,[2,0]),(332,[2,0,0]),(254,[2,0,0])] [ς2,ς3] Tryz.func245 rfl ?_ (.inr (ay c ⟨tV1,tV1⟩))
   repeat'(first|refine gB ?_|refine gS (λw=>?_) (λw=>?_)|apply CT qs|apply CR (kV j))
   rfl
  rw[CJ rfl]at cS |-;simp only;have he:dh (Fh h t i)=cE (Fh h t i) (oS h) (oL h) (oE ((dele h.K i).map (bc.enc .own))):=rfl;rw[he,e]at q |-;refine fP 163 [(327,[1,0,0]),(330,[1,0,0]),(331,[2,0]),(332,[2,0,0]),(254,[2,0,0])] [ς2,ς3] Tryz.func245 rfl ?_ (.inr (ay q ⟨tV1,tV1⟩))
  repeat'(first|refine gB ?_|refine gS (λw=>?_) (λw=>?_)|apply CT qs|apply CR (kV j))
  rfl
variable{r:List C}{rows:List (List C)}
def UK{j:Nat}{r':List C}(h:dw r=dw r'):fz (.s .own (rows.set j r))=fz (.s .own (rows.set j r')):=by
 simp only[MX,CC];rw[<-bU,<-bU,h]
def ky(b:Bool):zzA 151 false [.val none [B b]] .one [I (if b=true then 0 else 90)]:=by
 cases b
 all_goals
  refine fO 4 [] Tryz.func151 rfl ?_
  refine σP ?_
  rfl
def Ly(m:aL)(f:Int)(a:bE m=true)(e:¬(0<=f/\f<=m.T.length - 1)):zzA 251 true [.val (some 2) (aL.enc .R m),.vI f] (.tup [some 2,none]) (aL.enc .R m++[B false]):=by
 have g:=jK.of a;have b:=g.sml;have c:=jR m f b;rw[a,Z0 e]at c;have h:=iR m b;have key:zzA 251 true [.val (some 2) (aL.enc .R m),.vI f] (.tup [some 2,none]) (aL.enc .own m++[B false]):=by
  refine fO 57 [ρ 5 9 31,ς15] Tryz.func251 rfl ?_ (.inl rfl)
  refine σP ?_
  rfl
 have d:=key.fzR;rw[bT,Ct]at d;exact d
def FQ(m:aL)(f:Nat)(i:bE m=true)(k:f<m.T.length):zzA 251 true [.val (some 2) (aL.enc .R m),.vI (f:Nat)] (.tup [some 2,none]) (aL.enc .R (if 0<(nth m.T f).length then gg m f else m)++[B (decide (0<(nth m.T f).length))]):=by
 have d:=jK.of i;have E:=d.sml;have M:=d.b4;have H:=d.i4;have l:=jR m f E;rw[i,O0 ω]at l;have F:=iR m E;have a:=UO k;have J:=d.bl f k;by_cases e:0<(nth m.T f).length
 ·rw[CJ e,O0 e]
  have g:=((dQ.1 i).2.1 f k).1 _ (ax e);obtain⟨t,n⟩:=C5 g.1;have q:t<m.w.length:=ω
  have u:=ar e;have b:=ar q;have K:=d.il t ω;have w:=Ct (gg m f);rw[za m f t n]at w;generalize N:nth (nth m.T f) 0=p at *;obtain⟨O,G⟩:=p;simp only at n g w;subst n;have L:zzA 314 false [.val (some 2) (aL.enc .R m)] .agg [.s .own ((m.T.map (bL .own)).set f (bL .R (nth m.T f))),.s .own (m.w.map (aE .own))]:=by
   have h:=F.fzAt (off:=0) (o:=.own) (rows:=m.T.map (bL .own)) rfl ϕ (j:=f) (aa a);rw[mi]at h;exact h
  have y:((m.T.map (bL .own)).set f (bL .R (nth m.T f)))[f]? = some (bL .R (nth m.T f)):=Z6 ϰ;have key:zzA 251 true [.val (some 2) (aL.enc .R m),.vI (f:Nat)] (.tup [some 2,none]) ([.s .own ((m.T.map (bL .own)).set f [.s .R (((nth m.T f).drop 1).map (cX.enc .R))]),.s .own ((m.w.map (aE .own)).set t (aE .own (nth m.w t++[G])))]++[B true]):=by
   refine fO 57 [ρ 5 9 31,ς15] Tryz.func251 rfl ?_ (.inl rfl)
   repeat'(first|refine gB ?_|refine gS (λD=>?_) (λD=>?_)|apply CO qs (aa u)|refine CH y ?_|refine CH (cn b) ?_|refine CK rfl y rfl ?_|refine CK rfl (cn b) rfl ?_|refine Rw.two rfl (aa a) rfl rfl (aa u) rfl ?_|refine Lq.one rfl rfl (aa b) rfl δ rfl rfl ?_|refine Ci 1 rfl ϰ (aI λ_=>rfl) I8 ?_|refine CS rfl rfl y rfl δ (show [C.s ek.own ((m.T.map (bL .own)).set f [.s .R (((nth m.T f).drop 1).map (cX.enc .R))]),C.s .own (m.w.map (aE .own))]=_ from by simp only[List.set_cons_zero,List.set_set,Z4];rfl) ?_|refine CS rfl rfl (cn b) rfl δ (show [C.s ek.own ((m.T.map (bL .own)).set f [.s .R (((nth m.T f).drop 1).map (cX.enc .R))]),C.s .own ((m.w.map (aE .own)).set t (aE .own (nth m.w t++[G])))]=_ from by simp only[List.set_cons_zero,List.set_cons_succ,List.set_set,Z4];rfl) ?_|refine Cf (aI λ_=>rfl) rfl kd qs (en _ _ _) ?_)
   rfl
  have c:=key.fzR;change am _ _ _ _ _ [fz (.s .own _),fz (.s .own _),fz (B true)]at c;rw[UK (r:=[.s .R (((nth m.T f).drop 1).map (cX.enc .R))]) (r':=[.s .own (((nth m.T f).drop 1).map (cX.enc .R))]) rfl]at c;rw[<-w];exact c
 rw[CI e,Z0 e];have key:zzA 251 true [.val (some 2) (aL.enc .R m),.vI (f:Nat)] (.tup [some 2,none]) (aL.enc .own m++[B false]):=by
  refine fO 57 [ρ 5 9 31,ς15] Tryz.func251 rfl ?_ (.inl rfl)
  repeat'(first|refine gB ?_|refine gS (λD=>?_) (λD=>?_)|fail)
  rfl
 have c:=key.fzR;rw[bT,Ct]at c;exact c
def wY(h:ac)(t:Int)(i:ac.sml h)(d:bf h []):zzA 150 true [ν h,.vI t] (.tup [some 24,none]) (ac.enc .R (if(0<=t/\t<=h.Q.length - 1)/\0<(nth h.q.T t.toNat).length then {h with q:=gg h.q t.toNat} else h)++[B (decide ((0<=t/\t<=h.Q.length - 1)/\0<(nth h.q.T t.toNat).length))]):=by
 have j:=d.nc;have e:=(iT h i).fzR;rw[ac.enc_fz]at e;have g:=cR h i;rw[ed,d.to]at g;by_cases c:0<=t/\t<=h.Q.length - 1
 ·obtain⟨k,rfl⟩:=C5 c.1
  simp only[Z4];have a:=FQ h.q k d.mail ω;by_cases b:0<(nth h.q.T k).length
  ·rw[CJ ⟨c,b⟩,O0 ⟨c,b⟩]
   rw[CJ b,O0 b]at a;refine fO 29 [] Tryz.func150 rfl ?_ (.inl rfl)
   repeat'(first|refine gP ?_|refine Cl.sh a rfl ?_)
   rfl
  rw[CI (λx=>b x.2),Z0 (λx=>b x.2)];rw[CI b,Z0 b]at a;refine fO 29 [] Tryz.func150 rfl ?_ (.inl rfl)
  repeat'(first|refine gP ?_|refine Cl.sh a rfl ?_)
  rfl
 rw[CI (λx=>c x.1),Z0 (λx=>c x.1)];have a:=Ly h.q t d.mail ω;refine fO 29 [] Tryz.func150 rfl ?_ (.inl rfl)
 repeat'(first|refine gP ?_|refine Cl.sh a rfl ?_)
 rfl
def Hj(m:aL)(t:Nat)(d:bE m=true)(h:t<m.T.length):zzA 253 false [.val (some 2) (aL.enc .R m),.vI (t:Nat)] (.tup [some 2,none]) (aL.enc .own (jl m t)++aE .own (nth m.w t)):=by
 have b:=jK.of d;have e:=b.sml;have p:=b.b4;have j:=b.i4;have g:=jR m t e;rw[d,O0 ω]at g;have k:=iR m e;have c:=ar (xs:=m.w) (i:=t) ω;have l:=b.il t h;have n:=cM (nth m.w t) ω;have a:=ay (Cs (jl m t)) (bH (nth m.w t));have o:aL.enc .own (jl m t)=[.s .own (m.T.map (bL .own)),.s .own ((m.w.map (aE .own)).set t [.s .own []])]:=by simp[aL.enc,jl,CC];rfl
 rw[o]at a |-;refine fO 25 [ρ 5 7 18] Tryz.func253 rfl ?_ (.inr a)
 repeat'((conv=>whnf);first|with_reducible (first|refine Lm ?_|refine Wm ω ?_|refine CH (aa c) ?_|refine Bn ?_|refine cF.dk rfl ?_)|refine Bt ?_|refine Bu ?_|refine CG ?_|refine CF (g) ?_|refine CF (k) ?_|refine CF (n) ?_|refine CK rfl (aa c) rfl ?_|refine CS rfl rfl (aa c) rfl δ rfl ?_|refine CG ?_)
 exact .cons (.rfl_ _) (.cons (QY.set _ _ (.cons .z_ .nil)) (.cons (.rfl_ _) .nil))
def ow(h:ac)(t:Int)(l:ac.sml h)(a:bf h []):zzA 152 false [ν h,.vI t] (.tup [some 24,none]) (dh (if h.G.b≠100000/\0<=t/\t<=h.Q.length - 1 then collect h t.toNat else h)++[I (if h.G.b≠100000/\0<=t/\t<=h.Q.length - 1 then((nth h.q.w t.toNat).length:Nat) else 0)]):=by
 have r:=a.nc;have u:=(dQ.1 a.mail).1.2.2;have n:=dG h l;have b:=pf h t l;rw[a.to]at b;by_cases e:h.G.b≠100000/\0<=t/\t<=h.Q.length - 1;rotate_left
 ·rw[CI e,CI e]
  rw[show(decide (0<=t/\t<=h.Q.length - 1)&&decide (h.G.b≠100000)&&true)=false by
    rw[Bool.and_true,<-SA,I0,C0,C0];exact λx=>e ⟨x.2,x.1⟩]at b
  refine fP 40 [(254,[2,0,0])] [] Tryz.func152 rfl ?_ (.inr (ay (ce _) ⟨tV1,tV1⟩))
  refine σP ?_
  rfl
 rw[CJ e,CJ e];obtain⟨o,p⟩:=e;rw[show(decide (0<=t/\t<=h.Q.length - 1)&&decide (h.G.b≠100000)&&true)=true by
   rw[Bool.and_true,I0,C0,C0];exact⟨p,o⟩]at b
 obtain⟨T,rfl⟩:=C5 p.1;simp only[Z4];have q:=Hj h.q T a.mail ω;have d:=(jK.of a.mail).il T ω;have g:=a.coll (t:=T) ω;rw[List.append_nil]at g;unfold collect;generalize nth h.q.w T=out at q g d |-;refine fP 40 [(254,[2,0,0])] [] Tryz.func152 rfl ?_ (.inr (ay (ce _) ⟨tV1,tV1⟩))
 refine σP ?_
 refine lp0 out.length (λk=>[(1,fN T),(4,.Y .box mj),(6,bF (dh (recycs T {h with q:=jl h.q T} (out.take k)))),(8,bK (aE .own out)),(27,.c5 8 0 [] none),(28,fI out.length),(29,fN k)]) λk y=>?_
 by_cases i:k<out.length
 ·have c:=ar i
  have j:bf (recycs T {h with q:=jl h.q T} (out.take k)) (nth out k::out.drop (k+1)):=by
   refine bf.recycs ?_ (by show T<h.Q.length;omega);rw[<-gn i,List.take_append_drop];exact g
  have w:=uE _ _ T _ j (by rw[(fQ T _ _).1];show T<h.Q.length;omega) (by rw[(fQ T _ _).2.2.1];exact o)
  refine σE ?_
  (refine CP (k+1) ω ω ?_)
  rw[ym _ _ _ _ i];exact wC
 obtain rfl:k=out.length:=ω
 rw[CA]
 refine σE ?_
 rfl
def mod1(k:ah)(q:Nat):Prop:=(nth k.F.O.M q).y=1
def K1(k a:ah):Prop:=∀q,mod1 a q->mod1 k q
structure S1(h g:ac):Prop where
 k:K1 h.G g.G
 m:g.a3=h.a3
 j:g.a9=h.a9
def HP(h:ac)(a:Int):Int:=cu (v6 a) h.K
variable{a:Int}{h:ac}
def VQ(e:0<=HP h a):(HP h a).toNat<h.K.length/\(nth h.K (HP h a).toNat).U<=a/\a<(nth h.K (HP h a).toNat).U+(nth h.K (HP h a).toNat).k:=by
 obtain⟨b,c,-⟩:=eL (v6 a) h.K e;exact⟨b,of_decide_eq_true c⟩
def xU(o:bc)(a:Int)(c:0<=o.k/\o.k<=1000/\0<=o.U/\o.U<=1000):zzA 420 false [.val (some 4) (bc.enc .R o),.ptr [I a]] .one [B (v6 a o)]:=by
 have b:=aH a o.U (o.U+o.k - 1);refine fO 14 [] Tryz.func420 rfl ?_
 refine σP ?_
 exact bY ((by unfold v6;exact decide_eq_decide.2 ω))
def Dm(h:ac)(a:Int)(e:h.K.length<=1048576)(b:∀o∈h.K,0<=o.k/\o.k<=1000/\0<=o.U/\o.U<=1000):zzA 384 false [ν h,.vI a] .one [I (HP h a)]:=by
 refine fO 9 [] Tryz.func384 rfl ?_
 repeat'(first|refine gP ?_|refine Cq.mk (qj (some 4) (bc.enc .R) (v6 a) h.K) (xU ⟨0,0,0,0⟩ a qs).has (λL k rcs c=>?_) ?_|refine CF (kJ h.K (v6 a) ω) ?_)
 ·obtain⟨y,d,rfl,rfl,rfl⟩:=c
  exact xU y a (b y d)
 rfl
def sU(h:ac)(a:Int)(e:ac.sml h)(b:bf h []):zzA 337 false [ν h,.vI a] .one [I (HP h a)]:=by
 have c:=cR h e;rw[ed,b.to]at c;have g:=b.lens.objs;have i:=Dm h a ω (λo d=>by
   have j:=b.objSz o d;have k:=nD b d;omega)
 refine fO 11 [] Tryz.func337 rfl ?_
 refine σP ?_
 rfl
def NI(b:bf h [])(e:0<=HP h a):(au (tbl h) (a / 16)).y≠0/\0<=a/\a<512:=by
 obtain⟨c,d,f⟩:=VQ e;have:=kq b (ax c) (k:=a - (nth h.K (HP h a).toNat).U) ω;rw[show(nth h.K (HP h a).toNat).U+(a - (nth h.K (HP h a).toNat).U)=a by omega]at this;exact⟨this.1,ω,ω⟩
def FU(h:ac)(a v:Int):ac × Int:=if HP h a<0 then(h,1) else if(au (tbl h) (a / 16)).y=1 then(h,2) else({h with G:=iH h.G a v},0)
def BA(h:ac)(a v:Int)(l:ac.sml h)(b:bf h [])(o:0<=v/\v<=999):zzA 247 false [ν h,.vI a,.vI v] (.tup [some 24,none]) (dh (FU h a v).1++[I (FU h a v).2]):=by
 have i:=dG h l;have j:=sU h a l b;unfold FU;by_cases e:HP h a<0
 ·rw[CJ e]
  refine fO 38 [] Tryz.func247 rfl ?_ (.inr (ay (ce _) ⟨tV1,tV1⟩))
  repeat'(first|refine gE ?_|refine gS (λd=>?_) (λd=>?_)|fail)
  rfl
 rw[CI e];obtain⟨n,p⟩:=NI b (show 0<=HP h a by omega);have k:=aX b.ker;obtain⟨-,-,-,q,u⟩:=bQ b.ker n;have r:=(aT.1 (aF.1 b.ker).2.1).2.2.1;have c:=zx h.G.F a v (i9 b.ker) k.1 p o (λ_=>⟨q,ω,b.lens.row _ (ax ω)⟩);unfold ij at c;rw[CI (show ¬(au h.G.F.O (a / 16)).y=0 from n)]at c;by_cases g:(au h.G.F.O (a / 16)).y=1
 ·rw[CJ g]at c
  rw[CJ (show(au (tbl h) (a / 16)).y=1 from g)];refine fO 38 [] Tryz.func247 rfl ?_ (.inr (ay (ce _) ⟨tV1,tV1⟩))
  repeat'(first|refine gB ?_|refine gS (λd=>?_) (λd=>?_)|fail)
  rfl
 rw[CI g]at c;rw[CI (show ¬(au (tbl h) (a / 16)).y=1 from g)];have t:dh {h with G:=iH h.G a v} = (dh h).set 0 (.s .own ((iH h.G a v).F.W.V.map (aE .own))):=rfl;refine fO 38 [] Tryz.func247 rfl ?_ (.inr (ay (ce _) ⟨tV1,tV1⟩))
 repeat'(first|refine gB ?_|refine gS (λd=>?_) (λd=>?_)|fail)
 rfl
def Um{k:ah}{a:Int}(b:fe k a<k.F.W.V.length):∀m:Nat,a % 16+m<=16->zK k a m=eM k a m
 | 0,_=>by
  unfold zK eM jq;rw[Np b]
 | m+1,h=>by
  have c:(au k.F.O ((a+m) / 16))=au k.F.O (a / 16):=by rw[show(a+(m:Int)) / 16=a / 16 by omega]
  have d:((a+(m:Int)) % 16).toNat=(a % 16).toNat+m:=ω
  show iH (zK k a m) (a+m) 0=_;rw[Um b m ω];unfold iH setCell fe eM;simp only[c,d,jq];rw[show(au k.F.O (a / 16)).j.toNat=fe k a from rfl,cY,CJ ⟨rfl,b⟩,List.set_set]
def Bi(l:aB)(n:Int)(d:bZ l=true):zzA 340 false [.val (some 3) (aB.enc .R l),.vI n] (.tup [some 3,some 2,none]) (if 9<=n/\n<=l.k then aB.enc .own (trimL l n)++aC.enc .own (jO l n)++[B true] else aB.enc .own l++[I 0,I 0]++[B false]):=by
 have b:=pV l;rw[d]at b;have a:=aH n 9 l.k;have g:=d;unfold bZ at g;rw[C0]at g;by_cases e:9<=n/\n<=l.k
 ·rw[O0 e]at a
  rw[CJ e];have c:=n7 n;rw[show eJ n=(n+15) / 16 by unfold eJ;rw[CJ ω]]at c;unfold jO;by_cases h:(n+15) / 16<l.a2
  ·rw[CJ h]
   refine fO 45 [ς16,ς17] Tryz.func340 rfl ?_ (.inr ⟨tV1,tV1,tV1,tV1,tV1,tV1,tV1⟩)
   refine σB ?_
   rfl
  rw[CI h];have i:(n+15) / 16=l.a2:=ω
  refine fO 45 [ς16,ς17] Tryz.func340 rfl ?_ (.inr ⟨tV1,tV1,tV1,tV1,tV1,tV1,tV1⟩)
  refine σB ?_
  rfl
 rw[Z0 e]at a;rw[CI e];refine fO 45 [ς16,ς17] Tryz.func340 rfl ?_ (.inr ⟨tV1,tV1,tV1,tV1,tV1,tV1,tV1⟩)
 refine σP ?_
 rfl
theorem dt(l:aB)(a:Int)(b:0<=l.S/\l.S<=32):zzA 339 false [.val (some 3) (aB.enc .R l),.ptr [I a]] .one [B (lI a l)]:=by
 refine fO 9 [] Tryz.func339 rfl ?_
 refine σP ?_
 grind[lI]
theorem MO(h:ac)(i g:Nat)(n:Int)(K:ah)(a:h.J≠[])(b:h.K≠[]):dh (gw h i g n K)=cE {h with G:=K} (oS h) (.s .own ((h.J.map (aB.enc .own)).set g (aB.enc .own (trimL (nth h.J g) n)))) (.s .own ((h.K.map (bc.enc .own)).set i (splice (bc.enc .own (nth h.K i)) 2 [I n]))):=by
 have c:oL (gw h i g n K)=.s .own ((h.J.map (aB.enc .own)).set g (aB.enc .own (trimL (nth h.J g) n))):=by
  unfold oL;rw[r7 (by simp[gw];exact a)]
  grind[CC,gw]
 have d:oO (gw h i g n K)=.s .own ((h.K.map (bc.enc .own)).set i (splice (bc.enc .own (nth h.K i)) 2 [I n])):=by
  unfold oO;rw[r7 (by simp[gw];exact b),E1]
 unfold dh;rw[c,d];rfl
theorem El(h:ac)(i:Nat)(n:Int)(hs:ac.sml h)(l:bf h [])(Q:i<h.K.length):zzA 249 false [ν h,.val none [I (nth h.K i).U],.vI n] (.tup [some 24,none]) (dh (if h.G.b≠100000/\i6 h i n then trimH h i (r8 h (nth h.K i).U).toNat n else h)++[B (decide (h.G.b≠100000/\i6 h i n))]):=by
 have p:=l.lens;have hnl:=p.larges;have hno:=p.objs;have hpg:fk h<=32:=p.ents;have F:=dG h hs;have G:=cR h hs;rw[ed,l.to]at G;have u:=l8 h.J (lI (nth h.K i).U) ω;have d:∀y∈h.J,0<=y.S/\y.S<=32:=λy o=>by have:=aV (l.L.lok y o);omega
 change am _ _ _ _ _ [I (r8 h (nth h.K i).U)]at u;by_cases e1:r8 h (nth h.K i).U<0
 ·rw[CI (λx=>by have:=x.2.1;omega),Z0 (λx=>by have:=x.2.1;omega)]
  refine fP 81 [(332,[2,0,0]),(331,[2,0])] [ςa] Tryz.func249 rfl ?_ (.inr (ay (ce _) ⟨tV1,tV1⟩))
  repeat'(first|refine gE ?_|refine Cq.mk (qj (some 3) (aB.enc .R) (lI (nth h.K i).U) h.J) (dt ⟨0,0,0⟩ (nth h.K i).U ⟨by decide,by decide⟩).has (λL k rcs q=>?_) ?_)
  ·obtain⟨y,o,rfl,rfl,rfl⟩:=q
   exact dt y _ (d y o)
  rfl
 by_cases e2:h.G.b=100000
 ·rw[CI (λx=>x.1 e2),Z0 (λx=>x.1 e2)]
  refine fP 81 [(332,[2,0,0]),(331,[2,0])] [ςa] Tryz.func249 rfl ?_ (.inr (ay (ce _) ⟨tV1,tV1⟩))
  repeat'(first|refine gB ?_|refine Cq.mk (qj (some 3) (aB.enc .R) (lI (nth h.K i).U) h.J) (dt ⟨0,0,0⟩ (nth h.K i).U ⟨by decide,by decide⟩).has (λL k rcs q=>?_) ?_)
  ·obtain⟨y,o,rfl,rfl,rfl⟩:=q
   exact dt y _ (d y o)
  rfl
 obtain⟨f1,f2,f3⟩:=eL (lI (nth h.K i).U) h.J (by grind[r8]);obtain⟨g,R⟩:=C5 (show 0<=r8 h (nth h.K i).U by omega);have r:g<h.J.length:=by grind[r8]
 have hga:(nth h.J g).S*16=(nth h.K i).U:=by grind[lI,r8]
 have S:i6 h i n↔9<=n/\n<=(nth h.J g).k:=by grind[i6]
 rw[R,Z4];rw[R]at u;have b:=ar r;have H:=Bi (nth h.J g) n (l.L.lok _ (ax r));by_cases T:9<=n/\n<=(nth h.J g).k;rotate_left
 ·rw[CI ψ,Z0 ψ]
  rw[CI T]at H;refine fP 81 [(332,[2,0,0]),(331,[2,0])] [ςa] Tryz.func249 rfl ?_ (.inr (ay (ce _) ⟨tV1,tV1⟩))
  repeat'(first|refine gB ?_|refine Cq.mk (qj (some 3) (aB.enc .R) (lI (nth h.K i).U) h.J) (dt ⟨0,0,0⟩ (nth h.K i).U ⟨by decide,by decide⟩).has (λL k rcs q=>?_) ?_)
  ·obtain⟨y,o,rfl,rfl,rfl⟩:=q
   exact dt y _ (d y o)
  rfl
 rw[CJ ⟨e2,S.2 T⟩,O0 ⟨e2,S.2 T⟩];rw[CJ T]at H;change am _ _ _ _ _ ([I (nth h.J g).S,I ((n+15) / 16),I n]++aC.enc .own (jO (nth h.J g) n)++[B true]) at H;obtain⟨-,U,t⟩:=l.objAt (ax Q);have hii:kb h (nth h.K i).U=i:=by
  have h2:=(l.objAt (ax Q)).1;exact hJ (f:=(·.U)) (gR l.osr) h2 Q (by rw[U])
 rw[hii]at t;have V:=tj h (nth h.K i).U ω;rw[t]at V;have c:=ar Q;have h8:=l.L.lok _ (ax r);unfold bZ at h8;rw[C0]at h8;have W:h.J≠[]:=gu r;have X:h.K≠[]:=gu Q;have heh:dh h=cE h (oS h) (.s .own (h.J.map (aB.enc .own))) (.s .own (h.K.map (bc.enc .own))):=by grind[r7,List.map_eq_nil_iff,dh,oL,oO]
 rw[heh]at F;have Y:=λK=>MO h i g n K W X
 have w:((nth h.J g).S*16+n).tmod 16=((nth h.J g).S*16+n) % 16:=dy ω;have J:=A2 l r T (O5 _);have Z:=nh l r (a:=16*(nth h.J g).S+n - 1) ω;have M:=xa h.G (16*(nth h.J g).S+n) (16*((n+15) / 16) - n).toNat;have N:trimH h i g n = {gw h i g n (qq h g n) with G:=dE (qq h g n) ((nth h.J g).S+(n+15) / 16) (dB (nth h.J g) n),e:=xW h g n}:=rfl;obtain⟨K,hK⟩ : ∃K,K=qq h g n:=⟨_,rfl⟩
 have C:(((nth h.J g).S*16+n) % 16=0->K=h.G)/\(((nth h.J g).S*16+n) % 16≠0->K=eM h.G ((nth h.J g).S*16+n) (16 - ((nth h.J g).S*16+n) % 16).toNat):=by
  rw[hK];unfold qq;constructor
  ·intro z
   rw[show(16*((n+15) / 16) - n).toNat=0 by omega];rfl
  intro z;rw[show(16*((n+15) / 16) - n).toNat=(16 - ((nth h.J g).S*16+n) % 16).toNat by omega,show 16*(nth h.J g).S+n=(nth h.J g).S*16+n by omega];refine Um ?_ _ ω;obtain⟨-,-,-,q0,q1⟩:=bQ l.ker Z;have hul:=(aT.1 (aF.1 l.ker).2.1).2.2.1
  grind[fe]
 rw[N,<-hK];have hkk:aG K=true:=by rw[hK];exact J
 have hkc:K.b≠100000:=by rw[hK];show(zK _ _ _).b≠_;omega
 have hke:K.F.O.M.length=h.G.F.O.M.length:=by rw[hK];show(zK _ _ _).F.O.M.length=_;rw[M.1]
 have hpn:fk (gw h i g n K)=fk h:=hke;clear N J M;have c9:=jQ (gw h i g n K) (jO (nth h.J g) n) (dB (nth h.J g) n) hkk hkc (by show h.e.length<=_;grind[qw.free]) (by grind[jO,dB]);rw[hpn,Y]at c9;have hd:dh {gw h i g n K with G:=dE K ((nth h.J g).S+(n+15) / 16) (dB (nth h.J g) n),e:=xW h g n} = if(n+15) / 16<(nth h.J g).a2 then dh {gw h i g n K with G:=dE K (jO (nth h.J g) n).At (dB (nth h.J g) n),e:=(cm (fk h) h.e (jO (nth h.J g) n)).getD h.e} else cE {h with G:=K} (oS h) (.s .own ((h.J.map (aB.enc .own)).set g (aB.enc .own (trimL (nth h.J g) n)))) (.s .own ((h.K.map (bc.enc .own)).set i (splice (bc.enc .own (nth h.K i)) 2 [I n]))):=by
  by_cases e:(n+15) / 16<(nth h.J g).a2
  ·grind[jO,dB,xW]
  rw[CI e,<-Y];have O:dB (nth h.J g) n=0:=by unfold dB;omega
  unfold xW;rw[O,CI ω];rfl
 rw[hd];have D:(jO (nth h.J g) n).a6=if(n+15) / 16<(nth h.J g).a2 then(nth h.J g).a2 - (n+15) / 16 else 0:=by grind[jO]
 have j:fy (if(n+15) / 16<(nth h.J g).a2 then dh {gw h i g n K with G:=dE K (jO (nth h.J g) n).At (dB (nth h.J g) n),e:=(cm (fk h) h.e (jO (nth h.J g) n)).getD h.e} else cE {h with G:=K} (oS h) (.s .own ((h.J.map (aB.enc .own)).set g (aB.enc .own (trimL (nth h.J g) n)))) (.s .own ((h.K.map (bc.enc .own)).set i (splice (bc.enc .own (nth h.K i)) 2 [I n])))):=by grind[ce]
 clear hd hga t U f1 f2 f3;by_cases e5:((nth h.J g).S*16+n) % 16=0
 ·have E:=C.1 e5
  rw[E]at c9 j |-;clear C;by_cases O:(n+15) / 16<(nth h.J g).a2
  ·rw[CJ O]at j D |-
   refine fP 81 [(332,[2,0,0]),(331,[2,0])] [ςa] Tryz.func249 rfl ?_ (.inr (ay j ⟨tV1,tV1⟩))
   repeat'(first|refine gB ?_|refine gS (λP=>?_) (λP=>?_)|refine Cq.mk (qj (some 3) (aB.enc .R) (lI (nth h.K i).U) h.J) (dt ⟨0,0,0⟩ (nth h.K i).U ⟨by decide,by decide⟩).has (λL k rcs q=>?_) ?_|refine CS rfl rfl (aa b) rfl δ rfl ?_|refine CS rfl rfl (aa c) rfl δ rfl ?_|apply CT qs|apply CY w)
   ·obtain⟨y,o,rfl,rfl,rfl⟩:=q
    exact dt y _ (d y o)
   rfl
  rw[CI O]at j D |-;refine fP 81 [(332,[2,0,0]),(331,[2,0])] [ςa] Tryz.func249 rfl ?_ (.inr (ay j ⟨tV1,tV1⟩))
  repeat'(first|refine gB ?_|refine gS (λP=>?_) (λP=>?_)|refine Cq.mk (qj (some 3) (aB.enc .R) (lI (nth h.K i).U) h.J) (dt ⟨0,0,0⟩ (nth h.K i).U ⟨by decide,by decide⟩).has (λL k rcs q=>?_) ?_|refine CS rfl rfl (aa b) rfl δ rfl ?_|refine CS rfl rfl (aa c) rfl δ rfl ?_|apply CT qs|apply CY w)
  ·obtain⟨y,o,rfl,rfl,rfl⟩:=q
   exact dt y _ (d y o)
  rfl
 have E:=C.2 e5;have hcc:0<=(au h.G.F.O (((nth h.J g).S*16+n) / 16)).j/\(au h.G.F.O (((nth h.J g).S*16+n) / 16)).j<h.G.F.W.V.length:=by
  obtain⟨-,-,-,q0,q1⟩:=bQ l.ker Z;have hul:=(aT.1 (aF.1 l.ker).2.1).2.2.1
  grind
 have c8:=lC h (oS h) (.s .own ((h.J.map (aB.enc .own)).set g (aB.enc .own (trimL (nth h.J g) n)))) (.s .own ((h.K.map (bc.enc .own)).set i (splice (bc.enc .own (nth h.K i)) 2 [I n]))) ((nth h.J g).S*16+n) (16 - ((nth h.J g).S*16+n) % 16).toNat l.ker ω hcc ω (p.row _ (ax (by unfold fe;omega)));rw[<-E,show(((16 - ((nth h.J g).S*16+n) % 16).toNat:Nat):Int)=16 - ((nth h.J g).S*16+n) % 16 by omega]at c8;clear C E;by_cases O:(n+15) / 16<(nth h.J g).a2
 ·rw[CJ O]at j D |-
  refine fP 81 [(332,[2,0,0]),(331,[2,0])] [ςa] Tryz.func249 rfl ?_ (.inr (ay j ⟨tV1,tV1⟩))
  repeat'(first|refine gB ?_|refine gS (λP=>?_) (λP=>?_)|refine Cq.mk (qj (some 3) (aB.enc .R) (lI (nth h.K i).U) h.J) (dt ⟨0,0,0⟩ (nth h.K i).U ⟨by decide,by decide⟩).has (λL k rcs q=>?_) ?_|refine CS rfl rfl (aa b) rfl δ rfl ?_|refine CS rfl rfl (aa c) rfl δ rfl ?_|apply CT qs|apply CY w)
  ·obtain⟨y,o,rfl,rfl,rfl⟩:=q
   exact dt y _ (d y o)
  rfl
 rw[CI O]at j D |-;refine fP 81 [(332,[2,0,0]),(331,[2,0])] [ςa] Tryz.func249 rfl ?_ (.inr (ay j ⟨tV1,tV1⟩))
 repeat'(first|refine gB ?_|refine gS (λP=>?_) (λP=>?_)|refine Cq.mk (qj (some 3) (aB.enc .R) (lI (nth h.K i).U) h.J) (dt ⟨0,0,0⟩ (nth h.K i).U ⟨by decide,by decide⟩).has (λL k rcs q=>?_) ?_|refine CS rfl rfl (aa b) rfl δ rfl ?_|refine CS rfl rfl (aa c) rfl δ rfl ?_|apply CT qs|apply CY w)
 ·obtain⟨y,o,rfl,rfl,rfl⟩:=q
  exact dt y _ (d y o)
 rfl
def Hk(h:ac)(t a:Int)(b:ac.sml h)(e:cz h=true)(j:h.G.b≠100000)(g:¬(0<=t/\t<=h.Q.length - 1)):zzA 245 false [ν h,.vI t,.vI a] (.tup [some 24,none]) (dh h++[I 1]):=by
 have c:=cR h b;rw[ed,e]at c;have i:h.Q.length<=1048576:=b.2.2.2.2.2.1.1;have d:=aH t 0 (h.Q.length - 1:Int);rw[Z0 g]at d;refine fP 163 [(327,[1,0,0]),(330,[1,0,0]),(331,[2,0]),(332,[2,0,0]),(254,[2,0,0])] [ς2,ς3] Tryz.func245 rfl ?_ (.inr (ay (ce _) ⟨tV1,tV1⟩))
 repeat'(first|refine gB ?_|apply CF (dG h b))
 rfl
def QU(m:aN)(a v:Int)(h:de m=true)(c:aN.sml m)(i:0<=a/\a<512)(j:¬(0<=v/\v<=999))(k:(au m.O (a / 16)).y≠0):zzA 338 false [.val (some 3) (aN.enc .R m),.vI a,.vI v] (.tup [some 3,none]) (aN.enc .own m++[I (if(au m.O (a / 16)).y=1 then 2 else 3)]):=by
 have d:=kD m c;have e:=vk m a h c i;have b:=aH v 0 999;rw[Z0 j]at b;by_cases g:(au m.O (a / 16)).y=1
 ·rw[CJ g]
  refine fO 42 [] Tryz.func338 rfl ?_ (.inr (ay (aN.enc_fr m) ⟨tV1,tV1⟩))
  refine σB ?_
  rfl
 rw[CI g];refine fO 42 [] Tryz.func338 rfl ?_ (.inr (ay (aN.enc_fr m) ⟨tV1,tV1⟩))
 refine σB ?_
 rfl
def DQ(h:ac)(a v:Int)(i:ac.sml h)(b:bf h [])(n:¬(0<=v/\v<=999))(e:0<=HP h a):zzA 247 false [ν h,.vI a,.vI v] (.tup [some 24,none]) (dh h++[I (if(au (tbl h) (a / 16)).y=1 then 2 else 3)]):=by
 have j:=dG h i;have k:=sU h a i b;obtain⟨o,p⟩:=NI b e;have d:=aX b.ker;have c:=QU h.G.F a v (i9 b.ker) d.1 p n o;unfold tbl;by_cases l:(au h.G.F.O (a / 16)).y=1
 ·rw[CJ l]at c |-
  refine fO 38 [] Tryz.func247 rfl ?_ (.inr (ay (ce _) ⟨tV1,tV1⟩))
  repeat'(first|refine gB ?_|refine gS (λg=>?_) (λg=>?_)|fail)
  rfl
 rw[CI l]at c |-;refine fO 38 [] Tryz.func247 rfl ?_ (.inr (ay (ce _) ⟨tV1,tV1⟩))
 repeat'(first|refine gB ?_|refine gS (λg=>?_) (λg=>?_)|fail)
 rfl
def Yd(c:aD)(k:Nat):List C:=if 0<(nth c.X k).length then [.s .own ((c.X.map (aE .own)).set k [oP (((nth c.X k).take ((nth c.X k).length - 1)).map (rI .own))]),I (nth (nth c.X k) ((nth c.X k).length - 1)),B true] else aD.enc .own c++[I (-1),B false]
def Xw(h:Lz rows):Nq (oP rows):=by
 cases rows with
 | nil=>exact⟨.inr rfl,tV1⟩
 | cons r a=>exact⟨.inl (λe=>by cases e),h⟩
variable{k:Nat}
def H7(h:Lz rows)(b:fy r):Lz (rows.set k r):=by
 induction rows generalizing k with
 | nil=>exact h
 | cons a d c=>
  simp only[Lz]at h;cases k with
  | zero=>simp only[List.set_cons_zero,Lz];exact⟨b,h.2⟩
  | succ k=>simp only[List.set_cons_succ,Lz];exact⟨h.1,c h.2⟩
def Xu(c:aD)(k:Nat):fy (Yd c k):=by
 unfold Yd;split
 ·refine⟨⟨.inl (λe=>by cases e),H7 (aZ _ _ λx _=>bH x) ⟨Xw (aZ _ _ λx _=>rj x),tV1⟩⟩,tV1,tV1,tV1⟩
 exact ay (Cr _) ⟨tV1,tV1,tV1⟩
def Dz(c:aD)(k:Nat)(p:bB c=true)(B:k<=3):zzA 317 false [.val (some 1) (aD.enc .R c),.vI (k:Nat)] (.tup [some 1,none,none]) (Yd c k):=by
 obtain⟨D,q⟩:=dZ p;have t:aD.sml c:=⟨ω,λl w=>by have:=q l w;show l.length<=1048576;omega⟩
 have j:=tY c k t;rw[p,O0 ω]at j;have n:=jX c t;have a:=mb (c:=c) (k:=k) ω;have y:=q _ (ax (xs:=c.X) (i:=k) ω);have b:=Xu c k;unfold Yd at b |-;by_cases u:0<(nth c.X k).length
 ·rw[CJ u]at b |-
  have o:=ar (xs:=nth c.X k) (i:=(nth c.X k).length - 1) ω;have d:(nth c.X k)[(((nth c.X k).length:Int) - 1).toNat]? = some (nth (nth c.X k) ((nth c.X k).length - 1)):=by rw[show(((nth c.X k).length:Int) - 1).toNat=(nth c.X k).length - 1 by omega];exact o
  have e:((((nth c.X k).length:Nat):Int) - 1)=(((nth c.X k).length - 1:Nat):Int):=ω
  have g:∀x:List C,((c.X.map (aE .own)).set k x).set k [oP (((nth c.X k).take ((nth c.X k).length - 1)).map (rI .own))]=(c.X.map (aE .own)).set k [oP (((nth c.X k).take ((nth c.X k).length - 1)).map (rI .own))]:=λx=>List.set_set ..
  have h:((nth c.X k).map (rI .own)).take ((nth c.X k).length - 1)=((nth c.X k).take ((nth c.X k).length - 1)).map (rI .own):=C8.symm;generalize ((nth c.X k).take ((nth c.X k).length - 1)).map (rI .own)=R at *;cases R with
  | nil=>
   refine fP 54 [(7000050,[])] [ς18] Tryz.func317 rfl ?_ (.inr b)
   repeat'(first|refine gB ?_|refine CK rfl (cn a) rfl ?_|refine CH (cn a) ?_|refine CO ω (aa d) ?_|refine Lq.one rfl rfl (aa a) rfl δ rfl rfl ?_|refine Ca ((nth c.X k).length - 1) e ϰ (aI λ_=>rfl) h.symm ?_|refine CS rfl rfl (cn a) rfl δ (I1 (λz=>[C.s ek.own z]) (g _).symm) ?_)
   rfl
  | cons r E=>
   refine fP 54 [(7000050,[])] [ς18] Tryz.func317 rfl ?_ (.inr b)
   repeat'(first|refine gB ?_|refine CK rfl (cn a) rfl ?_|refine CH (cn a) ?_|refine CO ω (aa d) ?_|refine Lq.one rfl rfl (aa a) rfl δ rfl rfl ?_|refine Ca ((nth c.X k).length - 1) e ϰ (aI λ_=>rfl) h.symm ?_|refine CS rfl rfl (cn a) rfl δ (I1 (λz=>[C.s ek.own z]) (g _).symm) ?_)
   rfl
 rw[CI u]at b |-;refine fP 54 [(7000050,[])] [ς18] Tryz.func317 rfl ?_ (.inr b)
 refine σB ?_
 rfl
set_option maxRecDepth 100000
def LT:∀w,(zeroValue 115).run Tryz.prog w=.ok (.agg #[.int .i64 0,.int .i64 0]) w:=λ_=>by kernel_rfl
def HD:xx Tryz.prog 412 2:=by
 refine⟨⟨_,Tryz.func412,by kernel_rfl,by kernel_rfl⟩,λw g n c i news r y o B C b=>?_⟩;obtain⟨A,X,a⟩:=uC o y r B;have a:Hid (∀t u,news[t]? = some u->w.drew.cell? (A.add t)=some u):=a;have T:Hid (news.length=(n - (i+1))*2):=o;have Y:Hid (∀u∈news,u.oneCell'=true):=C;have Z:Hid (∀t,t<news.length->(w.drew.cell? ⟨g,0+i*2+t,none⟩).isSome=true/\w.drew.frozen? ⟨g,0+i*2+t,none⟩ = false):=λt ht=>by
  rw[OD];exact b (i*2+t) ω
 obtain⟨p,d⟩ : ∃p,p=w.drew.setCells g (0+i*2) news:=⟨_,rfl⟩
 have K:∀q,q<n*2->(p.cell? ⟨g,q,none⟩).isSome=true/\p.frozen? ⟨g,q,none⟩ = false:=λq U=>by
  have D:∀j,j<news.length->∃z,cel w.drew g (0+i*2+j)=some z:=λj L=>by
   have:=(b (0+i*2+j) ω).1;exact Option.isSome_iff_exists.1 this
  refine⟨?_,by rw[d];exact(I1 Prod.fst (bW g _ news w.drew g q)).trans (b q U).2⟩;rw[d];by_cases h:0+i*2<=q/\q<0+i*2+news.length
  ·have:=bx D (Z3 (show q - (0+i*2)<news.length by omega))
   rw[show 0+i*2+(q - (0+i*2))=q by omega]at this;show(cel _ g q).isSome=true;rw[this];rfl
  show(cel _ g q).isSome=true;rw[bi (λx=>h x.2)];exact(b q U).1
 obtain⟨M,E,F,G⟩:=vf (P:=Tryz.prog) p 50 115 2 (.agg #[.int .i64 0,.int .i64 0]) Tryz.underlying50 LT rfl (by intro v V;simp[Value.cells]at V;subst V;rfl) g ((i+(n - (i+1)))*2) (n - (i+(n - (i+1)))) ω qs (λj L=>(K _ ω).1) (λj L=>(K _ ω).2);have k:Hid (M.length=(n - (i+(n - (i+1))))*2):=E;have H:Hid (∀v∈M,v.oneCell'=true):=F;have W:Hid (p=w.drew.setCells g (0+i*2) news):=d;have hic:i<=c:=ω
 have N:i+1<=c:=ω
 have O:¬i=i+1:=ω
 have Q:i+1<=n:=r;have l:n - 1=i+(n - (i+1)):=ω
 clear d K b B C o E F;rw[l];generalize L:i+1=j at X a T G k N O Q l |-;obtain⟨J,R,S⟩ : ∃J,Tryz.prog.info? 115=some J/\J.size=2:=by
  have h:=(qd 115 _ rfl).1;cases e : Tryz.prog.info? 115 with
  | none=>rw[e]at h;cases h
  | some x=>rw[e]at h;simp only[IA,O1,Prod.mk.injEq]at h;exact⟨x,rfl,h.2.1⟩
 have mixed : Tryz.prog.follows .mixedOrders=true:=by kernel_rfl
 go_enter Tryz.func412,Tryz.ntmps412
 go_wp2_with fail
 go_region_law_o (refine step_append_room rfl (.tmp 22) (.tmp 25) 50 rfl 115 J 2 Tryz.underlying50 R S g 0 i c (by simp[Act.eval,Act.put]) A (n - j) (c - j) news (by simp[Act.eval,Act.put]) T.out a.out Y.out ω Z.out ?_;rw[<-W.out])
 go_wp2
 go_ret
 refine⟨rfl,M,by have:=k.out;omega,H.out,?_⟩;rw[W.out,OD]
def G8(xs:List aC)(i:Nat)(a:i<xs.length):zzB 412 false [.mut none [.s .own (xs.map (aC.enc .own))],.vI (i:Nat),.vI ((i+1:Nat):Int)] [.mut none [.x],.vI (i:Nat),.vI ((i+1:Nat):Int)] .one [oE ((dele xs i).map (aC.enc .own))]:=by
 have h:=zB HD (rows:=xs.map (aC.enc .own)) (i:=i) (by rw[Z1];exact a) (aI λ_=>rfl) (aZ _ _ λx _=>aC.enc_fr x)
 rwa [show dele (xs.map (aC.enc .own)) i=(dele xs i).map (aC.enc .own) by simp[dele,C8,I8]]at h
variable{α:Type}
def Tn(xs:List α)(b:Nat)(y:α):dele (xs.set b y) b=dele xs b:=by
 unfold dele;rw[List.take_set_of_le (O5 b),List.drop_set_of_lt (Nat.lt_succ_self b)]
def vq(k:ah)(p:Int)(c:aG k=true)(w:k.b≠100000)(n:0<=p/\p<k.F.O.M.length)(y:(nth k.F.O.M p.toNat).y=0):zzA 373 false [.val (some 5) (ah.enc .R k),.vI p] (.tup [some 5,none]) (ah.enc .own (dP k p).1++[B (dP k p).2]):=by
 have h:=aX c;have C:=(aF.1 c).2.2.2;have D:=(bt.1 (aF.1 c).2.2.1).2.2;have d:=iA k h;rw[c,O0 w]at d;have g:=pL k h ⟨ω,ω⟩;have a:=zh k.F.W (aF.1 c).2.1 h.1.1;have j:au k.F.O p=nth k.F.O.M p.toNat:=by unfold au;exact CJ n
 have o:=aH p 0 ((k.F.O.M.length:Int) - 1);rw[O0 ω]at o;have q:=fp k p h.1.2;rw[j,y,Z0 qs]at q;have r:=ar (xs:=k.F.O.M) (i:=p.toNat) ω;unfold yh at a;unfold dP;cases e:refd k<;>rw[e]at g
 ·by_cases b:qa k<0
  ·rw[CJ (.inr b)]
   rw[CJ (show cu (λu=>!u) k.F.W.a5<0 from b)]at a;simp only at a;refine fO 64 [] Tryz.func373 rfl ?_ (.inr (ay (Ck _) ⟨tV1,tV1⟩))
   refine σP ?_
   rfl
  rw[CI (by simp[b])];rw[CI (show ¬cu (λu=>!u) k.F.W.a5<0 from b)]at a;simp only at a;obtain⟨f,t⟩:=C5 (show 0<=qa k by omega);have l:cu (λu=>!u) k.F.W.a5=(f:Nat):=t;rw[l]at a;rw[t];simp only[Z4]at a |-;rw[Fw]at a;rw[zZ];refine fO 64 [] Tryz.func373 rfl ?_ (.inr (ay (by rw[<-zZ];exact Ck _) ⟨tV1,tV1⟩))
  repeat'(first|refine gP ?_|apply CO n.1 (aa r)|refine CS rfl rfl (aa r) rfl δ rfl ?_)
  rfl
 rw[CJ (.inl rfl)];by_cases b:qa k<0
 ·rw[CJ (show cu (λu=>!u) k.F.W.a5<0 from b)]at a
  simp only at a;refine fO 64 [] Tryz.func373 rfl ?_ (.inr (ay (Ck _) ⟨tV1,tV1⟩))
  refine σP ?_
  rfl
 rw[CI (show ¬cu (λu=>!u) k.F.W.a5<0 from b)]at a;simp only at a;refine fO 64 [] Tryz.func373 rfl ?_ (.inr (ay (Ck _) ⟨tV1,tV1⟩))
 refine σP ?_
 rfl
def Yh(xs:List aC)(n:Int):List C:=(if(aA xs n).2.2=true then [oE ((aA xs n).1.map (aC.enc .own))] else bw .own xs)++[I (aA xs n).2.1,B (aA xs n).2.2]
def Xh(xs:List aC)(n:Int):fy (Yh xs n):=by
 unfold Yh;split
 ·exact ay ⟨zR (jp _).1.2,tV1⟩ ⟨tV1,tV1,tV1⟩
 exact ay (jp _) ⟨tV1,tV1,tV1⟩
def Fp(xs:List aC)(b:Nat)(y:aC):(xs.set b y).map (aC.enc .own)=(xs.map (aC.enc .own)).set b [I y.At,I y.a6]:=by rw[CC];rfl
def BG(pages:Int)(xs:List aC)(n:Int)(J:0<=pages/\pages<=1048576)(u:bJ pages xs=true)(Q:1<=n/\n<=1000)(R:xs.length<=4096):zzA 371 false [.vI pages,.val none (bw .R xs),.vI n] (.tup [none,none,none]) (Yh xs n):=by
 have p:gC xs:=⟨ω,λ_ _=>tV1⟩
 have w:=nE pages xs J p;rw[u]at w;have K:=lD xs p;have B:=(vM u).2;refine fP 91 [(412,[1,0,0])] [ρ 8 15 32] Tryz.func371 rfl ?_ (.inr (Xh xs n))
 refine σE ?_
 refine lp0 xs.length (λi=>[(1,bK (bw .R xs)),(2,fI n),(9,bK (bw .own xs)),(10,fI (gt xs n i)),(25,bK (bw .R xs)),(26,fI xs.length),(27,fN i)]) λi L=>?_
 have l:=uF xs n i L;by_cases D:i<xs.length
 ·have k:=ar D
  have M:=B _ (ax D);have d:gt xs n (i+1)=if n<=(nth xs i).a6/\(gt xs n i<0\/(nth xs i).a6<(nth xs (gt xs n i).toNat).a6) then((i:Nat):Int) else gt xs n i:=rfl
  by_cases E:n<=(nth xs i).a6
  ·by_cases N:gt xs n i<0
   ·rw[CJ ⟨E,.inl N⟩]at d
    repeat'(first|refine gE ?_|refine gS (λh=>?_) (λh=>?_)|fail)
    (refine CP (i+1) ω ω ?_)
    rw[d];exact wC
   have a:=ar (xs:=xs) (i:=(gt xs n i).toNat) ω;by_cases O:(nth xs i).a6<(nth xs (gt xs n i).toNat).a6
   ·rw[CJ ⟨E,.inr O⟩]at d
    repeat'(first|refine gE ?_|with_reducible refine CO ω (aa a) ?_|refine gS (λh=>?_) (λh=>?_)|fail)
    (refine CP (i+1) ω ω ?_)
    rw[d];exact wC
   rw[CI ω]at d
   repeat'(first|refine gE ?_|with_reducible refine CO ω (aa a) ?_|refine gS (λh=>?_) (λh=>?_)|fail)
   (refine CP (i+1) ω ω ?_)
   rw[d];exact wC
  rw[CI ω]at d
  repeat'(first|refine gE ?_|refine gS (λh=>?_) (λh=>?_)|fail)
  (refine CP (i+1) ω ω ?_)
  rw[d];exact wC
 obtain rfl:i=xs.length:=ω
 change fS xs n = -1\/_ at l;unfold Yh aA;rw[show gt xs n xs.length=fS xs n from rfl];by_cases e:fS xs n<0
 ·rw[CJ e]
  rw[show fS xs n = -1 from l.resolve_right λg=>by have S:0<=fS xs n:=g.1;omega]
  repeat'(first|refine gE ?_|refine gS (λh=>?_) (λh=>?_)|fail)
  rfl
 rw[CI e];obtain⟨P,F,T⟩:=l.resolve_left ω;change 0<=fS xs n at P;change fS xs n<xs.length at F;obtain⟨b,r⟩:=C5 (show 0<=fS xs n by omega);rw[r]at F |-;simp only[Z4];have a:=ar (xs:=xs) (i:=b) ω;have M:=B _ (ax (xs:=xs) (i:=b) ω);have c:((xs.map (aC.enc .own)).set b [I ((nth xs b).At+n),I (nth xs b).a6])[b]? = some [I ((nth xs b).At+n),I (nth xs b).a6]:=jP ω;have j:((xs.set b ⟨(nth xs b).At+n,(nth xs b).a6 - n⟩).map (aC.enc .own))[b]? = some [I ((nth xs b).At+n),I ((nth xs b).a6 - n)]:=by rw[Fp];exact jP ω
 have o:∀t:List C,t.set 0 (.s .own (((xs.map (aC.enc .own)).set b [I ((nth xs b).At+n),I (nth xs b).a6]).set b [I ((nth xs b).At+n),I ((nth xs b).a6 - n)]))=t.set 0 (.s .own ((xs.set b ⟨(nth xs b).At+n,(nth xs b).a6 - n⟩).map (aC.enc .own))):=λt=>by rw[Fp,List.set_set]
 have q:=G8 (xs.set b ⟨(nth xs b).At+n,(nth xs b).a6 - n⟩) b (by rw[O2];omega);rw[Tn]at q;by_cases G:(nth xs b).a6=n
 ·rw[CJ G]
  generalize dele xs b=H at q |-;cases H with
  | nil=>
   repeat'(first|refine gB ?_|refine gS (λh=>?_) (λh=>?_)|refine CH c ?_|refine CH j ?_|refine CK rfl c rfl ?_|refine CK rfl j rfl ?_|refine CS rfl rfl (aa a) rfl δ rfl ?_|refine CS rfl rfl c rfl δ (o _).symm ?_)
   rfl
  | cons y H=>
   repeat'(first|refine gB ?_|refine gS (λh=>?_) (λh=>?_)|refine CH c ?_|refine CH j ?_|refine CK rfl c rfl ?_|refine CK rfl j rfl ?_|refine CS rfl rfl (aa a) rfl δ rfl ?_|refine CS rfl rfl c rfl δ (o _).symm ?_)
   rfl
 rw[CI G]
 repeat'(first|refine gB ?_|refine gS (λh=>?_) (λh=>?_)|refine CH c ?_|refine CH j ?_|refine CK rfl c rfl ?_|refine CK rfl j rfl ?_|refine CS rfl rfl (aa a) rfl δ rfl ?_|refine CS rfl rfl c rfl δ (o _).symm ?_)
 rw[CJ rfl,r7 (by rw[Ne,List.map_eq_nil_iff,<-List.length_eq_zero_iff,O2];omega)]
 rfl
variable{P:Program}
def pu(w:World)(dT sT ty elem:TypeId)(k b o dLen dCap:Nat)(a:Addr)(sLen sCap n:Nat)(cs:List Value)(h:P.underlying dT=some (.slice elem))(g:(P.info? elem).map (·.size)=some k)(l:Nat.min sLen dLen=n)(p:cs.length=n*k)(c:∀j v,cs[j]? = some v->w.cell? (a.add j)=some v)(q:∀j,j<cs.length->(w.cell? ⟨b,o+j,none⟩).isSome=true)(r:∀j,j<cs.length->w.frozen? ⟨b,o+j,none⟩ = false)(h1:∀v∈cs,v.oneCell'=true) :
  (Builtin.copy_ #[dT,sT] ty #[.slice (some ⟨b,o,none⟩) dLen dCap,.slice (some a) sLen sCap]).run P w=.ok (goInt n) (w.setCells b o cs):=by
 have d:=run_loadCells_list (P:=P) w a cs c;have e:=run_storeCells_cells (P:=P) b o cs 0 w (by simpa using q) (by simpa using r) h1;rw[p]at d;cases f:P.info? elem with
 | none=>simp[f]at g
 | some i=>
  have t:i.size=k:=by simpa[f] using g
  simp[Builtin.copy_,run_underlying h,Builtin.lenOf,Builtin.firstCells,sizeOf,typeInfo,f,t,l,d,e]
variable{Q:Exit->Act->World->Prop}{ops:Array Oper}
def nK(w:World){rest:List Oper}{o:Oper}{a:Act}(b:o.guard=none)(d s:Operand)(t c:TypeId)(g:o.op=.call {callee:=.builtin .copy,args:=#[d,s],argTypes:=#[t,c]})(v u:Value)(i:a.eval d=v)(j:a.eval s=u){e:Value}{f:World}(k:(Builtin.copy_ #[t,c] o.type #[v,u]).run P w=.ok e f)(h:wpList P ops Q rest (a.put o.dst e) f):wpList P ops Q (o::rest) a w:=by
 refine wpList_plain b λ_ l=>?_
 unfold Oper.wp execOp;simp only[g,resolve,invoke,builtin,Sem.run_bind,Sem.run_pure,Result.andThen_ok,List.map_toArray,SB,List.map_nil,i,j,k];exact l _ _ h
variable{w:World}
theorem xK{o:Oper}{a:Act}{K:Act->World->Prop}{E:Prop}(k:o.guard=none)(d x:Operand)(dT sT:TypeId)(b:o.op=Op.call {callee:=Callee.builtin Builtin.copy,args:=#[d,x],argTypes:=#[dT,sT]})(v u:Value)(f:a.eval d=v)(g:a.eval x=u){c:Value}{e:World}(h:(Builtin.copy_ #[dT,sT] o.type #[v,u]).run P w=.ok c e)(i:K (a.put o.dst c) e) :
  if Region.wanted o (yielded ops a.tmps)=true then Oper.wp P o a w K Q else E:=by
 have j:Region.wanted o (yielded ops a.tmps)=true:=by grind[Go.Region.wanted]
 rw[CJ j];unfold Oper.wp;simp[execOp,b,resolve,invoke,builtin,f,g,h,Result.andThen];exact i
def Pz(b:Nat):∀(vs:List Value)(o:Nat)(w:World),(w.setCells b o vs).drew=w.drew.setCells b o vs
 | [],_,_=>rfl
 | v::r,o,w=>by rw[World.setCells,World.setCells,Pz b r];rfl
theorem Fd(b:Nat)(vs:List Value)(o:Nat)(w:World)(h:∀j,j<vs.length->(w.cell? ⟨b,o+j,none⟩).isSome=true)(q:Nat)(c:(w.cell? ⟨b,q,none⟩).isSome=true):((w.setCells b o vs).cell? ⟨b,q,none⟩).isSome=true:=by
 by_cases a:o<=q/\q<o+vs.length
 ·have:=World.cell?_setCells_in b vs o w h (q - o) ω
  grind
 grind[Go.World.cell?_setCells_out]
variable{g:Nat}
theorem Kg{z:Value}(c:cel w g 0=some z)(a:fro w g 0=NF):∃t k,w.shape? g=some (t,k)/\k≠0/\w.frozen? ⟨g,0,none⟩ = false/\w.frozen? ⟨g,k,none⟩ = false:=by
 have d:=I1 Prod.fst a;have b:=I1 Prod.snd a;simp only[fro]at d b;unfold mp at b;unfold cel World.cell? at c;unfold World.shape?
 grind[Go.World.frozen?]
variable{e:Nat}
def Ju{tS tR a b:Nat}{z h:Value}(i:P.underlying tS=some (.slice e))(j:∀w,(Go.sizeOf e).run P w=.ok k w)(c:a≠b)(h1:cel w a 0=some z)(h2:fro w a 0=NF)(l:cel w b 0=some h)(n:fro w b 0=NF)(x la d f g:Nat) :
  (Extern.SlicesOverlaps.overlaps #[tS,tS] #[tR] #[.slice (some ⟨a,0,none⟩) la d,.slice (some ⟨b,x,none⟩) f g]).run P w=.ok (.bool false) w:=by
 obtain⟨tA,kA,o,u,p,q⟩:=Kg h1 h2;obtain⟨tB,kB,r,t,-,-⟩:=Kg l n;exact Lib.run_overlaps_apart w tS tR e i k j ⟨a,0,none⟩ ⟨b,x,none⟩ la d f g c tA tB kA kB o r t p q
structure BK(w w':World)(g G k n c c' i:Nat)(olds vs:List Value):Prop where
 keep:bu (λb o=>b=g/\o<c*k) w w'
 cel:∀q u,(olds.take (i*k)++vs++olds.drop (i*k))[q]? = some u->cel w' G q=some u
 all:∀q,q<c'*k->(∃z,Ab.cel w' G q=some z/\z.oneCell'=true)/\fro w' G q=NF
 at_:(G=g/\c'=c)\/(w.heap.size<=G/\G<w'.heap.size)
variable{i n:Nat}{olds vs:List Value}
theorem JP{q:Nat}{u:Value}(a:i<n)(b:olds.length=n*k)(c:vs.length=k)(h:(olds.take (i*k)++vs++olds.drop (i*k))[q]? = some u) :
  q<(n+1)*k/\((q<i*k/\olds[q]? = some u)\/(i*k<=q/\q<i*k+k/\vs[q - i*k]? = some u)\/(i*k+k<=q/\(olds.drop (i*k))[q - (i*k+k)]? = some u)):=by grind[CE]
variable{c:Nat}
theorem JG(p:i<n)(r:n+1<=c)(y:olds.length=n*k)(A:vs.length=k)(J:∀t u,olds[t]? = some u->cel w g t=some u)(h1:∀u∈olds,u.oneCell'=true)(h2:∀u∈vs,u.oneCell'=true)(a:∀q,q<c*k->(∃z,cel w g q=some z/\z.oneCell'=true)/\fro w g q=NF) :
  BK w ((w.drew.setCells g ((i+1)*k) (olds.drop (i*k))).setCells g (i*k) vs) g g k n c c i olds vs:=by
 have B:i*k<=n*k:=CE k ω;have C:(n+1)*k<=c*k:=CE k r;have K:(n+1)*k=n*k+k:=ψ
 have L:(i+1)*k=i*k+k:=ψ
 have D:(olds.drop (i*k)).length=n*k - i*k:=ψ
 have M:∀b q,cel w.drew b q=cel w b q:=λ_ _=>rfl
 have in1:∀j,j<(olds.drop (i*k)).length->∃z,cel w.drew g ((i+1)*k+j)=some z:=λj E=>by
  obtain⟨⟨z,e,-⟩,-⟩:=a ((i+1)*k+j) ω;exact⟨z,e⟩
 have all1:∀q,q<c*k->∃z,cel (w.drew.setCells g ((i+1)*k) (olds.drop (i*k))) g q=some z/\z.oneCell'=true:=λq d=>by
  by_cases h:(i+1)*k<=q/\q<(i+1)*k+(olds.drop (i*k)).length
  ·obtain⟨u,F⟩ : ∃u,(olds.drop (i*k))[q - (i+1)*k]? = some u:=(ψ)
   grind[bx]
  grind[bi]
 have in2:∀j,j<vs.length->∃z,cel (w.drew.setCells g ((i+1)*k) (olds.drop (i*k))) g (i*k+j)=some z:=λj E=>by
  obtain⟨z,e,-⟩:=all1 (i*k+j) ω;exact⟨z,e⟩
 refine⟨?_,λq u d=>?_,λq d=>⟨?_,by rw[bW,bW];exact(a q d).2⟩,.inl ⟨rfl,rfl⟩⟩
 ·have G:=eI (g:=g) (X:=λb o=>b=g/\o<c*k) (olds.drop (i*k)) ((i+1)*k) w.drew ω
  have H:=eI (g:=g) (X:=λb o=>b=g/\o<c*k) vs (i*k) (w.drew.setCells g ((i+1)*k) (olds.drop (i*k))) ω;exact((zv w).up λ_ _ h=>h.elim).trans (G.trans H λ_ _ h=>.inr h) λ_ _ h=>.inr h
 ·obtain⟨-,⟨l,f⟩|⟨l,f,N⟩|⟨l,f⟩⟩:=JP p y A d
  ·grind[bi]
  ·grind[bx]
  rw[bi ω];have O:=bx in1 f
  simp_all
 by_cases h:i*k<=q/\q<i*k+vs.length
 ·obtain⟨u,F⟩ : ∃u,vs[q - i*k]? = some u:=(ψ)
  grind[bx]
 grind[bi]
theorem LD{a:World}{G:Nat}{Z:Array Value}(V:a.heap=(w.alloc (.cells ((olds.take (i*k)).toArray++Builtin.zeroCells Z (n+1 - i)++Builtin.zeroCells Z (G - (n+1))) e)).heap)(t:a.os=w.os)(y:a.tape=w.tape)(A:a.output=w.output)(W:i<n)(Y:n+1<=G)(hZ:Z.size=k)(hz1:∀v∈Z.toList,v.oneCell'=true)(M:olds.length=n*k)(l:vs.length=k)(h1:∀u∈olds,u.oneCell'=true)(h2:∀u∈vs,u.oneCell'=true) :
  BK w ((a.setCells w.heap.size (i*k) vs).setCells w.heap.size ((i+1)*k) (olds.drop (i*k))) g w.heap.size k n c G i olds vs:=by
 have B:i*k<=n*k:=CE k ω;have hGk:(n+1)*k<=G*k:=CE k Y;have e1:(n+1)*k=n*k+k:=ψ
 have e2:(i+1)*k=i*k+k:=ψ
 have hdl:(olds.drop (i*k)).length=n*k - i*k:=ψ
 generalize hcells:(olds.take (i*k)).toArray++Builtin.zeroCells Z (n+1 - i)++Builtin.zeroCells Z (G - (n+1))=cells at V;have C:∀b q,cel a b q=cel (w.alloc (.cells cells e)) b q:=λb q=>by grind[Go.World.cell?]
 have d:∀b q,fro a b q=fro (w.alloc (.cells cells e)) b q:=λb q=>by grind[Go.World.frozen?,mp]
 have hsz:cells.size=G*k:=by
  rw[<-hcells];simp only[Array.size_append,List.size_toArray,Z2,size_zeroCells,hZ,M,Nat.min_eq_left B];rw[<-Nat.add_mul,<-Nat.add_mul]
  congr 1;omega
 have N:∀v∈cells.toList,v.oneCell'=true:=by
  have hzz:∀m,∀v∈(Builtin.zeroCells Z m).toList,v.oneCell'=true:=λm v l=>by
   rw[Array.mem_toList_iff]at l;simp only[Builtin.zeroCells,Array.mem_map,Array.mem_range]at l
   grind[Nat.mod_lt]
  grind
 have O:∀q,cel a w.heap.size q=cells[q]?:=by simp_all
 have D:∀q,q<G*k->∃z,cel a w.heap.size q=some z/\z.oneCell'=true:=by simp_all
 have E:∀q u,q<i*k->olds[q]? = some u->cells[q]? = some u:=ψ
 have P:∀q,fro a w.heap.size q=NF:=λq=>(d _ _).trans (iO w cells e q)
 have hK:bu NO w a:=by
  have Q:bu NO w (w.alloc (.cells cells e)):=cQ w _;exact⟨t,y,A,by simp_all,λb p r=>by grind[bu.blk],λb o p r=>(C b o).trans (Q.cel b o p r),λb o p r=>(d b o).trans (Q.fro b o p r)⟩
 have hS:a.heap.size=w.heap.size+1:=by simp_all
 have R:=eI (g:=w.heap.size) (X:=λb o=>b=w.heap.size) vs (i*k) a λj F=>rfl
 have S:=eI (g:=w.heap.size) (X:=λb o=>b=w.heap.size) (olds.drop (i*k)) ((i+1)*k) (a.setCells w.heap.size (i*k) vs) λj F=>rfl
 have in1:∀j,j<vs.length->∃z,cel a w.heap.size (i*k+j)=some z:=λj F=>by
  obtain⟨z,H,-⟩:=D (i*k+j) ω;exact⟨z,H⟩
 have all1:∀q,q<G*k->∃z,cel (a.setCells w.heap.size (i*k) vs) w.heap.size q=some z/\z.oneCell'=true:=λq J=>by
  by_cases h:i*k<=q/\q<i*k+vs.length
  ·obtain⟨u,K⟩ : ∃u,vs[q - i*k]? = some u:=⟨_,Z3 ω⟩
   have f:=bx in1 K;rw[show i*k+(q - i*k)=q by omega]at f
   grind
  grind[bi]
 have in2:∀j,j<(olds.drop (i*k)).length->∃z,cel (a.setCells w.heap.size (i*k) vs) w.heap.size ((i+1)*k+j)=some z:=λj F=>by
  obtain⟨z,H,-⟩:=all1 ((i+1)*k+j) ω;exact⟨z,H⟩
 have T:w.heap.size<((a.setCells w.heap.size (i*k) vs).setCells w.heap.size ((i+1)*k) (olds.drop (i*k))).heap.size:=by
  have:=R.size;have:=S.size;omega
 refine⟨?_,λq u J=>?_,λq J=>⟨?_,by grind[bW]⟩,.inr ω⟩
 ·exact(hK.up λ_ _ h=>h.elim).trans (R.trans S λ_ _ h=>.inr h) ω
 ·obtain⟨-,⟨U,L⟩|⟨U,L,a3⟩|⟨U,L⟩⟩:=JP W M l J
  ·grind[bi]
  ·rw[bi ω]
   have f:=bx in1 a3
   simp_all
  have f:=bx in2 L
  simp_all
 by_cases h:(i+1)*k<=q/\q<(i+1)*k+(olds.drop (i*k)).length
 ·obtain⟨u,K⟩ : ∃u,(olds.drop (i*k))[q - (i+1)*k]? = some u:=⟨_,Z3 ω⟩
  have f:=bx in2 K;rw[show(i+1)*k+(q - (i+1)*k)=q by omega]at f
  grind
 grind[bi]
structure Uv(P:Program)(f k T b:Nat):Prop where
 has:JY P f
 end_:∀(w w1:World)(base:Option Addr)(n c vb m vc:Nat)(r:Value),m=1->n<=c->n<=1073741824->(base=none->n=0/\c=0)->(Builtin.append_ #[T,T] T #[.slice base n c,.slice (some ⟨vb,0,none⟩) m vc]).run P w=.ok r w1->
  Calls P f #[.slice base n c,.int .i64 n,.slice (some ⟨vb,0,none⟩) m vc] w λe w'=>e=.returned r/\w'=w1
 mid:∀(w:World)(g n c i vb m vc:Nat)(olds vs:List Value),m=1->i<n->n<=c->n<=1073741824->b<=1000->olds.length=n*k->vs.length=k->(∀t u,olds[t]? = some u->cel w g t=some u)->(∀t u,vs[t]? = some u->cel w vb t=some u)->
  (∀u∈olds,u.oneCell'=true)->(∀u∈vs,u.oneCell'=true)->(∀q,q<c*k->(∃z,cel w g q=some z/\z.oneCell'=true)/\fro w g q=NF)->fro w vb 0=NF->vb≠g->
  Calls P f #[.slice (some ⟨g,0,none⟩) n c,.int .i64 i,.slice (some ⟨vb,0,none⟩) m vc] w λe w'=>∃G c',e=.returned (.slice (some ⟨G,0,none⟩) (n+1) c')/\n+1<=c'/\BK w w' g G k n c c' i olds vs
def inse(xs:List α)(i:Nat)(y:α):List α:=xs.take i++y::xs.drop i
theorem KU(xs:List α)(i:Nat)(y:α):(inse xs i y).length=xs.length+1:=by grind[inse]
theorem zT{xs:List α}{y z:α}(h:z∈inse xs i y):z=y\/z∈xs:=by grind[inse]
theorem Db{β:Type}(e:α->β)(xs:List α)(i:Nat)(y:α):inse (xs.map e) i (e y)=(inse xs i y).map e:=by grind[C8,I8,inse]
variable{row:List C}
theorem RB{a b:Nat}{c:C}(d:i<=rows.length)(q:olds.length=rows.length*k)(e:vs.length=k)(t:b<k)(f:∀(a b:Nat)(r:List C)(c:C),rows[a]? = some r->r[b]? = some c->∃z,c=C.v z/\olds[a*k+b]? = some z)(u:∀(b:Nat)(c:C),row[b]? = some c->∃z,c=C.v z/\vs[b]? = some z)(h1:(inse rows i row)[a]? = some r)(h2:r[b]? = some c):∃z,c=.v z/\(olds.take (i*k)++vs++olds.drop (i*k))[a*k+b]? = some z:=by
 have g:i*k<=rows.length*k:=CE k d;have j:(olds.take (i*k)).length=i*k:=ψ
 unfold inse at h1;by_cases h:a<i
 ·grind[cJ]
 rw[C9 ψ,Z2,Nat.min_eq_left d]at h1;have l:i*k<=a*k:=CE k ω;by_cases w:a=i
 ·grind
 obtain⟨m,rfl⟩ : ∃m,a=i+(m+1):=⟨a - i - 1,ω⟩
 rw[show i+(m+1) - i=m+1 by omega,List.getElem?_cons_succ,List.getElem?_drop]at h1;obtain⟨z,rfl,n⟩:=f (i+m) b r c h1 h2;have o:(i+(m+1))*k=i*k+k+m*k:=ψ
 have p:(i+m)*k=i*k+m*k:=Nat.add_mul ..;refine⟨z,rfl,?_⟩;rw[C9 ψ,C6,j,e,List.getElem?_drop,o,show i*k+(i*k+k+m*k+b - (i*k+k))=i*k+m*k+b by omega,<-p];exact n
theorem Yf(h:WX rows):Lz rows:=by
 have b:∀r:List C,(∀c∈r,∃z,c=C.v z)->fy r:=by
  intro r
  induction r with
  | nil=>exact λ_=>tV1
  | cons c r a=>intro h;obtain⟨z,rfl⟩:=h c ϕ;exact⟨tV1,a ψ⟩
 induction rows with
 | nil=>exact tV1
 | cons r e a=>exact⟨b r (h r ϕ),a λr d=>h r (by simp[d])⟩
variable{f:Nat}
theorem MJ{T:Nat}{d:TypeInfo}{z0:Value}(ht:P.underlying T=some (.slice e))(hi0:P.info? e=some d)(hk0:d.size=k)(hz:d.zero=some z0)(hzs:z0.cells.size=d.size)(hz1:∀x∈z0.cells.toList,x.oneCell'=true)(hby:d.bytes<=1000)(hf:Uv P f k T d.bytes)(hi:i<=rows.length)(W:∀r∈rows,r.length=k)(hr:row.length=k)(hpk:0<k)(hsc:WX rows)(hsr:WX [row])(hlen:rows.length+1<=1073741824) :
  aU P f false [.mut none [.s .own rows],.vI (i:Nat),.mut none [.s .own [row]]] [.mut none [.x],.vI (i:Nat),.mut none [.x]] .one [.s .own (inse rows i row)]:=by
 subst hk0;refine⟨hf.has,λw S V vs hS hV hVV F=>?_⟩
 match vs,F with
 | [v,v1,v2],⟨F,hA1,hA2,_⟩=>
  have p:=bm.rep1 (show bm w S (V 0) none [C.s .own rows] v from F);have e1:v1=.int .i64 (i:Nat):=by
   have:=bm.rep1 (show bm w S NO none [C.v (.int .i64 (i:Nat))] v1 from hA1);cases this;rfl
  have A:=bm.rep1 (show bm w S (V 2) none [C.s .own [row]] v2 from hA2);subst e1;have hk2:∀r∈[row],r.length=d.size:=(ψ)
  have hsc':WX (inse rows i row):=λr L=>(zT L).elim (λh=>hsr r (by simp[h])) (hsc r)
  have B:∀(w1:World)(vv:Value)(X:af),bu (λb o=>∃i,V i b o) w w1->(∀b o,X b o->V 0 b o\/V 2 b o\/(w.heap.size<=b/\b<w1.heap.size))->cU w1 S X (.s .own (inse rows i row)) vv->
    ∃K,Ending.returned vv=Ending.returned K/\bu (λb o=>∃i,V i b o) w w1/\∃(X:af)(Y:Nat->af)(S1:af),
   (∀b o,X b o->(∃i,V i b o)\/(b<w1.heap.size/\w.heap.size<=b))/\(∀i b o,Y i b o->(∃i,V i b o)\/(b<w1.heap.size/\w.heap.size<=b))/\
   (∀b o,S1 b o->(false=true/\S b o)\/(∃i,V i b o)\/(b<w1.heap.size/\w.heap.size<=b))/\
   (∀i i',i≠i'->∀b o,Y i b o->¬Y i' b o)/\(∀i b o,X b o->¬Y i b o)/\(∀b o,X b o->¬S1 b o)/\(∀i b o,Y i b o->¬S1 b o)/\
   fZ w1 NO .one 1 K/\cw w1 S1 X [.s .own (inse rows i row)] (co w1 .one K)/\AY w1 (λb o=>S b o\/S1 b o) Y [.mut none [.x],.vI (i:Nat),.mut none [.x]] [v,.int .i64 (i:Nat),v2]:=by
   intro w1 vv X l hX hR;have hfr:Nq (.s .own (inse rows i row)):=by grind[Yf,Nq]
   exact⟨_,rfl,l,X,λ_=>NO,NO,ψ,λ_ _ _ h=>h.elim,λ_ _ h=>h.elim,λ_ _ _ _ _ h=>h.elim,λ_ _ _ _ h=>h.elim,λ_ _ _ h=>h.elim,λ_ _ _ h=>h.elim,rfl,row1 (hR.fresh hfr),
       ⟨⟨rfl,λ_=>v,rfl,row1 (.x _ _ p.one)⟩,tV1,⟨rfl,λ_=>v2,rfl,row1 (.x _ _ A.one)⟩,tV1⟩⟩
  rcases A.els ϕ hk2 with⟨h,-⟩|⟨M,vc,u2,f2,rfl,-,hvc,hcell2,hu2,t⟩
  ·cases h
  simp only[List.length_singleton,Nat.one_mul]at hvc hu2;by_cases hin:i=rows.length
  ·have hreads:qb w (some ⟨M,0,none⟩) ([row].length*d.size) ((List.range ([row].length*d.size)).map u2):=by
    refine⟨by simp,ψ,λad j u had hj=>?_⟩
    grind[Go.Addr.add_lit]
   obtain⟨K,w1,hrun,hk1,hR⟩:=tJ (P:=P) (ty:=T) ht hi0 hz hzs hz1 p W (V:=V 2) (xr:=[row]) (u2:=u2) (f2:=f2) ⟨t.hk,λq N b o h=>(t.hf q N b o h).1,t.hd,t.hc⟩ (b:=some ⟨M,0,none⟩) (c:=vc)
    hreads
    ψ ψ ψ ψ hS.1 kd (by
      have:(rows.length+[row].length)*d.bytes<=1073741824*1000:=Nat.mul_le_mul (by simpa using hlen) hby;omega)
   have hins:inse rows i row=rows++[row]:=by grind[inse]
   rw[<-hins]at hR;have hfin:∀(base:Option Addr)(c:Nat),v=.slice base rows.length c->rows.length<=c->(base=none->rows.length=0/\c=0)->Calls P f #[v,.int .i64 (i:Nat),.slice (some ⟨M,0,none⟩) 1 vc] w λe H=>e=.returned K/\H=w1:=λbase c hv hc hb=>by
    subst hv;rw[hin];exact hf.end_ w w1 base rows.length c M 1 vc K rfl hc ω hb hrun
   have hgo:Calls P f #[v,.int .i64 (i:Nat),.slice (some ⟨M,0,none⟩) 1 vc] w λe H=>e=.returned K/\H=w1:=by
    rcases p.els ϕ W with⟨h0,a0,hv⟩|⟨g,O,u,f',hv,hpos,D,-⟩
    all_goals grind
   refine hgo.mono λe H ⟨he,hw⟩=>?_
   subst he hw;exact B H K _ (hk1.up ψ) (λb o h=>h) hR
  rcases p.els ϕ W with⟨h0,a0,hv⟩|⟨g,O,u,f',rfl,hpos,D,E,hu,hE⟩
  ·grind
  have hlt:i<rows.length:=ω
  have Q:∀(n j:Nat)(y:Value)(uu:Nat->Value),((List.range n).map uu)[j]? = some y->j<n/\y=uu j:=ψ
  have hmapr:∀(n j:Nat)(uu:Nat->Value),j<n->((List.range n).map uu)[j]? = some (uu j):=ψ
  obtain⟨olds,R⟩ : ∃olds,olds=(List.range (rows.length*d.size)).map u:=⟨_,rfl⟩
  obtain⟨vs,hvs⟩ : ∃vs,vs=(List.range d.size).map u2:=⟨_,rfl⟩
  have hol:olds.length=rows.length*d.size:=by rw[R];simp
  have hvl:vs.length=d.size:=by rw[hvs];simp
  have hck:rows.length*d.size<=O*d.size:=CE _ D;have hv0:=hcell2 0 (Nat.mul_pos ω hpk);have hg0:=E 0 (Nat.mul_pos ω hpk);have hne:M≠g:=ψ
  refine(hf.mid w g rows.length O i M 1 vc olds vs rfl hlt D ω hby hol hvl ψ ψ (λy hy=>ψ) (λy hy=>by
      rw[hvs]at hy;obtain⟨j,hj⟩:=List.getElem?_of_mem hy;obtain⟨a1,rfl⟩:=Q _ _ _ _ hj;exact t.one (by simpa using a1)) (λq N=>(E q N).2) hv0.2.2 hne).mono λe H ⟨G,c',he,U,F⟩=>?_
  subst he;have l:bu (λb o=>∃i,V i b o) w H:=F.keep.up ψ;refine B H _ (λb o=>V 0 b o\/(w.heap.size<=b/\b<H.heap.size)) l ψ ?_;refine .own _ .own G d.size (rows.length+1) c' _ (λq=>(cel H G q).getD undef) (λ_=>NO) tV1 (KU ..) (λr L=>(zT L).elim ψ (W r)) U ω (λq N=>⟨?_,F.all q N⟩) (λq N=>?_) (λ_ _ _ _ h=>h.elim) (λ_ _ _ _ _ _ _ h=>h.elim) (λa b r c ha hb=>?_)
  ·rcases F.at_ with⟨rfl,rfl⟩|h
   all_goals grind
  ·obtain⟨z,J,-⟩:=(F.all q (I7 N (CE _ U))).1
   rw[J];rfl
  have hbk:b<d.size:=by
   have:r.length=d.size:=(zT (I3 ha)).elim ψ (W r)
   grind
  have hal:=(C4.1 ha).1;rw[KU]at hal;obtain⟨y,rfl,hy⟩:=RB (olds:=olds) (vs:=vs) hi hol hvl hbk (λa b r c h1 h2=>by
      obtain⟨y,rfl⟩:=hsc r ψ c ψ;have Z:=hE.hc a b r _ h1 h2;have h4:=nG rfl W h1 h2;generalize hyy:u (a*d.size+b)=yy at Z;cases Z
      grind[cJ]) (λb c h2=>by
      obtain⟨y,rfl⟩:=hsr row ϕ c ψ;have Z:=t.hc 0 b row _ rfl h2;simp only[Nat.zero_mul,OD]at Z;have h4:=(C4.1 h2).1;generalize hyy:u2 b=yy at Z;cases Z
      grind) ha hb
  have J:=F.cel _ y hy;simp only[J,Option.getD_some];obtain⟨z,h5,h6⟩:=(F.all (a*d.size+b) (I7 (cJ hal hbk) (CE _ U))).1;rw[J]at h5;cases h5;exact .v _ _ h6
set_option maxRecDepth 100000
inductive IQ:Nat->Nat->Nat->Nat->Nat->Prop
 |oq:IQ 244 323 53 99 4
 |lq:IQ 322 376 52 191 3
 |sq:IQ 375 416 51 175 3
section
variable{f v S E k:Nat}
def IQ.u(q:IQ f v S E k) : Tryz.prog.underlying S=some (.slice E):=by cases q<;>kernel_rfl
def IQ.sz(q:IQ f v S E k):∀w,(Go.sizeOf E).run Tryz.prog w=.ok k w:=by cases q<;>exact λ_=>by kernel_rfl
def IQ.pos(q:IQ f v S E k):3<=k/\k<=4:=by cases q<;>exact⟨by decide,by decide⟩
def VK{E:Nat}{t:TI}{n:Nat}(g:TE E=some t)(i:t.size=n)(j:t.zero.length=n)(k:t.bytes=8*n)(l:(t.zero.map cval).all (λv=>v.oneCell')=true):∃(b:TypeInfo)(c:Value),Tryz.prog.info? E=some b/\b.size=n/\b.zero=some c/\c.cells.size=n/\(∀v∈c.cells.toList,v.oneCell'=true)/\b.bytes=8*n:=by
 have h:=(qd E _ g).1;cases e : Tryz.prog.info? E with
 | none=>rw[e]at h;cases h
 | some x=>
  rw[e]at h;simp only[IA,O1,Prod.mk.injEq]at h;obtain⟨a,o,p⟩:=h;cases d:x.zero with
  | none=>rw[d]at a;cases a
  | some z=>
   rw[d]at a;simp only[IA,O1]at a;refine⟨x,z,rfl,o.trans i,d,?_,λv f=>?_,p.trans k⟩
   ·rw[<-Array.length_toList,a,Z1];exact j
   rw[a]at f;exact S7.1 l v f
def Ah(q:IQ f v S E k):∃(a:TypeInfo)(b:Value),Tryz.prog.info? E=some a/\a.size=k/\a.zero=some b/\b.cells.size=k/\(∀v∈b.cells.toList,v.oneCell'=true)/\a.bytes=8*k:=by cases q<;>exact VK rfl rfl rfl rfl rfl
def IQ.has(q:IQ f v S E k):JY Tryz.prog f:=by
 cases q
 ·exact⟨_,Tryz.func244,by kernel_rfl,by kernel_rfl⟩
 ·exact⟨_,Tryz.func322,by kernel_rfl,by kernel_rfl⟩
 exact⟨_,Tryz.func375,by kernel_rfl,by kernel_rfl⟩
def WO(q:IQ f v S E k){w:World}{a g m n:Nat}{y p:Value}(o:Nat)(b:a≠g)(r:cel w a 0=some y)(c:fro w a 0=NF)(d:cel w g 0=some p)(h:fro w g 0=NF):∀i j,(callFunc v #[.slice (some ⟨a,0,none⟩) m n,.slice (some ⟨g,o,none⟩) i j]).run Tryz.prog w=.ok (.value (.bool false)) w:=λi j=>by
 have l:=Ju (tR:=4) q.u q.sz b r c d h o m n i j;cases q
 ·rw[run_callFunc_extern Tryz.func323 ϖ ϖ ϖ (e:=Extern.SlicesOverlaps.overlaps #[53,53] #[4]) ϖ,l];rfl
 ·rw[run_callFunc_extern Tryz.func376 ϖ ϖ ϖ (e:=Extern.SlicesOverlaps.overlaps #[52,52] #[4]) ϖ,l];rfl
 rw[run_callFunc_extern Tryz.func416 ϖ ϖ ϖ (e:=Extern.SlicesOverlaps.overlaps #[51,51] #[4]) ϖ,l];rfl
def Ud(q:IQ f v S E k)(w w1:World)(base:Option Addr)(n c d m g:Nat)(r:Value)(i:m=1)(j:n<=c)(h:n<=1073741824)(l:base=none->n=0/\c=0)(b:(Builtin.append_ #[S,S] S #[.slice base n c,.slice (some ⟨d,0,none⟩) m g]).run Tryz.prog w=.ok r w1) :
  Calls Tryz.prog f #[.slice base n c,.int .i64 n,.slice (some ⟨d,0,none⟩) m g] w λe o=>e=.returned r/\o=w1:=by
 have mixed : Tryz.prog.follows .mixedOrders=true:=by kernel_rfl
 have p:0<m:=ω
 have t:m<=1:=ω
 clear i;have u:¬((m:Int)=0):=ω
 cases q
 case' oq=>go_enter Tryz.func244,Tryz.ntmps244
 case' lq=>go_enter Tryz.func322,Tryz.ntmps322
 case' sq=>go_enter Tryz.func375,Tryz.ntmps375
 all_goals
  cases base with
  | none=>
   obtain⟨rfl,rfl⟩:=l rfl
   go_wp2_with (at_builtin;refine Lib.wpList_append_run _ rfl _ _ _ _ rfl _ _ rfl rfl _ _ b ?_)
   go_ret
   exact⟨rfl,rfl⟩
  | some a=>
   obtain⟨y,B,asp⟩:=a
   go_wp2_with (at_builtin;refine Lib.wpList_append_run _ rfl _ _ _ _ rfl _ _ rfl rfl _ _ b ?_)
   all_goals(go_ret;exact⟨rfl,rfl⟩)
def Mf(q:IQ f v S E k)(w:World)(g n c i p m M:Nat)(olds vs:List Value)(X:m=1)(hi:i<n)(Y:n<=1073741824)(r:n+m<=c)(O:olds.length=n*k)(D:vs.length=k)(ho:∀t u,olds[t]? = some u->cel w g t=some u)(N:∀t u,vs[t]? = some u->cel w p t=some u)(h1:∀u∈olds,u.oneCell'=true)(h2:∀u∈vs,u.oneCell'=true)(b:∀q,q<c*k->(∃z,cel w g q=some z/\z.oneCell'=true)/\fro w g q=NF)(P:fro w p 0=NF)(F:p≠g) :
  Calls Tryz.prog f #[.slice (some ⟨g,0,none⟩) n c,.int .i64 i,.slice (some ⟨p,0,none⟩) m M] w λe w'=>e=.returned (.slice (some ⟨g,0,none⟩) (n+m) c)/\w'=(w.drew.setCells g ((i+m)*k) (olds.drop (i*k))).setCells g (i*k) vs:=by
 have mixed : Tryz.prog.follows .mixedOrders=true:=by kernel_rfl
 have hm1:0<m:=ω
 have hm2:m<=1:=ω
 have hk:=q.pos;have p3:m*k=k:=by rw[X,Nat.one_mul]
 have p1:=Nat.add_mul n m k;have p2:=Nat.add_mul i m k;have p4:=Nat.sub_mul n i k;have p5:i*k+k<=n*k:=by rw[<-Nat.succ_mul];exact CE k hi
 have p6:(n+m)*k<=c*k:=CE k r;clear X;have hz1:¬((m:Int)=0):=ω
 have hz2:¬((i:Int)=(n:Int)):=ω
 have hz3:¬((c:Int)<(n:Int)+(m:Int)):=ω
 have G:(Tryz.prog.info? E).map (·.size)=some k:=by obtain⟨i0,z0,e1,e2,-⟩:=Ah q;rw[e1];simp[e2]
 have cell:∀q,q<(n+m)*k->(w.cell? ⟨g,q,none⟩).isSome=true/\w.frozen? ⟨g,q,none⟩ = false:=λq Z=>by
  obtain⟨⟨z,hz,-⟩,hf⟩:=b q ω;exact⟨by show(cel w g q).isSome=true;rw[hz];rfl,I1 Prod.fst hf⟩
 have Q:∀lb cb,(callFunc v #[.slice (some ⟨p,0,none⟩) m M,.slice (some ⟨g,(i+m)*k,none⟩) lb cb]).run Tryz.prog w=.ok (.value (.bool false)) w:=by
  obtain⟨y,hy⟩ : ∃y,vs[0]? = some y:=⟨_,Z3 ω⟩
  obtain⟨⟨y',R,-⟩,T⟩:=b 0 ω;exact WO q _ F (N 0 y hy) P R T
 have l:(olds.drop (i*k)).length=(n - i)*k:=by rw[I6,O];omega
 have hw1:IntKind.i64.wrap ((i:Int)+(m:Int))=(i:Int)+(m:Int):=by rw[IntKind.wrap_i64];omega
 have hw2:IntKind.i64.wrap ((n:Int)+(m:Int))=(n:Int)+(m:Int):=by rw[IntKind.wrap_i64];omega
 have hb1:(0:Int)<=(i:Int)+(m:Int):=ω
 have hin:i<=n:=ω
 have htn:((i:Int)+(m:Int)).toNat=i+m:=ω
 have hb2:¬(c=i+m):=ω
 have hb3:(i:Int)<=(n:Int)+(m:Int):=ω
 have hb4:¬(c=i):=ω
 have o:∀B C U,(Builtin.copy_ #[S,S] B #[.slice (some ⟨g,(i+m)*k,none⟩) (n+m - (i+m)) C,.slice (some ⟨g,i*k,none⟩) (n+m - i) U]).run Tryz.prog w.drew=.ok (goInt ((n - i:Nat):Int)) (w.drew.setCells g ((i+m)*k) (olds.drop (i*k))):=λB C U=>
  pu w.drew _ _ B E k g ((i+m)*k) (n+m - (i+m)) C ⟨g,i*k,none⟩ (n+m - i) U (n - i) (olds.drop (i*k)) q.u G η l
   (λj v a=>by rw[Addr.add_lit];exact ho (i*k+j) v (by rwa [List.getElem?_drop]at a))
   (λj a=>by rw[l]at a;exact(cell _ ω).1) (λj a=>by rw[l]at a;exact(cell _ ω).2) (λv N=>h1 v (List.mem_of_mem_drop N))
 obtain⟨H,d⟩ : ∃H,H=w.drew.setCells g ((i+m)*k) (olds.drop (i*k)):=⟨_,rfl⟩
 have J:∀q,q<(n+m)*k->(H.cell? ⟨g,q,none⟩).isSome=true:=λq Z=>by
  rw[d];exact Fd g _ _ _ (λj a=>by rw[l]at a;exact(cell _ ω).1) _ (cell q Z).1
 have K:∀(W:World),(∀x,W.cell? x=H.cell? x)->(∀x,W.frozen? x=H.frozen? x)->∀B C,(Builtin.copy_ #[S,S] B #[.slice (some ⟨g,i*k,none⟩) (n+m - i) C,.slice (some ⟨p,0,none⟩) m M]).run Tryz.prog W=.ok (goInt ((1:Nat):Int)) (W.setCells g (i*k) vs):=λW L V B C=>
  pu W _ _ B E k g (i*k) (n+m - i) C ⟨p,0,none⟩ m M 1 vs q.u G η ω
   (λj v a=>by
     rw[Addr.add_lit,OD,L,d,World.cell?_setCells_out g _ _ _ _ (λh _=>absurd h F)];exact N j v a)
   (λj a=>by rw[L];rw[D]at a;exact J _ ω) (λj a=>by rw[V,d,World.frozen?_setCells];rw[D]at a;exact(cell _ ω).2) h2
 rw[<-d]at o;clear cell b p1 p2 p3 p4 p5 p6 hk;cases q
 case' oq=>go_enter Tryz.func244,Tryz.ntmps244
 case' lq=>go_enter Tryz.func322,Tryz.ntmps322
 case' sq=>go_enter Tryz.func375,Tryz.ntmps375
 all_goals
  go_wp2_with (simp only[Q])
  go_region_law_o (refine xK rfl _ _ _ _ rfl _ _ (by simp[Act.eval,Act.put]) (by simp[Act.eval,Act.put]) (o _ _ _) ?_)
  go_wp2_with (at_builtin;refine nK _ rfl _ _ _ _ rfl _ _ rfl rfl (K _ (λ_=>rfl) (λ_=>rfl) _ _) ?_)
  go_ret
  first|exact⟨rfl,rfl⟩|exact⟨rfl,by rw[d]⟩
def Qz(q:IQ f v S E k){L:TypeInfo}{y:Value}(M : Tryz.prog.info? E=some L)(N:L.size=k)(hz0:L.zero=some y)(hzz:y.cells.size=k)(O:L.bytes=8*k)(w:World)(g n c i B m vc:Nat)(olds vs:List Value)(hm:m=1)(hi:i<n)(hn63:n<=1073741824)(hnc:n<=c)(F:c<n+m)(P:olds.length=n*k)(Q:vs.length=k)(ho:∀t u,olds[t]? = some u->cel w g t=some u)(Y:∀t u,vs[t]? = some u->cel w B t=some u)(h1:∀u∈olds,u.oneCell'=true)(h2:∀u∈vs,u.oneCell'=true) :
  Calls Tryz.prog f #[.slice (some ⟨g,0,none⟩) n c,.int .i64 i,.slice (some ⟨B,0,none⟩) m vc] w λe w'=>e=.returned (.slice (some ⟨w.heap.size,0,none⟩) (n+m) (grownCap w (n+m) c E))/\
   w'=(((w.alloc (.cells ((olds.take (i*k)).toArray++Builtin.zeroCells y.cells (n+m - i)++Builtin.zeroCells y.cells (grownCap w (n+m) c E - (n+m))) E)).drew.setCells w.heap.size (i*k) vs).drew).setCells w.heap.size ((i+m)*k) (olds.drop (i*k)):=by
 have mixed : Tryz.prog.follows .mixedOrders=true:=by kernel_rfl
 have hm1:0<m:=ω
 have hm2:m<=1:=ω
 have hk:=q.pos;have p3:m*k=k:=by rw[hm,Nat.one_mul]
 have p1:=Nat.add_mul n m k;have p2:=Nat.add_mul i m k;have p4:=Nat.sub_mul n i k;have p5:i*k+k<=n*k:=by rw[<-Nat.succ_mul];exact CE k hi
 have p7:=Nat.sub_mul (n+m) i k;clear hm;have hz1:¬((m:Int)=0):=ω
 have hz2:¬((i:Int)=(n:Int)):=ω
 have hz3:(c:Int)<(n:Int)+(m:Int):=ω
 have R:(Tryz.prog.info? E).map (·.size)=some k:=by rw[M];simp[N]
 have hbw:g<w.heap.size:=block_lt_of_cell (ho 0 _ (Z3 ω));have hvw:B<w.heap.size:=block_lt_of_cell (Y 0 _ (Z3 ω));have T:(n:Int)+(m:Int) - (i:Int)=((n+m - i:Nat):Int):=ω
 have H:i+(n+m - i)=n+m:=ω
 have C:(Builtin.firstCells L.size i (.slice (some ⟨g,0,none⟩) i c)).run Tryz.prog w.drew=.ok (olds.take (i*k)).toArray w.drew:=by
  rw[N];exact run_firstCells_some w.drew k i ⟨g,0,none⟩ i c (olds.take (i*k)) θ (λj v a=>by
    rw[Addr.add_lit,OD];rw[List.getElem?_take]at a;split at a
    · exact ho j v a
    cases a)
 have r:∀d,(Builtin.append_ #[S,3] d #[.slice (some ⟨g,0,none⟩) i c,.int .i64 ((n:Int)+(m:Int) - (i:Int))]).run Tryz.prog w =
   .ok (.slice (some ⟨w.heap.size,0,none⟩) (n+m) (grownCap w (n+m) c E)) (w.drew.alloc (.cells ((olds.take (i*k)).toArray++Builtin.zeroCells y.cells (n+m - i)++Builtin.zeroCells y.cells (grownCap w (n+m) c E - (n+m))) E)):=λd=>by
  have h:=Lib.run_append_grow_zeros w S 3 d E L _ .i64 .i64 q.u Tryz.underlying3 M hz0 (some ⟨g,0,none⟩) i c (olds.take (i*k)) C (n+m - i) ω ω ω ω (by rw[O];exact S9 (Nat.mul_le_mul_left _ (show 8*k<=32 by omega)) ω) (by rw[O,H];exact growslice_fits F (S9 (Nat.mul_le_mul_left _ (show 8*k<=32 by omega)) ω));rw[H]at h;rw[T];exact h
 obtain⟨G,Z⟩ : ∃G,G=grownCap w (n+m) c E:=⟨_,rfl⟩
 obtain⟨ROW,l⟩ : ∃ROW:Array Value,ROW=(olds.take (i*k)).toArray++Builtin.zeroCells y.cells (n+m - i)++Builtin.zeroCells y.cells (G - (n+m)):=⟨_,rfl⟩
 rw[<-Z]at r |-;rw[<-l]at r |-;have hRl:(n+m)*k<=ROW.size:=by
  rw[l];simp only[Array.size_append,List.size_toArray,Z2,size_zeroCells,hzz,P];omega
 obtain⟨p,b⟩ : ∃p,p=w.drew.alloc (.cells ROW E):=⟨_,rfl⟩
 rw[<-b]at r;have hN:∀j,j<(n+m)*k->(p.cell? ⟨w.heap.size,j,none⟩).isSome=true:=λj a=>by
  rw[b,World.cell?_alloc_at (w:=w.drew) ROW _ w.heap.size j rfl,OC ω];rfl
 have U:∀j,p.frozen? ⟨w.heap.size,j,none⟩ = false:=λj=>by rw[b];exact World.frozen?_alloc_at (w:=w.drew) ROW _ w.heap.size j rfl
 have hOb:∀j v,w.cell? ⟨g,j,none⟩ = some v->p.cell? ⟨g,j,none⟩ = some v:=λj v h=>by rw[b,World.cell?_alloc_past (w:=w.drew) _ g j hbw];exact h
 have hOv:∀j v,w.cell? ⟨B,j,none⟩ = some v->p.cell? ⟨B,j,none⟩ = some v:=λj v h=>by rw[b,World.cell?_alloc_past (w:=w.drew) _ B j hvw];exact h
 have V:∀(W:World),(∀x,W.cell? x=p.cell? x)->(∀x,W.frozen? x=p.frozen? x)->∀d J,(Builtin.copy_ #[S,S] d #[.slice (some ⟨w.heap.size,i*k,none⟩) (n+m - i) J,.slice (some ⟨B,0,none⟩) m vc]).run Tryz.prog W=.ok (goInt ((1:Nat):Int)) (W.setCells w.heap.size (i*k) vs):=λW o K d J=>
  pu W _ _ d E k w.heap.size (i*k) (n+m - i) J ⟨B,0,none⟩ m vc 1 vs q.u R η ω
   (λj v a=>by rw[Addr.add_lit,OD,o];exact hOv _ v (Y j v a))
   (λj a=>by rw[o];rw[Q]at a;exact hN _ ω) (λj a=>by rw[K];exact U _) h2
 have hGn:n+m<=G:=by rw[Z];exact grownCap_ge w _ _ _
 have hG63:G<=9223372036854775807:=by
  have:=grownCap_le_maxLen w (n+m) c E (by unfold maxLen;omega);rw[<-Z]at this;unfold maxLen at this;omega
 have hGi:¬(G=i):=ω
 have hGim:¬(G=i+m):=ω
 have hci:¬(c=i):=ω
 have hbN:g≠w.heap.size:=ω
 have X:(olds.drop (i*k)).length=(n - i)*k:=by rw[I6,P];omega
 have D:∀(W:World),(∀x,W.cell? x=(p.setCells w.heap.size (i*k) vs).cell? x)->(∀x,W.frozen? x=(p.setCells w.heap.size (i*k) vs).frozen? x)->∀d J sc,(Builtin.copy_ #[S,S] d #[.slice (some ⟨w.heap.size,(i+m)*k,none⟩) (n+m - (i+m)) J,.slice (some ⟨g,i*k,none⟩) (n - i) sc]).run Tryz.prog W=.ok (goInt ((n - i:Nat):Int)) (W.setCells w.heap.size ((i+m)*k) (olds.drop (i*k))):=λW o K d J sc=>
  pu W _ _ d E k w.heap.size ((i+m)*k) (n+m - (i+m)) J ⟨g,i*k,none⟩ (n - i) sc (n - i) (olds.drop (i*k)) q.u R η X
   (λj v a=>by
     rw[Addr.add_lit,o,World.cell?_setCells_out _ _ _ _ _ (λh _=>absurd h hbN)];exact hOb _ v (ho (i*k+j) v (by rwa [List.getElem?_drop]at a)))
   (λj a=>by rw[o];rw[X]at a;exact Fd _ _ _ _ (λt ht=>by rw[Q]at ht;exact hN _ ω) _ (hN _ ω))
   (λj a=>by rw[K,World.frozen?_setCells];exact U _) (λv Y=>h1 v (List.mem_of_mem_drop Y))
 subst b;have hE1:∀x,((w.alloc (.cells ROW E)).drew).cell? x=(w.drew.alloc (.cells ROW E)).cell? x:=λx=>rfl
 have hE2:∀x,((w.alloc (.cells ROW E)).drew).frozen? x=(w.drew.alloc (.cells ROW E)).frozen? x:=λx=>rfl
 have hF1:∀x,(((w.alloc (.cells ROW E)).drew.setCells w.heap.size (i*k) vs).drew).cell? x=((w.drew.alloc (.cells ROW E)).setCells w.heap.size (i*k) vs).cell? x:=λx=>rfl
 have hF2:∀x,(((w.alloc (.cells ROW E)).drew.setCells w.heap.size (i*k) vs).drew).frozen? x=((w.drew.alloc (.cells ROW E)).setCells w.heap.size (i*k) vs).frozen? x:=λx=>rfl
 have hw1:IntKind.i64.wrap ((i:Int)+(m:Int))=(i:Int)+(m:Int):=by rw[IntKind.wrap_i64];omega
 have hw2:IntKind.i64.wrap ((n:Int)+(m:Int))=(n:Int)+(m:Int):=by rw[IntKind.wrap_i64];omega
 have hw3:IntKind.i64.wrap ((n:Int)+(m:Int) - (i:Int))=(n:Int)+(m:Int) - (i:Int):=by rw[IntKind.wrap_i64];omega
 have hb1:(0:Int)<=(i:Int)+(m:Int):=ω
 have hin:i<=n:=ω
 have htn:((i:Int)+(m:Int)).toNat=i+m:=ω
 have hb3:(i:Int)<=(n:Int):=ω
 clear T H C l Z hRl p1 p2 p3 p4 p5 p7 hk;cases q
 case' oq=>go_enter Tryz.func244,Tryz.ntmps244
 case' lq=>go_enter Tryz.func322,Tryz.ntmps322
 case' sq=>go_enter Tryz.func375,Tryz.ntmps375
 all_goals
  go_wp2_with (first
    | (at_builtin;refine Lib.wpList_append_run _ rfl _ _ _ _ rfl _ _ rfl rfl _ _ (r _) ?_)
    | (at_builtin;refine nK _ rfl _ _ _ _ rfl _ _ rfl rfl (V _ hE1 hE2 _ _) ?_)
    | (at_builtin;refine nK _ rfl _ _ _ _ rfl _ _ rfl rfl (D _ (λ_=>rfl) (λ_=>rfl) _ _ _) ?_))
  go_region_law_o (refine xK rfl _ _ _ _ rfl (.slice (some ⟨w.heap.size,(i+m)*_,none⟩) (n+m - (i+m)) (G - (i+m))) (.slice (some ⟨g,i*_,none⟩) (n - i) (c - i)) (by simp[Act.eval,Act.put]) (by simp[Act.eval,Act.put]) (D _ hF1 hF2 3 (G - (i+m)) (c - i)) ?_)
  go_wp2
  go_ret
  exact⟨rfl,rfl⟩
def Bj(q:IQ f v S E k):Uv Tryz.prog f k S (8*k):=by
 refine⟨q.has,Ud q,λw g n c i M m N olds O o p u h R b d y P r t j B C=>?_⟩;obtain⟨T,U,D,F,G,l,H,J⟩:=Ah q;by_cases a:n+m<=c
 ·refine(Mf q w g n c i M m N olds O o p h a b d y P r t j B C).mono λe Q ⟨K,L⟩=>?_
  subst o;rw[L];exact⟨g,c,K,a,JG p a b d y r t j⟩
 refine(Qz q D F G l J w g n c i M m N olds O o p h u ω b d y P r t).mono λe Q ⟨K,L⟩=>?_
 subst o;rw[L,Pz];exact⟨_,_,K,grownCap_ge w _ _ _,LD (e:=E) rfl rfl rfl rfl p (grownCap_ge w _ _ _) l H b d r t⟩
end
def xP(xs:List bc):WX (xs.map (bc.enc .own)):=λr b c a=>by
 obtain⟨s,-,rfl⟩:=O8.1 b;simp[bc.enc]at a;rcases a with rfl|rfl|rfl|rfl<;>exact⟨_,rfl⟩
def zL(xs:List bc)(i:Nat)(x:bc)(j:i<=xs.length)(k:xs.length+1<=1073741824):zzB 244 false [.mut none [.s .own (xs.map (bc.enc .own))],.vI (i:Nat),.mut none [.s .own [bc.enc .own x]]] [.mut none [.x],.vI (i:Nat),.mut none [.x]] .one [.s .own ((inse xs i x).map (bc.enc .own))]:=by
 obtain⟨l,n,c,a,d,e,g,b⟩:=Ah .oq;have h:=MJ (row:=bc.enc .own x) (IQ.u .oq) c a d (by rw[a,e]) g (by rw[b];decide) (by rw[b];exact Bj .oq) (rows:=xs.map (bc.enc .own)) (i:=i) (by rw[Z1];exact j) (aI λ_=>rfl) rfl qs (xP xs) (xP [x]) (by rw[Z1];exact k)
 rwa [Db]at h
def sI(xs:List aB):WX (xs.map (aB.enc .own)):=λr b c a=>by
 obtain⟨s,-,rfl⟩:=O8.1 b;simp[aB.enc]at a;rcases a with rfl|rfl|rfl<;>exact⟨_,rfl⟩
def Gn(xs:List aB)(i:Nat)(x:aB)(j:i<=xs.length)(k:xs.length+1<=1073741824):zzB 322 false [.mut none [.s .own (xs.map (aB.enc .own))],.vI (i:Nat),.mut none [.s .own [aB.enc .own x]]] [.mut none [.x],.vI (i:Nat),.mut none [.x]] .one [.s .own ((inse xs i x).map (aB.enc .own))]:=by
 obtain⟨l,n,c,a,d,e,g,b⟩:=Ah .lq;have h:=MJ (row:=aB.enc .own x) (IQ.u .lq) c a d (by rw[a,e]) g (by rw[b];decide) (by rw[b];exact Bj .lq) (rows:=xs.map (aB.enc .own)) (i:=i) (by rw[Z1];exact j) (aI λ_=>rfl) rfl qs (sI xs) (sI [x]) (by rw[Z1];exact k)
 rwa [Db]at h
def u5(xs:List a8):WX (xs.map (a8.enc .own)):=λr b c a=>by
 obtain⟨s,-,rfl⟩:=O8.1 b;simp[a8.enc]at a;rcases a with rfl|rfl|rfl<;>exact⟨_,rfl⟩
def Lk(xs:List a8)(i:Nat)(x:a8)(j:i<=xs.length)(k:xs.length+1<=1073741824):zzB 375 false [.mut none [.s .own (xs.map (a8.enc .own))],.vI (i:Nat),.mut none [.s .own [a8.enc .own x]]] [.mut none [.x],.vI (i:Nat),.mut none [.x]] .one [.s .own ((inse xs i x).map (a8.enc .own))]:=by
 obtain⟨l,n,c,a,d,e,g,b⟩:=Ah .sq;have h:=MJ (row:=a8.enc .own x) (IQ.u .sq) c a d (by rw[a,e]) g (by rw[b];decide) (by rw[b];exact Bj .sq) (rows:=xs.map (a8.enc .own)) (i:=i) (by rw[Z1];exact j) (aI λ_=>rfl) rfl qs (u5 xs) (u5 [x]) (by rw[Z1];exact k)
 rwa [Db]at h
def oF(h:ac):C:=oE (h.e.map (aC.enc .own))
def iv(h:ac):List C:=[.s .own (h.G.F.W.V.map (aE .own)),.s .own (h.G.F.W.a5.map (rB .own)),.s .own (h.G.F.O.M.map (bv.enc .own)),I h.G.b,.s .own (h.G.d.map (rI .own)),oF h,.s .own (h.H.map (a8.enc .own)),.s .own (h.J.map (aB.enc .own)),.s .own (h.K.map (bc.enc .own)),.s .own (h.Q.map (aD.enc .own)),.s .own (h.q.T.map (bL .own)),.s .own (h.q.w.map (aE .own)),I h.a4.c0,.s .own (h.a4.a0.map (aO.enc .own)),I h.c1,I h.b2,I h.c2,I h.o,B h.a3,I h.a9.g.b1,I h.a9.g.b3,.s .own (h.a9.g.V.map (rI .own)),I h.a9.b6,I h.a9.o]
def NR(h:ac):List C:=[.x,.x,.x,.x,.x,oF h,.s .own (h.H.map (a8.enc .own)),.s .own (h.J.map (aB.enc .own)),.s .own (h.K.map (bc.enc .own)),.s .own (h.Q.map (aD.enc .own)),.s .own (h.q.T.map (bL .own)),.s .own (h.q.w.map (aE .own)),I h.a4.c0,.s .own (h.a4.a0.map (aO.enc .own)),I h.c1,I h.b2,I h.c2,I h.o,B h.a3,I h.a9.g.b1,I h.a9.g.b3,.s .own (h.a9.g.V.map (rI .own)),I h.a9.b6,I h.a9.o]
def Ww(h:ac):fz (oF h)=.s .R (h.e.map (aC.enc .R)):=(Lg _).trans (List.cons.inj (ef h.e)).1
def iZ(h:ac):dw (iv h)=ac.enc .R h:=by
 have a:=ac.enc_fz h;have b:dw (iv h)=(dw (ac.enc .own h)).set 5 (fz (oF h)):=rfl;rw[b,a,Ww];rfl
def nq(h:ac):fy (iv h):=by
 have a:=ac.enc_fr h;simp only[ac.enc,fy]at a;unfold iv;simp only[fy];refine⟨a.1,a.2.1,a.2.2.1,a.2.2.2.1,a.2.2.2.2.1,zR ?_,a.2.2.2.2.2.2⟩;exact a.2.2.2.2.2.1.2
theorem Rr{S Y:af}{u:Nat->Value}(a:cw w S Y (ac.enc .own h) u):cw w S Y (iv h) u:=by
 obtain⟨f,b,d,e⟩:=a;refine⟨f,λj c g=>?_,d,e⟩;have i:iv h=(ac.enc .own h).set 5 (oF h):=rfl;rw[i]at g;by_cases k:j=5
 ·subst k
  have:c=oF h:=ψ
  rw[this];exact th (b 5 _ rfl)
 grind
def Mt(h:ac)(a:ac.sml h):zzA 239 false [ν h] .agg (iv h):=by
 obtain⟨b,c⟩:=iT h a;refine⟨b,λw S d g i=>(c w S d g i).mono λe w1 j=>?_⟩;obtain⟨v,k,l,X,S1,n,o,p,q,r⟩:=j;exact⟨v,k,l,X,S1,n,o,p,q,Rr r⟩
def Xo{b:Bool}{X Y:Prop}(h:b=true)(a:X):cond b X Y:=by subst h;exact a
def LX{b:Bool}{X Y:Prop}(h:b=false)(a:Y):cond b X Y:=by subst h;exact a
theorem XR(h:ac):br [oF h]=false\/(br [oF h]=true/\h.e=[]):=by
 unfold oF;cases a:h.e with
 | nil=>grind
 | cons y b=>exact .inl rfl
theorem XJ(a:br [oF h]=true):[oF h]=bw .R h.e:=by
 unfold oF at a |-;cases b:h.e with
 | nil=>rfl
 | cons y c=>grind[oE,br,eR]
def zq(h:ac)(n:Nat):ac × Int × Bool:=
 if(aA h.e (n:Nat)).2.2=false then(h,-1,false)
 else if(bG h.G (aA h.e (n:Nat)).2.1 n).2=n then({h with G:=(bG h.G (aA h.e (n:Nat)).2.1 n).1,e:=(aA h.e (n:Nat)).1},(aA h.e (n:Nat)).2.1,true)
 else({h with G:=dE (bG h.G (aA h.e (n:Nat)).2.1 n).1 (aA h.e (n:Nat)).2.1 (bG h.G (aA h.e (n:Nat)).2.1 n).2},-1,false)
theorem r9(h:ac)(n:Nat)(w:bf h [])(U:h.G.b<=90000)(hn:1<=n/\n<=63):zzB 320 false [.ptr (iv h),.vI (n:Nat)] [.ptr (iv (zq h n).1),.vI (n:Nat)] (.tup [none,none]) [I (zq h n).2.1,B (zq h n).2.2]:=by
 have P:fk h<=32:=w.lens.ents;have M:=w;have C:dw [oF h]=bw .R h.e:=I1 (λy=>[y]) (Ww h);have N:=vV h;have t:=BG (fk h:Nat) h.e (n:Nat) ω w.rng ω (by grind[qw.free,bf.lens]);unfold Yh at t;have D:=kE w (show(1:Int)<=(n:Nat) by omega);unfold zq;have c:br [oF h]=false\/(br [oF h]=true/\(aA h.e (n:Nat)).2.2=false):=(XR h).imp id λg=>⟨g.1,by rw[g.2];rfl⟩
 generalize aA h.e (n:Nat)=r at t D c |-;obtain⟨V,p,ok⟩:=r;simp only at t D c |-;refine fM 76 [] [(1,270,[15,16,17,18,19,20,21,22,23,24,14,25,26,27,0,1,2,3,4,5,6,7,8,9,10,11,12,13,14,1012,1013,15,1013,16])] [(0,0),(0,0)] Tryz.func320 rfl (λu q=>?_) (.inr ⟨tV1,tV1,tV1⟩);rcases c with c|⟨c,Q⟩
 ·cases ok with
   | false=>
    rw[CJ rfl];rw[CI ϕ]at t
    repeat'(first|refine gP ?_|refine CL (N) ⟨⟨rfl,iZ h⟩,tV1⟩ ?_|refine CL (t) ⟨⟨rfl,rfl⟩,⟨rfl,C⟩,π⟩ ?_|refine LX c ?_)
    exact kk
   | true=>
    rw[CI ϕ];rw[CJ rfl]at t;obtain⟨O,J,K,u4⟩:=D rfl;change p+(n:Nat)<=(h.G.F.O.M.length:Nat) at J;change ∀q:Nat,p<=q->(q:Int)<p+(n:Nat)->(nth h.G.F.O.M q).y=0 at K
    have W:h.G.F.O.M.length<=32:=P;cases V with
    | nil=>
      repeat'(first|refine gP ?_|refine CL (N) ⟨⟨rfl,iZ h⟩,tV1⟩ ?_|refine CL (t) ⟨⟨rfl,rfl⟩,⟨rfl,C⟩,π⟩ ?_|refine LX c ?_)
      refine gl n (λi=>[(0,bF (NR h)),(1,fN n),(6,bK ([oE (([]:List aC).map (aC.enc .own))])),(7,fI p),(9,bF (ah.enc .own (bG h.G p i).1)),(10,fN i)]) (λi=>(bG h.G p i).2=i) rfl λi w=>?_
      obtain⟨E,L⟩:=w;have s:=im.of (p:=p) (n:=n) M.ker ω ⟨O,J⟩ K i E;have R:=s.calls;have S:=s.len;by_cases X:i<n
      ·have F:(nth (bG h.G p i).1.F.O.M (p+(i:Nat)).toNat).y=0:=by grind[im.out]
       have l:=vq (bG h.G p i).1 (p+(i:Nat)) s.ker ω ω F;have a:bG h.G p (i+1)=((dP (bG h.G p i).1 (p+(i:Nat))).1,if(dP (bG h.G p i).1 (p+(i:Nat))).2=true then i+1 else i):=by
        show(if(bG h.G p i).2=i then _ else _)=_;rw[CJ L]
       cases e:(dP (bG h.G p i).1 (p+(i:Nat))).2 with
       | true=>
        rw[e]at l a;rw[CJ rfl]at a;have G:(dP (bG h.G p i).1 (p+(i:Nat))).1=(bG h.G p (i+1)).1:=by rw[a]
        rw[G]at l
        repeat'(first|refine gE ?_|refine CL (l) ⟨⟨rfl,CW _⟩,π⟩ ?_)
        (exact cV (i+1) ψ)
       | false=>
        rw[e]at l a;rw[CI ϕ]at a;have o:=k6 (k:=h.G) (p:=p) (i:=i+1) ψ (n - (i+1));rw[show i+1+(n - (i+1))=n by omega]at o;have H:=im.of (p:=p) (n:=n) M.ker ω ⟨O,J⟩ K (i+1) ω;rw[CI ω,o.1];have b:=H.calls;rw[a]at H b |-;have d:=H.ker;simp only at d b |-;generalize (dP (bG h.G p i).1 (p+(i:Nat))).1=k at l d b |-
        repeat'(first|refine gE ?_|refine CL (l) ⟨⟨rfl,CW _⟩,π⟩ ?_)
        refine lp0 i (λj=>[(0,bF (NR h)),(7,fI p),(9,bF (ah.enc .own (dE k p j))),(10,fN i),(13,fI (p+(j:Nat)))]) λj Y=>?_
        have T:=re (dE k p j) (p+(j:Nat)) (jJ d p j) (by grind[gM]);by_cases Z:j<i
        ·repeat'(first|refine gE ?_|refine CL (T) ⟨⟨rfl,CW _⟩,π⟩ ?_)
         (exact cV (j+1) ω)
        obtain rfl:j=i:=ω
        refine σE ?_
        exact kk
      obtain rfl:i=n:=ω
      rw[CJ L];generalize (bG h.G p i).1=k
      refine σE ?_
      exact kk
    | cons y ys=>
      repeat'(first|refine gP ?_|refine CL (N) ⟨⟨rfl,iZ h⟩,tV1⟩ ?_|refine CL (t) ⟨⟨rfl,rfl⟩,⟨rfl,C⟩,π⟩ ?_|refine LX c ?_)
      refine gl n (λi=>[(0,bF (NR h)),(1,fN n),(6,bK ([oE ((y::ys).map (aC.enc .own))])),(7,fI p),(9,bF (ah.enc .own (bG h.G p i).1)),(10,fN i)]) (λi=>(bG h.G p i).2=i) rfl λi w=>?_
      obtain⟨E,L⟩:=w;have s:=im.of (p:=p) (n:=n) M.ker ω ⟨O,J⟩ K i E;have R:=s.calls;have S:=s.len;by_cases X:i<n
      ·have F:(nth (bG h.G p i).1.F.O.M (p+(i:Nat)).toNat).y=0:=by grind[im.out]
       have l:=vq (bG h.G p i).1 (p+(i:Nat)) s.ker ω ω F;have a:bG h.G p (i+1)=((dP (bG h.G p i).1 (p+(i:Nat))).1,if(dP (bG h.G p i).1 (p+(i:Nat))).2=true then i+1 else i):=by
        show(if(bG h.G p i).2=i then _ else _)=_;rw[CJ L]
       cases e:(dP (bG h.G p i).1 (p+(i:Nat))).2 with
       | true=>
        rw[e]at l a;rw[CJ rfl]at a;have G:(dP (bG h.G p i).1 (p+(i:Nat))).1=(bG h.G p (i+1)).1:=by rw[a]
        rw[G]at l
        repeat'(first|refine gE ?_|refine CL (l) ⟨⟨rfl,CW _⟩,π⟩ ?_)
        (exact cV (i+1) ψ)
       | false=>
        rw[e]at l a;rw[CI ϕ]at a;have o:=k6 (k:=h.G) (p:=p) (i:=i+1) ψ (n - (i+1));rw[show i+1+(n - (i+1))=n by omega]at o;have H:=im.of (p:=p) (n:=n) M.ker ω ⟨O,J⟩ K (i+1) ω;rw[CI ω,o.1];have b:=H.calls;rw[a]at H b |-;have d:=H.ker;simp only at d b |-;generalize (dP (bG h.G p i).1 (p+(i:Nat))).1=k at l d b |-
        repeat'(first|refine gE ?_|refine CL (l) ⟨⟨rfl,CW _⟩,π⟩ ?_)
        refine lp0 i (λj=>[(0,bF (NR h)),(7,fI p),(9,bF (ah.enc .own (dE k p j))),(10,fN i),(13,fI (p+(j:Nat)))]) λj Y=>?_
        have T:=re (dE k p j) (p+(j:Nat)) (jJ d p j) (by grind[gM]);by_cases Z:j<i
        ·repeat'(first|refine gE ?_|refine CL (T) ⟨⟨rfl,CW _⟩,π⟩ ?_)
         (exact cV (j+1) ω)
        obtain rfl:j=i:=ω
        refine σE ?_
        exact kk
      obtain rfl:i=n:=ω
      rw[CJ L];generalize (bG h.G p i).1=k
      refine σE ?_
      exact kk
 subst Q;rw[CJ rfl];rw[CI ϕ]at t
 repeat'(first|refine gP ?_|refine CL (N) ⟨⟨rfl,iZ h⟩,tV1⟩ ?_|refine CL (t) ⟨⟨rfl,rfl⟩,⟨rfl,XJ c⟩,π⟩ ?_|refine Xo c ?_)
 exact kk
theorem yw(h:ac)(p c:Int)(w:h.H.length<=4096):zzB 321 false [.ptr (iv h),.val (some 3) [I p,I c,I 0]] [.ptr (iv {h with H:=kC (JW p) h.H ⟨p,c,0⟩}),.val (some 3) [I p,I c,I 0]] .one [I (kW (JW p) h.H:Nat)]:=by
 refine fM 40 [(375,[1,0,1])] [ρ 2 18 6,(4,264,[28,29,30,31,32,33,34,35,0,1,2,3,4,5,6,7,8,1000,9,10,11])] [(0,0),(0,0)] Tryz.func321 rfl (λu q=>?_)
 refine σP ?_
 refine gl h.H.length (λi=>[(0,bF (iv h)),(3,bF ([I p,I c,I 0])),(5,fN i)]) (λi=>∀(j:Nat)(z:a8),j<i->h.H[j]? = some z->JW p z=false) ψ λi g=>?_
 obtain⟨k,d⟩:=g;by_cases l:i<h.H.length/\(nth h.H i).S<p
 ·have b:=ar l.1
  refine σE ?_
  (exact cV (i+1) ⟨ω,fh b (Z0 ω) d⟩)
 have a:kW (JW p) h.H=i:=nl ω d λz e=>by
  have n:=(C4.1 e).1;have:z=nth h.H i:=(bk e).symm;subst this;exact O0 ω
 have b:i<h.H.length->h.H[i]? = some (nth h.H i):=λo=>ar o
 have r:=Lk h.H i ⟨p,c,0⟩ ω ω;rw[mV a,a]
 repeat'(first|refine gE ?_|with_reducible refine CH (aa (b ω)) ?_|refine gS (λt=>?_) (λt=>?_)|refine CK rfl (aa (b ω)) rfl ?_)
 all_goals
  exact kk
def Mn(h:ac)(i:Nat):iv (slotT h i)=((iv h).set 14 (I (Dj h.c1))).set 6 (.s .own ((h.H.map (a8.enc .own)).set i [I (nth h.H i).S,I (nth h.H i).a,I (io (nth h.H i).b0 (oo h i))])):=by
 simp[iv,slotT,sA,CC,a8.enc,oF]
def Ec(h:ac)(E:List Int)(i:Nat)(a:bf h E)(b:i<h.H.length)(p:(iz h i).length=0):zzA 319 false [.ptr (ac.enc .R h),.vI (i:Nat)] (.tup [none,none]) [I (-1),B false]:=by
 have g:=ar b;have c:=a.L.sok _ (ax b);have d:=eA c;have j:=(bt.1 (aF.1 a.ker).2.2.1).2.2;have n:=a.lens.spans;have e:=mJ a.L.sok (ps:=aS h (nth h.H i).S) d (aS h (nth h.H i).S).length;change 0<=ep h i/\ep h i<=65535 at e;have o:=g9 (nth h.H i).a;have k:=ta h i ⟨ω,λ_ _=>tV1⟩ ⟨ω,λ_ _=>tV1⟩ a.L.sok b;rw[ye a.L.sok b]at k;have l:=q7 (nth h.H i).a (ep h i) ω;change am _ _ _ _ _ (aE .own (iz h i)) at l;refine fO 63 [ρ 2 7 17,ρ 7 12 43,ρ 8 5 57] Tryz.func319 rfl ?_ (.inr ⟨tV1,tV1,tV1⟩)
 refine σB ?_
 rfl
def qi(h:ac)(E:List Int)(i:Nat)(b:bf h E)(j:i<h.H.length):zzB 319 false [.ptr (iv h),.vI (i:Nat)] [.ptr (iv (lJ h i).1),.vI (i:Nat)] (.tup [none,none]) [I (lJ h i).2,B (decide (0<(iz h i).length))]:=by
 have F:=b.lens.spans;have d:=ar j;have c:=b.L.sok _ (ax j);have e:=eA c;have a:=b.nums;unfold ch at a;rw[C0]at a;have y:=(bt.1 (aF.1 b.ker).2.2.1).2.2;have k:=mJ b.L.sok (ps:=aS h (nth h.H i).S) e (aS h (nth h.H i).S).length;change 0<=ep h i/\ep h i<=65535 at k;have C:=g9 (nth h.H i).a;have l:=ta h i ⟨ω,λ_ _=>tV1⟩ ⟨ω,λ_ _=>tV1⟩ b.L.sok j;rw[ye b.L.sok j]at l;have o:=q7 (nth h.H i).a (ep h i) ω;change am _ _ _ _ _ (aE .own (iz h i)) at o;have p:=BM (nth h.H i).a (ep h i);change (iz h i).length<=16 at p;unfold lJ;by_cases D:(iz h i).length=0
 ·rw[CJ D,Z0 ω]
  refine fM 63 [] [ρ 2 7 17,ρ 7 12 43,ρ 8 5 57] [(0,0),(0,0)] Tryz.func319 rfl (λu q=>?_) (.inr ⟨tV1,tV1,tV1⟩)
  repeat'(first|refine gB ?_|refine CL (l) ⟨⟨rfl,iZ h⟩,π⟩ ?_)
  exact kk
 rw[CI D,O0 ω];have G:=wy (h:=h) (i:=i) ω;obtain⟨H,O,P⟩:=tT G;have J:=(gQ (aJ c).2.2).2.2.1;have r:=qX h.c1 (n:=((iz h i).length:Nat)) ω;have K:=yi h.c1 ((iz h i).length:Nat) ω ω;have M:=D9 (nth h.H i).b0 (oo h i) e ω;obtain⟨N,t⟩:=C5 H;have w:=sF (nth h.H i) N c ω;unfold lr at w;rw[<-t]at w;have g:(iz h i)[(HJ h.c1 ((iz h i).length:Nat)).toNat]? = some (oo h i):=ar ω;unfold rm;rw[Mn];refine fM 63 [] [ρ 2 7 17,ρ 7 12 43,ρ 8 5 57] [(0,0),(0,0)] Tryz.func319 rfl (λu q=>?_) (.inr ⟨tV1,tV1,tV1⟩)
 repeat'(first|refine gB ?_|refine CL (l) ⟨⟨rfl,iZ h⟩,π⟩ ?_|apply CO r.1 (aa g)|refine CS rfl rfl (aa d) rfl δ rfl ?_)
 refine CM rfl ?_ ?_
 ·rfl
 exact wC
def QN(k:ah)(p:Int):bG k p 1=((dP k p).1,if(dP k p).2=true then 1 else 0):=by
 show(if(0:Nat)=0 then((dP k (p+((0:Nat):Int))).1,if(dP k (p+((0:Nat):Int))).2=true then 0+1 else 0) else(k,0))=_;rw[CJ rfl,show p+((0:Nat):Int)=p by omega]
def Qa(h:ac):zq h 1=if(aA h.e 1).2.2=false then(h,-1,false)
  else if(dP h.G (aA h.e 1).2.1).2=false then({h with G:=(dP h.G (aA h.e 1).2.1).1},-1,false)
  else({h with G:=(dP h.G (aA h.e 1).2.1).1,e:=(aA h.e 1).1},(aA h.e 1).2.1,true):=by
 unfold zq;rw[show((1:Nat):Int)=1 from rfl,QN];cases e:(dP h.G (aA h.e 1).2.1).2
 ·simp[dE]
 simp
def QL(h:ac)(a:C):List C:=(iv h).set 9 a
def LR(h:ac)(a:C):Prop:=fz a=.s .R (h.Q.map (aD.enc .R))
def Vv{a:C}(b:LR h a):dw (QL h a)=ac.enc .R h:=by
 have c:dw (QL h a)=(dw (iv h)).set 9 (fz a):=rfl;rw[c,iZ,b];rfl
def LR.own(h:ac):LR h (.s .own (h.Q.map (aD.enc .own))):=by
 have a:=I1 (λl:List C=>l[9]?) (iZ h);have b:(dw (iv h))[9]? = some (fz (.s .own (h.Q.map (aD.enc .own)))):=rfl;have c:(ac.enc .R h)[9]? = some (.s .R (h.Q.map (aD.enc .R))):=rfl;simp only[b,c,O1]at a;exact a
def zp(h:ac)(size:Int)(e:bf h [])(l:9<=size/\size<=1000)(n:h.G.b<=90000):zzB 243 false [.ptr (iv h),.vI size] [.ptr (iv (DU h size).1),.vI size] (.tup [none,none]) [I (DU h size).2,B (decide (0<=(DU h size).2))]:=by
 have E:=e.lens.larges;have R:=e;have o:eJ size=((ma size:Nat):Int):=by unfold eJ ma;split<;>omega
 have F:1<=ma size/\ma size<=63:=by unfold ma;omega
 have g:=n7 size;rw[o]at g;have a:=r9 h (ma size) e n F;have c:=kE e (show(1:Int)<=(ma size:Nat) by omega);unfold zq at a;unfold DU jY;generalize ma size=N at *;generalize aA h.e (N:Nat)=r at a c |-;obtain⟨G,p,ok⟩:=r;simp only at a c |-;refine fM 56 [(320,[2,0]),(322,[1,0,1])] [(7,268,[39,40,41,42,43,44,45,46,47,48,49,50,0,1,2,3,4,5,6,7,8,9,10,11,12,1000,13,14,15])] [(0,0),(0,0)] Tryz.func243 rfl (λu q=>?_) (.inr ⟨tV1,tV1,tV1⟩);cases ok with
 | false=>
  rw[CJ rfl]at a |-
  refine σP ?_
  exact kk
 | true=>
  rw[CI ϕ]at a |-;obtain⟨S,H,-,-⟩:=c rfl;have J:h.G.F.O.M.length<=32:=e.lens.ents;have t:p+(N:Nat)<=(h.G.F.O.M.length:Nat):=H;by_cases w:(bG h.G p N).2=N
  ·rw[CJ w]at a |-
   rw[O0 (show(0:Int)<=16*p by omega)];generalize (bG h.G p N).1=k at a |-
   refine σP ?_
   refine gl h.J.length (λm=>[(0,bF (iv {h with G:=k,e:=G})),(1,fI size),(6,fI p),(8,fN m)]) (λm=>∀(j:Nat)(z:aB),j<m->h.J[j]? = some z->UB p z=false) (λj z T=>ω) λm K=>?_
   obtain⟨L,C⟩:=K;by_cases M:m<h.J.length/\(nth h.J m).S<p
   ·have d:=ar M.1
    repeat'(first|refine gP ?_|refine Bf.D (λb=>?_) (λb=>absurd b κ))
    (exact cV (m+1) ⟨ω,fh d (Z0 ω) C⟩)
   have i:kW (UB p) h.J=m:=nl ω C λz l=>by
    have O:=(C4.1 l).1;have:z=nth h.J m:=(bk l).symm;subst this;exact O0 ω
   have d:m<h.J.length->h.J[m]? = some (nth h.J m):=λP=>ar P
   have Q:=Gn h.J m ⟨p,(N:Nat),size⟩ ω ω;rw[mV i]
   repeat'(first|refine gP ?_|refine Bf.D (λb=>?_) (λb=>absurd b κ)|refine Bf.D (λb=>absurd b κ) (λb=>?_)|refine Bf.D (λb=>?_) (λb=>?_)|refine CH (aa (d κ)) ?_|refine CK rfl (aa (d κ)) rfl ?_)
   all_goals
    refine CM rfl ?_ ?_
    ·exact I1 (λy=>[I y,B true]) (show p*16=16*p by omega)
    exact wC
  rw[CI w]at a |-
  refine σP ?_
  exact kk
def Vd{cs:List C}{c:C}(h:fy cs)(b:Nq c):fy (cs.set k c):=by
 induction cs generalizing k with
 | nil=>exact h
 | cons a e d=>
  simp only[fy]at h;cases k with
  | zero=>simp only[List.set_cons_zero,fy];exact⟨b,h.2⟩
  | succ k=>simp only[List.set_cons_succ,fy];exact⟨h.1,d h.2⟩
def Kj(h:ac)(a:C):Prop:=a=.s .own (h.Q.map (aD.enc .own))\/∃t c,t<h.Q.length/\(nth h.Q t).X[c]? = some []/\a=.s .own ((h.Q.map (aD.enc .own)).set t [.s .own (((nth h.Q t).X.map (aE .own)).set c [.s .R []])])
def Kj.own(h:ac):Kj h (.s .own (h.Q.map (aD.enc .own))):=.inl rfl
def Lj{l:List α}{x:α}(h:l[i]? = some x):l.set i x=l:=by
 refine List.ext_getElem? λj=>?_
 rw[List.getElem?_set];split
 ·rename_i e
  subst e;rw[h,CJ (C4.1 h).1]
 rfl
def Td(rows:List (List C)):fz (.s .own rows)=.s .R (rows.map dw):=by rw[MX];congr 1;apply List.map_congr_left;intro r _;rw[bU]
def Kj.ok{d:C}(a:Kj h d):LR h d:=by
 rcases a with e|⟨t,c,f,a,e⟩
 ·subst e;exact LR.own h
 subst e;have b:fz (.s .own (h.Q.map (aD.enc .own)))=.s .R (h.Q.map (aD.enc .R)):=LR.own h;unfold LR;rw[Td]at b |-;simp only[C.s.injEq,true_and]at b |-;rw[CC,b];refine Lj ?_;rw[Z5,ar f];have g:=Co (nth h.Q t);have i:((nth h.Q t).X.map (aE .own)).set c [.s .own []]=(nth h.Q t).X.map (aE .own):=Lj (by rw[Z5,a];rfl);refine I1 some (g.symm.trans ?_);show dw [.s .own ((nth h.Q t).X.map (aE .own))]=_;rw[<-i];simp only[dw,Td,CC,List.set_set]
 rfl
def Kj.fr{a:C}(b:Kj h a):Nq a:=by
 rcases b with e|⟨t,c,d,b,e⟩
 ·subst e;exact⟨.inl (λe=>by cases e),aZ _ _ λx _=>Cr x⟩
 subst e;refine⟨.inl (λe=>by cases e),H7 (aZ _ _ λx _=>Cr x) ⟨⟨.inl (λe=>by cases e),H7 (aZ _ _ λx _=>bH x) ⟨⟨.inr rfl,tV1⟩,tV1⟩⟩,tV1⟩⟩
def N6{a:C}(b:Nq a):fy (QL h a):=Vd (nq h) b
def Yu(h:ac)(t c:Nat):C:=.s .own ((h.Q.map (aD.enc .own)).set t [.s .own (((nth h.Q t).X.map (aE .own)).set c [oP (((nth (nth h.Q t).X c).take ((nth (nth h.Q t).X c).length - 1)).map (rI .own))])])
def Xd(h:ac){t:Nat}(d:t<h.Q.length)(e:c<(nth h.Q t).X.length):Kj {h with Q:=h.Q.set t (vu (nth h.Q t) c)} (Yu h t c):=by
 have f:vu (nth h.Q t) c = ⟨(nth h.Q t).X.set c ((nth (nth h.Q t).X c).take ((nth (nth h.Q t).X c).length - 1))⟩:=rfl;rw[f];unfold Yu;generalize (nth (nth h.Q t).X c).take ((nth (nth h.Q t).X c).length - 1)=R;cases R with
 | cons a R=>
  refine .inl ?_;show _=C.s .own ((h.Q.set t _).map _);rw[CC];show _=C.s .own ((h.Q.map (aD.enc .own)).set t [.s .own (((nth h.Q t).X.set c (a::R)).map (aE .own))]);rw[CC]
  rfl
 | nil=>
  have b:nth (h.Q.set t (⟨(nth h.Q t).X.set c []⟩ : aD)) t = ⟨(nth h.Q t).X.set c []⟩:=bk (Z6 ω);refine .inr ⟨t,c,by simpa using d,?_,?_⟩
  ·show(nth (h.Q.set t (⟨(nth h.Q t).X.set c []⟩ : aD)) t).X[c]? = _
   rw[b];exact Z6 e
  show _=C.s .own (((h.Q.set t (⟨(nth h.Q t).X.set c []⟩ : aD)).map (aD.enc .own)).set t [.s .own (((nth (h.Q.set t (⟨(nth h.Q t).X.set c []⟩ : aD)) t).X.map (aE .own)).set c [.s .R []])]);rw[b,CC,List.set_set];show _=C.s .own ((h.Q.map (aD.enc .own)).set t [.s .own ((((nth h.Q t).X.set c []).map (aE .own)).set c [.s .R []])]);rw[CC,List.set_set]
  rfl
def Dy(h:ac)(t c:Nat)(o:bf h [])(E:t<h.Q.length)(S:c<=3)(r:h.G.b<=90000):∃V,Kj (eY h t c).1 V/\zzB 242 false [.ptr (iv h),.vI (t:Nat),.vI (c:Nat)] [.ptr (QL (eY h t c).1 V),.vI (t:Nat),.vI (c:Nat)] (.tup [none,none]) [I (eY h t c).2,B (decide (0<=(eY h t c).2))]:=by
 have w:=o.cach _ (ax E);have Z:=qz w;have d:=ar E;have F:=Dz (nth h.Q t) c w S;have hls:=o.lens.spans;have C:=o;unfold Yd at F;by_cases M:0<(nth (nth h.Q t).X c).length
 ·obtain⟨N,G⟩:=o.pop E ω M (Nj w c)
  have k:=jZ.nn o G;unfold eY;rw[CJ M]at F |-;refine⟨Yu h t c,Xd h E ω,?_⟩;simp only;rw[O0 k];refine fM 86 [(319,[2,0]),(320,[2,0]),(321,[2,0]),(4000062,[]),(5000077,[])] [ρ 3 6 31,ρ 8 10 49] [(0,0),(0,0),(0,0)] Tryz.func242 rfl (λu q=>?_) (.inr ⟨tV1,tV1,tV1⟩)
  repeat'(first|refine gP ?_|refine CH (cn d) ?_|refine CK rfl (cn d) rfl ?_|refine CL (F) ⟨⟨rfl,Co _⟩,π⟩ ?_|refine CS rfl rfl (aa d) rfl δ rfl ?_)
  exact kk
 rw[CI M]at F;refine⟨_,Kj.own _,?_⟩;change aU _ _ _ _ [.ptr (iv (eY h t c).1),_,_] _ _;have e:eY h t c=match pT h c with
  | some i=>(slotT h i,rm h i)
  | none=>if(aA h.e 1).2.2=false then(h,-1)
   else if(dP h.G (aA h.e 1).2.1).2=false then({h with G:=(dP h.G (aA h.e 1).2.1).1},-1)
   else lJ (qy h c) (pH h):=by unfold eY;exact CI M
 refine fM 86 [(319,[2,0]),(320,[2,0]),(321,[2,0]),(4000062,[]),(5000077,[])] [ρ 3 6 31,ρ 8 10 49] [(0,0),(0,0),(0,0)] Tryz.func242 rfl (λu q=>?_) (.inr ⟨tV1,tV1,tV1⟩)
 repeat'(first|refine gP ?_|refine CH (cn d) ?_|refine CK rfl (cn d) rfl ?_|refine CL (F) ⟨⟨rfl,Co _⟩,π⟩ ?_)
 refine gl h.H.length (λi=>[(0,bF (iv h)),(2,fN c),(42,.c5 0 6 [] none),(43,fI h.H.length),(44,fN i)]) (λi=>∀j,j<i->qt h c j=false) (λj hj=>ω) λi o=>?_
 obtain⟨hi1,H⟩:=o;by_cases J:i<h.H.length
 ·have n:=ar J
  by_cases W:(nth h.H i).a=c
  ·have K:=FE h (nth h.H i).S
   cases O:gv h (nth h.H i).S with
   | true=>
    rw[O]at K
    repeat'(first|refine gB ?_|refine CL (K) ⟨⟨rfl,iZ h⟩,π⟩ ?_)
    (exact cV (i+1) ⟨ω,mg (by unfold qt;rw[O];simp) H⟩)
   | false=>
    rw[O]at K;by_cases L:(iz h i).length=0
    ·have y:=Ec h [] i C J L
     repeat'(first|refine gB ?_|refine CL (K) ⟨⟨rfl,iZ h⟩,π⟩ ?_|refine Ch.pl ?_|refine CL (y) ⟨iZ h,π⟩ ?_)
     (exact cV (i+1) ⟨ω,mg (by unfold qt;rw[Z0 (by omega:¬0<(iz h i).length)];simp) H⟩)
    have y:=qi h [] i C J;unfold lJ at y;rw[CI L,O0 (by omega:0<(iz h i).length)]at y;have T:pT h c=some i:=x5 J (by unfold qt;rw[O0 W,O,O0 ω];rfl) H;rw[T]at e;simp only at e;obtain⟨N,G⟩:=C.slotT J (by omega:0<(iz h i).length);have k:=jZ.nn N G;rw[e];generalize slotT h i=g at y |-;generalize rm h i=a at y k |-;rw[O0 k]
    repeat'(first|refine gB ?_|refine CL (K) ⟨⟨rfl,iZ h⟩,π⟩ ?_|refine Ch.lt ?_)
    exact kk
  refine σB ?_
  (exact cV (i+1) ⟨ω,mg (by unfold qt;rw[Z0 W];rfl) H⟩)
 obtain rfl:i=h.H.length:=ω
 have T:pT h c=none:=xT H;rw[T]at e;simp only at e;have l:=r9 h 1 C r ⟨ω,ω⟩;rw[Qa]at l;rw[e];by_cases P:(aA h.e 1).2.2=false
 ·rw[CJ P]at l |-
  refine σE ?_
  exact kk
 rw[CI P]at l |-;by_cases Q:(dP h.G (aA h.e 1).2.1).2=false
 ·rw[CJ Q]at l |-
  refine σE ?_
  exact kk
 rw[CI Q]at l |-;obtain⟨X,Y⟩:=K7 C S r P Q;have D:=yw {h with G:=(dP h.G (aA h.e 1).2.1).1,e:=(aA h.e 1).1} (aA h.e 1).2.1 (c:Nat) (by show h.H.length<=4096;omega);have R:=qi (qy h c) [] (pH h) X Y;have U:=sj C E S r;rw[e,CI P,CI Q]at U;have k:decide (0<(iz (qy h c) (pH h)).length)=decide (0<=(lJ (qy h c) (pH h)).2):=by
  unfold lJ;by_cases L:(iz (qy h c) (pH h)).length=0
  ·rw[CJ L,Z0 ω];rfl
  rw[CI L,O0 ω];obtain⟨N,G⟩:=X.slotT Y ω;exact(O0 (jZ.nn N G)).symm
 rw[k]at R;change aU _ _ _ _ [.ptr (iv (qy h c)),_] _ [I ((pH h:Nat):Int)]at D;generalize (aA h.e 1).2.1=p at l D;generalize qy h c=g at D R |-;generalize pH h=b at D R |-;generalize ({h with G:=(dP h.G p).1,e:=(aA h.e 1).1} : ac)=h1 at l D
 refine σE ?_
 exact kk
def Jr(h:ac)(t size:Int)(Z:ac.sml h)(l:bf h [])(O:kN h=true):∃D,Kj (eX h t size).1 D/\zzA 145 false [ν h,.vI t,.vI size] (.tup [some 24,none,none]) (QL (eX h t size).1 D++[I (eX h t size).2.1,I (eX h t size).2.2]):=by
 have hl:=l.lens;have hlc:=hl.caches;have P:=hl.objs;have u:=l.nums;unfold ch at u;rw[C0]at u;have Q:=og l.objSz h.K.length (O5 _);change 0<=pD h/\pD h<=_ at Q;have q:=Mt h Z;have p:=cR h Z;rw[O]at p;have r:=aH t 0 ((h.Q.length:Int) - 1);have y:=aH size 1 1000;have E:=zm h l.objSz ω;have F:=lS size;unfold eX;by_cases h1:1000000<=h.o
 ·rw[CJ (.inl h1)]
  refine⟨_,Kj.own _,?_⟩;change am _ _ _ _ _ (iv _++_);refine fP 108 [(242,[2,0,0]),(243,[2,0]),(244,[1,0,1])] [ς4] Tryz.func145 rfl ?_ (.inr (ay (nq _) ⟨tV1,tV1,tV1⟩))
  refine σB ?_
  rfl
 by_cases h2:90000<h.G.b
 ·rw[CJ (.inr h2)]
  refine⟨_,Kj.own _,?_⟩;change am _ _ _ _ _ (iv _++_);refine fP 108 [(242,[2,0,0]),(243,[2,0]),(244,[1,0,1])] [ς4] Tryz.func145 rfl ?_ (.inr (ay (nq _) ⟨tV1,tV1,tV1⟩))
  repeat'(first|refine gB ?_|refine gS (λb=>?_) (λb=>?_)|fail)
  rfl
 rw[CI ω];by_cases C:¬(0<=t/\t<=h.Q.length - 1)
 ·rw[CJ C]
  rw[Z0 C]at r;refine⟨_,Kj.own _,?_⟩;change am _ _ _ _ _ (iv _++_);refine fP 108 [(242,[2,0,0]),(243,[2,0]),(244,[1,0,1])] [ς4] Tryz.func145 rfl ?_ (.inr (ay (nq _) ⟨tV1,tV1,tV1⟩))
  repeat'(first|refine gB ?_|refine gS (λb=>?_) (λb=>?_)|fail)
  rfl
 rw[CI C];replace C:=Decidable.not_not.1 C;rw[O0 C]at r;by_cases B:¬(1<=size/\size<=1000)
 ·rw[CJ B]
  rw[Z0 B]at y;refine⟨_,Kj.own _,?_⟩;change am _ _ _ _ _ (iv _++_);refine fP 108 [(242,[2,0,0]),(243,[2,0]),(244,[1,0,1])] [ς4] Tryz.func145 rfl ?_ (.inr (ay (nq _) ⟨tV1,tV1,tV1⟩))
  repeat'(first|refine gB ?_|refine gS (λb=>?_) (λb=>?_)|fail)
  rfl
 rw[CI B];replace B:=Decidable.not_not.1 B;rw[O0 B]at y;by_cases h5:h.c2<pD h+size
 ·rw[CJ h5]
  refine⟨_,Kj.own _,?_⟩;change am _ _ _ _ _ (iv _++_);refine fP 108 [(242,[2,0,0]),(243,[2,0]),(244,[1,0,1])] [ς4] Tryz.func145 rfl ?_ (.inr (ay (nq _) ⟨tV1,tV1,tV1⟩))
  repeat'(first|refine gB ?_|refine gS (λb=>?_) (λb=>?_)|fail)
  rfl
 rw[CI h5];by_cases G:0<=aP size
 ·rw[CJ G]
  have hc3:aP size<=3:=by unfold aP;repeat' split<;>omega
  obtain⟨T,rfl⟩:=C5 C.1;obtain⟨K,hK⟩:=C5 G;obtain⟨D,n,d⟩:=Dy h T K l ω ω ω;have s:=sj (t:=T) (c:=K) l ω ω ω;rw[hK]at F |-;simp only[Z4];generalize eY h T K=w at d s n |-;obtain⟨g,a⟩:=w;have e:g.o=h.o:=s.nx;simp only at d |-;by_cases H:a<0
  ·rw[CJ H]
   rw[Z0 ω]at d;refine⟨D,n,?_⟩;refine fP 108 [(242,[2,0,0]),(243,[2,0]),(244,[1,0,1])] [ς4] Tryz.func145 rfl ?_ (.inr (ay (N6 n.fr) ⟨tV1,tV1,tV1⟩))
   repeat'(first|refine gB ?_|refine gS (λb=>?_) (λb=>?_)|fail)
   rfl
  rw[CI H];rw[O0 ω]at d;obtain⟨k1,k2⟩:=s.yes (show(0:Int)<=a by omega);have R:g.K.length<=512:=k1.lens.objs;have S:1<=g.o/\g.o<=1000000:=ω
  refine⟨D,n,?_⟩;refine fP 108 [(242,[2,0,0]),(243,[2,0]),(244,[1,0,1])] [ς4] Tryz.func145 rfl ?_ (.inr (ay (N6 n.fr) ⟨tV1,tV1,tV1⟩))
  repeat'(first|refine gB ?_|refine gS (λb=>?_) (λb=>?_)|fail)
  refine gl g.K.length (λi=>[(1,fN T),(2,fI size),(3,bF (ac.enc .R h)),(6,bF (mj)),(9,bF (QL g D)),(10,fI a),(13,fN i)]) (λi=>∀(j:Nat)(z:bc),j<i->g.K[j]? = some z->N8 a z=false) (λj z hj=>ω) λi l=>?_
  obtain⟨U,J⟩:=l;by_cases V:i<g.K.length/\(nth g.K i).U<a
  ·have k:=ar V.1
   refine σE ?_
   (exact cV (i+1) ⟨ω,fh k (Z0 ω) J⟩)
  have o:kW (N8 a) g.K=i:=nl ω J λz L=>by
   have W:=(C4.1 L).1;have:z=nth g.K i:=(bk L).symm;subst this;exact O0 ω
  have k:i<g.K.length->g.K[i]? = some (nth g.K i):=λX=>ar X
  have Y:=zL g.K i ⟨h.o,a,size,(T:Nat)⟩ ω ω;rw[show addO g a size (T:Nat) = {g with K:=g.K.take i++⟨g.o,a,size,(T:Nat)⟩::g.K.drop i,o:=g.o+1} by unfold addO;rw[mV o],e]
  repeat'(first|refine gE ?_|with_reducible refine CH (aa (k ω)) ?_|refine gS (λb=>?_) (λb=>?_)|refine CK rfl (aa (k ω)) rfl ?_)
  all_goals
   rw[e];rfl
 rw[CI G];have M:9<=size:=by unfold aP at G;repeat' split at G<;>omega
 have d:=zp h size l ⟨M,B.2⟩ ω;rw[FG t l ⟨M,B.2⟩];have hg:(DU h size).1.o=h.o/\(DU h size).1.K=h.K:=by
  unfold DU;split
  ·exact⟨rfl,rfl⟩
  split<;>exact⟨rfl,rfl⟩
 generalize DU h size=w at d hg |-;obtain⟨g,a⟩:=w;obtain⟨e,N⟩:=hg;simp only at d e N |-;have R:g.K.length<=512:=by rw[N];exact P
 have S:1<=g.o/\g.o<=1000000:=ω
 by_cases H:a<0
 ·rw[CJ H]
  rw[Z0 ω]at d;refine⟨_,Kj.own _,?_⟩;change am _ _ _ _ _ (iv _++_);refine fP 108 [(242,[2,0,0]),(243,[2,0]),(244,[1,0,1])] [ς4] Tryz.func145 rfl ?_ (.inr (ay (nq _) ⟨tV1,tV1,tV1⟩))
  repeat'(first|refine gB ?_|refine gS (λb=>?_) (λb=>?_)|fail)
  rfl
 rw[CI H];rw[O0 ω]at d;refine⟨_,Kj.own _,?_⟩;change am _ _ _ _ _ (iv _++_);refine fP 108 [(242,[2,0,0]),(243,[2,0]),(244,[1,0,1])] [ς4] Tryz.func145 rfl ?_ (.inr (ay (nq _) ⟨tV1,tV1,tV1⟩))
 repeat'(first|refine gB ?_|refine gS (λb=>?_) (λb=>?_)|fail)
 refine gl g.K.length (λi=>[(1,fI t),(2,fI size),(3,bF (ac.enc .R h)),(6,bF (mj)),(9,bF (iv g)),(10,fI a),(13,fN i)]) (λi=>∀(j:Nat)(z:bc),j<i->g.K[j]? = some z->N8 a z=false) (λj z hj=>ω) λi l=>?_
 obtain⟨U,J⟩:=l;by_cases V:i<g.K.length/\(nth g.K i).U<a
 ·have k:=ar V.1
  refine σE ?_
  (exact cV (i+1) ⟨ω,fh k (Z0 ω) J⟩)
 have o:kW (N8 a) g.K=i:=nl ω J λz L=>by
  have W:=(C4.1 L).1;have:z=nth g.K i:=(bk L).symm;subst this;exact O0 ω
 have k:i<g.K.length->g.K[i]? = some (nth g.K i):=λX=>ar X
 have Y:=zL g.K i ⟨h.o,a,size,t⟩ ω ω;rw[show addO g a size t = {g with K:=g.K.take i++⟨g.o,a,size,t⟩::g.K.drop i,o:=g.o+1} by unfold addO;rw[mV o],e]
 repeat'(first|refine gE ?_|with_reducible refine CH (aa (k ω)) ?_|refine gS (λb=>?_) (λb=>?_)|refine CK rfl (aa (k ω)) rfl ?_)
 all_goals
  rw[e];rfl
def cl(k:ah)(f c:Nat):Int:=nth (nth k.F.W.V f) c
structure At(k:ah)(a:Int)(f c:Nat):Prop where
 m:(au k.F.O (a / 16)).y≠0
 f:(au k.F.O (a / 16)).j=f
 c:a % 16=c
def At.cell{k:ah}(h:At k a f c):jV k a=cl k f c:=by
 unfold jV cl;rw[h.f,h.c,Z4,Z4]
structure Zj(h h':ac)(x:bc):Prop where
 mem:∀o,o∈h'.K↔o=x\/o∈h.K
 ze:∀j:Int,0<=j->j<x.k->jV h'.G (x.U+j)=0
 ke:∀o∈h.K,∀j:Int,0<=j->j<o.k->jV h'.G (o.U+j)=jV h.G (o.U+j)
def hE(h:ac)(k:ah):ac:={h with G:=k,a3:=false,a9:=⟨⟨0,0,[]⟩,0,0⟩}
def sm{α:Type}(f:α->Int):List α->Int
 | []=>0
 | a::l=>f a+sm f l
def cells1(xs:List Int)(i:Nat)(h:i<xs.length):[rI .R (nth xs i)]=((xs.map (rI .R)).take (i+1)).drop i:=by
 rw[List.drop_take,<-I8,gn h,show i+1 - i=1 by omega]
 rfl
def G3(k:ah)(j:cH)(c:aG k=true)(D:kf j=true):zzA 352 false [.val (some 5) (ah.enc .R k),.val (some 5) (cH.enc .R j)] (.tup [some 5,some 5]) (ah.enc .own (gY k j).1++cH.enc .own (gY k j).2):=by
 obtain⟨F,Y,Z,Q,j6⟩:=gr.1 D;have R:=mq F;have y:=aX c;have g:=gJ k y;have l:=uM j (xw D);have b:=iA k y;rw[c,Bool.and_true]at b;have o:=Be j (xw D);rw[D]at o;have d:=fp k j.g.b1 y.1.2;have p:=fp k j.g.b3 y.1.2;have r:=cG k.F.O j.g.b1 y.1.2;have t:=cG k.F.O j.g.b3 y.1.2;have L:=(bt.1 (aF.1 c).2.2.1).2.2;have S:=(aT.1 (aF.1 c).2.1).2.2.1;have q:jmay k j=false->gY k j=(k,j):=λe=>by unfold gY;rw[e];rfl
 refine fO 149 [(1,262,[11,12,13,14,15,16,0,1,2,3,4,5,6,1003,1004,1005,7]),(2,6,[17,18,19,20,8,9]),ρ 3 33 21,(4,258,[56,57,0,1,2,1001,3]),(15,272,[82,83,84,85,86,87,88,89,90,91,92,93,94,81,95,96,0,1,2,3,4,5,6,7,8,9,10,11,12,13,14,15,16,1015]),(25,273,[123,124,125,126,127,128,129,130,131,132,133,134,135,122,136,137,138,0,1,2,3,4,5,6,7,8,9,10,11,12,13,14,15,16,17,1015]),(29,258,[147,148,0,1,2,1001,3])] Tryz.func352 rfl ?_ (.inr (ay (Ck _) (cH.enc_fr _)));by_cases u:k.b=100000
 ·rw[Z0 (λn=>n u)]at b
  rw[q (by rw[<-SA,ik];exact λh=>h.1.2 u)]
  refine σP ?_
  rfl
 rw[O0 u]at b;by_cases B:(au k.F.O j.g.b1).y=0
 ·rw[Z0 (λn=>n B)]at d
  rw[q (by rw[<-SA,ik];exact λh=>h.2.2.1 B)]
  refine σP ?_
  rfl
 rw[O0 B]at d;by_cases w:(au k.F.O j.g.b3).y=0
 ·rw[Z0 (λn=>n w)]at p
  rw[q (by rw[<-SA,ik];exact λh=>h.2.2.2.1 w)]
  refine σP ?_
  rfl
 rw[O0 w]at p;by_cases G:(au k.F.O j.g.b1).j=(au k.F.O j.g.b3).j
 ·rw[q (by rw[<-SA,ik];exact λh=>h.2.2.2.2 G)]
  refine σB ?_
  rfl
 have T:jmay k j=true:=ik.2 ⟨⟨c,u⟩,D,B,w,G⟩;rw[show gY k j=jstep k j by unfold gY;rw[T];rfl];have H:j.g.b3≠j.g.b1:=λe=>G (by rw[e])
 unfold jstep;by_cases M:j.b6=0
 ·rw[CJ M]
  have a:=sW k j.g.b3 1 c u w (.inl rfl);cases e:(ju k j.g.b3 1).2<;>rw[e]at a
  all_goals
   refine σB ?_
   rfl
 rw[CI M];by_cases N:j.b6=1
 ·rw[CJ N]
  by_cases E:j.o=j.g.V.length
  ·rw[CJ E]
   refine σB ?_
   rfl
  rw[CI E];obtain⟨n,C⟩:=C5 Q;have a:=Na k j.g.b3 j.g.b1 (nth j.g.V j.o.toNat) c u w B (ku F ω);rw[C,Z4]at a;have J:n<j.g.V.length:=ω
  rw[show nth j.g.V j.o.toNat=nth j.g.V n by rw[C];rfl]
  repeat'(first|refine gB ?_|refine Sl.mid (rows':=[rI .R (nth j.g.V n)]) n (n+1) C ω ω ϰ (aI λ_=>rfl) (cells1 _ _ J) ?_)
  rfl
 rw[CI N];by_cases O:j.b6=2
 ·rw[CJ O]
  have a:=K4 k j.g.b3 j.g.b1 c u w B H;cases e:(zd k j.g.b3 j.g.b1).2<;>rw[e]at a
  all_goals
   refine σB ?_
   rfl
 rw[CI O];by_cases K:j.b6=3
 ·rw[CJ K]
  obtain⟨p1,p2,p3,U,p5⟩:=bQ c B;by_cases E:0<j.o
  ·rw[CJ E]
   have P:=ku F (i:=(j.o - 1).toNat) ω;have V:=ar (xs:=j.g.V) (i:=(j.o - 1).toNat) ω;have W:0<=j.g.b1*16+nth j.g.V (j.o - 1).toNat/\j.g.b1*16+nth j.g.V (j.o - 1).toNat<512:=ω
   have X:(j.g.b1*16+nth j.g.V (j.o - 1).toNat) / 16=j.g.b1:=ω
   have a:=zx k.F (j.g.b1*16+nth j.g.V (j.o - 1).toNat) 0 (i9 c) y.1 W ω (λ_=>by rw[X];exact⟨U,ω,row16 c (f:=jU k j.g.b1) (by unfold jU;omega)⟩);generalize (ij k.F (j.g.b1*16+nth j.g.V (j.o - 1).toNat) 0).1=m at a |-;generalize (ij k.F (j.g.b1*16+nth j.g.V (j.o - 1).toNat) 0).2=e at a
   repeat'(first|refine gB ?_|refine CO ω (aa V) ?_)
   rfl
  rw[CI E];have a:=sW k j.g.b3 2 c u w (.inr rfl);cases e:(ju k j.g.b3 2).2<;>rw[e]at a
  all_goals
   refine σB ?_
   first|rfl|(rw[<-K];rfl)
 rw[CI K]
 refine σB ?_
 rfl
def Y6(h:ac):Int:=(gY h.G h.a9).2.b6
def D3(h:ac)(l:bf h [])(n:h.a3=true)(o:ac.sml h)(t:h.G.b<=99000):zzA 262 false [ν h] (.tup [some 24,none,none]) (ac.enc .own (mStep h)++[I (Y6 h),B true]):=by
 obtain⟨q,-,-⟩:=l.job n;have i:=iT h o;have c:=cR h o;rw[ed,l.to]at c;have j:=G3 h.G h.a9 l.ker q;have a:=ay (b:=[I (Y6 h),B true]) (ac.enc_fr (mStep h)) ⟨tV1,tV1,tV1⟩;unfold Y6 mStep at a |-;generalize gY h.G h.a9=r at j a |-;have d:(ac.enc .R h)=(ac.enc .R h).set 18 (B true):=by rw[<-n];rfl
 unfold ν at *;rw[d];rw[d]at i c;by_cases e:r.2.b6=4
 ·rw[CJ (show over r.2=true from O0 (.inl e)),CJ (show over r.2=true from O0 (.inl e))]at a |-
  refine fO 51 [ςe] Tryz.func262 rfl ?_ (.inr a)
  repeat'(first|refine σT ?_|refine CG ?_|refine CF (i) ?_|refine CF (c) ?_|refine CF (j) ?_|refine CG ?_)
  rw[e];exact wC
 by_cases k:r.2.b6=5
 ·rw[CJ (show over r.2=true from O0 (.inr k)),CJ (show over r.2=true from O0 (.inr k))]at a |-
  refine fO 51 [ςe] Tryz.func262 rfl ?_ (.inr a)
  repeat'(first|refine σT ?_|refine CG ?_|refine CF (i) ?_|refine CF (c) ?_|refine CF (j) ?_|refine CG ?_)
  rw[k];exact wC
 have p:¬over r.2=true:=by unfold over;simp[e,k]
 rw[CI p,CI p]at a |-;refine fO 51 [ςe] Tryz.func262 rfl ?_ (.inr a)
 refine σB ?_
 rw[n]
 rfl
def QG{S Y:af}{t:List C}{u:Nat->Value}(d:cw w S Y (ac.enc .own h++t) u):cw w S Y (dh h++t) u:=by
 obtain⟨f,b,e,g⟩:=d;refine⟨f,λj c a=>?_,e,g⟩;have i:dh h++t=(((ac.enc .own h++t).set 6 (oS h)).set 7 (oL h)).set 8 (oO h):=rfl;rw[i]at a;by_cases k:j=8
 ·subst k
  have:c=oO h:=by simpa[ac.enc] using a.symm
  rw[this];exact th (b 8 _ rfl)
 by_cases l:j=7
 ·subst l
  have:c=oL h:=by simpa[ac.enc] using a.symm
  rw[this];exact th (b 7 _ rfl)
 by_cases n:j=6
 ·subst n
  have:c=oS h:=by simpa[ac.enc] using a.symm
  rw[this];exact th (b 6 _ rfl)
 rw[List.getElem?_set_ne ω,List.getElem?_set_ne ω,List.getElem?_set_ne ω]at a;exact b j c a
def am.E{sh:Bool}{A:List RA}{k:Kd}{t:List C}(c:am P f sh A k (ac.enc .own h++t)):am P f sh A k (dh h++t):=by
 obtain⟨a,b⟩:=c;refine⟨a,λw S d g i=>(b w S d g i).mono λe w1 j=>?_⟩;obtain⟨v,l,n,X,S1,o,p,q,r,u⟩:=j;exact⟨v,l,n,X,S1,o,p,q,r,QG u⟩
def xR(h:ac)(a:ac.sml h)(b:h.a3=false):zzA 262 false [ν h] (.tup [some 24,none,none]) (dh h++[I h.a9.b6,B false]):=by
 have c:=dG h a;refine fO 51 [ςe] Tryz.func262 rfl ?_ (.inr (ay (ce _) ⟨tV1,tV1,tV1⟩))
 repeat'(first|refine gP ?_|refine Bf.f b ?_)
 rfl
def stp1(h:ac):ac:=if h.a3=true then mStep h else h
def MK(h:ac)(d:bf h [])(b:ac.sml h)(e:h.G.b<=99000):zzA 156 false [ν h] (.tup [some 24,none]) (dh (stp1 h)++[B h.a3]):=by
 unfold stp1;cases c:h.a3 with
 | true=>
  rw[CJ rfl];have a:=(D3 h d c b e).E;generalize mStep h=g at a |-;refine fO 15 [] Tryz.func156 rfl ?_ (.inr (ay (ce _) ⟨tV1,tV1⟩))
  refine σP ?_
  rfl
 | false=>
  rw[CI ϕ];have a:=xR h b c;refine fO 15 [] Tryz.func156 rfl ?_ (.inr (ay (ce _) ⟨tV1,tV1⟩))
  refine σP ?_
  rfl
def y9(q:bz)(now:Int)(l:gj q=true)(L:q.a0.length<=4096)(E:0<=now/\now<=1000000)(b:∀y∈q.a0,y.b7<=1000000):zzA 257 false [.val (some 2) (bz.enc .R q),.vI now,.vI 100] (.tup [some 2,none]) (Kx q now):=by
 have p:bz.sml q:=⟨ω,λ_ _=>tV1⟩
 have F:=nC q p;have r:=qF q p;rw[l]at r;have t:=aH now 0 1000000;rw[O0 E]at t;have u:=aH 100 0 1000000;rw[O0 qs]at u;have n:=(iQ.1 l).1;have a:fy (Kx q now):=ay (bz.enc_fr _) (na _);have w:∀i,i<q.a0.length->0<=(nth q.a0 i).b7:=λi c=>(n _ (ax c)).2.2.2
 unfold Kx at a |-;generalize G:pA now q.a0=k at a |-;refine fO 59 [] Tryz.func257 rfl ?_ (.inr a)
 refine σP ?_
 refine Lp.fz 8 (ι:=Nat) (λi=>[(1,fI now),(2,fI 100),(3,bF (bz.enc .R q)),(6,bF [I 0,.z]),(8,bF (bz.enc .R q)),(9,fN i)]) (λi=>i<=q.a0.length/\∀j,j<i->(nth q.a0 j).b7<now - 100) (λi=>q.a0.length - i) 0 ?_ ⟨C1 _,λj H=>ω⟩ λi c=>?_
 ·(repeat'(first|exact tV1|rfl|exact CQ rfl (show Qd (dw (bz.enc .own q)) (bz.enc .R q) by rw[bz.enc_fz];exact kS _)|refine CQ ?_ ?_))
 obtain⟨c,B⟩:=c;by_cases d:i<q.a0.length/\(nth q.a0 i).b7<now - 100
 ·have g:=ar d.1
  have:=w i d.1;have:=b _ (ax d.1)
  refine σE ?_
  (exact cV (i+1) ⟨ω,λj H=>by by_cases e:j=i;(subst e;exact d.2);exact B j ω⟩)
 have h:=G9 now (i:=i) c B (λJ K=>d ⟨J,K⟩);rw[G]at h;subst h;have C:=lU (q.a0.take k) θ;have D:=lU (q.a0.drop k) ε;by_cases o:k<q.a0.length
 ·have g:=ar o
  have:=w k o;have:=b _ (ax o)
  repeat'(first|refine gE ?_|refine gS (λl=>?_) (λl=>?_)|refine Ca k rfl ϰ (aI λ_=>rfl) C8 ?_|refine Ci k rfl ϰ (aI λ_=>rfl) I8 ?_)
  rfl
 repeat'(first|refine gE ?_|refine Ca k rfl ϰ (aI λ_=>rfl) C8 ?_|refine Ci k rfl ϰ (aI λ_=>rfl) I8 ?_)
 rfl
def Q5(h:ac)(xs:List aO)(k:Nat)(a:k<xs.length):freeAs h ((xs.take (k+1)).map (·.U))=freeA (freeAs h ((xs.take k).map (·.U))) (nth xs k).U:=by
 unfold freeAs;rw[ZA,ar a];simp
def Ei(h:ac)(n:Int)(o:ac.sml h)(c:bf h [])(u:h.G.b≠100000)(p:0<=n/\n<=1000)(e:h.b2+n<=1000000):zzA 154 false [ν h,.vI n] (.tup [some 24,none]) (dh (tick h n)++[I ((lT h n).length:Nat)]):=by
 have w:=dG h o;have q:=cR h o;rw[ed,c.to]at q;have r:=aH n 0 1000;rw[O0 p]at r;have a:=c.nums;unfold ch at a;rw[C0]at a;have B:=c.lens.quar;have t:=y9 h.a4 (h.b2+n) c.quar ω ω (λy C=>by have:=c.snc y C;omega);unfold Kx at t;have b:=c.aged (n:=n) p.1 e;have D:((h.a4.a0.take (pA (h.b2+n) h.a4.a0))).length<=512:=by rw[Z2];omega
 have g:lT h n=(h.a4.a0.take (pA (h.b2+n) h.a4.a0)).map (·.U):=rfl;have E:dh (aged h n)=((dh h).set 15 (I (h.b2+n))).set 13 (.s .own ((h.a4.a0.drop (pA (h.b2+n) h.a4.a0)).map (aO.enc .own))):=rfl;unfold tick;rw[g]at b |-;rw[List.append_nil]at b;generalize h.a4.a0.take (pA (h.b2+n) h.a4.a0)=out at *;refine fP 63 [(256,[2,0])] [] Tryz.func154 rfl ?_ (.inr (ay (ce _) ⟨tV1,tV1⟩))
 refine σB ?_
 refine lp0 out.length (λk=>[(4,.Y .box mj),(6,bF (dh (freeAs (aged h n) ((out.take k).map (·.U))))),(8,bK (cA .own out)),(50,.c5 8 0 [] none),(51,fI out.length),(52,fN k)]) λk G=>?_
 by_cases i:k<out.length
 ·have d:=ar i
  have j:out.map (·.U)=(out.take k).map (·.U)++(nth out k).U::(out.drop (k+1)).map (·.U):=by
   conv=>lhs;rw[<-List.take_append_drop k out,gn i]
   simp
  have l:bf (freeAs (aged h n) ((out.take k).map (·.U))) ((nth out k).U::(out.drop (k+1)).map (·.U)):=bf.freeAs (by rw[<-j];exact b);have F:=lA _ _ _ l (by rw[(js _ _).2.2.1];exact u)
  refine σE ?_
  (refine CP (k+1) ω ω ?_)
  rw[Q5 _ out k i];exact wC
 obtain rfl:k=out.length:=ω
 rw[CA]
 refine σE ?_
 rw[Z1]
 rfl
def am.fzE{sh:Bool}{A:List RA}{k:Kd}{g:ac}{x:C}(c:am P f sh A k (dh g++[x]))(b:fz x=x):am P f sh A k (ac.enc .R g++[x]):=by
 have a:=c.fzR;rw[bT,Hf]at a;change am _ _ _ _ _ (_++[fz x]) at a
 rwa [b]at a
def GA(h:ac)(t:Int)(a:ac.sml h)(c:bf h [])(d:¬(h.G.b≠100000/\0<=t/\t<=h.Q.length - 1)):zzA 153 false [ν h,.vI t] (.tup [some 24,none]) (dh h++[I 0]):=by
 have e:=dG h a;have b:=pf h t a;rw[c.to,show(decide (0<=t/\t<=h.Q.length - 1)&&decide (h.G.b≠100000)&&true)=false by
   rw[Bool.and_true,<-SA,I0,C0,C0];exact λx=>d ⟨x.2,x.1⟩]at b
 refine fP 52 [(256,[2,0])] [] Tryz.func153 rfl ?_ (.inr (ay (ce _) ⟨tV1,tV1⟩))
 refine σP ?_
 rfl
def JX(h:ac)(n:Int)(g:ac.sml h)(i:bf h [])(j:¬(h.G.b≠100000/\(0<=n/\n<=1000)/\h.b2+n<=1000000)):zzA 154 false [ν h,.vI n] (.tup [some 24,none]) (dh h++[I 0]):=by
 have d:=dG h g;have b:=cR h g;rw[ed,i.to]at b;have c:=aH n 0 1000;have a:=i.nums;unfold ch at a;rw[C0]at a;by_cases k:h.G.b=100000
 ·refine fP 63 [(256,[2,0])] [] Tryz.func154 rfl ?_ (.inr (ay (ce _) ⟨tV1,tV1⟩))
  refine σB ?_
  rfl
 by_cases e:0<=n/\n<=1000
 ·rw[O0 e]at c
  have l:¬h.b2+n<=1000000:=λx=>j ⟨k,e,x⟩
  refine fP 63 [(256,[2,0])] [] Tryz.func154 rfl ?_ (.inr (ay (ce _) ⟨tV1,tV1⟩))
  refine σB ?_
  rfl
 rw[Z0 e]at c;refine fP 63 [(256,[2,0])] [] Tryz.func154 rfl ?_ (.inr (ay (ce _) ⟨tV1,tV1⟩))
 refine σB ?_
 rfl
def J5(h:ac)(a:ac.sml h)(b:h.a3=true)(d:99000<h.G.b):zzA 262 false [ν h] (.tup [some 24,none,none]) (dh h++[I h.a9.b6,B false]):=by
 have c:=dG h a;refine fO 51 [ςe] Tryz.func262 rfl ?_ (.inr (ay (ce _) ⟨tV1,tV1,tV1⟩))
 repeat'(first|refine gE ?_|refine Bf.t b ?_)
 rfl
def G2(h:ac)(i:bf h [])(a:ac.sml h):zzA 156 false [ν h] (.tup [some 24,none]) (dh (if oJ h=true then mStep h else h)++[B (oJ h)]):=by
 by_cases b:h.G.b<=99000
 ·have c:=MK h i a b
  unfold stp1 at c;have e:oJ h=h.a3:=by unfold oJ;rw[O0 b,Bool.and_true]
  rw[e];exact c
 have e:oJ h=false:=by unfold oJ;rw[Z0 b,Bool.and_false]
 rw[e,CI ϕ];cases g:h.a3 with
 | true=>
  have d:=J5 h a g ω;refine fO 15 [] Tryz.func156 rfl ?_ (.inr (ay (ce _) ⟨tV1,tV1⟩))
  refine σP ?_
  rfl
 | false=>
  have d:=xR h a g;refine fO 15 [] Tryz.func156 rfl ?_ (.inr (ay (ce _) ⟨tV1,tV1⟩))
  refine σP ?_
  rfl
def NS(h:ac):∀k,(lg h k).2<=k
 | 0=>O5 _
 | k+1=>by
  have:=NS h k;unfold lg;split
  ·show(lg h k).2+1<=_;omega
  omega
def V3{w:bn}{m:Nat}(h:pe w m)(d:gp w.Z.G.d)(k:Nat)(f:k<=50):ac.sml (lg w.Z k).1:=by
 have e:∀a:dv,a.b5=10->a.N=(k:Nat)->(nu w a).1.Z=(lg w.Z k).1:=λa c b=>by
  unfold nu;rw[CI ω,CI ω,CI ω,CI ω,CI ω,CJ ω];show(lg w.Z a.N.toNat).1=_;rw[b];rfl
 have c:=h.act ⟨10,0,(k:Nat),0,0⟩;have b:=J3 h ⟨10,0,(k:Nat),0,0⟩;unfold rfs at b;rw[<-e ⟨10,0,(k:Nat),0,0⟩ rfl rfl];exact(c.fit (by rw[b];exact d)).1
def DV(w:bn)(a:dv)(i m:Nat)(h:pe w m)(S:m<=900)(o:ac.sml w.Z)(p:i<w.Z.K.length):zzA 149 true [.val (some 26) (bn.enc .R w),.val (some 5) (dv.enc .R a),.val (some 4) (bc.enc .R (nth w.Z.K i))] (.tup [some 26,none]) (bn.enc .R (m0 w a i).1++[I (m0 w a i).2]):=by
 have d:=h.inv;have J:=nD d (ax p);have K:=kq d (ax p) (k:=0);have M:1<=(nth w.Z.K i).k/\(nth w.Z.K i).k<=1000:=by
  rcases d.oow _ (ax p) with⟨s,o,T,F⟩|⟨l,B,c,g⟩
  ·have U:=aJ (d.L.sok s o)
   have:=mC (n:=(nth w.Z.K i).k) ω;omega
  have V:=cL (d.L.lok l B);omega
 have C:kb w.Z (nth w.Z.K i).U=i:=by
  obtain⟨F,y,-⟩:=d.objAt (ax p);exact hJ (f:=(·.U)) (gR d.osr) F p (by rw[y])
 have N:=d.lens.caches;unfold m0;by_cases G:a.b5=2
 ·rw[CJ G]
  unfold uO;by_cases c:w.Z.G.b=100000
  ·rw[CJ c]
   have j:=(Ga w.Z a.a1 (nth w.Z.K i).U o d.to c).fzE rfl;refine fO 102 [] Tryz.func149 rfl ?_ (.inl rfl)
   repeat'(first|refine gB ?_|refine gS (λb=>?_) (λb=>?_)|refine Cl.sh j rfl ?_)
   rfl
  rw[CI c];by_cases g:0<=a.a1/\a.a1<=w.Z.Q.length - 1
  ·rw[CJ (show mE w.Z a from g)]
   obtain⟨t,O⟩:=C5 g.1;have j:=(GE w.Z (nth w.Z.K i) t o d.to c (ax p) ω).fzE rfl;rw[C,<-O]at j;rw[show a.a1.toNat=t by omega];have P:=Gd w.c6 (nth w.Z.K i).Id m h.ref ω;generalize freeT w.Z t i=f at j |-;by_cases q:f.2=0
   ·rw[CJ q]
    refine fO 102 [] Tryz.func149 rfl ?_ (.inl rfl)
    repeat'(first|refine gB ?_|refine gS (λb=>?_) (λb=>?_)|refine Cl.sh P rfl ?_)
    rfl
   rw[CI q];refine fO 102 [] Tryz.func149 rfl ?_ (.inl rfl)
   repeat'(first|refine gB ?_|refine gS (λb=>?_) (λb=>?_)|fail)
   rfl
  rw[CI (show ¬mE w.Z a from g)];have j:=(Hk w.Z a.a1 (nth w.Z.K i).U o d.to c g).fzE rfl;refine fO 102 [] Tryz.func149 rfl ?_ (.inl rfl)
  repeat'(first|refine gB ?_|refine gS (λb=>?_) (λb=>?_)|fail)
  rfl
 rw[CI G];by_cases H:a.b5=3
 ·rw[CJ H]
  unfold ru;have r:=aH a.At 0 ((nth w.Z.K i).k - 1);by_cases c:0<=a.At/\a.At<=(nth w.Z.K i).k - 1;rotate_left
  ·rw[CJ c]
   rw[Z0 c]at r;refine fO 102 [] Tryz.func149 rfl ?_ (.inl rfl)
   repeat'(first|refine gB ?_|refine gS (λb=>?_) (λb=>?_)|fail)
   rfl
  rw[CI (Z7 c)];rw[O0 c]at r;have D:0<=HP w.Z ((nth w.Z.K i).U+a.At):=Bm (ax p) (O0 ω);by_cases q:0<=a.Value/\a.Value<=999;rotate_left
  ·have e:=(DQ w.Z ((nth w.Z.K i).U+a.At) a.Value o d q D).fzE rfl
   unfold tbl at e;by_cases g:(au w.Z.G.F.O (((nth w.Z.K i).U+a.At) / 16)).y=1
   ·rw[CJ g]at e |-
    refine fO 102 [] Tryz.func149 rfl ?_ (.inl rfl)
    repeat'(first|refine gB ?_|refine gS (λb=>?_) (λb=>?_)|fail)
    rfl
   rw[CI g]at e |-;rw[CJ q];refine fO 102 [] Tryz.func149 rfl ?_ (.inl rfl)
   repeat'(first|refine gB ?_|refine gS (λb=>?_) (λb=>?_)|fail)
   rfl
  have e:=(BA w.Z ((nth w.Z.K i).U+a.At) a.Value o d q).fzE rfl;unfold FU tbl at e;rw[CI (show ¬HP w.Z ((nth w.Z.K i).U+a.At)<0 by omega)]at e;by_cases g:(au w.Z.G.F.O (((nth w.Z.K i).U+a.At) / 16)).y=1
  ·rw[CJ g]at e |-
   refine fO 102 [] Tryz.func149 rfl ?_ (.inl rfl)
   repeat'(first|refine gB ?_|refine gS (λb=>?_) (λb=>?_)|fail)
   rfl
  rw[CI g]at e |-;rw[CI (Z7 q)];obtain⟨W,Q⟩:=Dt w.c6 (nth w.Z.K i).Id a.At a.Value m h.ref ω q;simp only at e;refine fO 102 [] Tryz.func149 rfl ?_ (.inl rfl)
  repeat'(first|refine gB ?_|refine gS (λb=>?_) (λb=>?_)|refine Cl.sh Q rfl ?_)
  rfl
 rw[CI H];unfold ve;have u:=(El w.Z i a.Value o d p).fzE rfl;by_cases c:w.Z.G.b≠100000/\i6 w.Z i a.Value
 ·rw[CJ c]at u |-
  rw[O0 c]at u;have E:=ky true;obtain⟨X,R⟩:=H1 w.c6 (nth w.Z.K i).Id a.Value m h.ref ω;refine fO 102 [] Tryz.func149 rfl ?_ (.inl rfl)
  repeat'(first|refine gB ?_|refine gS (λb=>?_) (λb=>?_)|refine Cl.sh R rfl ?_)
  rfl
 rw[CI c]at u |-;rw[Z0 c]at u;have E:=ky false;refine fO 102 [] Tryz.func149 rfl ?_ (.inl rfl)
 repeat'(first|refine gB ?_|refine gS (λb=>?_) (λb=>?_)|fail)
 rfl
def MQ(w:bn)(a:dv)(m:Nat)(h:pe w m)(X:m<=900)(M:gp w.Z.G.d):zzA 76 true [.val (some 26) (bn.enc .R w),.val (some 5) (dv.enc .R a)] (.tup [some 26,none]) (bn.enc .R (nu w a).1++[I (nu w a).2]):=by
 have l:=h.inv;have p:=(h.fit M).1;have C:=h.ref.sml (by omega:m<=1000);have g:=(BL w p C).fzR;rw[bn.enc_fz]at g;have i:=cR w.Z p;rw[ed,l.to]at i;have Y:=l.lens.objs;unfold nu;by_cases O:a.b5=1
 ·rw[CJ O]
  obtain⟨cc,D,d⟩:=Jr w.Z a.a1 a.N p l (by rw[ed];exact l.to);have r:=D.ok;have c:=d.toS.fzR;rw[bT,Vv r]at c;change am _ _ _ _ _ (_++[I _,I _]) at c;by_cases e:(eX w.Z a.a1 a.N).2.2=0
  ·rw[CJ e]
   have E:1<=a.N/\a.N<=1000:=by
    refine Classical.byContradiction λP=>?_
    unfold eX at e;rw[CJ P]at e;split at e
    ·exact absurd (show(5:Int)=0 from e) qs
    split at e
    ·exact absurd (show(1:Int)=0 from e) qs
    exact absurd (show(2:Int)=0 from e) qs
   have j:=Dp w.c6 a.N m h.ref ω E;clear d r;generalize eX w.Z a.a1 a.N=f at c e |-;refine fO 148 [ς0] Tryz.func76 rfl ?_ (.inl rfl)
   repeat'(first|refine gB ?_|refine gS (λb=>?_) (λb=>?_)|refine Cl.sh c rfl ?_|refine Cl.sh j rfl ?_)
   rfl
  rw[CI e];clear d r;generalize eX w.Z a.a1 a.N=f at c e |-;refine fO 148 [ς0] Tryz.func76 rfl ?_ (.inl rfl)
  repeat'(first|refine gB ?_|refine gS (λb=>?_) (λb=>?_)|refine Cl.sh c rfl ?_)
  rfl
 rw[CI O];by_cases u:a.b5=2\/a.b5=3\/a.b5=4
 ·rw[CJ u]
  have F:=kJ w.Z.K (dS a.N) ω;change am _ _ _ _ _ [I (ml w.Z a.N)]at F;by_cases e:ml w.Z a.N<0
  ·rw[CJ e]
   rcases u with k|k|k
   all_goals
    refine fO 148 [ς0] Tryz.func76 rfl ?_ (.inl rfl)
    repeat'(first|refine gB ?_|refine gS (λb=>?_) (λb=>?_)|refine Cq.mk (qj (some 4) (bc.enc .R) (dS a.N) w.Z.K) (uI default a).has (λL k rcs G=>?_) ?_)
    ·obtain⟨y,-,rfl,rfl,rfl⟩:=G
     exact uI y a
    rfl
  rw[CI e];obtain⟨Q,f2,f3⟩:=eL (NL a.N) w.Z.K (by unfold ml at e;omega);have R:=DV w a (ml w.Z a.N).toNat m h X p Q;have H:=ar Q;change w.Z.K[(ml w.Z a.N).toNat]? = _ at H;generalize m0 w a (ml w.Z a.N).toNat=f at R |-;rcases u with k|k|k
  all_goals
   refine fO 148 [ς0] Tryz.func76 rfl ?_ (.inl rfl)
   repeat'(first|refine gB ?_|refine gS (λb=>?_) (λb=>?_)|refine Cq.mk (qj (some 4) (bc.enc .R) (dS a.N) w.Z.K) (uI default a).has (λL k rcs G=>?_) ?_|refine CO ω (aa H) ?_|refine Cl.sh R rfl ?_)
   ·obtain⟨y,-,rfl,rfl,rfl⟩:=G
    exact uI y a
   rfl
 rw[CI u];by_cases S:a.b5=5\/a.b5=6\/a.b5=7
 ·rw[CJ S]
  unfold iD;by_cases T:a.b5=5
  ·rw[CJ T]
   have c:=wY w.Z a.a1 p l;by_cases e:(0<=a.a1/\a.a1<=w.Z.Q.length - 1)/\0<(nth w.Z.q.T a.a1.toNat).length
   ·rw[CJ (show mE w.Z a/\0<(nth w.Z.q.T a.a1.toNat).length from e)]
    rw[CJ e,O0 e]at c;have j:=ky true;refine fO 148 [ς0] Tryz.func76 rfl ?_ (.inl rfl)
    repeat'(first|refine gB ?_|refine gS (λb=>?_) (λb=>?_)|refine Cl.sh c rfl ?_)
    rfl
   rw[CI (show ¬(mE w.Z a/\0<(nth w.Z.q.T a.a1.toNat).length) from e)];rw[CI e,Z0 e]at c;have j:=ky false;refine fO 148 [ς0] Tryz.func76 rfl ?_ (.inl rfl)
   repeat'(first|refine gB ?_|refine gS (λb=>?_) (λb=>?_)|refine Cl.sh c rfl ?_)
   rfl
  rw[CI T];by_cases e:w.Z.G.b≠100000/\0<=a.a1/\a.a1<=w.Z.Q.length - 1;rotate_left
  ·rw[CJ (show ¬(w.Z.G.b≠100000/\mE w.Z a) from e)]
   by_cases J:a.b5=6
   ·have d:=ow w.Z a.a1 p l
    rw[CI e,CI e]at d;have c:=d.fzE rfl;refine fO 148 [ς0] Tryz.func76 rfl ?_ (.inl rfl)
    repeat'(first|refine gB ?_|refine gS (λb=>?_) (λb=>?_)|fail)
    rfl
   have Z:a.b5=7:=ω
   have c:=(GA w.Z a.a1 p l e).fzE rfl;refine fO 148 [ς0] Tryz.func76 rfl ?_ (.inl rfl)
   repeat'(first|refine gB ?_|refine gS (λb=>?_) (λb=>?_)|fail)
   rfl
  rw[CI (show ¬¬(w.Z.G.b≠100000/\mE w.Z a) from Z7 e)];by_cases J:a.b5=6
  ·rw[CJ J]
   have d:=ow w.Z a.a1 p l;rw[CJ e,CJ e]at d;have c:=d.fzE rfl;refine fO 148 [ς0] Tryz.func76 rfl ?_ (.inl rfl)
   repeat'(first|refine gB ?_|refine gS (λb=>?_) (λb=>?_)|fail)
   rfl
  rw[CI J];have Z:a.b5=7:=ω
  obtain⟨t,ht⟩:=C5 e.2.1;have c:=(Bw w.Z t p l.to e.1 ω).fzE rfl;rw[<-ht]at c;rw[show a.a1.toNat=t by omega];refine fO 148 [ς0] Tryz.func76 rfl ?_ (.inl rfl)
  repeat'(first|refine gB ?_|refine gS (λb=>?_) (λb=>?_)|fail)
  rfl
 rw[CI S];by_cases U:a.b5=8
 ·rw[CJ U]
  unfold rN;by_cases e:w.Z.G.b≠100000/\(0<=a.N/\a.N<=1000)/\w.Z.b2+a.N<=1000000
  ·rw[CJ e]
   have c:=(Ei w.Z a.N p l e.1 e.2.1 e.2.2).fzE rfl;refine fO 148 [ς0] Tryz.func76 rfl ?_ (.inl rfl)
   repeat'(first|refine gB ?_|refine gS (λb=>?_) (λb=>?_)|fail)
   rfl
  rw[CI e];have c:=(JX w.Z a.N p l e).fzE rfl;refine fO 148 [ς0] Tryz.func76 rfl ?_ (.inl rfl)
  repeat'(first|refine gB ?_|refine gS (λb=>?_) (λb=>?_)|fail)
  rfl
 rw[CI U];by_cases V:a.b5=9
 ·rw[CJ V]
  unfold rL;have c:=(Ax w.Z p).fzE rfl;unfold GG at c;rw[l.to]at c;cases q:w.Z.a3 with
  | true=>
   rw[CJ rfl];rw[CI (λx=>by rw[q]at x;cases x.1)]at c;have j:=ky false;refine fO 148 [ς0] Tryz.func76 rfl ?_ (.inl rfl)
   repeat'(first|refine gB ?_|refine gS (λb=>?_) (λb=>?_)|fail)
   rfl
  | false=>
   rw[CI ϕ];rw[CJ ⟨q,rfl⟩]at c;have j:=ky (started w.Z).2;refine fO 148 [ς0] Tryz.func76 rfl ?_ (.inl rfl)
   repeat'(first|refine gB ?_|refine gS (λb=>?_) (λb=>?_)|fail)
   rfl
 rw[CI V];by_cases k10:a.b5=10;rotate_left
 ·rw[CI (λx=>k10 x.1)]
  refine fO 148 [ς0] Tryz.func76 rfl ?_ (.inl rfl)
  repeat'(first|refine gB ?_|refine gS (λb=>?_) (λb=>?_)|fail)
  all_goals first|omega|rfl
 have c:=aH a.N 0 50;by_cases q:0<=a.N/\a.N<=50;rotate_left
 ·rw[CI (λx=>q x.2)]
  rw[Z0 q]at c;refine fO 148 [ς0] Tryz.func76 rfl ?_ (.inl rfl)
  repeat'(first|refine gB ?_|refine gS (λb=>?_) (λb=>?_)|fail)
  rfl
 rw[CJ ⟨k10,q⟩];rw[O0 q]at c;obtain⟨n,P⟩:=C5 q.1;rw[show a.N.toNat=n by omega];refine fO 148 [ς0] Tryz.func76 rfl ?_ (.inl rfl)
 repeat'(first|refine gB ?_|refine gS (λb=>?_) (λb=>?_)|fail)
 refine lp0 n (λk=>[(3,bF (dv.enc .R a)),(4,bF [.z,.z,.z,I 0,.z,.z,.z,.z,.z,.z,.z,.z,I 0,.z,I 0,I 0,I 0,I 0,B false,I 0,I 0,.z,I 0,I 0,I 0,.z]),(6,bF (bn.enc .R ⟨(lg w.Z k).1,w.c6⟩)),(7,fN ((lg w.Z k).2)),(10,fN k)]) λk hk=>?_
 obtain⟨g1,g2⟩:=Ba l h.ji k;have K:=V3 h M k ω;have hk2:(lg w.Z k).2<=k:=NS w.Z k;have j:=(G2 (lg w.Z k).1 g1 K).fzE rfl;by_cases lk:k<n
 ·have o:lg w.Z (k+1)=if oJ (lg w.Z k).1=true then(mStep (lg w.Z k).1,(lg w.Z k).2+1) else lg w.Z k:=rfl
  cases W:oJ (lg w.Z k).1 with
  | true=>
   rw[W]at o j;rw[CJ rfl]at o j
   repeat'(first|refine gE ?_|refine gS (λb=>?_) (λb=>?_)|fail)
   (refine CP (k+1) ω ω ?_)
   rw[o];exact wC
  | false=>
   rw[W]at o j;rw[CI ϕ]at o j
   repeat'(first|refine gE ?_|refine gS (λb=>?_) (λb=>?_)|fail)
   (refine CP (k+1) ω ω ?_)
   rw[o];exact wC
 obtain rfl:k=n:=ω
 repeat'(first|refine gE ?_|refine gS (λb=>?_) (λb=>?_)|fail)
 rfl
def Pf(c:eH)(acts:List dv):∀i,(yE c acts i).2.length=i
 | 0=>rfl
 | k+1=>by show((yE c acts k).2++[_]).length=_;rw[C6,Pf c acts k];rfl
def FX(c:eH)(acts:List dv)(h:KX c)(b:gp c.d)(n:acts.length<=80):zzA 34 true [.val (some 5) (eH.enc .R c),.val none (kj .R acts)] (.tup [some 26,none]) (bn.enc .R (yE c acts acts.length).1++aE .own (yE c acts acts.length).2):=by
 have d:=(nZ c h).fzR;rw[bT,bn.enc_fz]at d;change am _ _ _ _ _ (_++[B true]) at d;refine fO 47 [ρ 5 3 27,ρ 6 1 30] Tryz.func34 rfl ?_ (.inl rfl)
 refine σE ?_
 refine lp0 acts.length (λi=>[(1,bK (kj .R acts)),(4,bF [.z,.z,.z,I 0,.z,.z,.z,.z,.z,.z,.z,.z,I 0,.z,I 0,I 0,I 0,I 0,B false,I 0,I 0,.z,I 0,I 0,I 0,.z]),(6,bF (bn.enc .R (yE c acts i).1)),(8,bK (aE .own (yE c acts i).2)),(27,bK (kj .R acts)),(28,fI acts.length),(29,fN i)]) λi o=>?_
 have j:=Bx h acts i;have a:=G4 h acts i;have e:=Pf c acts i;by_cases k:i<acts.length
 ·have g:=ar k
  have l:=MQ (yE c acts i).1 (nth acts i) i j ω (by unfold rfs at a;rw[a];exact b)
  repeat'(first|refine gE ?_|refine Cl.sh l rfl ?_|refine Cb cx (λr b=>by rw[I2.1 b];rfl) ζ kd χ rfl ?_)
  (refine CP (i+1) ω ω ?_)
  repeat'(first|exact tV1|rfl| exact qH _ |exact CQ rfl (CQ (I1 (C.s ek.own) (by simp[yE,rI])) tV1)|refine CQ ?_ ?_|(exact UA ξ))
 obtain rfl:i=acts.length:=ω
 refine σE ?_
 rfl
structure bo where
 a2:Int
 W:Int
 c4:Int
 c2:Int
 d:List Int
deriving DecidableEq,Inhabited
def bo.enc(o:ek)(x:bo):List C:=[I x.a2,I x.W,I x.c4,I x.c2,.s o (x.d.map (rI o))]
def bo.enc_fz(x:bo):dw (bo.enc .own x)=bo.enc .R x:=by simp[dw,bo.enc,rI,<-bU,OB]
def bo.enc_fr(x:bo):fy (bo.enc .own x):=⟨tV1,tV1,tV1,tV1,⟨.inl λh=>(by cases h),aZ _ _ λy _=>rj y⟩,tV1⟩
def bo.wf(x:bo):Prop:=mP x.a2/\mP x.W/\mP x.c4/\mP x.c2/\gp x.d
def bo.cnt(x:bo):Nat:=pi x.d
def bo.sz(x:bo):Nat:=szIntS x.d
def bo.sml(x:bo):Prop:=kK x.d
def bo.sml_of{x:bo}(h:bo.sz x<=1048576):bo.sml x:=M0 (by unfold bo.sz at h;omega)
def bo.cnt_le(x:bo):bo.cnt x<=8*bo.sz x:=by unfold bo.cnt bo.sz;have:=MS x.d;omega
def bo.mark(x:bo)(k:Int):bo:={x with d:=markIntS x.d (k)}
end Go.Proofs.YtfdfgipemcbekaaGreatDoor.Ab
