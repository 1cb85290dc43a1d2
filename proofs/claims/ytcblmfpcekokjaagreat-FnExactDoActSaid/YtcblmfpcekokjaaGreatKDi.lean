/- Objects trimmed, freed by no thread, written with no value: the program's. No condition. -/
import Derived.Test.YtcblmfpcekokjaaGreatKDd
import Derived.Test.YtcblmfpcekokjaaGreatKDh
import Derived.Test.YtcblmfpcekokjaaGreatKDf
import Derived.Lib.Overlaps
import Derived.Lib.AppendZerosOnto
import Derived.Laws.NewBlocks
import Derived.Laws.Externs
import Derived.Test.YtcblmfpcekokjaaGreatKDe
import Derived.Test.YtcblmfpcekokjaaGreatKDg
import Derived.Test.YtcblmfpcekokjaaGreatKDc
set_option linter.unusedVariables false
set_option linter.defProp false
set_option linter.unusedSimpArgs false
set_option linter.constructorNameAsVariable false
namespace Go.Proofs.YtcblmfpcekokjaaGreat.Ab
open Go.RowKit
set_option maxRecDepth 20000
set_option maxHeartbeats 4000000
def Wl{k:af}{a:Int}(b:gc k a<k.F.V.U.length):∀m:Nat,a % 16+m<=16->zK k a m=fG k a m
 | 0,_=>by
  unfold zK fG kh;rw[Qz b]
 | m+1,h=>by
  have c:(ax k.F.R ((a+m) / 16))=ax k.F.R (a / 16):=by rw[show(a+(m:Int)) / 16=a / 16 by omega]
  have d:((a+(m:Int)) % 16).toNat=(a % 16).toNat+m:=ω
  show jt (zK k a m) (a+m) 0=_;rw[Wl b m ω];unfold jt setCell gc fG;simp only[c,d,kh];rw[show(ax k.F.R (a / 16)).g.toNat=gc k a from rfl,dd,CK ⟨rfl,b⟩,List.set_set]
def Df(l:aA)(n:Int)(d:cv l=true):zzA 268 false [.val (some 3) (aA.enc .O l),.vI n] (.tup [some 3,some 2,none]) (if 9<=n/\n<=l.q then aA.enc .own (trimL l n)++aD.enc .own (kE l n)++[B true] else aA.enc .own l++[I 0,I 0]++[B false]):=by
 have b:=sA l;rw[d]at b;have a:=aQ n 9 l.q;have g:=d;unfold cv at g;rw[C0]at g;by_cases e:9<=n/\n<=l.q
 ·rw[O0 e]at a
  rw[CK e];have c:=pP n;rw[show fE n=(n+15) / 16 by unfold fE;rw[CK ω]]at c;unfold kE;by_cases h:(n+15) / 16<l.a0
  ·rw[CK h]
   refine fO 45 [(3,7,[20,21,22,23,24,25,7]),(6,268,[33,34,35,36,37,38,39,40,41,42,43,44,0,1,2,3,4,5,6,7,8,9,10,11,12,1001,1002,1003,1004,1005,1006,1007,1008,1009,1010,1011,13,14])] Tryz.func268 rfl ?_ (.inr ⟨tV1,tV1,tV1,tV1,tV1,tV1,tV1⟩)
   refine σB ?_
   rfl
  rw[CJ h];have i:(n+15) / 16=l.a0:=ω
  refine fO 45 [(3,7,[20,21,22,23,24,25,7]),(6,268,[33,34,35,36,37,38,39,40,41,42,43,44,0,1,2,3,4,5,6,7,8,9,10,11,12,1001,1002,1003,1004,1005,1006,1007,1008,1009,1010,1011,13,14])] Tryz.func268 rfl ?_ (.inr ⟨tV1,tV1,tV1,tV1,tV1,tV1,tV1⟩)
  refine σB ?_
  rfl
 rw[C1 e]at a;rw[CJ e];refine fO 45 [(3,7,[20,21,22,23,24,25,7]),(6,268,[33,34,35,36,37,38,39,40,41,42,43,44,0,1,2,3,4,5,6,7,8,9,10,11,12,1001,1002,1003,1004,1005,1006,1007,1008,1009,1010,1011,13,14])] Tryz.func268 rfl ?_ (.inr ⟨tV1,tV1,tV1,tV1,tV1,tV1,tV1⟩)
 refine σP ?_
 rfl
theorem dI(l:aA)(a:Int)(b:0<=l.S/\l.S<=32):zzA 267 false [.val (some 3) (aA.enc .O l),.ptr [I a]] .one [B (nu a l)]:=by
 refine fO 9 [] Tryz.func267 rfl ?_
 refine σP ?_
 grind [nu]
theorem NQ(h:ac)(i g:Nat)(n:Int)(K:af)(a:h.H≠[])(b:h.K≠[]):dv (ip h i g n K)=cE {h with G:=K} (oS h) (.s .own ((h.H.map (aA.enc .own)).set g (aA.enc .own (trimL (nth h.H g) n)))) (.s .own ((h.K.map (aW.enc .own)).set i (splice (aW.enc .own (nth h.K i)) 2 [I n]))):=by
 have c:oL (ip h i g n K)=.s .own ((h.H.map (aA.enc .own)).set g (aA.enc .own (trimL (nth h.H g) n))):=by
  unfold oL;rw[tg (by simp[ip];exact a)]
  grind [IC,ip]
 have d:oO (ip h i g n K)=.s .own ((h.K.map (aW.enc .own)).set i (splice (aW.enc .own (nth h.K i)) 2 [I n])):=by
  unfold oO;rw[tg (by simp[ip];exact b),GR]
 unfold dv;rw[c,d];rfl
theorem Fo(h:ac)(i:Nat)(n:Int)(hs:ac.sml h)(l:bo h [])(Q:i<h.K.length):zzA 108 false [.val (some 24) (ac.enc .O h),.val none [I (nth h.K i).Addr],.vI n] (.tup [some 24,none]) (dv (if h.G.Calls≠100000/\ju h i n then trimH h i (tT h (nth h.K i).Addr).toNat n else h)++[B (decide (h.G.Calls≠100000/\ju h i n))]):=by
 have p:=l.lens;have hnl:=p.larges;have hno:=p.objs;have hpg:ge h<=32:=p.ents;have F:=ec h hs;have G:=cR h hs;rw[eR,l.to]at G;have u:=ne h.H (nu (nth h.K i).Addr) ω;have d:∀y∈h.H,0<=y.S/\y.S<=32:=λy o=>by have:=bj (l.L.lok y o);omega
 change ah _ _ _ _ _ [I (tT h (nth h.K i).Addr)]at u;by_cases e1:tT h (nth h.K i).Addr<0
 ·rw[CJ (λx=>by have:=x.2.1;omega),C1 (λx=>by have:=x.2.1;omega)]
  refine fP 81 [(260,[2,0,0]),(259,[2,0])] [(9,6,[53,54,55,56,57,58])] Tryz.func108 rfl ?_ (.inr (aE (cj _) ⟨tV1,tV1⟩))
  repeat'(first|refine gE ?_|refine Cq.mk (sQ (some 3) (aA.enc .O) (nu (nth h.K i).Addr) h.H) (dI ⟨0,0,0⟩ (nth h.K i).Addr ⟨by decide,by decide⟩).has (λL k rcs q=>?_) ?_)
  ·obtain⟨y,o,rfl,rfl,rfl⟩:=q
   exact dI y _ (d y o)
  rfl
 by_cases e2:h.G.Calls=100000
 ·rw[CJ (λx=>x.1 e2),C1 (λx=>x.1 e2)]
  refine fP 81 [(260,[2,0,0]),(259,[2,0])] [(9,6,[53,54,55,56,57,58])] Tryz.func108 rfl ?_ (.inr (aE (cj _) ⟨tV1,tV1⟩))
  repeat'(first|refine gB ?_|refine Cq.mk (sQ (some 3) (aA.enc .O) (nu (nth h.K i).Addr) h.H) (dI ⟨0,0,0⟩ (nth h.K i).Addr ⟨by decide,by decide⟩).has (λL k rcs q=>?_) ?_)
  ·obtain⟨y,o,rfl,rfl,rfl⟩:=q
   exact dI y _ (d y o)
  rfl
 obtain⟨f1,f2,f3⟩:=fJ (nu (nth h.K i).Addr) h.H (by grind [tT]);obtain⟨g,R⟩:=t5 (show 0<=tT h (nth h.K i).Addr by omega);have r:g<h.H.length:=by grind [tT]
 have hga:(nth h.H g).S*16=(nth h.K i).Addr:=by grind [nu,tT]
 have S:ju h i n↔9<=n/\n<=(nth h.H g).q:=by grind [ju]
 rw[R,O4];rw[R]at u;have b:=au r;have H:=Df (nth h.H g) n (l.L.lok _ (ay r));by_cases T:9<=n/\n<=(nth h.H g).q;rotate_left
 ·rw[CJ ψ,C1 ψ]
  rw[CJ T]at H;refine fP 81 [(260,[2,0,0]),(259,[2,0])] [(9,6,[53,54,55,56,57,58])] Tryz.func108 rfl ?_ (.inr (aE (cj _) ⟨tV1,tV1⟩))
  repeat'(first|refine gB ?_|refine Cq.mk (sQ (some 3) (aA.enc .O) (nu (nth h.K i).Addr) h.H) (dI ⟨0,0,0⟩ (nth h.K i).Addr ⟨by decide,by decide⟩).has (λL k rcs q=>?_) ?_)
  ·obtain⟨y,o,rfl,rfl,rfl⟩:=q
   exact dI y _ (d y o)
  rfl
 rw[CK ⟨e2,S.2 T⟩,O0 ⟨e2,S.2 T⟩];rw[CK T]at H;change ah _ _ _ _ _ ([I (nth h.H g).S,I ((n+15) / 16),I n]++aD.enc .own (kE (nth h.H g) n)++[B true]) at H;obtain⟨-,U,t⟩:=l.objAt (ay Q);have hii:lf h (nth h.K i).Addr=i:=by
  have h2:=(l.objAt (ay Q)).1;exact iO (f:=(·.Addr)) (iE l.osr) h2 Q (by rw[U])
 rw[hii]at t;have V:=wq h (nth h.K i).Addr ω;rw[t]at V;have c:=au Q;have h8:=l.L.lok _ (ay r);unfold cv at h8;rw[C0]at h8;have W:h.H≠[]:=ia r;have X:h.K≠[]:=ia Q;have heh:dv h=cE h (oS h) (.s .own (h.H.map (aA.enc .own))) (.s .own (h.K.map (aW.enc .own))):=by grind [tg,List.map_eq_nil_iff,dv,oL,oO]
 rw[heh]at F;have Y:=λK=>NQ h i g n K W X
 have w:((nth h.H g).S*16+n).tmod 16=((nth h.H g).S*16+n) % 16:=fH ω;have J:=BW l r T (z5 _);have Z:=pn l r (a:=16*(nth h.H g).S+n - 1) ω;have M:=y8 h.G (16*(nth h.H g).S+n) (16*((n+15) / 16) - n).toNat;have N:trimH h i g n = {ip h i g n (sG h g n) with G:=dX (sG h g n) ((nth h.H g).S+(n+15) / 16) (dU (nth h.H g) n),a:=Aw h g n}:=rfl;obtain⟨K,hK⟩ : ∃K,K=sG h g n:=⟨_,rfl⟩
 have C:(((nth h.H g).S*16+n) % 16=0->K=h.G)/\(((nth h.H g).S*16+n) % 16≠0->K=fG h.G ((nth h.H g).S*16+n) (16 - ((nth h.H g).S*16+n) % 16).toNat):=by
  rw[hK];unfold sG;constructor
  ·intro z
   rw[show(16*((n+15) / 16) - n).toNat=0 by omega];rfl
  intro z;rw[show(16*((n+15) / 16) - n).toNat=(16 - ((nth h.H g).S*16+n) % 16).toNat by omega,show 16*(nth h.H g).S+n=(nth h.H g).S*16+n by omega];refine Wl ?_ _ ω;obtain⟨-,-,-,q0,q1⟩:=bV l.ker Z;have hul:=(bk.1 (aM.1 l.ker).2.1).2.2.1
  grind [gc]
 rw[N,<-hK];have hkk:aN K=true:=by rw[hK];exact J
 have hkc:K.Calls≠100000:=by rw[hK];show(zK _ _ _).Calls≠_;omega
 have hke:K.F.R.M.length=h.G.F.R.M.length:=by rw[hK];show(zK _ _ _).F.R.M.length=_;rw[M.1]
 have hpn:ge (ip h i g n K)=ge h:=hke;clear N J M;have c9:=ky (ip h i g n K) (kE (nth h.H g) n) (dU (nth h.H g) n) hkk hkc (by show h.a.length<=_;grind [nB.free]) (by grind [kE,dU]);rw[hpn,Y]at c9;have hd:dv {ip h i g n K with G:=dX K ((nth h.H g).S+(n+15) / 16) (dU (nth h.H g) n),a:=Aw h g n} = if(n+15) / 16<(nth h.H g).a0 then dv {ip h i g n K with G:=dX K (kE (nth h.H g) n).At (dU (nth h.H g) n),a:=(cw (ge h) h.a (kE (nth h.H g) n)).getD h.a} else cE {h with G:=K} (oS h) (.s .own ((h.H.map (aA.enc .own)).set g (aA.enc .own (trimL (nth h.H g) n)))) (.s .own ((h.K.map (aW.enc .own)).set i (splice (aW.enc .own (nth h.K i)) 2 [I n]))):=by
  by_cases e:(n+15) / 16<(nth h.H g).a0
  ·grind [kE,dU,Aw]
  rw[CJ e,<-Y];have O:dU (nth h.H g) n=0:=by unfold dU;omega
  unfold Aw;rw[O,CJ ω];rfl
 rw[hd];have D:(kE (nth h.H g) n).a1=if(n+15) / 16<(nth h.H g).a0 then(nth h.H g).a0 - (n+15) / 16 else 0:=by grind [kE]
 have j:gl (if(n+15) / 16<(nth h.H g).a0 then dv {ip h i g n K with G:=dX K (kE (nth h.H g) n).At (dU (nth h.H g) n),a:=(cw (ge h) h.a (kE (nth h.H g) n)).getD h.a} else cE {h with G:=K} (oS h) (.s .own ((h.H.map (aA.enc .own)).set g (aA.enc .own (trimL (nth h.H g) n)))) (.s .own ((h.K.map (aW.enc .own)).set i (splice (aW.enc .own (nth h.K i)) 2 [I n])))):=by grind [cj]
 clear hd hga t U f1 f2 f3;by_cases e5:((nth h.H g).S*16+n) % 16=0
 ·have E:=C.1 e5
  rw[E]at c9 j |-;clear C;by_cases O:(n+15) / 16<(nth h.H g).a0
  ·rw[CK O]at j D |-
   refine fP 81 [(260,[2,0,0]),(259,[2,0])] [(9,6,[53,54,55,56,57,58])] Tryz.func108 rfl ?_ (.inr (aE j ⟨tV1,tV1⟩))
   repeat'(first|refine gB ?_|refine gS (λP=>?_) (λP=>?_)|refine Cq.mk (sQ (some 3) (aA.enc .O) (nu (nth h.K i).Addr) h.H) (dI ⟨0,0,0⟩ (nth h.K i).Addr ⟨by decide,by decide⟩).has (λL k rcs q=>?_) ?_|refine CR rfl rfl (aa b) rfl (O2 rfl) rfl ?_|refine CR rfl rfl (aa c) rfl (O2 rfl) rfl ?_|refine CU qs ?_|refine CY w ?_)
   ·obtain⟨y,o,rfl,rfl,rfl⟩:=q
    exact dI y _ (d y o)
   rfl
  rw[CJ O]at j D |-;refine fP 81 [(260,[2,0,0]),(259,[2,0])] [(9,6,[53,54,55,56,57,58])] Tryz.func108 rfl ?_ (.inr (aE j ⟨tV1,tV1⟩))
  repeat'(first|refine gB ?_|refine gS (λP=>?_) (λP=>?_)|refine Cq.mk (sQ (some 3) (aA.enc .O) (nu (nth h.K i).Addr) h.H) (dI ⟨0,0,0⟩ (nth h.K i).Addr ⟨by decide,by decide⟩).has (λL k rcs q=>?_) ?_|refine CR rfl rfl (aa b) rfl (O2 rfl) rfl ?_|refine CR rfl rfl (aa c) rfl (O2 rfl) rfl ?_|refine CU qs ?_|refine CY w ?_)
  ·obtain⟨y,o,rfl,rfl,rfl⟩:=q
   exact dI y _ (d y o)
  rfl
 have E:=C.2 e5;have hcc:0<=(ax h.G.F.R (((nth h.H g).S*16+n) / 16)).g/\(ax h.G.F.R (((nth h.H g).S*16+n) / 16)).g<h.G.F.V.U.length:=by
  obtain⟨-,-,-,q0,q1⟩:=bV l.ker Z;have hul:=(bk.1 (aM.1 l.ker).2.1).2.2.1
  grind
 have c8:=mK h (oS h) (.s .own ((h.H.map (aA.enc .own)).set g (aA.enc .own (trimL (nth h.H g) n)))) (.s .own ((h.K.map (aW.enc .own)).set i (splice (aW.enc .own (nth h.K i)) 2 [I n]))) ((nth h.H g).S*16+n) (16 - ((nth h.H g).S*16+n) % 16).toNat l.ker ω hcc ω (p.row _ (ay (by unfold gc;omega)));rw[<-E,show(((16 - ((nth h.H g).S*16+n) % 16).toNat:Nat):Int)=16 - ((nth h.H g).S*16+n) % 16 by omega]at c8;clear C E;by_cases O:(n+15) / 16<(nth h.H g).a0
 ·rw[CK O]at j D |-
  refine fP 81 [(260,[2,0,0]),(259,[2,0])] [(9,6,[53,54,55,56,57,58])] Tryz.func108 rfl ?_ (.inr (aE j ⟨tV1,tV1⟩))
  repeat'(first|refine gB ?_|refine gS (λP=>?_) (λP=>?_)|refine Cq.mk (sQ (some 3) (aA.enc .O) (nu (nth h.K i).Addr) h.H) (dI ⟨0,0,0⟩ (nth h.K i).Addr ⟨by decide,by decide⟩).has (λL k rcs q=>?_) ?_|refine CR rfl rfl (aa b) rfl (O2 rfl) rfl ?_|refine CR rfl rfl (aa c) rfl (O2 rfl) rfl ?_|refine CU qs ?_|refine CY w ?_)
  ·obtain⟨y,o,rfl,rfl,rfl⟩:=q
   exact dI y _ (d y o)
  rfl
 rw[CJ O]at j D |-;refine fP 81 [(260,[2,0,0]),(259,[2,0])] [(9,6,[53,54,55,56,57,58])] Tryz.func108 rfl ?_ (.inr (aE j ⟨tV1,tV1⟩))
 repeat'(first|refine gB ?_|refine gS (λP=>?_) (λP=>?_)|refine Cq.mk (sQ (some 3) (aA.enc .O) (nu (nth h.K i).Addr) h.H) (dI ⟨0,0,0⟩ (nth h.K i).Addr ⟨by decide,by decide⟩).has (λL k rcs q=>?_) ?_|refine CR rfl rfl (aa b) rfl (O2 rfl) rfl ?_|refine CR rfl rfl (aa c) rfl (O2 rfl) rfl ?_|refine CU qs ?_|refine CY w ?_)
 ·obtain⟨y,o,rfl,rfl,rfl⟩:=q
  exact dI y _ (d y o)
 rfl
def Kp(h:ac)(t a:Int)(b:ac.sml h)(e:dQ h=true)(j:h.G.Calls≠100000)(g:¬(0<=t/\t<=h.Q.length - 1)):zzA 104 false [.val (some 24) (ac.enc .O h),.vI t,.vI a] (.tup [some 24,none]) (dv h++[I 1]):=by
 have c:=cR h b;rw[eR,e]at c;have i:h.Q.length<=1048576:=b.2.2.2.2.2.1.1;have d:=aQ t 0 (h.Q.length - 1:Int);rw[C1 g]at d;refine fP 163 [(255,[1,0,0]),(258,[1,0,0]),(259,[2,0]),(260,[2,0,0]),(113,[2,0,0])] [(20,12,[85,86,87,88,89,90,91,92,93,94,95,96]),(24,4,[111,112,113,114])] Tryz.func104 rfl ?_ (.inr (aE (cj _) ⟨tV1,tV1⟩))
 repeat'(first|refine gB ?_|refine CG (ec h b) ?_)
 rfl
def RZ(m:aH)(a v:Int)(h:db m=true)(c:aH.sml m)(i:0<=a/\a<512)(j:¬(0<=v/\v<=999))(k:(ax m.R (a / 16)).o≠0):zzA 266 false [.val (some 3) (aH.enc .O m),.vI a,.vI v] (.tup [some 3,none]) (aH.enc .own m++[I (if(ax m.R (a / 16)).o=1 then 2 else 3)]):=by
 have d:=lw m c;have e:=xD m a h c i;have b:=aQ v 0 999;rw[C1 j]at b;by_cases g:(ax m.R (a / 16)).o=1
 ·rw[CK g]
  refine fO 42 [] Tryz.func266 rfl ?_ (.inr (aE (aH.enc_fr m) ⟨tV1,tV1⟩))
  refine σB ?_
  rfl
 rw[CJ g];refine fO 42 [] Tryz.func266 rfl ?_ (.inr (aE (aH.enc_fr m) ⟨tV1,tV1⟩))
 refine σB ?_
 rfl
def Gv(h:ac)(a v:Int)(i:ac.sml h)(b:bo h [])(n:¬(0<=v/\v<=999))(e:0<=Lk h a):zzA 106 false [.val (some 24) (ac.enc .O h),.vI a,.vI v] (.tup [some 24,none]) (dv h++[I (if(ax (tbl h) (a / 16)).o=1 then 2 else 3)]):=by
 have j:=ec h i;have k:=v8 h a i b;obtain⟨o,p⟩:=Ra b e;have d:=bq b.ker;have c:=RZ h.G.F a v (jr b.ker) d.1 p n o;unfold tbl;by_cases l:(ax h.G.F.R (a / 16)).o=1
 ·rw[CK l]at c |-
  refine fO 38 [] Tryz.func106 rfl ?_ (.inr (aE (cj _) ⟨tV1,tV1⟩))
  repeat'(first|refine gB ?_|refine gS (λg=>?_) (λg=>?_)|fail)
  rfl
 rw[CJ l]at c |-;refine fO 38 [] Tryz.func106 rfl ?_ (.inr (aE (cj _) ⟨tV1,tV1⟩))
 repeat'(first|refine gB ?_|refine gS (λg=>?_) (λg=>?_)|fail)
 rfl
set_option maxRecDepth 100000
def Qf:∀w,(zeroValue 242).run Tryz.prog w=.ok (.agg #[.int .i64 0,.int .i64 0]) w:=λ_=>by kernel_rfl
def JH:yD Tryz.prog 444 2:=by
 refine⟨⟨_,Tryz.func444,by kernel_rfl,by kernel_rfl⟩,λw g n c i news r y o B C b=>?_⟩;obtain⟨A,X,a⟩:=xl o y r B;have a:Hid (∀t u,news[t]? = some u->w.drew.cell? (A.add t)=some u):=a;have T:Hid (news.length=(n - (i+1))*2):=o;have Y:Hid (∀u∈news,u.oneCell'=true):=C;have Z:Hid (∀t,t<news.length->(w.drew.cell? ⟨g,0+i*2+t,none⟩).isSome=true/\w.drew.frozen? ⟨g,0+i*2+t,none⟩ = false):=λt ht=>by
  rw[CE];exact b (i*2+t) ω
 obtain⟨p,d⟩ : ∃p,p=w.drew.setCells g (0+i*2) news:=⟨_,rfl⟩
 have K:∀q,q<n*2->(p.cell? ⟨g,q,none⟩).isSome=true/\p.frozen? ⟨g,q,none⟩ = false:=λq U=>by
  have D:∀j,j<news.length->∃z,cel w.drew g (0+i*2+j)=some z:=λj L=>by
   have:=(b (0+i*2+j) ω).1;exact Option.isSome_iff_exists.1 this
  refine⟨?_,by rw[d];exact(O1 Prod.fst (cm g _ news w.drew g q)).trans (b q U).2⟩;rw[d];by_cases h:0+i*2<=q/\q<0+i*2+news.length
  ·have:=bA D (z4 (show q - (0+i*2)<news.length by omega))
   rw[show 0+i*2+(q - (0+i*2))=q by omega]at this;show(cel _ g q).isSome=true;rw[this];rfl
  show(cel _ g q).isSome=true;rw[bt (λx=>h x.2)];exact(b q U).1
 obtain⟨M,E,F,G⟩:=xM (P:=Tryz.prog) p 67 242 2 (.agg #[.int .i64 0,.int .i64 0]) Tryz.underlying67 Qf rfl (by intro v V;simp[Value.cells]at V;subst V;rfl) g ((i+(n - (i+1)))*2) (n - (i+(n - (i+1)))) ω qs (λj L=>(K _ ω).1) (λj L=>(K _ ω).2);have k:Hid (M.length=(n - (i+(n - (i+1))))*2):=E;have H:Hid (∀v∈M,v.oneCell'=true):=F;have W:Hid (p=w.drew.setCells g (0+i*2) news):=d;have hic:i<=c:=ω
 have N:i+1<=c:=ω
 have O:¬i=i+1:=ω
 have Q:i+1<=n:=r;have l:n - 1=i+(n - (i+1)):=ω
 clear d K b B C o E F;rw[l];generalize L:i+1=j at X a T G k N O Q l |-;obtain⟨J,R,S⟩ : ∃J,Tryz.prog.info? 242=some J/\J.size=2:=by
  have h:=(sR 242 _ rfl).1;cases e : Tryz.prog.info? 242 with
  | none=>rw[e]at h;cases h
  | some x=>rw[e]at h;simp only[CA,C2,Prod.mk.injEq]at h;exact⟨x,rfl,h.2.1⟩
 have mixed : Tryz.prog.follows .mixedOrders=true:=by kernel_rfl
 go_enter Tryz.func444,Tryz.ntmps444
 go_wp2_with fail
 go_region_law_o (refine step_append_room rfl (.tmp 22) (.tmp 25) 67 rfl 242 J 2 Tryz.underlying67 R S g 0 i c (by simp[Act.eval,Act.put]) A (n - j) (c - j) news (by simp[Act.eval,Act.put]) T.out a.out Y.out ω Z.out ?_;rw[<-W.out])
 go_wp2
 go_ret
 refine⟨rfl,M,by have:=k.out;omega,H.out,?_⟩;rw[W.out,CE]
def H8(xs:List aD)(i:Nat)(a:i<xs.length):zzB 444 false [.mut none [.s .own (xs.map (aD.enc .own))],.vI (i:Nat),.vI ((i+1:Nat):Int)] [.mut none [.x],.vI (i:Nat),.vI ((i+1:Nat):Int)] .one [oE ((dele xs i).map (aD.enc .own))]:=by
 have h:=EA JH (rows:=xs.map (aD.enc .own)) (i:=i) (by rw[I2];exact a) (aR λ_=>rfl) (bg _ _ λx _=>aD.enc_fr x)
 rwa [show dele (xs.map (aD.enc .own)) i=(dele xs i).map (aD.enc .own) by simp[dele,C8,I8]]at h
variable{α:Type}
def VF(xs:List α)(b:Nat)(y:α):dele (xs.set b y) b=dele xs b:=by
 unfold dele;rw[List.take_set_of_le (z5 b),List.drop_set_of_lt (Nat.lt_succ_self b)]
def xY(k:af)(p:Int)(c:aN k=true)(w:k.Calls≠100000)(n:0<=p/\p<k.F.R.M.length)(y:(nth k.F.R.M p.toNat).o=0):zzA 376 false [.val (some 5) (af.enc .O k),.vI p] (.tup [some 5,none]) (af.enc .own (eD k p).1++[B (eD k p).2]):=by
 have h:=bq c;have C:=(aM.1 c).2.2.2;have D:=(bF.1 (aM.1 c).2.2.1).2.2;have d:=jp k h;rw[c,O0 w]at d;have g:=sw k h ⟨ω,ω⟩;have a:=EO k.F.V (aM.1 c).2.1 h.1.1;have j:ax k.F.R p=nth k.F.R.M p.toNat:=by unfold ax;exact CK n
 have o:=aQ p 0 ((k.F.R.M.length:Int) - 1);rw[O0 ω]at o;have q:=gh k p h.1.2;rw[j,y,C1 qs]at q;have r:=au (xs:=k.F.R.M) (i:=p.toNat) ω;unfold z6 at a;unfold eD;cases e:refd k<;>rw[e]at g
 ·by_cases b:sP k<0
  ·rw[CK (.inr b)]
   rw[CK (show cC (λu=>!u) k.F.V.y<0 from b)]at a;simp only at a;refine fO 64 [] Tryz.func376 rfl ?_ (.inr (aE (Ck _) ⟨tV1,tV1⟩))
   refine σP ?_
   rfl
  rw[CJ (by simp[b])];rw[CJ (show ¬cC (λu=>!u) k.F.V.y<0 from b)]at a;simp only at a;obtain⟨f,t⟩:=t5 (show 0<=sP k by omega);have l:cC (λu=>!u) k.F.V.y=(f:Nat):=t;rw[l]at a;rw[t];simp only[O4]at a |-;rw[GZ]at a;rw[Bh];refine fO 64 [] Tryz.func376 rfl ?_ (.inr (aE (by rw[<-Bh];exact Ck _) ⟨tV1,tV1⟩))
  repeat'(first|refine gP ?_|refine CS n.1 (aa r) ?_|refine CR rfl rfl (aa r) rfl (O2 rfl) rfl ?_)
  rfl
 rw[CK (.inl rfl)];by_cases b:sP k<0
 ·rw[CK (show cC (λu=>!u) k.F.V.y<0 from b)]at a
  simp only at a;refine fO 64 [] Tryz.func376 rfl ?_ (.inr (aE (Ck _) ⟨tV1,tV1⟩))
  refine σP ?_
  rfl
 rw[CJ (show ¬cC (λu=>!u) k.F.V.y<0 from b)]at a;simp only at a;refine fO 64 [] Tryz.func376 rfl ?_ (.inr (aE (Ck _) ⟨tV1,tV1⟩))
 refine σP ?_
 rfl
def rtI(xs:List aD)(n:Int):List C:=(if(aG xs n).2.2=true then [oE ((aG xs n).1.map (aD.enc .own))] else bm .own xs)++[I (aG xs n).2.1,B (aG xs n).2.2]
def YZ(xs:List aD)(n:Int):gl (rtI xs n):=by
 unfold rtI;split
 ·exact aE ⟨Dl (ji _).1.2,tV1⟩ ⟨tV1,tV1,tV1⟩
 exact aE (ji _) ⟨tV1,tV1,tV1⟩
def Hm(xs:List aD)(b:Nat)(y:aD):(xs.set b y).map (aD.enc .own)=(xs.map (aD.enc .own)).set b [I y.At,I y.a1]:=by rw[IC];rfl
def DL(pages:Int)(xs:List aD)(n:Int)(J:0<=pages/\pages<=1048576)(u:bR pages xs=true)(Q:1<=n/\n<=1000)(R:xs.length<=4096):zzA 374 false [.vI pages,.val none (bm .O xs),.vI n] (.tup [none,none,none]) (rtI xs n):=by
 have p:eJ xs:=⟨ω,λ_ _=>tV1⟩
 have w:=qo pages xs J p;rw[u]at w;have K:=ng xs p;have B:=(xP u).2;refine fP 91 [(444,[1,0,0])] [(8,15,[32,33,34,35,36,37,38,39,40,41,42,43,44,45,46])] Tryz.func374 rfl ?_ (.inr (YZ xs n))
 refine σE ?_
 refine lp0 xs.length (λi=>[(1,b8 (bm .O xs)),(2,fI n),(9,b8 (bm .own xs)),(10,fI (gZ xs n i)),(25,b8 (bm .O xs)),(26,fI xs.length),(27,fN i)]) λi L=>?_
 have l:=xj xs n i L;by_cases D:i<xs.length
 ·have k:=au D
  have M:=B _ (ay D);have d:gZ xs n (i+1)=if n<=(nth xs i).a1/\(gZ xs n i<0\/(nth xs i).a1<(nth xs (gZ xs n i).toNat).a1) then((i:Nat):Int) else gZ xs n i:=rfl
  by_cases E:n<=(nth xs i).a1
  ·by_cases N:gZ xs n i<0
   ·rw[CK ⟨E,.inl N⟩]at d
    repeat'(first|refine gE ?_|refine gS (λh=>?_) (λh=>?_)|fail)
    (refine CQ (i+1) ω ω ?_)
    rw[d];exact wC
   have a:=au (xs:=xs) (i:=(gZ xs n i).toNat) ω;by_cases O:(nth xs i).a1<(nth xs (gZ xs n i).toNat).a1
   ·rw[CK ⟨E,.inr O⟩]at d
    repeat'(first|refine gE ?_|with_reducible refine CS ω (aa a) ?_|refine gS (λh=>?_) (λh=>?_)|fail)
    (refine CQ (i+1) ω ω ?_)
    rw[d];exact wC
   rw[CJ ω]at d
   repeat'(first|refine gE ?_|with_reducible refine CS ω (aa a) ?_|refine gS (λh=>?_) (λh=>?_)|fail)
   (refine CQ (i+1) ω ω ?_)
   rw[d];exact wC
  rw[CJ ω]at d
  repeat'(first|refine gE ?_|refine gS (λh=>?_) (λh=>?_)|fail)
  (refine CQ (i+1) ω ω ?_)
  rw[d];exact wC
 obtain rfl:i=xs.length:=ω
 change gG xs n = -1\/_ at l;unfold rtI aG;rw[show gZ xs n xs.length=gG xs n from rfl];by_cases e:gG xs n<0
 ·rw[CK e]
  rw[show gG xs n = -1 from l.resolve_right λg=>by have S:0<=gG xs n:=g.1;omega]
  repeat'(first|refine gE ?_|refine gS (λh=>?_) (λh=>?_)|fail)
  rfl
 rw[CJ e];obtain⟨P,F,T⟩:=l.resolve_left ω;change 0<=gG xs n at P;change gG xs n<xs.length at F;obtain⟨b,r⟩:=t5 (show 0<=gG xs n by omega);rw[r]at F |-;simp only[O4];have a:=au (xs:=xs) (i:=b) ω;have M:=B _ (ay (xs:=xs) (i:=b) ω);have c:((xs.map (aD.enc .own)).set b [I ((nth xs b).At+n),I (nth xs b).a1])[b]? = some [I ((nth xs b).At+n),I (nth xs b).a1]:=kC ω;have j:((xs.set b ⟨(nth xs b).At+n,(nth xs b).a1 - n⟩).map (aD.enc .own))[b]? = some [I ((nth xs b).At+n),I ((nth xs b).a1 - n)]:=by rw[Hm];exact kC ω
 have o:∀t:List C,t.set 0 (.s .own (((xs.map (aD.enc .own)).set b [I ((nth xs b).At+n),I (nth xs b).a1]).set b [I ((nth xs b).At+n),I ((nth xs b).a1 - n)]))=t.set 0 (.s .own ((xs.set b ⟨(nth xs b).At+n,(nth xs b).a1 - n⟩).map (aD.enc .own))):=λt=>by rw[Hm,List.set_set]
 have q:=H8 (xs.set b ⟨(nth xs b).At+n,(nth xs b).a1 - n⟩) b (by rw[C3];omega);rw[VF]at q;by_cases G:(nth xs b).a1=n
 ·rw[CK G]
  generalize dele xs b=H at q |-;cases H with
  | nil=>
   repeat'(first|refine gB ?_|refine gS (λh=>?_) (λh=>?_)|refine CI c ?_|refine CI j ?_|refine CM rfl c rfl ?_|refine CM rfl j rfl ?_|refine CR rfl rfl (aa a) rfl (O2 rfl) rfl ?_|refine CR rfl rfl c rfl (O2 rfl) (o _).symm ?_)
   rfl
  | cons y H=>
   repeat'(first|refine gB ?_|refine gS (λh=>?_) (λh=>?_)|refine CI c ?_|refine CI j ?_|refine CM rfl c rfl ?_|refine CM rfl j rfl ?_|refine CR rfl rfl (aa a) rfl (O2 rfl) rfl ?_|refine CR rfl rfl c rfl (O2 rfl) (o _).symm ?_)
   rfl
 rw[CJ G]
 repeat'(first|refine gB ?_|refine gS (λh=>?_) (λh=>?_)|refine CI c ?_|refine CI j ?_|refine CM rfl c rfl ?_|refine CM rfl j rfl ?_|refine CR rfl rfl (aa a) rfl (O2 rfl) rfl ?_|refine CR rfl rfl c rfl (O2 rfl) (o _).symm ?_)
 rw[CK rfl,tg (by rw[Ne,List.map_eq_nil_iff,<-List.length_eq_zero_iff,C3];omega)]
 rfl
variable{P:Program}
def rh(w:World)(dT sT ty elem:TypeId)(k b o dLen dCap:Nat)(a:Addr)(sLen sCap n:Nat)(cs:List Value)(h:P.underlying dT=some (.slice elem))(g:(P.info? elem).map (·.size)=some k)(l:Nat.min sLen dLen=n)(p:cs.length=n*k)(c:∀j v,cs[j]? = some v->w.cell? (a.add j)=some v)(q:∀j,j<cs.length->(w.cell? ⟨b,o+j,none⟩).isSome=true)(r:∀j,j<cs.length->w.frozen? ⟨b,o+j,none⟩ = false)(h1:∀v∈cs,v.oneCell'=true) :
  (Builtin.copy_ #[dT,sT] ty #[.slice (some ⟨b,o,none⟩) dLen dCap,.slice (some a) sLen sCap]).run P w=.ok (goInt n) (w.setCells b o cs):=by
 have d:=run_loadCells_list (P:=P) w a cs c;have e:=run_storeCells_cells (P:=P) b o cs 0 w (by simpa using q) (by simpa using r) h1;rw[p]at d;cases f:P.info? elem with
 | none=>simp[f]at g
 | some i=>
  have t:i.size=k:=by simpa[f] using g
  simp[Builtin.copy_,run_underlying h,Builtin.lenOf,Builtin.firstCells,sizeOf,typeInfo,f,t,l,d,e]
variable{Q:Exit->Act->World->Prop}{ops:Array Oper}
def pV(w:World){rest:List Oper}{o:Oper}{a:Act}(b:o.guard=none)(d s:Operand)(t c:TypeId)(g:o.op=.call {callee:=.builtin .copy,args:=#[d,s],argTypes:=#[t,c]})(v u:Value)(i:a.eval d=v)(j:a.eval s=u){e:Value}{f:World}(k:(Builtin.copy_ #[t,c] o.type #[v,u]).run P w=.ok e f)(h:wpList P ops Q rest (a.put o.dst e) f):wpList P ops Q (o::rest) a w:=by
 refine wpList_plain b λ_ l=>?_
 unfold Oper.wp execOp;simp only[g,resolve,invoke,builtin,Sem.run_bind,Sem.run_pure,Result.andThen_ok,List.map_toArray,SB,List.map_nil,i,j,k];exact l _ _ h
variable{w:World}
theorem zv{o:Oper}{a:Act}{K:Act->World->Prop}{E:Prop}(k:o.guard=none)(d x:Operand)(dT sT:TypeId)(b:o.op=Op.call {callee:=Callee.builtin Builtin.copy,args:=#[d,x],argTypes:=#[dT,sT]})(v u:Value)(f:a.eval d=v)(g:a.eval x=u){c:Value}{e:World}(h:(Builtin.copy_ #[dT,sT] o.type #[v,u]).run P w=.ok c e)(i:K (a.put o.dst c) e) :
  if Region.wanted o (yielded ops a.tmps)=true then Oper.wp P o a w K Q else E:=by
 have j:Region.wanted o (yielded ops a.tmps)=true:=by grind [Go.Region.wanted]
 rw[CK j];unfold Oper.wp;simp[execOp,b,resolve,invoke,builtin,f,g,h,Result.andThen];exact i
def Rx(b:Nat):∀(vs:List Value)(o:Nat)(w:World),(w.setCells b o vs).drew=w.drew.setCells b o vs
 | [],_,_=>rfl
 | v::r,o,w=>by rw[World.setCells,World.setCells,Rx b r];rfl
theorem GK(b:Nat)(vs:List Value)(o:Nat)(w:World)(h:∀j,j<vs.length->(w.cell? ⟨b,o+j,none⟩).isSome=true)(q:Nat)(c:(w.cell? ⟨b,q,none⟩).isSome=true):((w.setCells b o vs).cell? ⟨b,q,none⟩).isSome=true:=by
 by_cases a:o<=q/\q<o+vs.length
 ·have:=World.cell?_setCells_in b vs o w h (q - o) ω
  grind
 grind [Go.World.cell?_setCells_out]
variable{g:Nat}
theorem MJ{z:Value}(c:cel w g 0=some z)(a:fro w g 0=NF):∃t k,w.shape? g=some (t,k)/\k≠0/\w.frozen? ⟨g,0,none⟩ = false/\w.frozen? ⟨g,k,none⟩ = false:=by
 have d:=O1 Prod.fst a;have b:=O1 Prod.snd a;simp only[fro]at d b;unfold mp at b;unfold cel World.cell? at c;unfold World.shape?
 grind [Go.World.frozen?]
variable{e k:Nat}
def L9{tS tR a b:Nat}{z h:Value}(i:P.underlying tS=some (.slice e))(j:∀w,(Go.sizeOf e).run P w=.ok k w)(c:a≠b)(h1:cel w a 0=some z)(h2:fro w a 0=NF)(l:cel w b 0=some h)(n:fro w b 0=NF)(x la d f g:Nat) :
  (Extern.SlicesOverlaps.overlaps #[tS,tS] #[tR] #[.slice (some ⟨a,0,none⟩) la d,.slice (some ⟨b,x,none⟩) f g]).run P w=.ok (.bool false) w:=by
 obtain⟨tA,kA,o,u,p,q⟩:=MJ h1 h2;obtain⟨tB,kB,r,t,-,-⟩:=MJ l n;exact Lib.run_overlaps_apart w tS tR e i k j ⟨a,0,none⟩ ⟨b,x,none⟩ la d f g c tA tB kA kB o r t p q
structure BT(w w':World)(g G k n c c' i:Nat)(olds vs:List Value):Prop where
 keep:bM (λb o=>b=g/\o<c*k) w w'
 cel:∀q u,(olds.take (i*k)++vs++olds.drop (i*k))[q]? = some u->cel w' G q=some u
 all:∀q,q<c'*k->(∃z,Ab.cel w' G q=some z/\z.oneCell'=true)/\fro w' G q=NF
 at_:(G=g/\c'=c)\/(w.heap.size<=G/\G<w'.heap.size)
variable{i n:Nat}{olds vs:List Value}
theorem Ns{q:Nat}{u:Value}(a:i<n)(b:olds.length=n*k)(c:vs.length=k)(h:(olds.take (i*k)++vs++olds.drop (i*k))[q]? = some u) :
  q<(n+1)*k/\((q<i*k/\olds[q]? = some u)\/(i*k<=q/\q<i*k+k/\vs[q - i*k]? = some u)\/(i*k+k<=q/\(olds.drop (i*k))[q - (i*k+k)]? = some u)):=by grind [SE]
theorem Mt{c:Nat}(p:i<n)(r:n+1<=c)(y:olds.length=n*k)(A:vs.length=k)(J:∀t u,olds[t]? = some u->cel w g t=some u)(h1:∀u∈olds,u.oneCell'=true)(h2:∀u∈vs,u.oneCell'=true)(a:∀q,q<c*k->(∃z,cel w g q=some z/\z.oneCell'=true)/\fro w g q=NF) :
  BT w ((w.drew.setCells g ((i+1)*k) (olds.drop (i*k))).setCells g (i*k) vs) g g k n c c i olds vs:=by
 have B:i*k<=n*k:=SE k ω;have C:(n+1)*k<=c*k:=SE k r;have K:(n+1)*k=n*k+k:=ψ
 have L:(i+1)*k=i*k+k:=ψ
 have D:(olds.drop (i*k)).length=n*k - i*k:=ψ
 have M:∀b q,cel w.drew b q=cel w b q:=λ_ _=>rfl
 have in1:∀j,j<(olds.drop (i*k)).length->∃z,cel w.drew g ((i+1)*k+j)=some z:=λj E=>by
  obtain⟨⟨z,e,-⟩,-⟩:=a ((i+1)*k+j) ω;exact⟨z,e⟩
 have all1:∀q,q<c*k->∃z,cel (w.drew.setCells g ((i+1)*k) (olds.drop (i*k))) g q=some z/\z.oneCell'=true:=λq d=>by
  by_cases h:(i+1)*k<=q/\q<(i+1)*k+(olds.drop (i*k)).length
  ·obtain⟨u,F⟩ : ∃u,(olds.drop (i*k))[q - (i+1)*k]? = some u:=(ψ)
   grind [bA]
  grind [bt]
 have in2:∀j,j<vs.length->∃z,cel (w.drew.setCells g ((i+1)*k) (olds.drop (i*k))) g (i*k+j)=some z:=λj E=>by
  obtain⟨z,e,-⟩:=all1 (i*k+j) ω;exact⟨z,e⟩
 refine⟨?_,λq u d=>?_,λq d=>⟨?_,by rw[cm,cm];exact(a q d).2⟩,.inl ⟨rfl,rfl⟩⟩
 ·have G:=fC (g:=g) (X:=λb o=>b=g/\o<c*k) (olds.drop (i*k)) ((i+1)*k) w.drew ω
  have H:=fC (g:=g) (X:=λb o=>b=g/\o<c*k) vs (i*k) (w.drew.setCells g ((i+1)*k) (olds.drop (i*k))) ω;exact((Bz w).up λ_ _ h=>h.elim).trans (G.trans H λ_ _ h=>.inr h) λ_ _ h=>.inr h
 ·obtain⟨-,⟨l,f⟩|⟨l,f,N⟩|⟨l,f⟩⟩:=Ns p y A d
  ·grind [bt]
  ·grind [bA]
  rw[bt ω];have O:=bA in1 f
  simp_all
 by_cases h:i*k<=q/\q<i*k+vs.length
 ·obtain⟨u,F⟩ : ∃u,vs[q - i*k]? = some u:=(ψ)
  grind [bA]
 grind [bt]
theorem NX{a:World}{c G:Nat}{Z:Array Value}(V:a.heap=(w.alloc (.cells ((olds.take (i*k)).toArray++Builtin.zeroCells Z (n+1 - i)++Builtin.zeroCells Z (G - (n+1))) e)).heap)(t:a.os=w.os)(y:a.tape=w.tape)(A:a.output=w.output)(W:i<n)(Y:n+1<=G)(hZ:Z.size=k)(hz1:∀v∈Z.toList,v.oneCell'=true)(M:olds.length=n*k)(l:vs.length=k)(h1:∀u∈olds,u.oneCell'=true)(h2:∀u∈vs,u.oneCell'=true) :
  BT w ((a.setCells w.heap.size (i*k) vs).setCells w.heap.size ((i+1)*k) (olds.drop (i*k))) g w.heap.size k n c G i olds vs:=by
 have B:i*k<=n*k:=SE k ω;have hGk:(n+1)*k<=G*k:=SE k Y;have e1:(n+1)*k=n*k+k:=ψ
 have e2:(i+1)*k=i*k+k:=ψ
 have hdl:(olds.drop (i*k)).length=n*k - i*k:=ψ
 generalize hcells:(olds.take (i*k)).toArray++Builtin.zeroCells Z (n+1 - i)++Builtin.zeroCells Z (G - (n+1))=cells at V;have C:∀b q,cel a b q=cel (w.alloc (.cells cells e)) b q:=λb q=>by grind [Go.World.cell?]
 have d:∀b q,fro a b q=fro (w.alloc (.cells cells e)) b q:=λb q=>by grind [Go.World.frozen?,mp]
 have hsz:cells.size=G*k:=by
  rw[<-hcells];simp only[Array.size_append,List.size_toArray,I3,size_zeroCells,hZ,M,Nat.min_eq_left B];rw[<-Nat.add_mul,<-Nat.add_mul]
  congr 1;omega
 have N:∀v∈cells.toList,v.oneCell'=true:=by
  have hzz:∀m,∀v∈(Builtin.zeroCells Z m).toList,v.oneCell'=true:=λm v l=>by
   rw[Array.mem_toList_iff]at l;simp only[Builtin.zeroCells,Array.mem_map,Array.mem_range]at l
   grind [Nat.mod_lt]
  grind
 have O:∀q,cel a w.heap.size q=cells[q]?:=by simp_all
 have D:∀q,q<G*k->∃z,cel a w.heap.size q=some z/\z.oneCell'=true:=by simp_all
 have E:∀q u,q<i*k->olds[q]? = some u->cells[q]? = some u:=ψ
 have P:∀q,fro a w.heap.size q=NF:=λq=>(d _ _).trans (jE w cells e q)
 have hK:bM NO w a:=by
  have Q:bM NO w (w.alloc (.cells cells e)):=di w _;exact⟨t,y,A,by simp_all,λb p r=>by grind [bM.blk],λb o p r=>(C b o).trans (Q.cel b o p r),λb o p r=>(d b o).trans (Q.fro b o p r)⟩
 have hS:a.heap.size=w.heap.size+1:=by simp_all
 have R:=fC (g:=w.heap.size) (X:=λb o=>b=w.heap.size) vs (i*k) a λj F=>rfl
 have S:=fC (g:=w.heap.size) (X:=λb o=>b=w.heap.size) (olds.drop (i*k)) ((i+1)*k) (a.setCells w.heap.size (i*k) vs) λj F=>rfl
 have in1:∀j,j<vs.length->∃z,cel a w.heap.size (i*k+j)=some z:=λj F=>by
  obtain⟨z,H,-⟩:=D (i*k+j) ω;exact⟨z,H⟩
 have all1:∀q,q<G*k->∃z,cel (a.setCells w.heap.size (i*k) vs) w.heap.size q=some z/\z.oneCell'=true:=λq J=>by
  by_cases h:i*k<=q/\q<i*k+vs.length
  ·obtain⟨u,K⟩ : ∃u,vs[q - i*k]? = some u:=⟨_,z4 ω⟩
   have f:=bA in1 K;rw[show i*k+(q - i*k)=q by omega]at f
   grind
  grind [bt]
 have in2:∀j,j<(olds.drop (i*k)).length->∃z,cel (a.setCells w.heap.size (i*k) vs) w.heap.size ((i+1)*k+j)=some z:=λj F=>by
  obtain⟨z,H,-⟩:=all1 ((i+1)*k+j) ω;exact⟨z,H⟩
 have T:w.heap.size<((a.setCells w.heap.size (i*k) vs).setCells w.heap.size ((i+1)*k) (olds.drop (i*k))).heap.size:=by
  have:=R.size;have:=S.size;omega
 refine⟨?_,λq u J=>?_,λq J=>⟨?_,by grind [cm]⟩,.inr ω⟩
 ·exact(hK.up λ_ _ h=>h.elim).trans (R.trans S λ_ _ h=>.inr h) ω
 ·obtain⟨-,⟨U,L⟩|⟨U,L,a3⟩|⟨U,L⟩⟩:=Ns W M l J
  ·grind [bt]
  ·rw[bt ω]
   have f:=bA in1 a3
   simp_all
  have f:=bA in2 L
  simp_all
 by_cases h:(i+1)*k<=q/\q<(i+1)*k+(olds.drop (i*k)).length
 ·obtain⟨u,K⟩ : ∃u,(olds.drop (i*k))[q - (i+1)*k]? = some u:=⟨_,z4 ω⟩
  have f:=bA in2 K;rw[show(i+1)*k+(q - (i+1)*k)=q by omega]at f
  grind
 grind [bt]
structure WR(P:Program)(f k T b:Nat):Prop where
 has:PG P f
 end_:∀(w w1:World)(base:Option Addr)(n c vb m vc:Nat)(r:Value),m=1->n<=c->n<=1073741824->(base=none->n=0/\c=0)->(Builtin.append_ #[T,T] T #[.slice base n c,.slice (some ⟨vb,0,none⟩) m vc]).run P w=.ok r w1->
  Calls P f #[.slice base n c,.int .i64 n,.slice (some ⟨vb,0,none⟩) m vc] w λe w'=>e=.returned r/\w'=w1
 mid:∀(w:World)(g n c i vb m vc:Nat)(olds vs:List Value),m=1->i<n->n<=c->n<=1073741824->b<=1000->olds.length=n*k->vs.length=k->(∀t u,olds[t]? = some u->cel w g t=some u)->(∀t u,vs[t]? = some u->cel w vb t=some u)->
  (∀u∈olds,u.oneCell'=true)->(∀u∈vs,u.oneCell'=true)->(∀q,q<c*k->(∃z,cel w g q=some z/\z.oneCell'=true)/\fro w g q=NF)->fro w vb 0=NF->vb≠g->
  Calls P f #[.slice (some ⟨g,0,none⟩) n c,.int .i64 i,.slice (some ⟨vb,0,none⟩) m vc] w λe w'=>∃G c',e=.returned (.slice (some ⟨G,0,none⟩) (n+1) c')/\n+1<=c'/\BT w w' g G k n c c' i olds vs
def inse(xs:List α)(i:Nat)(y:α):List α:=xs.take i++y::xs.drop i
theorem Nm(xs:List α)(i:Nat)(y:α):(inse xs i y).length=xs.length+1:=by grind [inse]
theorem DV{xs:List α}{y z:α}(h:z∈inse xs i y):z=y\/z∈xs:=by grind [inse]
theorem BK{β:Type}(e:α->β)(xs:List α)(i:Nat)(y:α):inse (xs.map e) i (e y)=(inse xs i y).map e:=by grind [C8,I8,inse]
variable{c:C}{r row:List C}{rows:List (List C)}
theorem W0{a b:Nat}(d:i<=rows.length)(q:olds.length=rows.length*k)(e:vs.length=k)(t:b<k)(f:∀(a b:Nat)(r:List C)(c:C),rows[a]? = some r->r[b]? = some c->∃z,c=C.v z/\olds[a*k+b]? = some z)(u:∀(b:Nat)(c:C),row[b]? = some c->∃z,c=C.v z/\vs[b]? = some z)(h1:(inse rows i row)[a]? = some r)(h2:r[b]? = some c):∃z,c=.v z/\(olds.take (i*k)++vs++olds.drop (i*k))[a*k+b]? = some z:=by
 have g:i*k<=rows.length*k:=SE k d;have j:(olds.take (i*k)).length=i*k:=ψ
 unfold inse at h1;by_cases h:a<i
 ·grind [cL]
 rw[v9 ψ,I3,Nat.min_eq_left d]at h1;have l:i*k<=a*k:=SE k ω;by_cases w:a=i
 ·grind
 obtain⟨m,rfl⟩ : ∃m,a=i+(m+1):=⟨a - i - 1,ω⟩
 rw[show i+(m+1) - i=m+1 by omega,List.getElem?_cons_succ,List.getElem?_drop]at h1;obtain⟨z,rfl,n⟩:=f (i+m) b r c h1 h2;have o:(i+(m+1))*k=i*k+k+m*k:=ψ
 have p:(i+m)*k=i*k+m*k:=Nat.add_mul ..;refine⟨z,rfl,?_⟩;rw[v9 ψ,I5,j,e,List.getElem?_drop,o,show i*k+(i*k+k+m*k+b - (i*k+k))=i*k+m*k+b by omega,<-p];exact n
theorem a0a(h:Z3 rows):Jm rows:=by
 have b:∀r:List C,(∀c∈r,∃z,c=C.v z)->gl r:=by
  intro r
  induction r with
  | nil=>exact λ_=>tV1
  | cons c r a=>intro h;obtain⟨z,rfl⟩:=h c (by simp);exact⟨tV1,a ψ⟩
 induction rows with
 | nil=>exact tV1
 | cons r e a=>exact⟨b r (h r (by simp)),a λr d=>h r (by simp[d])⟩
variable{f:Nat}
theorem PV{T:Nat}{d:TypeInfo}{z0:Value}(ht:P.underlying T=some (.slice e))(hi0:P.info? e=some d)(hk0:d.size=k)(hz:d.zero=some z0)(hzs:z0.cells.size=d.size)(hz1:∀x∈z0.cells.toList,x.oneCell'=true)(hby:d.bytes<=1000)(hf:WR P f k T d.bytes)(hi:i<=rows.length)(W:∀r∈rows,r.length=k)(hr:row.length=k)(hpk:0<k)(hsc:Z3 rows)(hsr:Z3 [row])(hlen:rows.length+1<=1073741824) :
  aX P f false [.mut none [.s .own rows],.vI (i:Nat),.mut none [.s .own [row]]] [.mut none [.x],.vI (i:Nat),.mut none [.x]] .one [.s .own (inse rows i row)]:=by
 subst hk0;refine⟨hf.has,λw S V vs hS hV hVV F=>?_⟩
 match vs,F with
 | [v,v1,v2],⟨F,hA1,hA2,_⟩=>
  have p:=bD.rep1 (show bD w S (V 0) none [C.s .own rows] v from F);have e1:v1=.int .i64 (i:Nat):=by
   have:=bD.rep1 (show bD w S NO none [C.v (.int .i64 (i:Nat))] v1 from hA1);cases this;rfl
  have A:=bD.rep1 (show bD w S (V 2) none [C.s .own [row]] v2 from hA2);subst e1;have hk2:∀r∈[row],r.length=d.size:=(ψ)
  have hsc':Z3 (inse rows i row):=λr L=>(DV L).elim (λh=>hsr r (by simp[h])) (hsc r)
  have B:∀(w1:World)(vv:Value)(X:am),bM (λb o=>∃i,V i b o) w w1->(∀b o,X b o->V 0 b o\/V 2 b o\/(w.heap.size<=b/\b<w1.heap.size))->dw w1 S X (.s .own (inse rows i row)) vv->
    ∃K,Ending.returned vv=Ending.returned K/\bM (λb o=>∃i,V i b o) w w1/\∃(X:am)(Y:Nat->am)(S1:am),
   (∀b o,X b o->(∃i,V i b o)\/(b<w1.heap.size/\w.heap.size<=b))/\(∀i b o,Y i b o->(∃i,V i b o)\/(b<w1.heap.size/\w.heap.size<=b))/\
   (∀b o,S1 b o->(false=true/\S b o)\/(∃i,V i b o)\/(b<w1.heap.size/\w.heap.size<=b))/\
   (∀i i',i≠i'->∀b o,Y i b o->¬Y i' b o)/\(∀i b o,X b o->¬Y i b o)/\(∀b o,X b o->¬S1 b o)/\(∀i b o,Y i b o->¬S1 b o)/\
   gM w1 NO .one 1 K/\cD w1 S1 X [.s .own (inse rows i row)] (cz w1 .one K)/\Gc w1 (λb o=>S b o\/S1 b o) Y [.mut none [.x],.vI (i:Nat),.mut none [.x]] [v,.int .i64 (i:Nat),v2]:=by
   intro w1 vv X l hX hR;have hfr:Hu (.s .own (inse rows i row)):=by grind [a0a,Hu]
   exact⟨_,rfl,l,X,λ_=>NO,NO,ψ,λ_ _ _ h=>h.elim,λ_ _ h=>h.elim,λ_ _ _ _ _ h=>h.elim,λ_ _ _ _ h=>h.elim,λ_ _ _ h=>h.elim,λ_ _ _ h=>h.elim,rfl,row1 (hR.fresh hfr),
       ⟨⟨rfl,λ_=>v,rfl,row1 (.x _ _ p.one)⟩,tV1,⟨rfl,λ_=>v2,rfl,row1 (.x _ _ A.one)⟩,tV1⟩⟩
  rcases A.els (by simp) hk2 with⟨h,-⟩|⟨M,vc,u2,f2,rfl,-,hvc,hcell2,hu2,t⟩
  ·cases h
  simp only[List.length_singleton,Nat.one_mul]at hvc hu2;by_cases hin:i=rows.length
  ·have hreads:sN w (some ⟨M,0,none⟩) ([row].length*d.size) ((List.range ([row].length*d.size)).map u2):=by
    refine⟨by simp,ψ,λad j u had hj=>?_⟩
    grind [Go.Addr.add_lit]
   obtain⟨K,w1,hrun,hk1,hR⟩:=wa (P:=P) (ty:=T) ht hi0 hz hzs hz1 p W (V:=V 2) (xr:=[row]) (u2:=u2) (f2:=f2) ⟨t.hk,λq N b o h=>(t.hf q N b o h).1,t.hd,t.hc⟩ (b:=some ⟨M,0,none⟩) (c:=vc)
    hreads
    ψ ψ ψ ψ hS kd (by
      have:(rows.length+[row].length)*d.bytes<=1073741824*1000:=Nat.mul_le_mul (by simpa using hlen) hby;omega)
   have hins:inse rows i row=rows++[row]:=by grind [inse]
   rw[<-hins]at hR;have hfin:∀(base:Option Addr)(c:Nat),v=.slice base rows.length c->rows.length<=c->(base=none->rows.length=0/\c=0)->Calls P f #[v,.int .i64 (i:Nat),.slice (some ⟨M,0,none⟩) 1 vc] w λe H=>e=.returned K/\H=w1:=λbase c hv hc hb=>by
    subst hv;rw[hin];exact hf.end_ w w1 base rows.length c M 1 vc K rfl hc ω hb hrun
   have hgo:Calls P f #[v,.int .i64 (i:Nat),.slice (some ⟨M,0,none⟩) 1 vc] w λe H=>e=.returned K/\H=w1:=by
    rcases p.els (by simp) W with⟨h0,a0,hv⟩|⟨g,O,u,f',hv,hpos,D,-⟩
    all_goals grind
   refine hgo.mono λe H ⟨he,hw⟩=>?_
   subst he hw;exact B H K _ (hk1.up ψ) (λb o h=>h) hR
  rcases p.els (by simp) W with⟨h0,a0,hv⟩|⟨g,O,u,f',rfl,hpos,D,E,hu,hE⟩
  ·grind
  have hlt:i<rows.length:=ω
  have Q:∀(n j:Nat)(y:Value)(uu:Nat->Value),((List.range n).map uu)[j]? = some y->j<n/\y=uu j:=ψ
  have hmapr:∀(n j:Nat)(uu:Nat->Value),j<n->((List.range n).map uu)[j]? = some (uu j):=ψ
  obtain⟨olds,R⟩ : ∃olds,olds=(List.range (rows.length*d.size)).map u:=⟨_,rfl⟩
  obtain⟨vs,hvs⟩ : ∃vs,vs=(List.range d.size).map u2:=⟨_,rfl⟩
  have hol:olds.length=rows.length*d.size:=by rw[R];simp
  have hvl:vs.length=d.size:=by rw[hvs];simp
  have hck:rows.length*d.size<=O*d.size:=SE _ D;have hv0:=hcell2 0 (Nat.mul_pos ω hpk);have hg0:=E 0 (Nat.mul_pos ω hpk);have hne:M≠g:=ψ
  refine(hf.mid w g rows.length O i M 1 vc olds vs rfl hlt D ω hby hol hvl ψ ψ (λy hy=>ψ) (λy hy=>by
      rw[hvs]at hy;obtain⟨j,hj⟩:=List.getElem?_of_mem hy;obtain⟨a1,rfl⟩:=Q _ _ _ _ hj;exact t.one (by simpa using a1)) (λq N=>(E q N).2) hv0.2.2 hne).mono λe H ⟨G,c',he,U,F⟩=>?_
  subst he;have l:bM (λb o=>∃i,V i b o) w H:=F.keep.up ψ;refine B H _ (λb o=>V 0 b o\/(w.heap.size<=b/\b<H.heap.size)) l ψ ?_;refine .own _ .own G d.size (rows.length+1) c' _ (λq=>(cel H G q).getD undef) (λ_=>NO) tV1 (Nm ..) (λr L=>(DV L).elim ψ (W r)) U ω (λq N=>⟨?_,F.all q N⟩) (λq N=>?_) (λ_ _ _ _ h=>h.elim) (λ_ _ _ _ _ _ _ h=>h.elim) (λa b r c ha hb=>?_)
  ·rcases F.at_ with⟨rfl,rfl⟩|h
   all_goals grind
  ·obtain⟨z,J,-⟩:=(F.all q (C7 N (SE _ U))).1
   rw[J];rfl
  have hbk:b<d.size:=by
   have:r.length=d.size:=(DV (t4 ha)).elim ψ (W r)
   grind
  have hal:=(C4.1 ha).1;rw[Nm]at hal;obtain⟨y,rfl,hy⟩:=W0 (olds:=olds) (vs:=vs) hi hol hvl hbk (λa b r c h1 h2=>by
      obtain⟨y,rfl⟩:=hsc r ψ c ψ;have Z:=hE.hc a b r _ h1 h2;have h4:=qa rfl W h1 h2;generalize hyy:u (a*d.size+b)=yy at Z;cases Z
      grind [cL]) (λb c h2=>by
      obtain⟨y,rfl⟩:=hsr row (by simp) c ψ;have Z:=t.hc 0 b row _ rfl h2;simp only[Nat.zero_mul,CE]at Z;have h4:=(C4.1 h2).1;generalize hyy:u2 b=yy at Z;cases Z
      grind) ha hb
  have J:=F.cel _ y hy;simp only[J,Option.getD_some];obtain⟨z,h5,h6⟩:=(F.all (a*d.size+b) (C7 (cL hal hbk) (SE _ U))).1;rw[J]at h5;cases h5;exact .v _ _ h6
set_option maxRecDepth 100000
inductive IQ:Nat->Nat->Nat->Nat->Nat->Prop
 |oq:IQ 103 251 70 110 4
 |lq:IQ 250 379 69 247 3
 |sq:IQ 378 448 68 197 3
section
variable{f v S E k:Nat}
def IQ.u(q:IQ f v S E k) : Tryz.prog.underlying S=some (.slice E):=by cases q<;>kernel_rfl
def IQ.sz(q:IQ f v S E k):∀w,(Go.sizeOf E).run Tryz.prog w=.ok k w:=by cases q<;>exact λ_=>by kernel_rfl
def IQ.pos(q:IQ f v S E k):3<=k/\k<=4:=by cases q<;>exact⟨by decide,by decide⟩
def Yi{E:Nat}{t:TI}{n:Nat}(g:TE E=some t)(i:t.size=n)(j:t.zero.length=n)(k:t.bytes=8*n)(l:(t.zero.map cval).all (λv=>v.oneCell')=true):∃(b:TypeInfo)(c:Value),Tryz.prog.info? E=some b/\b.size=n/\b.zero=some c/\c.cells.size=n/\(∀v∈c.cells.toList,v.oneCell'=true)/\b.bytes=8*n:=by
 have h:=(sR E _ g).1;cases e : Tryz.prog.info? E with
 | none=>rw[e]at h;cases h
 | some x=>
  rw[e]at h;simp only[CA,C2,Prod.mk.injEq]at h;obtain⟨a,o,p⟩:=h;cases d:x.zero with
  | none=>rw[d]at a;cases a
  | some z=>
   rw[d]at a;simp only[CA,C2]at a;refine⟨x,z,rfl,o.trans i,d,?_,λv f=>?_,p.trans k⟩
   ·rw[<-Array.length_toList,a,I2];exact j
   rw[a]at f;exact O7.1 l v f
def Ez(q:IQ f v S E k):∃(a:TypeInfo)(b:Value),Tryz.prog.info? E=some a/\a.size=k/\a.zero=some b/\b.cells.size=k/\(∀v∈b.cells.toList,v.oneCell'=true)/\a.bytes=8*k:=by cases q<;>exact Yi rfl rfl rfl rfl rfl
def IQ.has(q:IQ f v S E k):PG Tryz.prog f:=by
 cases q
 ·exact⟨_,Tryz.func103,by kernel_rfl,by kernel_rfl⟩
 ·exact⟨_,Tryz.func250,by kernel_rfl,by kernel_rfl⟩
 exact⟨_,Tryz.func378,by kernel_rfl,by kernel_rfl⟩
def Zb(q:IQ f v S E k){w:World}{a g m n:Nat}{y p:Value}(o:Nat)(b:a≠g)(r:cel w a 0=some y)(c:fro w a 0=NF)(d:cel w g 0=some p)(h:fro w g 0=NF):∀i j,(callFunc v #[.slice (some ⟨a,0,none⟩) m n,.slice (some ⟨g,o,none⟩) i j]).run Tryz.prog w=.ok (.value (.bool false)) w:=λi j=>by
 have l:=L9 (tR:=4) q.u q.sz b r c d h o m n i j;cases q
 ·rw[run_callFunc_extern Tryz.func251 (by kernel_rfl) (by kernel_rfl) (by kernel_rfl) (e:=Extern.SlicesOverlaps.overlaps #[70,70] #[4]) (by kernel_rfl),l];rfl
 ·rw[run_callFunc_extern Tryz.func379 (by kernel_rfl) (by kernel_rfl) (by kernel_rfl) (e:=Extern.SlicesOverlaps.overlaps #[69,69] #[4]) (by kernel_rfl),l];rfl
 rw[run_callFunc_extern Tryz.func448 (by kernel_rfl) (by kernel_rfl) (by kernel_rfl) (e:=Extern.SlicesOverlaps.overlaps #[68,68] #[4]) (by kernel_rfl),l];rfl
def VT(q:IQ f v S E k)(w w1:World)(base:Option Addr)(n c d m g:Nat)(r:Value)(i:m=1)(j:n<=c)(h:n<=1073741824)(l:base=none->n=0/\c=0)(b:(Builtin.append_ #[S,S] S #[.slice base n c,.slice (some ⟨d,0,none⟩) m g]).run Tryz.prog w=.ok r w1) :
  Calls Tryz.prog f #[.slice base n c,.int .i64 n,.slice (some ⟨d,0,none⟩) m g] w λe o=>e=.returned r/\o=w1:=by
 have mixed : Tryz.prog.follows .mixedOrders=true:=by kernel_rfl
 have p:0<m:=ω
 have t:m<=1:=ω
 clear i;have u:¬((m:Int)=0):=ω
 cases q
 case' oq=>go_enter Tryz.func103,Tryz.ntmps103
 case' lq=>go_enter Tryz.func250,Tryz.ntmps250
 case' sq=>go_enter Tryz.func378,Tryz.ntmps378
 all_goals
  cases base with
  | none=>
   obtain⟨rfl,rfl⟩:=l rfl
   go_wp2_with (at_builtin;refine Lib.wpList_append_run _ rfl _ _ _ _ rfl _ _ rfl rfl _ _ b ?_)
   go_ret
   exact⟨rfl,rfl⟩
  | some a=>
   obtain⟨y,B,asp⟩:=a
   go_wp2_with (at_builtin;refine Lib.wpList_append_run _ rfl _ _ _ _ rfl _ _ rfl rfl _ _ b ?_)
   all_goals(go_ret;exact⟨rfl,rfl⟩)
def Qw(q:IQ f v S E k)(w:World)(g n c i p m M:Nat)(olds vs:List Value)(X:m=1)(hi:i<n)(Y:n<=1073741824)(r:n+m<=c)(O:olds.length=n*k)(D:vs.length=k)(ho:∀t u,olds[t]? = some u->cel w g t=some u)(N:∀t u,vs[t]? = some u->cel w p t=some u)(h1:∀u∈olds,u.oneCell'=true)(h2:∀u∈vs,u.oneCell'=true)(b:∀q,q<c*k->(∃z,cel w g q=some z/\z.oneCell'=true)/\fro w g q=NF)(P:fro w p 0=NF)(F:p≠g) :
  Calls Tryz.prog f #[.slice (some ⟨g,0,none⟩) n c,.int .i64 i,.slice (some ⟨p,0,none⟩) m M] w λe w'=>e=.returned (.slice (some ⟨g,0,none⟩) (n+m) c)/\w'=(w.drew.setCells g ((i+m)*k) (olds.drop (i*k))).setCells g (i*k) vs:=by
 have mixed : Tryz.prog.follows .mixedOrders=true:=by kernel_rfl
 have hm1:0<m:=ω
 have hm2:m<=1:=ω
 have hk:=q.pos;have p3:m*k=k:=by rw[X,Nat.one_mul]
 have p1:=Nat.add_mul n m k;have p2:=Nat.add_mul i m k;have p4:=Nat.sub_mul n i k;have p5:i*k+k<=n*k:=by rw[<-Nat.succ_mul];exact SE k hi
 have p6:(n+m)*k<=c*k:=SE k r;clear X;have hz1:¬((m:Int)=0):=ω
 have hz2:¬((i:Int)=(n:Int)):=ω
 have hz3:¬((c:Int)<(n:Int)+(m:Int)):=ω
 have G:(Tryz.prog.info? E).map (·.size)=some k:=by obtain⟨i0,z0,e1,e2,-⟩:=Ez q;rw[e1];simp[e2]
 have cell:∀q,q<(n+m)*k->(w.cell? ⟨g,q,none⟩).isSome=true/\w.frozen? ⟨g,q,none⟩ = false:=λq Z=>by
  obtain⟨⟨z,hz,-⟩,hf⟩:=b q ω;exact⟨by show(cel w g q).isSome=true;rw[hz];rfl,O1 Prod.fst hf⟩
 have Q:∀lb cb,(callFunc v #[.slice (some ⟨p,0,none⟩) m M,.slice (some ⟨g,(i+m)*k,none⟩) lb cb]).run Tryz.prog w=.ok (.value (.bool false)) w:=by
  obtain⟨y,hy⟩ : ∃y,vs[0]? = some y:=⟨_,z4 ω⟩
  obtain⟨⟨y',R,-⟩,T⟩:=b 0 ω;exact Zb q _ F (N 0 y hy) P R T
 have l:(olds.drop (i*k)).length=(n - i)*k:=by rw[O5,O];omega
 have hw1:IntKind.i64.wrap ((i:Int)+(m:Int))=(i:Int)+(m:Int):=by rw[IntKind.wrap_i64];omega
 have hw2:IntKind.i64.wrap ((n:Int)+(m:Int))=(n:Int)+(m:Int):=by rw[IntKind.wrap_i64];omega
 have hb1:(0:Int)<=(i:Int)+(m:Int):=ω
 have hin:i<=n:=ω
 have htn:((i:Int)+(m:Int)).toNat=i+m:=ω
 have hb2:¬(c=i+m):=ω
 have hb3:(i:Int)<=(n:Int)+(m:Int):=ω
 have hb4:¬(c=i):=ω
 have o:∀B C U,(Builtin.copy_ #[S,S] B #[.slice (some ⟨g,(i+m)*k,none⟩) (n+m - (i+m)) C,.slice (some ⟨g,i*k,none⟩) (n+m - i) U]).run Tryz.prog w.drew=.ok (goInt ((n - i:Nat):Int)) (w.drew.setCells g ((i+m)*k) (olds.drop (i*k))):=λB C U=>
  rh w.drew _ _ B E k g ((i+m)*k) (n+m - (i+m)) C ⟨g,i*k,none⟩ (n+m - i) U (n - i) (olds.drop (i*k)) q.u G (by simp only[Nat.min_def];split<;>omega) l
   (λj v a=>by rw[Addr.add_lit];exact ho (i*k+j) v (by rwa [List.getElem?_drop]at a))
   (λj a=>by rw[l]at a;exact(cell _ ω).1) (λj a=>by rw[l]at a;exact(cell _ ω).2) (λv N=>h1 v (List.mem_of_mem_drop N))
 obtain⟨H,d⟩ : ∃H,H=w.drew.setCells g ((i+m)*k) (olds.drop (i*k)):=⟨_,rfl⟩
 have J:∀q,q<(n+m)*k->(H.cell? ⟨g,q,none⟩).isSome=true:=λq Z=>by
  rw[d];exact GK g _ _ _ (λj a=>by rw[l]at a;exact(cell _ ω).1) _ (cell q Z).1
 have K:∀(W:World),(∀x,W.cell? x=H.cell? x)->(∀x,W.frozen? x=H.frozen? x)->∀B C,(Builtin.copy_ #[S,S] B #[.slice (some ⟨g,i*k,none⟩) (n+m - i) C,.slice (some ⟨p,0,none⟩) m M]).run Tryz.prog W=.ok (goInt ((1:Nat):Int)) (W.setCells g (i*k) vs):=λW L V B C=>
  rh W _ _ B E k g (i*k) (n+m - i) C ⟨p,0,none⟩ m M 1 vs q.u G (by simp only[Nat.min_def];split<;>omega) ω
   (λj v a=>by
     rw[Addr.add_lit,CE,L,d,World.cell?_setCells_out g _ _ _ _ (λh _=>absurd h F)];exact N j v a)
   (λj a=>by rw[L];rw[D]at a;exact J _ ω) (λj a=>by rw[V,d,World.frozen?_setCells];rw[D]at a;exact(cell _ ω).2) h2
 rw[<-d]at o;clear cell b p1 p2 p3 p4 p5 p6 hk;cases q
 case' oq=>go_enter Tryz.func103,Tryz.ntmps103
 case' lq=>go_enter Tryz.func250,Tryz.ntmps250
 case' sq=>go_enter Tryz.func378,Tryz.ntmps378
 all_goals
  go_wp2_with (simp only[Q])
  go_region_law_o (refine zv rfl _ _ _ _ rfl _ _ (by simp[Act.eval,Act.put]) (by simp[Act.eval,Act.put]) (o _ _ _) ?_)
  go_wp2_with (at_builtin;refine pV _ rfl _ _ _ _ rfl _ _ rfl rfl (K _ (λ_=>rfl) (λ_=>rfl) _ _) ?_)
  go_ret
  first|exact⟨rfl,rfl⟩|exact⟨rfl,by rw[d]⟩
def Ui(q:IQ f v S E k){L:TypeInfo}{y:Value}(M : Tryz.prog.info? E=some L)(N:L.size=k)(hz0:L.zero=some y)(hzz:y.cells.size=k)(O:L.bytes=8*k)(w:World)(g n c i B m vc:Nat)(olds vs:List Value)(hm:m=1)(hi:i<n)(hn63:n<=1073741824)(hnc:n<=c)(F:c<n+m)(P:olds.length=n*k)(Q:vs.length=k)(ho:∀t u,olds[t]? = some u->cel w g t=some u)(Y:∀t u,vs[t]? = some u->cel w B t=some u)(h1:∀u∈olds,u.oneCell'=true)(h2:∀u∈vs,u.oneCell'=true) :
  Calls Tryz.prog f #[.slice (some ⟨g,0,none⟩) n c,.int .i64 i,.slice (some ⟨B,0,none⟩) m vc] w λe w'=>e=.returned (.slice (some ⟨w.heap.size,0,none⟩) (n+m) (grownCap w (n+m) c E))/\
   w'=(((w.alloc (.cells ((olds.take (i*k)).toArray++Builtin.zeroCells y.cells (n+m - i)++Builtin.zeroCells y.cells (grownCap w (n+m) c E - (n+m))) E)).drew.setCells w.heap.size (i*k) vs).drew).setCells w.heap.size ((i+m)*k) (olds.drop (i*k)):=by
 have mixed : Tryz.prog.follows .mixedOrders=true:=by kernel_rfl
 have hm1:0<m:=ω
 have hm2:m<=1:=ω
 have hk:=q.pos;have p3:m*k=k:=by rw[hm,Nat.one_mul]
 have p1:=Nat.add_mul n m k;have p2:=Nat.add_mul i m k;have p4:=Nat.sub_mul n i k;have p5:i*k+k<=n*k:=by rw[<-Nat.succ_mul];exact SE k hi
 have p7:=Nat.sub_mul (n+m) i k;clear hm;have hz1:¬((m:Int)=0):=ω
 have hz2:¬((i:Int)=(n:Int)):=ω
 have hz3:(c:Int)<(n:Int)+(m:Int):=ω
 have R:(Tryz.prog.info? E).map (·.size)=some k:=by rw[M];simp[N]
 have hbw:g<w.heap.size:=block_lt_of_cell (ho 0 _ (z4 ω));have hvw:B<w.heap.size:=block_lt_of_cell (Y 0 _ (z4 ω));have T:(n:Int)+(m:Int) - (i:Int)=((n+m - i:Nat):Int):=ω
 have H:i+(n+m - i)=n+m:=ω
 have C:(Builtin.firstCells L.size i (.slice (some ⟨g,0,none⟩) i c)).run Tryz.prog w.drew=.ok (olds.take (i*k)).toArray w.drew:=by
  rw[N];exact run_firstCells_some w.drew k i ⟨g,0,none⟩ i c (olds.take (i*k)) (by rw[I3];omega) (λj v a=>by
    rw[Addr.add_lit,CE];rw[List.getElem?_take]at a;split at a
    · exact ho j v a
    cases a)
 have r:∀d,(Builtin.append_ #[S,3] d #[.slice (some ⟨g,0,none⟩) i c,.int .i64 ((n:Int)+(m:Int) - (i:Int))]).run Tryz.prog w =
   .ok (.slice (some ⟨w.heap.size,0,none⟩) (n+m) (grownCap w (n+m) c E)) (w.drew.alloc (.cells ((olds.take (i*k)).toArray++Builtin.zeroCells y.cells (n+m - i)++Builtin.zeroCells y.cells (grownCap w (n+m) c E - (n+m))) E)):=λd=>by
  have h:=Lib.run_append_grow_zeros w S 3 d E L _ .i64 .i64 q.u Tryz.underlying3 M hz0 (some ⟨g,0,none⟩) i c (olds.take (i*k)) C (n+m - i) ω ω ω ω (by rw[O];exact I9 (Nat.mul_le_mul_left _ (show 8*k<=32 by omega)) ω) (by rw[O,H];exact growslice_fits F (I9 (Nat.mul_le_mul_left _ (show 8*k<=32 by omega)) ω));rw[H]at h;rw[T];exact h
 obtain⟨G,Z⟩ : ∃G,G=grownCap w (n+m) c E:=⟨_,rfl⟩
 obtain⟨ROW,l⟩ : ∃ROW:Array Value,ROW=(olds.take (i*k)).toArray++Builtin.zeroCells y.cells (n+m - i)++Builtin.zeroCells y.cells (G - (n+m)):=⟨_,rfl⟩
 rw[<-Z]at r |-;rw[<-l]at r |-;have hRl:(n+m)*k<=ROW.size:=by
  rw[l];simp only[Array.size_append,List.size_toArray,I3,size_zeroCells,hzz,P];omega
 obtain⟨p,b⟩ : ∃p,p=w.drew.alloc (.cells ROW E):=⟨_,rfl⟩
 rw[<-b]at r;have hN:∀j,j<(n+m)*k->(p.cell? ⟨w.heap.size,j,none⟩).isSome=true:=λj a=>by
  rw[b,World.cell?_alloc_at (w:=w.drew) ROW _ w.heap.size j rfl,SC ω];rfl
 have U:∀j,p.frozen? ⟨w.heap.size,j,none⟩ = false:=λj=>by rw[b];exact World.frozen?_alloc_at (w:=w.drew) ROW _ w.heap.size j rfl
 have hOb:∀j v,w.cell? ⟨g,j,none⟩ = some v->p.cell? ⟨g,j,none⟩ = some v:=λj v h=>by rw[b,World.cell?_alloc_past (w:=w.drew) _ g j hbw];exact h
 have hOv:∀j v,w.cell? ⟨B,j,none⟩ = some v->p.cell? ⟨B,j,none⟩ = some v:=λj v h=>by rw[b,World.cell?_alloc_past (w:=w.drew) _ B j hvw];exact h
 have V:∀(W:World),(∀x,W.cell? x=p.cell? x)->(∀x,W.frozen? x=p.frozen? x)->∀d J,(Builtin.copy_ #[S,S] d #[.slice (some ⟨w.heap.size,i*k,none⟩) (n+m - i) J,.slice (some ⟨B,0,none⟩) m vc]).run Tryz.prog W=.ok (goInt ((1:Nat):Int)) (W.setCells w.heap.size (i*k) vs):=λW o K d J=>
  rh W _ _ d E k w.heap.size (i*k) (n+m - i) J ⟨B,0,none⟩ m vc 1 vs q.u R (by simp only[Nat.min_def];split<;>omega) ω
   (λj v a=>by rw[Addr.add_lit,CE,o];exact hOv _ v (Y j v a))
   (λj a=>by rw[o];rw[Q]at a;exact hN _ ω) (λj a=>by rw[K];exact U _) h2
 have hGn:n+m<=G:=by rw[Z];exact grownCap_ge w _ _ _
 have hG63:G<=9223372036854775807:=by
  have:=grownCap_le_maxLen w (n+m) c E (by unfold maxLen;omega);rw[<-Z]at this;unfold maxLen at this;omega
 have hGi:¬(G=i):=ω
 have hGim:¬(G=i+m):=ω
 have hci:¬(c=i):=ω
 have hbN:g≠w.heap.size:=ω
 have X:(olds.drop (i*k)).length=(n - i)*k:=by rw[O5,P];omega
 have D:∀(W:World),(∀x,W.cell? x=(p.setCells w.heap.size (i*k) vs).cell? x)->(∀x,W.frozen? x=(p.setCells w.heap.size (i*k) vs).frozen? x)->∀d J sc,(Builtin.copy_ #[S,S] d #[.slice (some ⟨w.heap.size,(i+m)*k,none⟩) (n+m - (i+m)) J,.slice (some ⟨g,i*k,none⟩) (n - i) sc]).run Tryz.prog W=.ok (goInt ((n - i:Nat):Int)) (W.setCells w.heap.size ((i+m)*k) (olds.drop (i*k))):=λW o K d J sc=>
  rh W _ _ d E k w.heap.size ((i+m)*k) (n+m - (i+m)) J ⟨g,i*k,none⟩ (n - i) sc (n - i) (olds.drop (i*k)) q.u R (by simp only[Nat.min_def];split<;>omega) X
   (λj v a=>by
     rw[Addr.add_lit,o,World.cell?_setCells_out _ _ _ _ _ (λh _=>absurd h hbN)];exact hOb _ v (ho (i*k+j) v (by rwa [List.getElem?_drop]at a)))
   (λj a=>by rw[o];rw[X]at a;exact GK _ _ _ _ (λt ht=>by rw[Q]at ht;exact hN _ ω) _ (hN _ ω))
   (λj a=>by rw[K,World.frozen?_setCells];exact U _) (λv Y=>h1 v (List.mem_of_mem_drop Y))
 subst b;have hE1:∀x,((w.alloc (.cells ROW E)).drew).cell? x=(w.drew.alloc (.cells ROW E)).cell? x:=λx=>rfl
 have hE2:∀x,((w.alloc (.cells ROW E)).drew).frozen? x=(w.drew.alloc (.cells ROW E)).frozen? x:=λx=>rfl
 have hF1:∀x,(((w.alloc (.cells ROW E)).drew.setCells w.heap.size (i*k) vs).drew).cell? x=((w.drew.alloc (.cells ROW E)).setCells w.heap.size (i*k) vs).cell? x:=λx=>rfl
 have hF2:∀x,(((w.alloc (.cells ROW E)).drew.setCells w.heap.size (i*k) vs).drew).frozen? x=((w.drew.alloc (.cells ROW E)).setCells w.heap.size (i*k) vs).frozen? x:=λx=>rfl
 have hw1:IntKind.i64.wrap ((i:Int)+(m:Int))=(i:Int)+(m:Int):=by rw[IntKind.wrap_i64];omega
 have hw2:IntKind.i64.wrap ((n:Int)+(m:Int))=(n:Int)+(m:Int):=by rw[IntKind.wrap_i64];omega
 have hw3:IntKind.i64.wrap ((n:Int)+(m:Int) - (i:Int))=(n:Int)+(m:Int) - (i:Int):=by rw[IntKind.wrap_i64];omega
 have hb1:(0:Int)<=(i:Int)+(m:Int):=ω
 have hin:i<=n:=ω
 have htn:((i:Int)+(m:Int)).toNat=i+m:=ω
 have hb3:(i:Int)<=(n:Int):=ω
 clear T H C l Z hRl p1 p2 p3 p4 p5 p7 hk;cases q
 case' oq=>go_enter Tryz.func103,Tryz.ntmps103
 case' lq=>go_enter Tryz.func250,Tryz.ntmps250
 case' sq=>go_enter Tryz.func378,Tryz.ntmps378
 all_goals
  go_wp2_with (first
    | (at_builtin;refine Lib.wpList_append_run _ rfl _ _ _ _ rfl _ _ rfl rfl _ _ (r _) ?_)
    | (at_builtin;refine pV _ rfl _ _ _ _ rfl _ _ rfl rfl (V _ hE1 hE2 _ _) ?_)
    | (at_builtin;refine pV _ rfl _ _ _ _ rfl _ _ rfl rfl (D _ (λ_=>rfl) (λ_=>rfl) _ _ _) ?_))
  go_region_law_o (refine zv rfl _ _ _ _ rfl (.slice (some ⟨w.heap.size,(i+m)*_,none⟩) (n+m - (i+m)) (G - (i+m))) (.slice (some ⟨g,i*_,none⟩) (n - i) (c - i)) (by simp[Act.eval,Act.put]) (by simp[Act.eval,Act.put]) (D _ hF1 hF2 3 (G - (i+m)) (c - i)) ?_)
  go_wp2
  go_ret
  exact⟨rfl,rfl⟩
def Ed(q:IQ f v S E k):WR Tryz.prog f k S (8*k):=by
 refine⟨q.has,VT q,λw g n c i M m N olds O o p u h R b d y P r t j B C=>?_⟩;obtain⟨T,U,D,F,G,l,H,J⟩:=Ez q;by_cases a:n+m<=c
 ·refine(Qw q w g n c i M m N olds O o p h a b d y P r t j B C).mono λe Q ⟨K,L⟩=>?_
  subst o;rw[L];exact⟨g,c,K,a,Mt p a b d y r t j⟩
 refine(Ui q D F G l J w g n c i M m N olds O o p h u ω b d y P r t).mono λe Q ⟨K,L⟩=>?_
 subst o;rw[L,Rx];exact⟨_,_,K,grownCap_ge w _ _ _,NX (e:=E) rfl rfl rfl rfl p (grownCap_ge w _ _ _) l H b d r t⟩
end
def Af(xs:List aW):Z3 (xs.map (aW.enc .own)):=λr b c a=>by
 obtain⟨s,-,rfl⟩:=O8.1 b;simp[aW.enc]at a;rcases a with rfl|rfl|rfl|rfl<;>exact⟨_,rfl⟩
def Bk(xs:List aW)(i:Nat)(x:aW)(j:i<=xs.length)(k:xs.length+1<=1073741824):zzB 103 false [.mut none [.s .own (xs.map (aW.enc .own))],.vI (i:Nat),.mut none [.s .own [aW.enc .own x]]] [.mut none [.x],.vI (i:Nat),.mut none [.x]] .one [.s .own ((inse xs i x).map (aW.enc .own))]:=by
 obtain⟨l,n,c,a,d,e,g,b⟩:=Ez .oq;have h:=PV (row:=aW.enc .own x) (IQ.u .oq) c a d (by rw[a,e]) g (by rw[b];decide) (by rw[b];exact Ed .oq) (rows:=xs.map (aW.enc .own)) (i:=i) (by rw[I2];exact j) (aR λ_=>rfl) rfl qs (Af xs) (Af [x]) (by rw[I2];exact k)
 rwa [BK]at h
def vu(xs:List aA):Z3 (xs.map (aA.enc .own)):=λr b c a=>by
 obtain⟨s,-,rfl⟩:=O8.1 b;simp[aA.enc]at a;rcases a with rfl|rfl|rfl<;>exact⟨_,rfl⟩
def J5(xs:List aA)(i:Nat)(x:aA)(j:i<=xs.length)(k:xs.length+1<=1073741824):zzB 250 false [.mut none [.s .own (xs.map (aA.enc .own))],.vI (i:Nat),.mut none [.s .own [aA.enc .own x]]] [.mut none [.x],.vI (i:Nat),.mut none [.x]] .one [.s .own ((inse xs i x).map (aA.enc .own))]:=by
 obtain⟨l,n,c,a,d,e,g,b⟩:=Ez .lq;have h:=PV (row:=aA.enc .own x) (IQ.u .lq) c a d (by rw[a,e]) g (by rw[b];decide) (by rw[b];exact Ed .lq) (rows:=xs.map (aA.enc .own)) (i:=i) (by rw[I2];exact j) (aR λ_=>rfl) rfl qs (vu xs) (vu [x]) (by rw[I2];exact k)
 rwa [BK]at h
def xE(xs:List aC):Z3 (xs.map (aC.enc .own)):=λr b c a=>by
 obtain⟨s,-,rfl⟩:=O8.1 b;simp[aC.enc]at a;rcases a with rfl|rfl|rfl<;>exact⟨_,rfl⟩
def KU(xs:List aC)(i:Nat)(x:aC)(j:i<=xs.length)(k:xs.length+1<=1073741824):zzB 378 false [.mut none [.s .own (xs.map (aC.enc .own))],.vI (i:Nat),.mut none [.s .own [aC.enc .own x]]] [.mut none [.x],.vI (i:Nat),.mut none [.x]] .one [.s .own ((inse xs i x).map (aC.enc .own))]:=by
 obtain⟨l,n,c,a,d,e,g,b⟩:=Ez .sq;have h:=PV (row:=aC.enc .own x) (IQ.u .sq) c a d (by rw[a,e]) g (by rw[b];decide) (by rw[b];exact Ed .sq) (rows:=xs.map (aC.enc .own)) (i:=i) (by rw[I2];exact j) (aR λ_=>rfl) rfl qs (xE xs) (xE [x]) (by rw[I2];exact k)
 rwa [BK]at h
def oF(h:ac):C:=oE (h.a.map (aD.enc .own))
def jA(h:ac):List C:=[.s .own (h.G.F.V.U.map (aI .own)),.s .own (h.G.F.V.y.map (rB .own)),.s .own (h.G.F.R.M.map (aS.enc .own)),I h.G.Calls,.s .own (h.G.k.map (rI .own)),oF h,.s .own (h.J.map (aC.enc .own)),.s .own (h.H.map (aA.enc .own)),.s .own (h.K.map (aW.enc .own)),.s .own (h.Q.map (aB.enc .own)),.s .own (h.b.T.map (bf .own)),.s .own (h.b.e.map (aI .own)),I h.r.b2,.s .own (h.r.l.map (aK.enc .own)),I h.b3,I h.a4,I h.b7,I h.j,B h.w,I h.a2.d.a5,I h.a2.d.a7,.s .own (h.a2.d.U.map (rI .own)),I h.a2.a8,I h.a2.j]
def R6(h:ac):List C:=[.x,.x,.x,.x,.x,oF h,.s .own (h.J.map (aC.enc .own)),.s .own (h.H.map (aA.enc .own)),.s .own (h.K.map (aW.enc .own)),.s .own (h.Q.map (aB.enc .own)),.s .own (h.b.T.map (bf .own)),.s .own (h.b.e.map (aI .own)),I h.r.b2,.s .own (h.r.l.map (aK.enc .own)),I h.b3,I h.a4,I h.b7,I h.j,B h.w,I h.a2.d.a5,I h.a2.d.a7,.s .own (h.a2.d.U.map (rI .own)),I h.a2.a8,I h.a2.j]
def YD(h:ac):fz (oF h)=.s .O (h.a.map (aD.enc .O)):=(Q7 _).trans (List.cons.inj (fe h.a)).1
def lT(h:ac):du (jA h)=ac.enc .O h:=by
 have a:=ac.enc_fz h;have b:du (jA h)=(du (ac.enc .own h)).set 5 (fz (oF h)):=rfl;rw[b,a,YD];rfl
def pv(h:ac):gl (jA h):=by
 have a:=ac.enc_fr h;simp only[ac.enc,gl]at a;unfold jA;simp only[gl];refine⟨a.1,a.2.1,a.2.2.1,a.2.2.2.1,a.2.2.2.2.1,Dl ?_,a.2.2.2.2.2.2⟩;exact a.2.2.2.2.2.1.2
variable{h:ac}{S Y:am}
theorem WF{u:Nat->Value}(a:cD w S Y (ac.enc .own h) u):cD w S Y (jA h) u:=by
 obtain⟨f,b,d,e⟩:=a;refine⟨f,λj c g=>?_,d,e⟩;have i:jA h=(ac.enc .own h).set 5 (oF h):=rfl;rw[i]at g;by_cases k:j=5
 ·subst k
  have:c=oF h:=ψ
  rw[this];exact wb (b 5 _ rfl)
 grind
def Pk(h:ac)(a:ac.sml h):zzA 85 false [.val (some 24) (ac.enc .O h)] .agg (jA h):=by
 obtain⟨b,c⟩:=jN h a;refine⟨b,λw S d g i=>(c w S d g i).mono λe w1 j=>?_⟩;obtain⟨v,k,l,X,S1,n,o,p,q,r⟩:=j;exact⟨v,k,l,X,S1,n,o,p,q,WF r⟩
def Zj{b:Bool}{X Y:Prop}(h:b=true)(a:X):cond b X Y:=by subst h;exact a
def Qa{b:Bool}{X Y:Prop}(h:b=false)(a:Y):cond b X Y:=by subst h;exact a
theorem a1c(h:ac):b6 [oF h]=false\/(b6 [oF h]=true/\h.a=[]):=by
 unfold oF;cases a:h.a with
 | nil=>grind
 | cons y b=>exact .inl rfl
theorem a1b(a:b6 [oF h]=true):[oF h]=bm .O h.a:=by
 unfold oF at a |-;cases b:h.a with
 | nil=>rfl
 | cons y c=>grind [oE,b6,gj]
def BD(h:ac)(n:Nat):ac × Int × Bool:=
 if(aG h.a (n:Nat)).2.2=false then(h,-1,false)
 else if(bP h.G (aG h.a (n:Nat)).2.1 n).2=n then({h with G:=(bP h.G (aG h.a (n:Nat)).2.1 n).1,a:=(aG h.a (n:Nat)).1},(aG h.a (n:Nat)).2.1,true)
 else({h with G:=dX (bP h.G (aG h.a (n:Nat)).2.1 n).1 (aG h.a (n:Nat)).2.1 (bP h.G (aG h.a (n:Nat)).2.1 n).2},-1,false)
theorem tY(h:ac)(n:Nat)(w:bo h [])(U:h.G.Calls<=90000)(hn:1<=n/\n<=63):zzB 247 false [.ptr (jA h),.vI (n:Nat)] [.ptr (jA (BD h n).1),.vI (n:Nat)] (.tup [none,none]) [I (BD h n).2.1,B (BD h n).2.2]:=by
 have P:ge h<=32:=w.lens.ents;have M:=w;have C:du [oF h]=bm .O h.a:=O1 (λy=>[y]) (YD h);have N:=xy h;have t:=DL (ge h:Nat) h.a (n:Nat) ω w.rng ω (by grind [nB.free,bo.lens]);unfold rtI at t;have D:=lQ w (show(1:Int)<=(n:Nat) by omega);unfold BD;have c:b6 [oF h]=false\/(b6 [oF h]=true/\(aG h.a (n:Nat)).2.2=false):=(a1c h).imp id λg=>⟨g.1,by rw[g.2];rfl⟩
 generalize aG h.a (n:Nat)=r at t D c |-;obtain⟨V,p,ok⟩:=r;simp only at t D c |-;refine fM 76 [] [(1,270,[15,16,17,18,19,20,21,22,23,24,14,25,26,27,0,1,2,3,4,5,6,7,8,9,10,11,12,13,14,1012,1013,15,1013,16])] [(0,0),(0,0)] Tryz.func247 rfl (λu q=>?_) (.inr ⟨tV1,tV1,tV1⟩);rcases c with c|⟨c,Q⟩
 ·cases ok with
   | false=>
    rw[CK rfl];rw[CJ (by simp)]at t
    repeat'(first|refine gP ?_|refine CN (N) ⟨⟨rfl,lT h⟩,tV1⟩ ?_|refine CN (t) ⟨⟨rfl,rfl⟩,⟨rfl,C⟩,⟨rfl,rfl⟩,tV1⟩ ?_|refine Qa c ?_)
    exact kk
   | true=>
    rw[CJ (by simp)];rw[CK rfl]at t;obtain⟨O,J,K,u4⟩:=D rfl;change p+(n:Nat)<=(h.G.F.R.M.length:Nat) at J;change ∀q:Nat,p<=q->(q:Int)<p+(n:Nat)->(nth h.G.F.R.M q).o=0 at K
    have W:h.G.F.R.M.length<=32:=P;cases V with
    | nil=>
      repeat'(first|refine gP ?_|refine CN (N) ⟨⟨rfl,lT h⟩,tV1⟩ ?_|refine CN (t) ⟨⟨rfl,rfl⟩,⟨rfl,C⟩,⟨rfl,rfl⟩,tV1⟩ ?_|refine Qa c ?_)
      refine g0 n (λi=>[(0,bX (R6 h)),(1,fN n),(6,b8 ([oE (([]:List aD).map (aD.enc .own))])),(7,fI p),(9,bX (af.enc .own (bP h.G p i).1)),(10,fN i)]) (λi=>(bP h.G p i).2=i) rfl λi w=>?_
      obtain⟨E,L⟩:=w;have s:=iZ.of (p:=p) (n:=n) M.ker ω ⟨O,J⟩ K i E;have R:=s.calls;have S:=s.len;by_cases X:i<n
      ·have F:(nth (bP h.G p i).1.F.R.M (p+(i:Nat)).toNat).o=0:=by grind [iZ.out]
       have l:=xY (bP h.G p i).1 (p+(i:Nat)) s.ker ω ω F;have a:bP h.G p (i+1)=((eD (bP h.G p i).1 (p+(i:Nat))).1,if(eD (bP h.G p i).1 (p+(i:Nat))).2=true then i+1 else i):=by
        show(if(bP h.G p i).2=i then _ else _)=_;rw[CK L]
       cases e:(eD (bP h.G p i).1 (p+(i:Nat))).2 with
       | true=>
        rw[e]at l a;rw[CK rfl]at a;have G:(eD (bP h.G p i).1 (p+(i:Nat))).1=(bP h.G p (i+1)).1:=by rw[a]
        rw[G]at l
        repeat'(first|refine gE ?_|refine CN (l) ⟨⟨rfl,CW _⟩,⟨rfl,rfl⟩,tV1⟩ ?_)
        (exact dL (i+1) ψ)
       | false=>
        rw[e]at l a;rw[CJ (by simp)]at a;have o:=lJ (k:=h.G) (p:=p) (i:=i+1) ψ (n - (i+1));rw[show i+1+(n - (i+1))=n by omega]at o;have H:=iZ.of (p:=p) (n:=n) M.ker ω ⟨O,J⟩ K (i+1) ω;rw[CJ ω,o.1];have b:=H.calls;rw[a]at H b |-;have d:=H.ker;simp only at d b |-;generalize (eD (bP h.G p i).1 (p+(i:Nat))).1=k at l d b |-
        repeat'(first|refine gE ?_|refine CN (l) ⟨⟨rfl,CW _⟩,⟨rfl,rfl⟩,tV1⟩ ?_)
        refine lp0 i (λj=>[(0,bX (R6 h)),(7,fI p),(9,bX (af.enc .own (dX k p j))),(10,fN i),(13,fI (p+(j:Nat)))]) λj Y=>?_
        have T:=tl (dX k p j) (p+(j:Nat)) (kz d p j) (by grind [iy]);by_cases Z:j<i
        ·repeat'(first|refine gE ?_|refine CN (T) ⟨⟨rfl,CW _⟩,⟨rfl,rfl⟩,tV1⟩ ?_)
         (exact dL (j+1) ω)
        obtain rfl:j=i:=ω
        refine σE ?_
        exact kk
      obtain rfl:i=n:=ω
      rw[CK L];generalize (bP h.G p i).1=k
      refine σE ?_
      exact kk
    | cons y ys=>
      repeat'(first|refine gP ?_|refine CN (N) ⟨⟨rfl,lT h⟩,tV1⟩ ?_|refine CN (t) ⟨⟨rfl,rfl⟩,⟨rfl,C⟩,⟨rfl,rfl⟩,tV1⟩ ?_|refine Qa c ?_)
      refine g0 n (λi=>[(0,bX (R6 h)),(1,fN n),(6,b8 ([oE ((y::ys).map (aD.enc .own))])),(7,fI p),(9,bX (af.enc .own (bP h.G p i).1)),(10,fN i)]) (λi=>(bP h.G p i).2=i) rfl λi w=>?_
      obtain⟨E,L⟩:=w;have s:=iZ.of (p:=p) (n:=n) M.ker ω ⟨O,J⟩ K i E;have R:=s.calls;have S:=s.len;by_cases X:i<n
      ·have F:(nth (bP h.G p i).1.F.R.M (p+(i:Nat)).toNat).o=0:=by grind [iZ.out]
       have l:=xY (bP h.G p i).1 (p+(i:Nat)) s.ker ω ω F;have a:bP h.G p (i+1)=((eD (bP h.G p i).1 (p+(i:Nat))).1,if(eD (bP h.G p i).1 (p+(i:Nat))).2=true then i+1 else i):=by
        show(if(bP h.G p i).2=i then _ else _)=_;rw[CK L]
       cases e:(eD (bP h.G p i).1 (p+(i:Nat))).2 with
       | true=>
        rw[e]at l a;rw[CK rfl]at a;have G:(eD (bP h.G p i).1 (p+(i:Nat))).1=(bP h.G p (i+1)).1:=by rw[a]
        rw[G]at l
        repeat'(first|refine gE ?_|refine CN (l) ⟨⟨rfl,CW _⟩,⟨rfl,rfl⟩,tV1⟩ ?_)
        (exact dL (i+1) ψ)
       | false=>
        rw[e]at l a;rw[CJ (by simp)]at a;have o:=lJ (k:=h.G) (p:=p) (i:=i+1) ψ (n - (i+1));rw[show i+1+(n - (i+1))=n by omega]at o;have H:=iZ.of (p:=p) (n:=n) M.ker ω ⟨O,J⟩ K (i+1) ω;rw[CJ ω,o.1];have b:=H.calls;rw[a]at H b |-;have d:=H.ker;simp only at d b |-;generalize (eD (bP h.G p i).1 (p+(i:Nat))).1=k at l d b |-
        repeat'(first|refine gE ?_|refine CN (l) ⟨⟨rfl,CW _⟩,⟨rfl,rfl⟩,tV1⟩ ?_)
        refine lp0 i (λj=>[(0,bX (R6 h)),(7,fI p),(9,bX (af.enc .own (dX k p j))),(10,fN i),(13,fI (p+(j:Nat)))]) λj Y=>?_
        have T:=tl (dX k p j) (p+(j:Nat)) (kz d p j) (by grind [iy]);by_cases Z:j<i
        ·repeat'(first|refine gE ?_|refine CN (T) ⟨⟨rfl,CW _⟩,⟨rfl,rfl⟩,tV1⟩ ?_)
         (exact dL (j+1) ω)
        obtain rfl:j=i:=ω
        refine σE ?_
        exact kk
      obtain rfl:i=n:=ω
      rw[CK L];generalize (bP h.G p i).1=k
      refine σE ?_
      exact kk
 subst Q;rw[CK rfl];rw[CJ (by simp)]at t
 repeat'(first|refine gP ?_|refine CN (N) ⟨⟨rfl,lT h⟩,tV1⟩ ?_|refine CN (t) ⟨⟨rfl,rfl⟩,⟨rfl,a1b c⟩,⟨rfl,rfl⟩,tV1⟩ ?_|refine Zj c ?_)
 exact kk
theorem AD(h:ac)(p c:Int)(w:h.J.length<=4096):zzB 248 false [.ptr (jA h),.val (some 3) [I p,I c,I 0]] [.ptr (jA {h with J:=lA (ML p) h.J ⟨p,c,0⟩}),.val (some 3) [I p,I c,I 0]] .one [I (mq (ML p) h.J:Nat)]:=by
 refine fM 40 [(378,[1,0,1])] [(2,18,[6,7,8,9,10,11,12,13,14,15,16,17,18,19,20,21,22,23]),(4,264,[28,29,30,31,32,33,34,35,0,1,2,3,4,5,6,7,8,1000,9,10,11])] [(0,0),(0,0)] Tryz.func248 rfl (λu q=>?_)
 refine σP ?_
 refine g0 h.J.length (λi=>[(0,bX (jA h)),(3,bX ([I p,I c,I 0])),(5,fN i)]) (λi=>∀(j:Nat)(z:aC),j<i->h.J[j]? = some z->ML p z=false) ψ λi g=>?_
 obtain⟨k,d⟩:=g;by_cases l:i<h.J.length/\(nth h.J i).S<p
 ·have b:=au l.1
  refine σE ?_
  (exact dL (i+1) ⟨ω,gd b (C1 ω) d⟩)
 have a:mq (ML p) h.J=i:=pF ω d λz e=>by
  have n:=(C4.1 e).1;have:z=nth h.J i:=(bI e).symm;subst this;exact O0 ω
 have b:i<h.J.length->h.J[i]? = some (nth h.J i):=λo=>au o
 have r:=KU h.J i ⟨p,c,0⟩ ω ω;rw[p9 a,a]
 repeat'(first|refine gE ?_|with_reducible refine CI (aa (b ω)) ?_|refine gS (λt=>?_) (λt=>?_)|refine CM rfl (aa (b ω)) rfl ?_)
 all_goals
  exact kk
def PT(h:ac)(i:Nat):jA (slotT h i)=((jA h).set 14 (I (ET h.b3))).set 6 (.s .own ((h.J.map (aC.enc .own)).set i [I (nth h.J i).S,I (nth h.J i).Z,I (jg (nth h.J i).a3 (qQ h i))])):=by
 simp[jA,slotT,vj,IC,aC.enc,oF]
def Gw(h:ac)(E:List Int)(i:Nat)(a:bo h E)(b:i<h.J.length)(p:(jc h i).length=0):zzA 246 false [.ptr (ac.enc .O h),.vI (i:Nat)] (.tup [none,none]) [I (-1),B false]:=by
 have g:=au b;have c:=a.L.sok _ (ay b);have d:=f8 c;have j:=(bF.1 (aM.1 a.ker).2.2.1).2.2;have n:=a.lens.spans;have e:=oU a.L.sok (ps:=bh h (nth h.J i).S) d (bh h (nth h.J i).S).length;change 0<=fp h i/\fp h i<=65535 at e;have o:=iu (nth h.J i).Z;have k:=v6 h i ⟨ω,λ_ _=>tV1⟩ ⟨ω,λ_ _=>tV1⟩ a.L.sok b;rw[zy a.L.sok b]at k;have l:=tQ (nth h.J i).Z (fp h i) ω;change ah _ _ _ _ _ (aI .own (jc h i)) at l;refine fO 63 [(2,7,[17,18,19,20,21,22,23]),(7,12,[43,44,45,46,47,48,49,50,51,52,53,54]),(8,5,[57,58,59,60,61])] Tryz.func246 rfl ?_ (.inr ⟨tV1,tV1,tV1⟩)
 refine σB ?_
 rfl
def sJ(h:ac)(E:List Int)(i:Nat)(b:bo h E)(j:i<h.J.length):zzB 246 false [.ptr (jA h),.vI (i:Nat)] [.ptr (jA (nt h i).1),.vI (i:Nat)] (.tup [none,none]) [I (nt h i).2,B (decide (0<(jc h i).length))]:=by
 have F:=b.lens.spans;have d:=au j;have c:=b.L.sok _ (ay j);have e:=f8 c;have a:=b.nums;unfold cU at a;rw[C0]at a;have y:=(bF.1 (aM.1 b.ker).2.2.1).2.2;have k:=oU b.L.sok (ps:=bh h (nth h.J i).S) e (bh h (nth h.J i).S).length;change 0<=fp h i/\fp h i<=65535 at k;have C:=iu (nth h.J i).Z;have l:=v6 h i ⟨ω,λ_ _=>tV1⟩ ⟨ω,λ_ _=>tV1⟩ b.L.sok j;rw[zy b.L.sok j]at l;have o:=tQ (nth h.J i).Z (fp h i) ω;change ah _ _ _ _ _ (aI .own (jc h i)) at o;have p:=DN (nth h.J i).Z (fp h i);change (jc h i).length<=16 at p;unfold nt;by_cases D:(jc h i).length=0
 ·rw[CK D,C1 ω]
  refine fM 63 [] [(2,7,[17,18,19,20,21,22,23]),(7,12,[43,44,45,46,47,48,49,50,51,52,53,54]),(8,5,[57,58,59,60,61])] [(0,0),(0,0)] Tryz.func246 rfl (λu q=>?_) (.inr ⟨tV1,tV1,tV1⟩)
  repeat'(first|refine gB ?_|refine CN (l) ⟨⟨rfl,lT h⟩,⟨rfl,rfl⟩,tV1⟩ ?_)
  exact kk
 rw[CJ D,O0 ω];have G:=yZ (h:=h) (i:=i) ω;obtain⟨H,O,P⟩:=wl G;have J:=(iB (aT c).2.2).2.2.1;have r:=uh h.b3 (n:=((jc h i).length:Nat)) ω;have K:=zW h.b3 ((jc h i).length:Nat) ω ω;have M:=Ga (nth h.J i).a3 (qQ h i) e ω;obtain⟨N,t⟩:=t5 H;have w:=vK (nth h.J i) N c ω;unfold me at w;rw[<-t]at w;have g:(jc h i)[(K3 h.b3 ((jc h i).length:Nat)).toNat]? = some (qQ h i):=au ω;unfold uk;rw[PT];refine fM 63 [] [(2,7,[17,18,19,20,21,22,23]),(7,12,[43,44,45,46,47,48,49,50,51,52,53,54]),(8,5,[57,58,59,60,61])] [(0,0),(0,0)] Tryz.func246 rfl (λu q=>?_) (.inr ⟨tV1,tV1,tV1⟩)
 repeat'(first|refine gB ?_|refine CN (l) ⟨⟨rfl,lT h⟩,⟨rfl,rfl⟩,tV1⟩ ?_|refine CS r.1 (aa g) ?_|refine CR rfl rfl (aa d) rfl (O2 rfl) rfl ?_)
 refine CO rfl ?_ ?_
 ·rfl
 exact wC
def Um(k:af)(p:Int):bP k p 1=((eD k p).1,if(eD k p).2=true then 1 else 0):=by
 show(if(0:Nat)=0 then((eD k (p+((0:Nat):Int))).1,if(eD k (p+((0:Nat):Int))).2=true then 0+1 else 0) else(k,0))=_;rw[CK rfl,show p+((0:Nat):Int)=p by omega]
def Uo(h:ac):BD h 1=if(aG h.a 1).2.2=false then(h,-1,false)
  else if(eD h.G (aG h.a 1).2.1).2=false then({h with G:=(eD h.G (aG h.a 1).2.1).1},-1,false)
  else({h with G:=(eD h.G (aG h.a 1).2.1).1,a:=(aG h.a 1).1},(aG h.a 1).2.1,true):=by
 unfold BD;rw[show((1:Nat):Int)=1 from rfl,Um];cases e:(eD h.G (aG h.a 1).2.1).2
 ·simp[dX]
 simp
def U8(h:ac)(a:C):List C:=(jA h).set 9 a
def EN(h:ac)(size:Int)(e:bo h [])(l:9<=size/\size<=1000)(n:h.G.Calls<=90000):zzB 102 false [.ptr (jA h),.vI size] [.ptr (jA (FK h size).1),.vI size] (.tup [none,none]) [I (FK h size).2,B (decide (0<=(FK h size).2))]:=by
 have E:=e.lens.larges;have R:=e;have o:fE size=((nX size:Nat):Int):=by unfold fE nX;split<;>omega
 have F:1<=nX size/\nX size<=63:=by unfold nX;omega
 have g:=pP size;rw[o]at g;have a:=tY h (nX size) e n F;have c:=lQ e (show(1:Int)<=(nX size:Nat) by omega);unfold BD at a;unfold FK kI;generalize nX size=N at *;generalize aG h.a (N:Nat)=r at a c |-;obtain⟨G,p,ok⟩:=r;simp only at a c |-;refine fM 56 [(247,[2,0]),(250,[1,0,1])] [(7,268,[39,40,41,42,43,44,45,46,47,48,49,50,0,1,2,3,4,5,6,7,8,9,10,11,12,1000,13,14,15])] [(0,0),(0,0)] Tryz.func102 rfl (λu q=>?_) (.inr ⟨tV1,tV1,tV1⟩);cases ok with
 | false=>
  rw[CK rfl]at a |-
  refine σP ?_
  exact kk
 | true=>
  rw[CJ (by simp)]at a |-;obtain⟨S,H,-,-⟩:=c rfl;have J:h.G.F.R.M.length<=32:=e.lens.ents;have t:p+(N:Nat)<=(h.G.F.R.M.length:Nat):=H;by_cases w:(bP h.G p N).2=N
  ·rw[CK w]at a |-
   rw[O0 (show(0:Int)<=16*p by omega)];generalize (bP h.G p N).1=k at a |-
   refine σP ?_
   refine g0 h.H.length (λm=>[(0,bX (jA {h with G:=k,a:=G})),(1,fI size),(6,fI p),(8,fN m)]) (λm=>∀(j:Nat)(z:aA),j<m->h.H[j]? = some z->WY p z=false) (λj z T=>ω) λm K=>?_
   obtain⟨L,C⟩:=K;by_cases M:m<h.H.length/\(nth h.H m).S<p
   ·have d:=au M.1
    repeat'(first|refine gP ?_|refine Bf.D (λb=>?_) (λb=>absurd b (by first|omega|(simp only at *;omega))))
    (exact dL (m+1) ⟨ω,gd d (C1 ω) C⟩)
   have i:mq (WY p) h.H=m:=pF ω C λz l=>by
    have O:=(C4.1 l).1;have:z=nth h.H m:=(bI l).symm;subst this;exact O0 ω
   have d:m<h.H.length->h.H[m]? = some (nth h.H m):=λP=>au P
   have Q:=J5 h.H m ⟨p,(N:Nat),size⟩ ω ω;rw[p9 i]
   repeat'(first|refine gP ?_|refine Bf.D (λb=>?_) (λb=>absurd b (by first|omega|(simp only at *;omega)))|refine Bf.D (λb=>absurd b (by first|omega|(simp only at *;omega))) (λb=>?_)|refine Bf.D (λb=>?_) (λb=>?_)|refine CI (aa (d (by first|omega|(simp only at *;omega)))) ?_|refine CM rfl (aa (d (by first|omega|(simp only at *;omega)))) rfl ?_)
   all_goals
    refine CO rfl ?_ ?_
    ·exact O1 (λy=>[I y,B true]) (show p*16=16*p by omega)
    exact wC
  rw[CJ w]at a |-
  refine σP ?_
  exact kk
def cl(k:af)(f c:Nat):Int:=nth (nth k.F.V.U f) c
structure At(k:af)(a:Int)(f c:Nat):Prop where
 m:(ax k.F.R (a / 16)).o≠0
 f:(ax k.F.R (a / 16)).g=f
 c:a % 16=c
def At.cell{k:af}{a:Int}{c:Nat}(h:At k a f c):y3 k a=cl k f c:=by
 unfold y3 cl;rw[h.f,h.c,O4,O4]
structure New(h h':ac)(x:aW):Prop where
 mem:∀o,o∈h'.K↔o=x\/o∈h.K
 ze:∀j:Int,0<=j->j<x.q->y3 h'.G (x.Addr+j)=0
 ke:∀o∈h.K,∀j:Int,0<=j->j<o.q->y3 h'.G (o.Addr+j)=y3 h.G (o.Addr+j)
def hE(h:ac)(k:af):ac:={h with G:=k,w:=false,a2:=⟨⟨0,0,[]⟩,0,0⟩}
def sm{α:Type}(f:α->Int):List α->Int
 | []=>0
 | a::l=>f a+sm f l
def cells1(xs:List Int)(i:Nat)(h:i<xs.length):[rI .O (nth xs i)]=((xs.map (rI .O)).take (i+1)).drop i:=by
 rw[List.drop_take,<-I8,hB h,show i+1 - i=1 by omega]
 rfl
def HF(k:af)(j:bz)(c:aN k=true)(D:md j=true):zzA 280 false [.val (some 5) (af.enc .O k),.val (some 5) (bz.enc .O j)] (.tup [some 5,some 5]) (af.enc .own (iU k j).1++bz.enc .own (iU k j).2):=by
 obtain⟨F,Y,Z,Q,j6⟩:=iG.1 D;have R:=oD F;have y:=bq c;have g:=i7 k y;have l:=x5 j (zr D);have b:=jp k y;rw[c,Bool.and_true]at b;have o:=BB j (zr D);rw[D]at o;have d:=gh k j.d.a5 y.1.2;have p:=gh k j.d.a7 y.1.2;have r:=dl k.F.R j.d.a5 y.1.2;have t:=dl k.F.R j.d.a7 y.1.2;have L:=(bF.1 (aM.1 c).2.2.1).2.2;have S:=(bk.1 (aM.1 c).2.1).2.2.1;have q:jmay k j=false->iU k j=(k,j):=λe=>by unfold iU;rw[e];rfl
 refine fO 149 [(1,262,[11,12,13,14,15,16,0,1,2,3,4,5,6,1003,1004,1005,7]),(2,6,[17,18,19,20,8,9]),(3,33,[21,22,23,24,25,26,27,28,29,30,31,32,33,34,35,36,37,38,39,40,41,42,43,44,45,46,47,48,49,50,51,52,53]),(4,258,[56,57,0,1,2,1001,3]),(15,272,[82,83,84,85,86,87,88,89,90,91,92,93,94,81,95,96,0,1,2,3,4,5,6,7,8,9,10,11,12,13,14,15,16,1015]),(25,273,[123,124,125,126,127,128,129,130,131,132,133,134,135,122,136,137,138,0,1,2,3,4,5,6,7,8,9,10,11,12,13,14,15,16,17,1015]),(29,258,[147,148,0,1,2,1001,3])] Tryz.func280 rfl ?_ (.inr (aE (Ck _) (bz.enc_fr _)));by_cases u:k.Calls=100000
 ·rw[C1 (λn=>n u)]at b
  rw[q (by rw[<-OA,jd];exact λh=>h.1.2 u)]
  refine σP ?_
  rfl
 rw[O0 u]at b;by_cases B:(ax k.F.R j.d.a5).o=0
 ·rw[C1 (λn=>n B)]at d
  rw[q (by rw[<-OA,jd];exact λh=>h.2.2.1 B)]
  refine σP ?_
  rfl
 rw[O0 B]at d;by_cases w:(ax k.F.R j.d.a7).o=0
 ·rw[C1 (λn=>n w)]at p
  rw[q (by rw[<-OA,jd];exact λh=>h.2.2.2.1 w)]
  refine σP ?_
  rfl
 rw[O0 w]at p;by_cases G:(ax k.F.R j.d.a5).g=(ax k.F.R j.d.a7).g
 ·rw[q (by rw[<-OA,jd];exact λh=>h.2.2.2.2 G)]
  refine σB ?_
  rfl
 have T:jmay k j=true:=jd.2 ⟨⟨c,u⟩,D,B,w,G⟩;rw[show iU k j=jstep k j by unfold iU;rw[T];rfl];have H:j.d.a7≠j.d.a5:=λe=>G (by rw[e])
 unfold jstep;by_cases M:j.a8=0
 ·rw[CK M]
  have a:=vJ k j.d.a7 1 c u w (.inl rfl);cases e:(kn k j.d.a7 1).2<;>rw[e]at a
  all_goals
   refine σB ?_
   rfl
 rw[CJ M];by_cases N:j.a8=1
 ·rw[CK N]
  by_cases E:j.j=j.d.U.length
  ·rw[CK E]
   refine σB ?_
   rfl
  rw[CJ E];obtain⟨n,C⟩:=t5 Q;have a:=NI k j.d.a7 j.d.a5 (nth j.d.U j.j.toNat) c u w B (lC F ω);rw[C,O4]at a;have J:n<j.d.U.length:=ω
  rw[show nth j.d.U j.j.toNat=nth j.d.U n by rw[C];rfl]
  repeat'(first|refine gB ?_|refine Sl.mid (rows':=[rI .O (nth j.d.U n)]) n (n+1) C ω ω (by rw[I2];omega) (aR λ_=>rfl) (cells1 _ _ J) ?_)
  rfl
 rw[CJ N];by_cases O:j.a8=2
 ·rw[CK O]
  have a:=Na k j.d.a7 j.d.a5 c u w B H;cases e:(D8 k j.d.a7 j.d.a5).2<;>rw[e]at a
  all_goals
   refine σB ?_
   rfl
 rw[CJ O];by_cases K:j.a8=3
 ·rw[CK K]
  obtain⟨p1,p2,p3,U,p5⟩:=bV c B;by_cases E:0<j.j
  ·rw[CK E]
   have P:=lC F (i:=(j.j - 1).toNat) ω;have V:=au (xs:=j.d.U) (i:=(j.j - 1).toNat) ω;have W:0<=j.d.a5*16+nth j.d.U (j.j - 1).toNat/\j.d.a5*16+nth j.d.U (j.j - 1).toNat<512:=ω
   have X:(j.d.a5*16+nth j.d.U (j.j - 1).toNat) / 16=j.d.a5:=ω
   have a:=Bv k.F (j.d.a5*16+nth j.d.U (j.j - 1).toNat) 0 (jr c) y.1 W ω (λ_=>by rw[X];exact⟨U,ω,row16 c (f:=kK k j.d.a5) (by unfold kK;omega)⟩);generalize (jb k.F (j.d.a5*16+nth j.d.U (j.j - 1).toNat) 0).1=m at a |-;generalize (jb k.F (j.d.a5*16+nth j.d.U (j.j - 1).toNat) 0).2=e at a
   repeat'(first|refine gB ?_|refine CS ω (aa V) ?_)
   rfl
  rw[CJ E];have a:=vJ k j.d.a7 2 c u w (.inr rfl);cases e:(kn k j.d.a7 2).2<;>rw[e]at a
  all_goals
   refine σB ?_
   first|rfl|(rw[<-K];rfl)
 rw[CJ K]
 refine σB ?_
 rfl
def mPh(h:ac):Int:=(iU h.G h.a2).2.a8
def Fi(h:ac)(l:bo h [])(n:h.w=true)(o:ac.sml h)(t:h.G.Calls<=99000):zzA 121 false [.val (some 24) (ac.enc .O h)] (.tup [some 24,none,none]) (ac.enc .own (mStep h)++[I (mPh h),B true]):=by
 obtain⟨q,-,-⟩:=l.job n;have i:=jN h o;have c:=cR h o;rw[eR,l.to]at c;have j:=HF h.G h.a2 l.ker q;have a:=aE (b:=[I (mPh h),B true]) (ac.enc_fr (mStep h)) ⟨tV1,tV1,tV1⟩;unfold mPh mStep at a |-;generalize iU h.G h.a2=r at j a |-;have d:(ac.enc .O h)=(ac.enc .O h).set 18 (B true):=by rw[<-n];rfl
 rw[d];rw[d]at i c;by_cases e:r.2.a8=4
 ·rw[CK (show over r.2=true from O0 (.inl e)),CK (show over r.2=true from O0 (.inl e))]at a |-
  refine fO 51 [(3,260,[23,24,25,26,0,1,2,3,4,1001,1002,1003,5,6])] Tryz.func121 rfl ?_ (.inr a)
  repeat'((conv=>whnf);first|with_reducible (first|refine Lm ?_|refine Wm ω ?_|refine dF ω (λg=>?_)|refine eT ω (λg=>?_)|refine eF ω (λg=>?_)|refine Bn ?_|refine pU.wk rfl ?_)|refine Bt ?_|refine Bu ?_|refine CH ?_|refine CG (i) ?_|refine CG (c) ?_|refine CG (j) ?_|refine CH ?_)
  rw[e];exact wC
 by_cases k:r.2.a8=5
 ·rw[CK (show over r.2=true from O0 (.inr k)),CK (show over r.2=true from O0 (.inr k))]at a |-
  refine fO 51 [(3,260,[23,24,25,26,0,1,2,3,4,1001,1002,1003,5,6])] Tryz.func121 rfl ?_ (.inr a)
  repeat'((conv=>whnf);first|with_reducible (first|refine Lm ?_|refine Wm ω ?_|refine dF ω (λg=>?_)|refine eT ω (λg=>?_)|refine eF ω (λg=>?_)|refine Bn ?_|refine pU.wk rfl ?_)|refine Bt ?_|refine Bu ?_|refine CH ?_|refine CG (i) ?_|refine CG (c) ?_|refine CG (j) ?_|refine CH ?_)
  rw[k];exact wC
 have p:¬over r.2=true:=by unfold over;simp[e,k]
 rw[CJ p,CJ p]at a |-;refine fO 51 [(3,260,[23,24,25,26,0,1,2,3,4,1001,1002,1003,5,6])] Tryz.func121 rfl ?_ (.inr a)
 refine σB ?_
 rw[n]
 rfl
def Rz:List MA->Bool
 | []=>true
 | .ptr _::_=>false
 | _::A=>Rz A
def RF:MA->MA
 | .mut ag cs=>.mut ag (List.replicate cs.length .x)
 | m=>m
def Gl:Nat->List MA->List (Nat × AV)
 | _,[]=>[]
 | i,.val a cs::A=>(i,.Y (mu a) cs)::Gl (i+1) A
 | i,.mut a cs::A=>(i,.Y (mu a) cs)::Gl (i+1) A
 | i,.ptr cs::A=>(i,.Y .box cs)::Gl (i+1) A
def Y9:MA->AV
 | .val a cs=>.Y (mu a) cs
 | .mut a cs=>.Y (mu a) cs
 | .ptr cs=>.Y .box cs
def a0b(TE:Nat->Option TI)(c:List ResultVar)(k:Kd)(rcs:List C):Exit->(Nat->AV)->Prop:=λe F=>
 match e with
 | .normal=>resA TE F c [] λa b=>bc (iI a) k b rcs True
 | .ret=>resA TE F c [] λa b=>bc (iI a) k b rcs True
 | _=>False
section
variable{P:Program}{w0 w w1:World}{M S0 S:am}{N:gw}{φ:Nat->am}{F:Nat->AV}{a:Act}{TE:Nat->Option TI}
def G8:∀{A:List MA}{vs:List Value}{V:Nat->am}(i:Nat),U6 w S V A vs->∀t,(lay (Gl i A) t=.dead)\/(∃m v,i<=t/\vs[t - i]? = some v/\A[t - i]? = some m/\lay (Gl i A) t=Y9 m/\tM w S (V (t - i)) m v)
 | [],_,_,i,_,t=>.inl rfl
 | m::A,[],_,i,h,t=>h.elim
 | m::A,v::vs,V,i,h,t=>by
  have c:lay (Gl i (m::A)) t=bif Nat.beq t i then Y9 m else lay (Gl (i+1) A) t:=by cases m<;>rfl
  rw[c];cases a:Nat.beq t i with
  | true=>
   have:=v4 a;subst this;exact .inr ⟨m,v,z5 _,by simp,by simp,rfl,by rw[Nat.sub_self];exact h.1⟩
  | false=>
   have d:t≠i:=λe=>by subst e;rw[Nat.beq_refl]at a;cases a
   rcases G8 (i+1) h.2 t with b|⟨f,g,b,j,k,l,n⟩
   ·exact .inl b
   refine .inr ⟨f,g,ω,?_,?_,l,?_⟩
   ·rw[show t - i=(t - (i+1))+1 by omega];simpa using j
   ·rw[show t - i=(t - (i+1))+1 by omega];simpa using k
   rw[show t - i=(t - (i+1))+1 by omega];exact n
def BE{d:World}{S':am} : ∀{A:List MA}{vs:List Value}{V:Nat->am},Rz A=true->U6 w S V A vs->Gc d S' (λ_=>NO) (A.map RF) vs
 | [],[],_,_,_=>trivial
 | [],_::_,_,_,h=>h.elim
 | _::_,[],_,_,h=>h.elim
 | .ptr _::_,_::_,_,a,_=>by cases a
 | .val ag cs::A,v::vs,V,a,h=>⟨tV1,BE (A:=A) a h.2⟩
 | .mut ag cs::A,v::vs,V,a,h=>by
  refine⟨?_,BE (A:=A) a h.2⟩;obtain⟨e,f,g⟩:=bD.celF (show bD w S (V 0) ag cs v from h.1);refine⟨by rw[O6];exact e,celF v,f,λ_=>NO,λj c i=>?_,λ_ _ _ _ h=>h.elim,λ_ _ _ _ _ _ _ h=>h.elim⟩;obtain⟨b,rfl⟩:=List.getElem?_replicate.symm.trans i |> λh=>by
   rw[<-List.getElem?_replicate]at h;have b:=(C4.1 h).1;rw[O6]at b;rw[List.getElem?_replicate,CK b]at h;exact CL b (Option.some.inj h).symm
  exact .x _ _ (g.one b)
def Uw{f : Nat}{g : Func}{c : Code}{A : List MA}{k : Kd}{rcs : List C}{mo : List (Nat × List Nat)}{n : Nat}(L : ∀t i, TE t = some i -> j7 P t i)(hf : P.funcs[f]? = some g)(hn : (g.name == "runtime.NumGoroutine") = false)(B:g.body=some c){ck:Nat->Array Oper->Bool}{D:gw->Nat->Array Oper->((Nat->AV)->Prop)->(Nat->AV)->Prop}(hD:∀N,BL P N ck (D N))(hc:iJ ck c=true)(hN:A.length+(g.ntmps - A.length)=n)(T:Rz A=true)(U:gl rcs)(hp:aw P TE ⟨n,[],mo⟩ (D ⟨n,[],mo⟩) c (a0b TE g.results.toList k rcs) (lay (Gl 0 A))):aX P f false A (A.map RF) k rcs:=by
 refine⟨⟨g,hf,hn,by rw[B];rfl⟩,λw S V p hS hV W Z=>?_⟩;have hlen:=H6 Z;refine calls_of_wp hf B ?_;have htv:∀t v,p[t]? = some v->tvs {tmps:=p.toArray++Array.replicate (g.ntmps - p.toArray.size) undef,defers:=[]} t=v:=λt v E=>by
  have hlt:=(C4.1 E).1;simp only[tvs,ID];rw[Array.getElem?_append_left (by simpa using hlt)];simp only[List.getElem?_toArray];rw[E];rfl
 have hst:St w (λb o=>∃i,V i b o) S ⟨n,[],mo⟩ (lay (Gl 0 A)) {tmps:=p.toArray++Array.replicate (g.ntmps - p.toArray.size) undef,defers:=[]} w:=by
  refine⟨S,V,λt=>?_,W,λt b o h=>(hV t b o h).2,λt b o h=>⟨(hV t b o h).1,.inr ⟨t,h⟩⟩,λ_ _ h=>h,λb o h=>⟨hS b o h,.inl h⟩,Cn _ _,by simp;omega,rfl,λq hq=>by simp at hq⟩;rcases G8 0 Z t with h1|⟨m,v,-,E,h2',h3,H⟩
  ·rw[h1];trivial
  rw[h3];rw[Nat.sub_zero]at E H;rw[htv t v E];cases m with
  | val y r=>exact(bD.mono (show bD w S NO y r v from H) (λ_ _ h=>h) (λ_ _ h=>h.elim)).slot
  | «mut» y r=>exact bD.slot (show bD w S (V t) y r v from H)
  | ptr r=>exact H
 refine kP L (hD _) c hc _ _ _ _ w hp hst λe F' J d he hs'=>?_
 obtain⟨S',φ',h⟩:=hs';have fin:resA TE F' g.results.toList [] (λsh r=>bc (iI sh) k r rcs True)->J.defers=[]/\∃v,(results g J.tmps).run P d=.ok v d/\(∃v',Ending.returned v=.returned v'/\bM (λb o=>∃i,V i b o) w d/\∃(X:am)(K:Nat->am)(S1:am),
     (∀b o,X b o->(∃i,V i b o)\/(b<d.heap.size/\w.heap.size<=b))/\(∀i b o,K i b o->(∃i,V i b o)\/(b<d.heap.size/\w.heap.size<=b))/\
     (∀b o,S1 b o->(false=true/\S b o)\/(∃i,V i b o)\/(b<d.heap.size/\w.heap.size<=b))/\
     (∀i i',i≠i'->∀b o,K i b o->¬K i' b o)/\(∀i b o,X b o->¬K i b o)/\(∀b o,X b o->¬S1 b o)/\(∀i b o,K i b o->¬S1 b o)/\
     gM d NO k rcs.length v'/\cD d S1 X rcs (cz d k v')/\Gc d (λb o=>S b o\/S1 b o) K (A.map RF) p):=by
  intro hr;obtain⟨shs,r,a,u',M,O,u,hln,Q,hcells,l,R⟩:=h.resA L hr;obtain⟨rfl,rfl,-⟩:=M.out;refine⟨h.defers,?_⟩;have G:(results g J.tmps).run P d=.ok (if h:a.toArray.size=1 then a.toArray[0] else .tuple a.toArray) d:=by
   have e:results g J.tmps=(do let p <-g.results.mapM (H2 J.tmps);pure (if h:p.size=1 then p[0] else .tuple p)):=by
    unfold results
    congr 1
   rw[e,<-Array.toArray_toList (xs:=g.results),List.mapM_toArray];simp only[Sem.run_bind,Sem.run_map,O,Result.andThen_ok,Sem.run_pure]
  have hex:∀t b o,φ' t b o->(∃i,V i b o)\/(b<d.heap.size/\w.heap.size<=b):=λt b o B=>(h.ex t b o B).2.elim (λh'=>.inr ⟨(h.ex t b o B).1,h'⟩) .inl
  refine⟨_,G,_,rfl,h.old,λb o=>∃t,t∉([]:List Nat)/\φ' t b o,λ_=>NO,NO,λb o ⟨t,_,B⟩=>hex t b o B,λ_ _ _ h=>h.elim,λ_ _ h=>h.elim,λ_ _ _ _ _ h=>h.elim,λ_ _ _ _ h=>h.elim,λ_ _ _ h=>h.elim,λ_ _ _ h=>h.elim,?_⟩;have hk:gM d NO (iI shs) r.length (if h:a.toArray.size=1 then a.toArray[0] else .tuple a.toArray)/\cD d S' (λb o=>∃t,t∉([]:List Nat)/\φ' t b o) r (cz d (iI shs) (if h:a.toArray.size=1 then a.toArray[0] else .tuple a.toArray)):=by
   match shs,u,l,Q with
   | [],u,_,Q=>
    cases a with
    | cons _ _=>exact u.elim
    | nil=>
     have:r=[]:=CF (by simpa[zR] using Q.symm);subst this;exact⟨⟨_,rfl,tV1,rfl⟩,cD.nil _ _ _ _⟩
   | [y],_,l,_=>
    obtain⟨v,rfl,hv⟩:=l y rfl;have:=hv.slot (F:=F') (tv:=tvs J);obtain⟨X1,Y,h1,E,h3,H,h5⟩:=this;refine⟨?_,h5.mono (λ_ _ h=>h) E⟩;cases y<;>exact H
   | y::ag2::sh,u,_,Q=>
    have hsz:¬a.toArray.size=1:=by
     match a,u with
     | [],u=>simp
     | [v],u=>cases y<;>cases ag2<;>exact u.2.elim
     | _::_::_,_=>simp
    rw[dif_neg hsz];refine⟨⟨_,rfl,u,Q⟩,R.congr λj hj=>?_⟩;simp only[cz,iI,oT,hcells];simp[List.getD,hj]
  exact⟨hk.1,(hk.2.fresh U).mono (λ_ _ h=>h.elim) (λ_ _ h=>h),BE T Z⟩
 cases e with
 | normal=>exact fin he
 | ret=>exact fin he
 | _=>exact he.elim
end
variable{rcs: List C}
def ux{mo : List (Nat × List Nat)}{a : Func}{c : Code}{A : List MA}{k : Kd}(e : Tryz.prog.funcs[f]? = some a)(g : (a.name == "runtime.NumGoroutine") = false)(h : a.body = some c){tb : List (Nat × Nat × List Nat)}(i : iJ (rr tb) c = true)(j:A.length+(a.ntmps - A.length)=n)(b:Rz A=true)(d:gl rcs)(l:aw Tryz.prog TE ⟨n,[],mo⟩ (DF Tryz.prog TE ⟨n,[],mo⟩ tb) c (a0b TE a.results.toList k rcs) (lay (Gl 0 A))):zzB f false A (A.map RF) k rcs:=
 Uw sR e g h (λN=>wS sR vZ N tb) i j b d l
def TD{t:List C}{u:Nat->Value}(d:cD w S Y (ac.enc .own h++t) u):cD w S Y (dv h++t) u:=by
 obtain⟨f,b,e,g⟩:=d;refine⟨f,λj c a=>?_,e,g⟩;have i:dv h++t=(((ac.enc .own h++t).set 6 (oS h)).set 7 (oL h)).set 8 (oO h):=rfl;rw[i]at a;by_cases k:j=8
 ·subst k
  have:c=oO h:=by simpa[ac.enc] using a.symm
  rw[this];exact wb (b 8 _ rfl)
 by_cases l:j=7
 ·subst l
  have:c=oL h:=by simpa[ac.enc] using a.symm
  rw[this];exact wb (b 7 _ rfl)
 by_cases n:j=6
 ·subst n
  have:c=oS h:=by simpa[ac.enc] using a.symm
  rw[this];exact wb (b 6 _ rfl)
 rw[List.getElem?_set_ne ω,List.getElem?_set_ne ω,List.getElem?_set_ne ω]at a;exact b j c a
variable{A:List RA}{sh:Bool}
def ah.E{k:Kd}{t:List C}(c:ah P f sh A k (ac.enc .own h++t)):ah P f sh A k (dv h++t):=by
 obtain⟨a,b⟩:=c;refine⟨a,λw S d g i=>(b w S d g i).mono λe w1 j=>?_⟩;obtain⟨v,l,n,X,S1,o,p,q,r,u⟩:=j;exact⟨v,l,n,X,S1,o,p,q,r,TD u⟩
def tn(h:ac)(a:ac.sml h)(b:h.w=false):zzA 121 false [.val (some 24) (ac.enc .O h)] (.tup [some 24,none,none]) (dv h++[I h.a2.a8,B false]):=by
 have c:=ec h a;refine fO 51 [(3,260,[23,24,25,26,0,1,2,3,4,1001,1002,1003,5,6])] Tryz.func121 rfl ?_ (.inr (aE (cj _) ⟨tV1,tV1,tV1⟩))
 repeat'(first|refine gP ?_|refine Bf.f b ?_)
 rfl
def stp1(h:ac):ac:=if h.w=true then mStep h else h
def P5(h:ac)(d:bo h [])(b:ac.sml h)(e:h.G.Calls<=99000):zzA 33 false [.val (some 24) (ac.enc .O h)] (.tup [some 24,none]) (dv (stp1 h)++[B h.w]):=by
 unfold stp1;cases c:h.w with
 | true=>
  rw[CK rfl];have a:=(Fi h d c b e).E;generalize mStep h=g at a |-;refine fO 15 [] Tryz.func33 rfl ?_ (.inr (aE (cj _) ⟨tV1,tV1⟩))
  refine σP ?_
  rfl
 | false=>
  rw[CJ (by simp)];have a:=tn h b c;refine fO 15 [] Tryz.func33 rfl ?_ (.inr (aE (cj _) ⟨tV1,tV1⟩))
  refine σP ?_
  rfl
def A5(q:aY)(now:Int)(l:ir q=true)(L:q.l.length<=4096)(E:0<=now/\now<=1000000)(b:∀y∈q.l,y.a9<=1000000):zzA 116 false [.val (some 2) (aY.enc .O q),.vI now,.vI 100] (.tup [some 2,none]) (LW q now):=by
 have p:aY.sml q:=⟨ω,λ_ _=>tV1⟩
 have F:=pN q p;have r:=uy q p;rw[l]at r;have t:=aQ now 0 1000000;rw[O0 E]at t;have u:=aQ 100 0 1000000;rw[O0 qs]at u;have n:=(jO.1 l).1;have a:gl (LW q now):=aE (aY.enc_fr _) (mh _);have w:∀i,i<q.l.length->0<=(nth q.l i).a9:=λi c=>(n _ (ay c)).2.2.2
 unfold LW at a |-;generalize G:sy now q.l=k at a |-;refine fO 59 [] Tryz.func116 rfl ?_ (.inr a)
 refine σP ?_
 refine Lp.fz 8 (ι:=Nat) (λi=>[(1,fI now),(2,fI 100),(3,bX (aY.enc .O q)),(6,bX [I 0,.z]),(8,bX (aY.enc .O q)),(9,fN i)]) (λi=>i<=q.l.length/\∀j,j<i->(nth q.l j).a9<now - 100) (λi=>q.l.length - i) 0 ?_ ⟨I1 _,λj H=>ω⟩ λi c=>?_
 ·(repeat'(first|exact tV1|rfl|exact CL rfl (show Tl (du (aY.enc .own q)) (aY.enc .O q) by rw[aY.enc_fz];exact lX _)|refine CL ?_ ?_))
 obtain⟨c,B⟩:=c;by_cases d:i<q.l.length/\(nth q.l i).a9<now - 100
 ·have g:=au d.1
  have:=w i d.1;have:=b _ (ay d.1)
  refine σE ?_
  (exact dL (i+1) ⟨ω,λj H=>by by_cases e:j=i;(subst e;exact d.2);exact B j ω⟩)
 have h:=Kr now (i:=i) c B (λJ K=>d ⟨J,K⟩);rw[G]at h;subst h;have C:=nC (q.l.take k) (by rw[I3];omega);have D:=nC (q.l.drop k) (by rw[O5];omega);by_cases o:k<q.l.length
 ·have g:=au o
  have:=w k o;have:=b _ (ay o)
  repeat'(first|refine gE ?_|refine gS (λl=>?_) (λl=>?_)|refine CZ k rfl (by rw[I2];omega) (aR λ_=>rfl) C8 ?_|refine Ci k rfl (by rw[I2];omega) (aR λ_=>rfl) I8 ?_)
  rfl
 repeat'(first|refine gE ?_|refine CZ k rfl (by rw[I2];omega) (aR λ_=>rfl) C8 ?_|refine Ci k rfl (by rw[I2];omega) (aR λ_=>rfl) I8 ?_)
 rfl
def TR(h:ac)(xs:List aK)(k:Nat)(a:k<xs.length):freeAs h ((xs.take (k+1)).map (·.Addr))=freeA (freeAs h ((xs.take k).map (·.Addr))) (nth xs k).Addr:=by
 unfold freeAs;rw[SA,au a];simp
def Fp(h:ac)(n:Int)(o:ac.sml h)(c:bo h [])(u:h.G.Calls≠100000)(p:0<=n/\n<=1000)(e:h.a4+n<=1000000):zzA 30 false [.val (some 24) (ac.enc .O h),.vI n] (.tup [some 24,none]) (dv (tick h n)++[I ((n7 h n).length:Nat)]):=by
 have w:=ec h o;have q:=cR h o;rw[eR,c.to]at q;have r:=aQ n 0 1000;rw[O0 p]at r;have a:=c.nums;unfold cU at a;rw[C0]at a;have B:=c.lens.quar;have t:=A5 h.r (h.a4+n) c.quar ω ω (λy C=>by have:=c.snc y C;omega);unfold LW at t;have b:=c.aged (n:=n) p.1 e;have D:((h.r.l.take (sy (h.a4+n) h.r.l))).length<=512:=by rw[I3];omega
 have g:n7 h n=(h.r.l.take (sy (h.a4+n) h.r.l)).map (·.Addr):=rfl;have E:dv (aged h n)=((dv h).set 15 (I (h.a4+n))).set 13 (.s .own ((h.r.l.drop (sy (h.a4+n) h.r.l)).map (aK.enc .own))):=rfl;unfold tick;rw[g]at b |-;rw[List.append_nil]at b;generalize h.r.l.take (sy (h.a4+n) h.r.l)=out at *;refine fP 63 [(115,[2,0])] [] Tryz.func30 rfl ?_ (.inr (aE (cj _) ⟨tV1,tV1⟩))
 refine σB ?_
 refine lp0 out.length (λk=>[(4,.Y .box xv),(6,bX (dv (freeAs (aged h n) ((out.take k).map (·.Addr))))),(8,b8 (bJ .own out)),(50,.b5 8 0 [] none),(51,fI out.length),(52,fN k)]) λk G=>?_
 by_cases i:k<out.length
 ·have d:=au i
  have j:out.map (·.Addr)=(out.take k).map (·.Addr)++(nth out k).Addr::(out.drop (k+1)).map (·.Addr):=by
   conv=>lhs;rw[<-List.take_append_drop k out,hB i]
   simp
  have l:bo (freeAs (aged h n) ((out.take k).map (·.Addr))) ((nth out k).Addr::(out.drop (k+1)).map (·.Addr)):=bo.freeAs (by rw[<-j];exact b);have F:=m6 _ _ _ l (by rw[(ku _ _).2.2.1];exact u)
  refine σE ?_
  (refine CQ (k+1) ω ω ?_)
  rw[TR _ out k i];exact wC
 obtain rfl:k=out.length:=ω
 rw[S9]
 refine σE ?_
 rw[I2]
 rfl
def JO(h:ac)(t:Int)(a:ac.sml h)(c:bo h [])(d:¬(h.G.Calls≠100000/\0<=t/\t<=h.Q.length - 1)):zzA 29 false [.val (some 24) (ac.enc .O h),.vI t] (.tup [some 24,none]) (dv h++[I 0]):=by
 have e:=ec h a;have b:=rk h t a;rw[c.to,show(decide (0<=t/\t<=h.Q.length - 1)&&decide (h.G.Calls≠100000)&&true)=false by
   rw[Bool.and_true,<-OA,I0,C0,C0];exact λx=>d ⟨x.2,x.1⟩]at b
 refine fP 52 [(115,[2,0])] [] Tryz.func29 rfl ?_ (.inr (aE (cj _) ⟨tV1,tV1⟩))
 refine σP ?_
 rfl
def K9(h:ac)(n:Int)(g:ac.sml h)(i:bo h [])(j:¬(h.G.Calls≠100000/\(0<=n/\n<=1000)/\h.a4+n<=1000000)):zzA 30 false [.val (some 24) (ac.enc .O h),.vI n] (.tup [some 24,none]) (dv h++[I 0]):=by
 have d:=ec h g;have b:=cR h g;rw[eR,i.to]at b;have c:=aQ n 0 1000;have a:=i.nums;unfold cU at a;rw[C0]at a;by_cases k:h.G.Calls=100000
 ·refine fP 63 [(115,[2,0])] [] Tryz.func30 rfl ?_ (.inr (aE (cj _) ⟨tV1,tV1⟩))
  refine σB ?_
  rfl
 by_cases e:0<=n/\n<=1000
 ·rw[O0 e]at c
  have l:¬h.a4+n<=1000000:=λx=>j ⟨k,e,x⟩
  refine fP 63 [(115,[2,0])] [] Tryz.func30 rfl ?_ (.inr (aE (cj _) ⟨tV1,tV1⟩))
  refine σB ?_
  rfl
 rw[C1 e]at c;refine fP 63 [(115,[2,0])] [] Tryz.func30 rfl ?_ (.inr (aE (cj _) ⟨tV1,tV1⟩))
 refine σB ?_
 rfl
def MQ(h:ac)(a:ac.sml h)(b:h.w=true)(d:99000<h.G.Calls):zzA 121 false [.val (some 24) (ac.enc .O h)] (.tup [some 24,none,none]) (dv h++[I h.a2.a8,B false]):=by
 have c:=ec h a;refine fO 51 [(3,260,[23,24,25,26,0,1,2,3,4,1001,1002,1003,5,6])] Tryz.func121 rfl ?_ (.inr (aE (cj _) ⟨tV1,tV1,tV1⟩))
 repeat'(first|refine gE ?_|refine Bf.t b ?_)
 rfl
def JY(h:ac)(i:bo h [])(a:ac.sml h):zzA 33 false [.val (some 24) (ac.enc .O h)] (.tup [some 24,none]) (dv (if pd h=true then mStep h else h)++[B (pd h)]):=by
 by_cases b:h.G.Calls<=99000
 ·have c:=P5 h i a b
  unfold stp1 at c;have e:pd h=h.w:=by unfold pd;rw[O0 b,Bool.and_true]
  rw[e];exact c
 have e:pd h=false:=by unfold pd;rw[C1 b,Bool.and_false]
 rw[e,CJ (by simp)];cases g:h.w with
 | true=>
  have d:=MQ h a g ω;refine fO 15 [] Tryz.func33 rfl ?_ (.inr (aE (cj _) ⟨tV1,tV1⟩))
  refine σP ?_
  rfl
 | false=>
  have d:=tn h a g;refine fO 15 [] Tryz.func33 rfl ?_ (.inr (aE (cj _) ⟨tV1,tV1⟩))
  refine σP ?_
  rfl
def Ri(h:ac):∀k,(mQ h k).2<=k
 | 0=>z5 _
 | k+1=>by
  have:=Ri h k;unfold mQ;split
  ·show(mQ h k).2+1<=_;omega
  omega
inductive qk:C->C->Prop
 |rfl_ (c:C):qk c c
 |z_:qk .z (.s .suf [])
 |i_:qk (.s .O []) (.s .suf [])
 |s_ (o:eS) (rows rows':List (List C)) (ho:o=.own\/o=.suf) (hl:rows.length=rows'.length) (hk:∀(i:Nat)(r r':List C),rows[i]? = some r->rows'[i]? = some r'->r.length=r'.length)
   (hr:∀(i j:Nat)(r r':List C)(c c':C),rows[i]? = some r->rows'[i]? = some r'->r[j]? = some c->r'[j]? = some c'->qk c c'):qk (.s o rows) (.s .suf rows')
def AZ(cs a:List C):Prop:=cs.length=a.length/\∀(j:Nat)(c b:C),cs[j]? = some c->a[j]? = some b->qk c b
def AZ.nil:AZ [] []:=⟨rfl,λj c a h=>by simp at h⟩
variable{cs a:List C}
def AZ.cons{e:C}(h:qk c e)(f:AZ cs a):AZ (c::cs) (e::a):=by
 refine⟨by simp[f.1],λj y g b d=>?_⟩;cases j with
 | zero=>simp at b d;subst b d;exact h
 | succ j=>exact f.2 j y g (by simpa using b) (by simpa using d)
def AZ.append{e b f:List C}(h:AZ a e)(g:AZ b f):AZ (a++b) (e++f):=by
 refine⟨by simp[h.1,g.1],λj y i c d=>?_⟩;by_cases k:j<a.length
 ·rw[t9 k]at c
  rw[t9 (by rw[<-h.1];exact k)]at d;exact h.2 j y i c d
 rw[v9 ω]at c;rw[v9 (by rw[<-h.1];omega),<-h.1]at d;exact g.2 _ y i c d
def AZ.refl(cs:List C):AZ cs cs:=⟨rfl,λj c d b a=>by rw[b]at a;cases a;exact .rfl_ _⟩
def qk.map{f g:α->List C}(xs:List α)(h:∀x∈xs,AZ (f x) (g x)):qk (.s .own (xs.map f)) (.s .suf (xs.map g)):=by
 refine .s_ .own _ _ (.inl rfl) (by simp) (λi r e a b=>?_) (λi j r e c k a b l n=>?_)
 all_goals
  rw[C5]at a b;cases d:xs[i]? with
  | none=>rw[d]at a;cases a
  | some x=>
   rw[d]at a b;simp only[CA,C2]at a b;subst a b
   first|exact(h x (t4 d)).1|exact(h x (t4 d)).2 j c k l n
def qk.setR{rows':List (List C)}{r':List C}(h:qk (.s .own rows) (.s .suf rows'))(p:AZ r r')(g:rows'[k]? = some r'):qk (.s .own (rows.set k r)) (.s .suf rows'):=by
 cases h with
 | s_ o _ _ y w l n=>
  refine .s_ .own _ _ (.inl rfl) (by simpa using w) (λi a b d f=>?_) (λi j a b c q d f t u=>?_)
  ·by_cases e:k=i
   ·subst e
    rw[g]at f;cases f;rw[I6 (by have:=(C4.1 g).1;omega)]at d;cases d;exact p.1
   rw[List.getElem?_set_ne e]at d;exact l i a b d f
  by_cases e:k=i
  ·subst e
   rw[g]at f;cases f;rw[I6 (by have:=(C4.1 g).1;omega)]at d;cases d;exact p.2 j c q t u
  rw[List.getElem?_set_ne e]at d;exact n i j a b c q d f t u
theorem Yc{v:Value}(h:dw w S Y c v):∀B,qk c B->dw w S Y B v:=by
 induction h with
 | z F a=>intro B t;cases t with|rfl_=>exact .z _ _|z_=>exact .nil _ _ _ tV1
 | nil F o a H=>
  intro B t;cases t with
  | rfl_=>exact .nil _ _ _ H
  | i_=>exact .nil _ _ _ tV1
  | s_ _ _ d _ M=>obtain rfl:d=[]:=CF (by simpa using M.symm);exact .nil _ _ _ tV1
 | O F g D k n y p u J R l hS N ih=>
  intro B t;cases t with
  | rfl_=>exact .O _ g D k n y p u J R l hS N
  | i_=>
   have hn0:n=0:=by simpa using J.symm
   subst hn0;exact .suf _ .suf g D k 0 y [] u (λ_=>NO) tV1 rfl (λr T=>by cases T) (I1 _) (λq K=>ω) (λq K=>ω) (λq K=>ω) (λq q' K=>ω) (λi j r c hi hj=>by simp at hi)
  | s_ _ _ _ H=>rcases H with e|e<;>cases e
 | suf F o g D k n y p u f H J R l G U V t N ih=>
  intro B O;cases O with
  | rfl_=>exact .suf _ o g D k n y p u f H J R l G U V t N
  | i_=>exact H.elim
  | s_ _ _ d _ M W T=>
   have L:∀(i:Nat)(P:List C),d[i]? = some P->∃r,p[i]? = some r:=ψ
   refine .suf _ .suf g D k n y d u f tV1 (M.symm.trans J) (λP X=>?_) l G U V t ψ
   all_goals grind [List.mem_iff_getElem?]
 | own F o g k n y p u f H J R l Z G U V t N ih=>
  intro B O;cases O with
  | rfl_=>exact .own _ o g k n y p u f H J R l Z G U V t N
  | i_=>exact H.elim
  | s_ _ _ d _ M W T=>
   have hnk:n*k<=y*k:=SE k l;have L:∀(i:Nat)(P:List C),d[i]? = some P->∃r,p[i]? = some r:=ψ
   refine .suf _ .suf g 0 k n y d u f tV1 (M.symm.trans J) (λP X=>?_) l (λq K=>?_) (λq K=>?_) (λq K b o hb=>?_) t ψ
   ·obtain⟨i,hi⟩:=List.mem_iff_getElem?.1 X
    obtain⟨r,hr0⟩:=L i P hi;rw[<-W i r P hr0 hi];exact R r (t4 hr0)
   ·rw[CE];have:=G q ω;exact⟨this.1,this.2.2⟩
   ·rw[CE]
    obtain⟨-,⟨z,h2,h3⟩,-⟩:=G q ω;have h4:=U q K;rw[h4]at h2;simp only[C2]at h2;exact⟨h4,by rw[h2];exact h3⟩
   obtain⟨h1,h2⟩:=V q K b o hb;exact⟨h1,λh=>h2 ⟨h.1,ω⟩⟩
 | v F x h1=>intro B t;cases t;exact .v _ _ h1
 | x F u h1=>intro B t;cases t;exact .x _ u h1
 | m F b A es E G hb he hv Q=>intro B t;cases t;exact .m _ b A es E G hb he hv Q
 | it F r b since c0 A seen E cur left G T hb Q N hv M hcur=>intro B t;cases t;exact .it _ r b since c0 A seen E cur left G T hb Q N hv M hcur
def XE{b:List C}{u:Nat->Value}(h:cD w S Y cs u)(c:AZ cs b):cD w S Y b u:=by
 obtain⟨f,i,k,l⟩:=h;refine⟨f,λj g a=>?_,λj a=>k j (by rw[c.1];exact a),λj n a e=>l j n (by rw[c.1];exact a) (by rw[c.1];exact e)⟩;have d:j<cs.length:=by rw[c.1];exact(C4.1 a).1
 exact Yc (i j _ (z4 d)) g (c.2 j _ g (z4 d) a)
def ah.sf{k:Kd}{rcs':List C}(h:ah P f sh A k rcs)(a:AZ rcs rcs'):ah P f sh A k rcs':=
 ⟨h.has,λw S b c d=>(h.run w S b c d).mono λ_ _ ⟨v,e,g,X,S1,i,j,l,n,o⟩=>⟨v,e,g,X,S1,i,j,l,by rw[<-a.1];exact n,XE o a⟩⟩
def ctO(c:aB)(k:Nat):List C:=if 0<(nth c.X k).length then [.s .own ((c.X.map (aI .own)).set k [oP (((nth c.X k).take ((nth c.X k).length - 1)).map (rI .own))]),I (nth (nth c.X k) ((nth c.X k).length - 1)),B true] else aB.enc .own c++[I (-1),B false]
def Zs(h:Jm rows):Hu (oP rows):=by
 cases rows with
 | nil=>exact⟨.inr rfl,tV1⟩
 | cons r a=>exact⟨.inl (λe=>by cases e),h⟩
def x3(h:Jm rows)(b:gl r):Jm (rows.set k r):=by
 induction rows generalizing k with
 | nil=>exact h
 | cons a d c=>
  simp only[Jm]at h;cases k with
  | zero=>simp only[List.set_cons_zero,Jm];exact⟨b,h.2⟩
  | succ k=>simp only[List.set_cons_succ,Jm];exact⟨h.1,c h.2⟩
def YY(c:aB)(k:Nat):gl (ctO c k):=by
 unfold ctO;split
 ·refine⟨⟨.inl (λe=>by cases e),x3 (bg _ _ λx _=>bO x) ⟨Zs (bg _ _ λx _=>vD x),tV1⟩⟩,tV1,tV1,tV1⟩
 exact aE (Cs _) ⟨tV1,tV1,tV1⟩
def Gy(c:aB)(k:Nat)(p:bL c=true)(B:k<=3):zzA 244 false [.val (some 1) (aB.enc .O c),.vI (k:Nat)] (.tup [some 1,none,none]) (ctO c k):=by
 obtain⟨D,q⟩:=f9 p;have t:aB.sml c:=⟨ω,λl w=>by have:=q l w;show l.length<=1048576;omega⟩
 have j:=wH c k t;rw[p,O0 ω]at j;have n:=kF c t;have a:=nP (c:=c) (k:=k) ω;have y:=q _ (ay (xs:=c.X) (i:=k) ω);have b:=YY c k;unfold ctO at b |-;by_cases u:0<(nth c.X k).length
 ·rw[CK u]at b |-
  have o:=au (xs:=nth c.X k) (i:=(nth c.X k).length - 1) ω;have d:(nth c.X k)[(((nth c.X k).length:Int) - 1).toNat]? = some (nth (nth c.X k) ((nth c.X k).length - 1)):=by rw[show(((nth c.X k).length:Int) - 1).toNat=(nth c.X k).length - 1 by omega];exact o
  have e:((((nth c.X k).length:Nat):Int) - 1)=(((nth c.X k).length - 1:Nat):Int):=ω
  have g:∀x:List C,((c.X.map (aI .own)).set k x).set k [oP (((nth c.X k).take ((nth c.X k).length - 1)).map (rI .own))]=(c.X.map (aI .own)).set k [oP (((nth c.X k).take ((nth c.X k).length - 1)).map (rI .own))]:=λx=>List.set_set ..
  have h:((nth c.X k).map (rI .own)).take ((nth c.X k).length - 1)=((nth c.X k).take ((nth c.X k).length - 1)).map (rI .own):=C8.symm;generalize ((nth c.X k).take ((nth c.X k).length - 1)).map (rI .own)=R at *;cases R with
  | nil=>
   refine fP 54 [(7000050,[])] [(6,266,[41,42,43,44,45,46,47,48,49,51,0,1,2,3,4,5,6,7,8,9,1000,1001,1002,10,11])] Tryz.func244 rfl ?_ (.inr b)
   repeat'(first|refine gB ?_|refine CM rfl (bZ a) rfl ?_|refine CI (bZ a) ?_|refine CS ω (aa d) ?_|refine Cj rfl rfl (aa a) rfl (O2 rfl) rfl rfl ?_|refine CZ ((nth c.X k).length - 1) e (by rw[I2];omega) (aR λ_=>rfl) h.symm ?_|refine CR rfl rfl (bZ a) rfl (O2 rfl) (O1 (λz=>[C.s eS.own z]) (g _).symm) ?_)
   rfl
  | cons r E=>
   refine fP 54 [(7000050,[])] [(6,266,[41,42,43,44,45,46,47,48,49,51,0,1,2,3,4,5,6,7,8,9,1000,1001,1002,10,11])] Tryz.func244 rfl ?_ (.inr b)
   repeat'(first|refine gB ?_|refine CM rfl (bZ a) rfl ?_|refine CI (bZ a) ?_|refine CS ω (aa d) ?_|refine Cj rfl rfl (aa a) rfl (O2 rfl) rfl rfl ?_|refine CZ ((nth c.X k).length - 1) e (by rw[I2];omega) (aR λ_=>rfl) h.symm ?_|refine CR rfl rfl (bZ a) rfl (O2 rfl) (O1 (λz=>[C.s eS.own z]) (g _).symm) ?_)
   rfl
 rw[CJ u]at b |-;refine fP 54 [(7000050,[])] [(6,266,[41,42,43,44,45,46,47,48,49,51,0,1,2,3,4,5,6,7,8,9,1000,1001,1002,10,11])] Tryz.func244 rfl ?_ (.inr b)
 refine σB ?_
 rfl
structure FT(m:aJ)(g:ac):Prop where
 sml:ac.sml g
 wf:ac.wf g
 lens:nB g
 mail:g.b=m
def FT.cnt{m:aJ}{g:ac}(f:FT m g)(b:aJ.cnt m<=8388608):ac.cnt g<=20000000:=by
 have a:=f.lens.cnt;rw[f.mail]at a;have c:g.a2.d.U.length<=1048576:=f.sml.2.2.2.2.2.2.2.2;unfold bz.cnt bn.cnt eB at a;omega
def R5(h:gl cs)(b:Hu c):gl (cs.set k c):=by
 induction cs generalizing k with
 | nil=>exact h
 | cons a e d=>
  simp only[gl]at h;cases k with
  | zero=>simp only[List.set_cons_zero,gl];exact⟨b,h.2⟩
  | succ k=>simp only[List.set_cons_succ,gl];exact⟨h.1,d h.2⟩
def N4(h:ac)(a:C):Prop:=a=.s .own (h.Q.map (aB.enc .own))\/∃t c,t<h.Q.length/\(nth h.Q t).X[c]? = some []/\a=.s .own ((h.Q.map (aB.enc .own)).set t [.s .own (((nth h.Q t).X.map (aI .own)).set c [.s .O []])])
def N4.own(h:ac):N4 h (.s .own (h.Q.map (aB.enc .own))):=.inl rfl
def N4.fr{a:C}(b:N4 h a):Hu a:=by
 rcases b with e|⟨t,c,d,b,e⟩
 ·subst e;exact⟨.inl (λe=>by cases e),bg _ _ λx _=>Cs x⟩
 subst e;refine⟨.inl (λe=>by cases e),x3 (bg _ _ λx _=>Cs x) ⟨⟨.inl (λe=>by cases e),x3 (bg _ _ λx _=>bO x) ⟨⟨.inr rfl,tV1⟩,tV1⟩⟩,tV1⟩⟩
def Rj{a:C}(b:Hu a):gl (U8 h a):=R5 (pv h) b
def ccQ(h:ac)(t c:Nat):C:=.s .own ((h.Q.map (aB.enc .own)).set t [.s .own (((nth h.Q t).X.map (aI .own)).set c [oP (((nth (nth h.Q t).X c).take ((nth (nth h.Q t).X c).length - 1)).map (rI .own))])])
def Zk(h:ac){t c:Nat}(d:t<h.Q.length)(e:c<(nth h.Q t).X.length):N4 {h with Q:=h.Q.set t (xL (nth h.Q t) c)} (ccQ h t c):=by
 have f:xL (nth h.Q t) c = ⟨(nth h.Q t).X.set c ((nth (nth h.Q t).X c).take ((nth (nth h.Q t).X c).length - 1))⟩:=rfl;rw[f];unfold ccQ;generalize (nth (nth h.Q t).X c).take ((nth (nth h.Q t).X c).length - 1)=R;cases R with
 | cons a R=>
  refine .inl ?_;show _=C.s .own ((h.Q.set t _).map _);rw[IC];show _=C.s .own ((h.Q.map (aB.enc .own)).set t [.s .own (((nth h.Q t).X.set c (a::R)).map (aI .own))]);rw[IC]
  rfl
 | nil=>
  have b:nth (h.Q.set t (⟨(nth h.Q t).X.set c []⟩ : aB)) t = ⟨(nth h.Q t).X.set c []⟩:=bI (I6 ω);refine .inr ⟨t,c,by simpa using d,?_,?_⟩
  ·show(nth (h.Q.set t (⟨(nth h.Q t).X.set c []⟩ : aB)) t).X[c]? = _
   rw[b];exact I6 e
  show _=C.s .own (((h.Q.set t (⟨(nth h.Q t).X.set c []⟩ : aB)).map (aB.enc .own)).set t [.s .own (((nth (h.Q.set t (⟨(nth h.Q t).X.set c []⟩ : aB)) t).X.map (aI .own)).set c [.s .O []])]);rw[b,IC,List.set_set];show _=C.s .own ((h.Q.map (aB.enc .own)).set t [.s .own ((((nth h.Q t).X.set c []).map (aI .own)).set c [.s .O []])]);rw[IC,List.set_set]
  rfl
def FR(h:ac)(t c:Nat)(o:bo h [])(E:t<h.Q.length)(S:c<=3)(r:h.G.Calls<=90000):∃V,N4 (fT h t c).1 V/\zzB 101 false [.ptr (jA h),.vI (t:Nat),.vI (c:Nat)] [.ptr (U8 (fT h t c).1 V),.vI (t:Nat),.vI (c:Nat)] (.tup [none,none]) [I (fT h t c).2,B (decide (0<=(fT h t c).2))]:=by
 have w:=o.cach _ (ay E);have Z:=tj w;have d:=au E;have F:=Gy (nth h.Q t) c w S;have hls:=o.lens.spans;have C:=o;unfold ctO at F;by_cases M:0<(nth (nth h.Q t).X c).length
 ·obtain⟨N,G⟩:=o.pop E ω M (Rb w c)
  have k:=kX.nn o G;unfold fT;rw[CK M]at F |-;refine⟨ccQ h t c,Zk h E ω,?_⟩;simp only;rw[O0 k];refine fM 86 [(246,[2,0]),(247,[2,0]),(248,[2,0]),(4000062,[]),(5000077,[])] [(3,6,[31,32,33,34,35,36]),(8,10,[49,50,51,52,53,54,55,56,57,58])] [(0,0),(0,0),(0,0)] Tryz.func101 rfl (λu q=>?_) (.inr ⟨tV1,tV1,tV1⟩)
  repeat'(first|refine gP ?_|refine CI (bZ d) ?_|refine CM rfl (bZ d) rfl ?_|refine CN (F) ⟨⟨rfl,Cp _⟩,⟨rfl,rfl⟩,tV1⟩ ?_|refine CR rfl rfl (aa d) rfl (O2 rfl) rfl ?_)
  exact kk
 rw[CJ M]at F;refine⟨_,N4.own _,?_⟩;change aX _ _ _ _ [.ptr (jA (fT h t c).1),_,_] _ _;have e:fT h t c=match rx h c with
  | some i=>(slotT h i,uk h i)
  | none=>if(aG h.a 1).2.2=false then(h,-1)
   else if(eD h.G (aG h.a 1).2.1).2=false then({h with G:=(eD h.G (aG h.a 1).2.1).1},-1)
   else nt (sW h c) (rS h):=by unfold fT;exact CJ M
 refine fM 86 [(246,[2,0]),(247,[2,0]),(248,[2,0]),(4000062,[]),(5000077,[])] [(3,6,[31,32,33,34,35,36]),(8,10,[49,50,51,52,53,54,55,56,57,58])] [(0,0),(0,0),(0,0)] Tryz.func101 rfl (λu q=>?_) (.inr ⟨tV1,tV1,tV1⟩)
 repeat'(first|refine gP ?_|refine CI (bZ d) ?_|refine CM rfl (bZ d) rfl ?_|refine CN (F) ⟨⟨rfl,Cp _⟩,⟨rfl,rfl⟩,tV1⟩ ?_)
 refine g0 h.J.length (λi=>[(0,bX (jA h)),(2,fN c),(42,.b5 0 6 [] none),(43,fI h.J.length),(44,fN i)]) (λi=>∀j,j<i->sY h c j=false) (λj hj=>ω) λi o=>?_
 obtain⟨hi1,H⟩:=o;by_cases J:i<h.J.length
 ·have n:=au J
  by_cases W:(nth h.J i).Z=c
  ·have K:=Hc h (nth h.J i).S
   cases O:iw h (nth h.J i).S with
   | true=>
    rw[O]at K
    repeat'(first|refine gB ?_|refine CN (K) ⟨⟨rfl,lT h⟩,⟨rfl,rfl⟩,tV1⟩ ?_)
    (exact dL (i+1) ⟨ω,nL (by unfold sY;rw[O];simp) H⟩)
   | false=>
    rw[O]at K;by_cases L:(jc h i).length=0
    ·have y:=Gw h [] i C J L
     repeat'(first|refine gB ?_|refine CN (K) ⟨⟨rfl,lT h⟩,⟨rfl,rfl⟩,tV1⟩ ?_|refine Ch.pl ?_|refine CN (y) ⟨lT h,⟨rfl,rfl⟩,tV1⟩ ?_)
     (exact dL (i+1) ⟨ω,nL (by unfold sY;rw[C1 (by omega:¬0<(jc h i).length)];simp) H⟩)
    have y:=sJ h [] i C J;unfold nt at y;rw[CJ L,O0 (by omega:0<(jc h i).length)]at y;have T:rx h c=some i:=zE J (by unfold sY;rw[O0 W,O,O0 ω];rfl) H;rw[T]at e;simp only at e;obtain⟨N,G⟩:=C.slotT J (by omega:0<(jc h i).length);have k:=kX.nn N G;rw[e];generalize slotT h i=g at y |-;generalize uk h i=a at y k |-;rw[O0 k]
    repeat'(first|refine gB ?_|refine CN (K) ⟨⟨rfl,lT h⟩,⟨rfl,rfl⟩,tV1⟩ ?_|refine Ch.lt ?_)
    exact kk
  refine σB ?_
  (exact dL (i+1) ⟨ω,nL (by unfold sY;rw[C1 W];rfl) H⟩)
 obtain rfl:i=h.J.length:=ω
 have T:rx h c=none:=Ao H;rw[T]at e;simp only at e;have l:=tY h 1 C r ⟨ω,ω⟩;rw[Uo]at l;rw[e];by_cases P:(aG h.a 1).2.2=false
 ·rw[CK P]at l |-
  refine σE ?_
  exact kk
 rw[CJ P]at l |-;by_cases Q:(eD h.G (aG h.a 1).2.1).2=false
 ·rw[CK Q]at l |-
  refine σE ?_
  exact kk
 rw[CJ Q]at l |-;obtain⟨X,Y⟩:=N0 C S r P Q;have D:=AD {h with G:=(eD h.G (aG h.a 1).2.1).1,a:=(aG h.a 1).1} (aG h.a 1).2.1 (c:Nat) (by show h.J.length<=4096;omega);have R:=sJ (sW h c) [] (rS h) X Y;have U:=uX C E S r;rw[e,CJ P,CJ Q]at U;have k:decide (0<(jc (sW h c) (rS h)).length)=decide (0<=(nt (sW h c) (rS h)).2):=by
  unfold nt;by_cases L:(jc (sW h c) (rS h)).length=0
  ·rw[CK L,C1 ω];rfl
  rw[CJ L,O0 ω];obtain⟨N,G⟩:=X.slotT Y ω;exact(O0 (kX.nn N G)).symm
 rw[k]at R;change aX _ _ _ _ [.ptr (jA (sW h c)),_] _ [I ((rS h:Nat):Int)]at D;generalize (aG h.a 1).2.1=p at l D;generalize sW h c=g at D R |-;generalize rS h=b at D R |-;generalize ({h with G:=(eD h.G p).1,a:=(aG h.a 1).1} : ac)=h1 at l D
 refine σE ?_
 exact kk
def Mz(h:ac)(t size:Int)(Z:ac.sml h)(l:bo h [])(O:mw h=true):∃D,N4 (fm h t size).1 D/\zzA 21 false [.val (some 24) (ac.enc .O h),.vI t,.vI size] (.tup [some 24,none,none]) (U8 (fm h t size).1 D++[I (fm h t size).2.1,I (fm h t size).2.2]):=by
 have hl:=l.lens;have hlc:=hl.caches;have P:=hl.objs;have u:=l.nums;unfold cU at u;rw[C0]at u;have Q:=qI l.objSz h.K.length (z5 _);change 0<=rK h/\rK h<=_ at Q;have q:=Pk h Z;have p:=cR h Z;rw[O]at p;have r:=aQ t 0 ((h.Q.length:Int) - 1);have y:=aQ size 1 1000;have E:=Bl h l.objSz ω;have F:=n9 size;unfold fm;by_cases h1:1000000<=h.j
 ·rw[CK (.inl h1)]
  refine⟨_,N4.own _,?_⟩;change ah _ _ _ _ _ (jA _++_);refine fP 108 [(101,[2,0,0]),(102,[2,0]),(103,[1,0,1])] [(8,6,[47,48,49,50,51,52])] Tryz.func21 rfl ?_ (.inr (aE (pv _) ⟨tV1,tV1,tV1⟩))
  refine σB ?_
  rfl
 by_cases h2:90000<h.G.Calls
 ·rw[CK (.inr h2)]
  refine⟨_,N4.own _,?_⟩;change ah _ _ _ _ _ (jA _++_);refine fP 108 [(101,[2,0,0]),(102,[2,0]),(103,[1,0,1])] [(8,6,[47,48,49,50,51,52])] Tryz.func21 rfl ?_ (.inr (aE (pv _) ⟨tV1,tV1,tV1⟩))
  repeat'(first|refine gB ?_|refine gS (λb=>?_) (λb=>?_)|fail)
  rfl
 rw[CJ ω];by_cases C:¬(0<=t/\t<=h.Q.length - 1)
 ·rw[CK C]
  rw[C1 C]at r;refine⟨_,N4.own _,?_⟩;change ah _ _ _ _ _ (jA _++_);refine fP 108 [(101,[2,0,0]),(102,[2,0]),(103,[1,0,1])] [(8,6,[47,48,49,50,51,52])] Tryz.func21 rfl ?_ (.inr (aE (pv _) ⟨tV1,tV1,tV1⟩))
  repeat'(first|refine gB ?_|refine gS (λb=>?_) (λb=>?_)|fail)
  rfl
 rw[CJ C];replace C:=Decidable.not_not.1 C;rw[O0 C]at r;by_cases B:¬(1<=size/\size<=1000)
 ·rw[CK B]
  rw[C1 B]at y;refine⟨_,N4.own _,?_⟩;change ah _ _ _ _ _ (jA _++_);refine fP 108 [(101,[2,0,0]),(102,[2,0]),(103,[1,0,1])] [(8,6,[47,48,49,50,51,52])] Tryz.func21 rfl ?_ (.inr (aE (pv _) ⟨tV1,tV1,tV1⟩))
  repeat'(first|refine gB ?_|refine gS (λb=>?_) (λb=>?_)|fail)
  rfl
 rw[CJ B];replace B:=Decidable.not_not.1 B;rw[O0 B]at y;by_cases h5:h.b7<rK h+size
 ·rw[CK h5]
  refine⟨_,N4.own _,?_⟩;change ah _ _ _ _ _ (jA _++_);refine fP 108 [(101,[2,0,0]),(102,[2,0]),(103,[1,0,1])] [(8,6,[47,48,49,50,51,52])] Tryz.func21 rfl ?_ (.inr (aE (pv _) ⟨tV1,tV1,tV1⟩))
  repeat'(first|refine gB ?_|refine gS (λb=>?_) (λb=>?_)|fail)
  rfl
 rw[CJ h5];by_cases G:0<=aZ size
 ·rw[CK G]
  have hc3:aZ size<=3:=by unfold aZ;repeat' split<;>omega
  obtain⟨T,rfl⟩:=t5 C.1;obtain⟨K,hK⟩:=t5 G;obtain⟨D,n,d⟩:=FR h T K l ω ω ω;have s:=uX (t:=T) (c:=K) l ω ω ω;rw[hK]at F |-;simp only[O4];generalize fT h T K=w at d s n |-;obtain⟨g,a⟩:=w;have e:g.j=h.j:=s.nx;simp only at d |-;by_cases H:a<0
  ·rw[CK H]
   rw[C1 ω]at d;refine⟨D,n,?_⟩;refine fP 108 [(101,[2,0,0]),(102,[2,0]),(103,[1,0,1])] [(8,6,[47,48,49,50,51,52])] Tryz.func21 rfl ?_ (.inr (aE (Rj n.fr) ⟨tV1,tV1,tV1⟩))
   repeat'(first|refine gB ?_|refine gS (λb=>?_) (λb=>?_)|fail)
   rfl
  rw[CJ H];rw[O0 ω]at d;obtain⟨k1,k2⟩:=s.yes (show(0:Int)<=a by omega);have R:g.K.length<=512:=k1.lens.objs;have S:1<=g.j/\g.j<=1000000:=ω
  refine⟨D,n,?_⟩;refine fP 108 [(101,[2,0,0]),(102,[2,0]),(103,[1,0,1])] [(8,6,[47,48,49,50,51,52])] Tryz.func21 rfl ?_ (.inr (aE (Rj n.fr) ⟨tV1,tV1,tV1⟩))
  repeat'(first|refine gB ?_|refine gS (λb=>?_) (λb=>?_)|fail)
  refine g0 g.K.length (λi=>[(1,fN T),(2,fI size),(3,bX (ac.enc .O h)),(6,bX (xv)),(9,bX (U8 g D)),(10,fI a),(13,fN i)]) (λi=>∀(j:Nat)(z:aW),j<i->g.K[j]? = some z->QU a z=false) (λj z hj=>ω) λi l=>?_
  obtain⟨U,J⟩:=l;by_cases V:i<g.K.length/\(nth g.K i).Addr<a
  ·have k:=au V.1
   refine σE ?_
   (exact dL (i+1) ⟨ω,gd k (C1 ω) J⟩)
  have o:mq (QU a) g.K=i:=pF ω J λz L=>by
   have W:=(C4.1 L).1;have:z=nth g.K i:=(bI L).symm;subst this;exact O0 ω
  have k:i<g.K.length->g.K[i]? = some (nth g.K i):=λX=>au X
  have Y:=Bk g.K i ⟨h.j,a,size,(T:Nat)⟩ ω ω;rw[show addO g a size (T:Nat) = {g with K:=g.K.take i++⟨g.j,a,size,(T:Nat)⟩::g.K.drop i,j:=g.j+1} by unfold addO;rw[p9 o],e]
  repeat'(first|refine gE ?_|with_reducible refine CI (aa (k ω)) ?_|refine gS (λb=>?_) (λb=>?_)|refine CM rfl (aa (k ω)) rfl ?_)
  all_goals
   rw[e];rfl
 rw[CJ G];have M:9<=size:=by unfold aZ at G;repeat' split at G<;>omega
 have d:=EN h size l ⟨M,B.2⟩ ω;rw[GD t l ⟨M,B.2⟩];have hg:(FK h size).1.j=h.j/\(FK h size).1.K=h.K:=by
  unfold FK;split
  ·exact⟨rfl,rfl⟩
  split<;>exact⟨rfl,rfl⟩
 generalize FK h size=w at d hg |-;obtain⟨g,a⟩:=w;obtain⟨e,N⟩:=hg;simp only at d e N |-;have R:g.K.length<=512:=by rw[N];exact P
 have S:1<=g.j/\g.j<=1000000:=ω
 by_cases H:a<0
 ·rw[CK H]
  rw[C1 ω]at d;refine⟨_,N4.own _,?_⟩;change ah _ _ _ _ _ (jA _++_);refine fP 108 [(101,[2,0,0]),(102,[2,0]),(103,[1,0,1])] [(8,6,[47,48,49,50,51,52])] Tryz.func21 rfl ?_ (.inr (aE (pv _) ⟨tV1,tV1,tV1⟩))
  repeat'(first|refine gB ?_|refine gS (λb=>?_) (λb=>?_)|fail)
  rfl
 rw[CJ H];rw[O0 ω]at d;refine⟨_,N4.own _,?_⟩;change ah _ _ _ _ _ (jA _++_);refine fP 108 [(101,[2,0,0]),(102,[2,0]),(103,[1,0,1])] [(8,6,[47,48,49,50,51,52])] Tryz.func21 rfl ?_ (.inr (aE (pv _) ⟨tV1,tV1,tV1⟩))
 repeat'(first|refine gB ?_|refine gS (λb=>?_) (λb=>?_)|fail)
 refine g0 g.K.length (λi=>[(1,fI t),(2,fI size),(3,bX (ac.enc .O h)),(6,bX (xv)),(9,bX (jA g)),(10,fI a),(13,fN i)]) (λi=>∀(j:Nat)(z:aW),j<i->g.K[j]? = some z->QU a z=false) (λj z hj=>ω) λi l=>?_
 obtain⟨U,J⟩:=l;by_cases V:i<g.K.length/\(nth g.K i).Addr<a
 ·have k:=au V.1
  refine σE ?_
  (exact dL (i+1) ⟨ω,gd k (C1 ω) J⟩)
 have o:mq (QU a) g.K=i:=pF ω J λz L=>by
  have W:=(C4.1 L).1;have:z=nth g.K i:=(bI L).symm;subst this;exact O0 ω
 have k:i<g.K.length->g.K[i]? = some (nth g.K i):=λX=>au X
 have Y:=Bk g.K i ⟨h.j,a,size,t⟩ ω ω;rw[show addO g a size t = {g with K:=g.K.take i++⟨g.j,a,size,t⟩::g.K.drop i,j:=g.j+1} by unfold addO;rw[p9 o],e]
 repeat'(first|refine gE ?_|with_reducible refine CI (aa (k ω)) ?_|refine gS (λb=>?_) (λb=>?_)|refine CM rfl (aa (k ω)) rfl ?_)
 all_goals
  rw[e];rfl
def yB(x:List Int):du (aI .suf x)=aI .O x:=by simp[du,aI,rI,du]
def aS.enc_fzS(x:aS):du (aS.enc .suf x)=aS.enc .O x:=by simp[du,aS.enc]
def aD.enc_fzS(x:aD):du (aD.enc .suf x)=aD.enc .O x:=by simp[du,aD.enc]
def aC.enc_fzS(x:aC):du (aC.enc .suf x)=aC.enc .O x:=by simp[du,aC.enc]
def aA.enc_fzS(x:aA):du (aA.enc .suf x)=aA.enc .O x:=by simp[du,aA.enc]
def aW.enc_fzS(x:aW):du (aW.enc .suf x)=aW.enc .O x:=by simp[du,aW.enc]
def aB.enc_fzS(x:aB):du (aB.enc .suf x)=aB.enc .O x:=by simp[du,aB.enc,yB,<-cf,OB]
def aV.enc_fzS(x:aV):du (aV.enc .suf x)=aV.enc .O x:=by simp[du,aV.enc]
def Ak(x:List aV):du (bf .suf x)=bf .O x:=by simp[du,bf,aV.enc_fzS,<-cf,OB]
def aK.enc_fzS(x:aK):du (aK.enc .suf x)=aK.enc .O x:=by simp[du,aK.enc]
def ac.enc_fzS(x:ac):du (ac.enc .suf x)=ac.enc .O x:=by simp[du,ac.enc,aB.enc_fzS,aS.enc_fzS,aA.enc_fzS,aW.enc_fzS,aD.enc_fzS,aC.enc_fzS,aK.enc_fzS,rB,Ak,rI,yB,<-cf,OB]
def Cu:type_of% @ac.enc_fzS:=@ac.enc_fzS
def aF.enc_fzS(x:aF):du (aF.enc .suf x)=aF.enc .O x:=by simp[du,aF.enc,rI,<-cf,OB]
def ar.enc_fzS(x:ar):du (ar.enc .suf x)=ar.enc .O x:=by simp[du,ar.enc,aF.enc_fzS,<-cf,OB]
def aP.enc_fzS(x:aP):du (aP.enc .suf x)=aP.enc .O x:=by simp[du,aP.enc,aB.enc_fzS,aS.enc_fzS,aA.enc_fzS,aW.enc_fzS,aD.enc_fzS,aF.enc_fzS,aC.enc_fzS,aK.enc_fzS,rB,Ak,rI,yB,<-cf,OB]
def RD(xs:List Int):qk (.s .own (xs.map (rI .own))) (.s .suf (xs.map (rI .suf))):=qk.map _ λ_ _=>.refl _
def a0v(xs:List Bool):qk (.s .own (xs.map (rB .own))) (.s .suf (xs.map (rB .suf))):=qk.map _ λ_ _=>.refl _
def AQ(xs:List (List Int)):qk (.s .own (xs.map (aI .own))) (.s .suf (xs.map (aI .suf))):=qk.map _ λx _=>.cons (RD x) .nil
def xm(xs:List (List aV)):qk (.s .own (xs.map (bf .own))) (.s .suf (xs.map (bf .suf))):=qk.map _ λx _=>.cons (qk.map _ λ_ _=>.refl _) .nil
def qO(xs:List aB):qk (.s .own (xs.map (aB.enc .own))) (.s .suf (xs.map (aB.enc .suf))):=qk.map _ λx _=>.cons (AQ x.X) .nil
def QS(xs:List aF):qk (.s .own (xs.map (aF.enc .own))) (.s .suf (xs.map (aF.enc .suf))):=qk.map _ λx _=>.cons (.rfl_ _) (.cons (RD x.U) .nil)
def M3{f g:α->List C}{xs:List α}(h:qk (.s .own (xs.map f)) (.s .suf (xs.map g))):qk (oE (xs.map f)) (.s .suf (xs.map g)):=by
 cases xs with
 | nil=>exact .i_
 | cons x xs=>exact h
def gt{f g:α->List C}(h:∀x,f x=g x)(xs:List α):qk (.s .own (xs.map f)) (.s .suf (xs.map g)):=qk.map _ λx _=>by rw[h x];exact .refl _
def AU{f s l o b:C}(d:qk f (.s .suf (h.a.map (aD.enc .suf))))(e:qk s (.s .suf (h.J.map (aC.enc .suf))))(g:qk l (.s .suf (h.H.map (aA.enc .suf))))(i:qk o (.s .suf (h.K.map (aW.enc .suf))))(j:qk b (.s .suf (h.Q.map (aB.enc .suf))))(a:qk c (.s .suf (h.b.T.map (bf .suf)))) :
  AZ [.s .own (h.G.F.V.U.map (aI .own)),.s .own (h.G.F.V.y.map (rB .own)),.s .own (h.G.F.R.M.map (aS.enc .own)),I h.G.Calls,.s .own (h.G.k.map (rI .own)),f,s,l,o,b,c,.s .own (h.b.e.map (aI .own)),I h.r.b2,.s .own (h.r.l.map (aK.enc .own)),I h.b3,I h.a4,I h.b7,I h.j,B h.w,I h.a2.d.a5,I h.a2.d.a7,.s .own (h.a2.d.U.map (rI .own)),I h.a2.a8,I h.a2.j] (ac.enc .suf h):=by
 refine .cons (AQ _) (.cons (a0v _) (.cons (gt (λ_=>rfl) _) (.cons (.rfl_ _) (.cons (RD _) (.cons d (.cons e (.cons g (.cons i (.cons j (.cons a (.cons (AQ _) (.cons (.rfl_ _) (.cons (gt (λ_=>rfl) _) (.cons (.rfl_ _) (.cons (.rfl_ _) (.cons (.rfl_ _) (.cons (.rfl_ _) (.cons (.rfl_ _) (.cons (.rfl_ _) (.cons (.rfl_ _) (.cons (RD _) (.cons (.rfl_ _) (.cons (.rfl_ _) .nil)))))))))))))))))))))))
def Xv(h:ac):AZ (dv h) (ac.enc .suf h):=
 AU (gt (λ_=>rfl) _) (M3 (gt (λ_=>rfl) _)) (M3 (gt (λ_=>rfl) _)) (M3 (gt (λ_=>rfl) _)) (qO _) (xm _)
def V7(h:ac):AZ (ac.enc .own h) (ac.enc .suf h):=
 AU (gt (λ_=>rfl) _) (gt (λ_=>rfl) _) (gt (λ_=>rfl) _) (gt (λ_=>rfl) _) (qO _) (xm _)
def Xs{b:C}(a:N4 h b):AZ (U8 h b) (ac.enc .suf h):=by
 refine AU (M3 (gt (λ_=>rfl) _)) (gt (λ_=>rfl) _) (gt (λ_=>rfl) _) (gt (λ_=>rfl) _) ?_ (xm _);rcases a with e|⟨t,c,d,a,e⟩
 ·subst e;exact qO _
 subst e;refine qk.setR (qO _) (.cons ?_ .nil) (aa (au d));exact qk.setR (r':=aI .suf []) (AQ _) (.cons .i_ .nil) (aa a)
def rT(r:ar):AZ (ar.enc .own r) (ar.enc .suf r):=.cons (.rfl_ _) (.cons (QS _) .nil)
def a1d(m:aJ)(f t:Nat)(a:Int):List C:=[.s .own ((m.T.map (bf .own)).set f [.s .suf (((nth m.T f).drop 1).map (aV.enc .own))]),.s .own ((m.e.map (aI .own)).set t (aI .own (nth m.e t++[a])))]
def tW{o:eS}(a:o≠.O)(h:Jm rows):Hu (.s o rows):=⟨.inl a,h⟩
def XY(m:aJ)(f t:Nat)(a:Int):gl (a1d m f t a):=
 ⟨tW (by simp) (x3 (bg _ _ λx _=>lB x) ⟨tW (by simp) (bg _ _ λx _=>aV.enc_fr x),tV1⟩),tW (by simp) (x3 (bg _ _ λx _=>bO x) (bO _)),tV1⟩
def Lr(m:aJ)(f:Int)(a:bN m=true)(d:¬(0<=f/\f<=m.T.length - 1)):zzA 110 false [.val (some 2) (aJ.enc .O m),.vI f] (.tup [some 2,none]) (aJ.enc .own m++[B false]):=by
 have e:=iK.of a;have b:=e.sml;have c:=hC m f b;rw[a,C1 d]at c;have g:=gQ m b;refine fP 57 [(7000039,[])] [(5,265,[31,32,33,34,35,36,37,38,40,0,1,2,3,4,5,6,7,8,1000,1001,1002,9,10]),(6,270,[41,42,43,44,45,46,47,48,49,50,51,52,53,55,0,1,2,3,4,5,6,7,8,9,10,11,12,13,1000,1001,1002,1003,14,15])] Tryz.func110 rfl ?_ (.inr (aE (Cr m) ⟨tV1,tV1⟩))
 refine σP ?_
 rfl
def JU(m:aJ)(f:Nat)(l:bN m=true)(n:f<m.T.length)(e:0<(nth m.T f).length):∃o:List (List C),qk (.s .own o) (.s .suf ((fj m f).T.map (bf .suf)))/\Hu (.s .own o)/\zzA 110 false [.val (some 2) (aJ.enc .O m),.vI (f:Nat)] (.tup [some 2,none]) ([.s .own o,.s .own ((fj m f).e.map (aI .own))]++[B true]):=by
 have h:=iK.of l;have E:=h.sml;have Q:=h.b4;have J:=h.i4;have F:=hC m f E;rw[l,O0 ω]at F;have K:=gQ m E;have c:=TC n;have L:=h.bl f n;have i:=((eG.1 l).2.1 f n).1 _ (ay e);obtain⟨t,q⟩:=t5 i.1;have u:t<m.e.length:=ω
 have w:=au e;have g:=au u;have M:=h.il t ω;have d:=XY m f t (nth (nth m.T f) 0).Addr;refine⟨_,?_,d.1,?_⟩
 ·unfold fj
  simp only[IC];have G:=xm (m.T.set f ((nth m.T f).drop 1));rw[IC,IC]at G;have N:qk (.s .suf (((nth m.T f).drop 1).map (aV.enc .own))) (.s .suf (((nth m.T f).drop 1).map (aV.enc .suf))):=.rfl_ _;have H:=qk.setR (k:=f) (r:=[.s .suf (((nth m.T f).drop 1).map (aV.enc .own))]) (r':=bf .suf ((nth m.T f).drop 1)) G (.cons N .nil) (I6 (by rw[I2];omega));rw[List.set_set]at H;exact H
 have j:(fj m f).e.map (aI .own)=(m.e.map (aI .own)).set t (aI .own (nth m.e t++[(nth (nth m.T f) 0).Addr])):=by
  unfold fj;simp only[IC,q,O4]
 rw[j];generalize R:nth (nth m.T f) 0=p at *;obtain⟨S,O⟩:=p;simp only at q i;subst q;have y:∀x:List C,((m.T.map (bf .own)).set f x).set f [.s .suf (((nth m.T f).drop 1).map (aV.enc .own))]=(m.T.map (bf .own)).set f [.s .suf (((nth m.T f).drop 1).map (aV.enc .own))]:=λx=>List.set_set ..
 have D:(((nth m.T f).drop 1).map (aV.enc .own))=((nth m.T f).map (aV.enc .own)).drop 1:=I8;have a:=aE (b:=[B true]) d ⟨tV1,tV1⟩;clear d j;unfold a1d at a;refine fP 57 [(7000039,[])] [(5,265,[31,32,33,34,35,36,37,38,40,0,1,2,3,4,5,6,7,8,1000,1001,1002,9,10]),(6,270,[41,42,43,44,45,46,47,48,49,50,51,52,53,55,0,1,2,3,4,5,6,7,8,9,10,11,12,13,1000,1001,1002,1003,14,15])] Tryz.func110 rfl ?_ (.inr a)
 repeat'(first|refine gB ?_|refine gS (λP=>?_) (λP=>?_)|refine CS qs (aa w) ?_|refine CI (bZ c) ?_|refine CI (bZ g) ?_|refine CM rfl (bZ g) rfl ?_|refine CM rfl (bZ c) rfl ?_|refine Rw.two rfl (aa c) rfl rfl (aa w) rfl ?_|refine Cj rfl rfl (aa c) rfl (O2 rfl) rfl rfl ?_|refine Cj rfl rfl (aa g) rfl (O2 rfl) rfl rfl ?_|refine Ci 1 rfl (by rw[I2];omega) (aR λ_=>rfl) D ?_|refine CR rfl rfl (bZ c) rfl (O2 rfl) (O1 (λz=>[C.s eS.own z,C.s .own (m.e.map (aI .own))]) (y _).symm) ?_|refine CR rfl rfl (bZ g) rfl (O2 rfl) (show [C.s eS.own ((m.T.map (bf .own)).set f [.s .suf (((nth m.T f).drop 1).map (aV.enc .own))]),C.s .own ((m.e.map (aI .own)).set t (aI .own (nth m.e t++[O])))]=_ from by simp only[List.set_cons_zero,List.set_cons_succ,List.set_set,O4];rfl) ?_|refine Cf (aR λ_=>rfl) rfl kd qs (eL _ _ _) ?_)
 rfl
def FI(h:ac)(t:Int)(n:ac.sml h)(a:bo h []):zzA 26 false [.val (some 24) (ac.enc .O h),.vI t] (.tup [some 24,none]) (ac.enc .suf (if(0<=t/\t<=h.Q.length - 1)/\0<(nth h.b.T t.toNat).length then {h with b:=fj h.b t.toNat} else h)++[B (decide ((0<=t/\t<=h.Q.length - 1)/\0<(nth h.b.T t.toNat).length))]):=by
 have r:=a.nc;have o:=jN h n;have g:=cR h n;rw[eR,a.to]at g;have no:∀m b,zzA 110 false [.val (some 2) (aJ.enc .O h.b),.vI t] (.tup [some 2,none]) (aJ.enc .own m++[B false])->b=false->zzA 26 false [.val (some 24) (ac.enc .O h),.vI t] (.tup [some 24,none]) (ac.enc .suf h++[B b]):=λm b c u=>by
  subst u;refine ah.sf (rcs:=ac.enc .own h++[B false]) ?_ ((V7 h).append (.refl _));refine fO 29 [] Tryz.func26 rfl ?_ (.inr (aE (ac.enc_fr h) ⟨tV1,tV1⟩))
  refine σP ?_
  rfl
 by_cases d:0<=t/\t<=h.Q.length - 1
 ·obtain⟨k,rfl⟩:=t5 d.1
  simp only[O4];by_cases e:0<(nth h.b.T k).length
  ·rw[CK ⟨d,e⟩,O0 ⟨d,e⟩]
   obtain⟨w,i,j,c⟩:=JU h.b k a.mail ω e;have y:=aE (b:=[B true]) (R5 (k:=10) (ac.enc_fr {h with b:=fj h.b k}) j) ⟨tV1,tV1⟩;refine ah.sf (rcs:=(ac.enc .own {h with b:=fj h.b k}).set 10 (.s .own w)++[B true]) ?_ (AZ.append (AU (h:={h with b:=fj h.b k}) (gt (λ_=>rfl) _) (gt (λ_=>rfl) _) (gt (λ_=>rfl) _) (gt (λ_=>rfl) _) (qO _) i) (.refl _));refine fO 29 [] Tryz.func26 rfl ?_ (.inr y)
   refine σP ?_
   rfl
  rw[CJ (λx=>e x.2),C1 (λx=>e x.2)];refine no h.b _ ?_ rfl;have l:=iK.of a.mail;have p:=hC h.b k l.sml;rw[a.mail,O0 ω]at p;have c:=gQ h.b l.sml;have q:=TC (m:=h.b) (f:=k) ω;have C:=l.bl k ω;refine fP 57 [(7000039,[])] [(5,265,[31,32,33,34,35,36,37,38,40,0,1,2,3,4,5,6,7,8,1000,1001,1002,9,10]),(6,270,[41,42,43,44,45,46,47,48,49,50,51,52,53,55,0,1,2,3,4,5,6,7,8,9,10,11,12,13,1000,1001,1002,1003,14,15])] Tryz.func110 rfl ?_ (.inr (aE (Cr h.b) ⟨tV1,tV1⟩))
  repeat'(first|refine gB ?_|refine gS (λD=>?_) (λD=>?_)|fail)
  rfl
 rw[CJ (λx=>d x.1),C1 (λx=>d x.1)];exact no h.b _ (Lr h.b t a.mail ω) rfl
def ZQ(h:Jm rows):Hu (oE rows):=by
 cases rows with
 | nil=>exact⟨.inr rfl,tV1⟩
 | cons=>exact tW (by simp) h
def P1:∀{cs:List C},(∀(j:Nat)(c:C),cs[j]? = some c->Hu c)->gl cs
 | [],_=>trivial
 | _::_,h=>⟨h 0 _ rfl,P1 λj c a=>h (j+1) c a⟩
def V5:∀{a:List (List C)},(∀(j:Nat)(r:List C),a[j]? = some r->gl r)->Jm a
 | [],_=>trivial
 | _::_,h=>⟨h 0 _ rfl,V5 λj c b=>h (j+1) c b⟩
def qk.fr{b:C}(h:qk c b):Hu c->Hu b:=by
 induction h with
 | rfl_ c=>exact id
 | z_=>exact λ_=>⟨.inr rfl,tV1⟩
 | i_=>exact λ_=>⟨.inr rfl,tV1⟩
 | s_ o a d t u n w p=>
  intro q;refine tW (by simp) (V5 λi y e=>P1 λj b g=>?_);have A:=(C4.1 e).1;have f:=z4 (l:=a) (i:=i) ω;have B:=(C4.1 g).1;have r:=n i _ _ f e;have k:=z4 (l:=a[i]'(ω)) (i:=j) ω;exact p i j _ _ _ _ f e k g (uZ (AX q.2 f) k)
def AZ.fr(h:AZ cs a)(d:gl cs):gl a:=P1 λj e b=>by
 have f:=(C4.1 b).1;have c:=z4 (l:=cs) (i:=j) (by have:=h.1;omega);exact(h.2 j _ _ c b).fr (uZ d c)
def tC(w:aP):AZ (aP.enc .own w) (aP.enc .suf w):=(V7 w.W).append (rT w.b0)
def yh(w:aP)(n:Int):gl (aP.enc .suf w++[I n]):=aE ((tC w).fr (aP.enc_fr w)) ⟨tV1,tV1⟩
def ah.sE{k:Kd}{g:ac}{x:C}(c:ah P f sh A k (dv g++[x])):ah P f sh A k (ac.enc .suf g++[x]):=c.sf ((Xv g).append (.refl _))
def Ap.sn2{b:List (List C)}{sz by_:Nat}{K:List (List C)->Prop}(h1:∀r∈rows,r.length=sz)(h2:r.length=sz)(c:rows.length+1<=4194304)(d:by_<=1000)(a:b=rows++[r])(e:K b):Ap false rows [r] sz by_ K:=
 Ce h1 (λf a=>by rw[z3.1 a];exact h2) (λh=>by cases h) kd (I9 (Nat.mul_le_mul (show rows.length+[r].length<=4194304 from c) d) qs) a e
def i9(r:ar)(n:Int):ar:=if 1<=n/\n<=1000 then {r with j:=IntKind.i64.wrap (r.j+1),K:=r.K++[⟨r.j,List.replicate n.toNat 0⟩]} else r
def Qu(r:ar)(n:Int)(a:ar.sml r)(c:1<=n/\n<=1000):zzA 22 false [.val (some 2) (ar.enc .O r),.vI n] (.tup [some 2,none]) (ar.enc .suf (i9 r n)++[I r.j]):=by
 have d:r.K.length<=1048576:=a.1;have h:=kG r a;have e:=aQ n 1 1000;rw[O0 c]at e;have key:zzA 22 false [.val (some 2) (ar.enc .O r),.vI n] (.tup [some 2,none]) (ar.enc .own (i9 r n)++[I r.j]):=by
  unfold i9;rw[CK c];have g:=aE (b:=[I r.j]) (Ct {r with j:=IntKind.i64.wrap (r.j+1),K:=r.K++[⟨r.j,List.replicate n.toNat 0⟩]}) ⟨tV1,tV1⟩;have i:ar.enc .own {r with j:=IntKind.i64.wrap (r.j+1),K:=r.K++[⟨r.j,List.replicate n.toNat 0⟩]} = [I (IntKind.i64.wrap (r.j+1)),.s .own (r.K.map (aF.enc .own)++[[I r.j,.s .own (List.replicate n.toNat [I 0])]])]:=by
   simp[ar.enc,aF.enc,rI]
  rw[i]at g |-;refine fO 30 [(4,263,[13,14,15,16,17,18,22,0,1,2,3,4,5,6,1000,1001,7,1000,1001,8,9,10]),(6,259,[27,28,29,0,1,2,3,1001,1002,4])] Tryz.func22 rfl ?_ (.inr g)
  repeat'(first|refine gP ?_|refine CT rfl ?_|refine Mk.mk n.toNat ω ω ω (wT ω qs) rfl ?_|refine Ap.sn2 (aR λ_=>rfl) rfl kd qs rfl ?_)
  rfl
 exact key.sf ((rT _).append (.refl _))
def TP(r:ar)(id:Int)(a:ar.sml r):zzA 105 false [.val (some 2) (ar.enc .O r),.vI id] (.tup [some 2,none]) (ar.enc .suf (kL r id)++[B (!decide (pR r id<0))]):=by
 have g:r.K.length<=1048576:=a.1;have h:=kG r a;have b:=pK r id a.1;by_cases e:pR r id<0
 ·have key:zzA 105 false [.val (some 2) (ar.enc .O r),.vI id] (.tup [some 2,none]) (ar.enc .own r++[B false]):=by
   refine fP 24 [(264,[1,0,0])] [] Tryz.func105 rfl ?_ (.inr (aE (Ct _) ⟨tV1,tV1⟩))
   refine σE ?_
   rfl
  unfold kL;rw[CK e,O0 e];exact key.sf ((rT _).append (.refl _))
 obtain⟨n,o,p⟩:=fJ (iR id) r.K (by unfold pR at e;omega);obtain⟨j,c⟩:=t5 (show 0<=pR r id by omega);have d:j<r.K.length:=by unfold pR at c;omega
 have i:=FH r.K j d;have key:zzA 105 false [.val (some 2) (ar.enc .O r),.vI id] (.tup [some 2,none]) ([I r.j,oE ((dele r.K j).map (aF.enc .own))]++[B true]):=by
  rw[c]at b;rcases sZ (rows:=(dele r.K j).map (aF.enc .own)) with k|⟨-,k⟩
  all_goals
   have l:=ZQ (rows:=(dele r.K j).map (aF.enc .own)) (bg _ _ λx _=>aF.enc_fr x);rw[k]at i l |-;refine fP 24 [(264,[1,0,0])] [] Tryz.func105 rfl ?_ (.inr ⟨tV1,l,tV1,tV1⟩)
   refine σE ?_
   rfl
 unfold kL;rw[CJ e,C1 e,c];exact key.sf (.cons (.rfl_ _) (.cons (M3 (QS _)) (.refl _)))
def P7(r:ar)(id a v:Int)(h:ar.sml r)(p:0<=v/\v<=999):∃b:Bool,zzA 107 false [.val (some 2) (ar.enc .O r),.vI id,.vI a,.vI v] (.tup [some 2,none]) (ar.enc .suf (ef r id a v)++[B b]):=by
 have q:r.K.length<=1048576:=h.1;have o:=kG r h;have k:=pK r id h.1;by_cases l:0<=pR r id;rotate_left
 ·rw[show ef r id a v=r by unfold ef;rw[CJ (λx=>l x.1)]]
  refine⟨false,?_⟩;have key:zzA 107 false [.val (some 2) (ar.enc .O r),.vI id,.vI a,.vI v] (.tup [some 2,none]) (ar.enc .own r++[B false]):=by
   refine fO 48 [] Tryz.func107 rfl ?_ (.inr (aE (Ct _) ⟨tV1,tV1⟩))
   refine σE ?_
   rfl
  exact key.sf ((rT _).append (.refl _))
 obtain⟨F,G,H⟩:=fJ (iR id) r.K l;obtain⟨j,d⟩:=t5 l;have e:j<r.K.length:=by unfold pR at d;omega
 have c:=au e;have C:(nth r.K j).U.length<=1048576:=h.2 _ (ay e);rw[d]at k;have n:=aQ a 0 (((nth r.K j).U.length:Nat) - 1:Int);by_cases g:0<=a/\a<=((nth r.K j).U.length:Nat) - 1;rotate_left
 ·rw[show ef r id a v=r by unfold ef;rw[CJ (λx=>g (by have:=x.2.1;rw[d]at this;exact this))]]
  rw[C1 g]at n;refine⟨false,?_⟩;have key:zzA 107 false [.val (some 2) (ar.enc .O r),.vI id,.vI a,.vI v] (.tup [some 2,none]) (ar.enc .own r++[B false]):=by
   refine fO 48 [] Tryz.func107 rfl ?_ (.inr (aE (Ct _) ⟨tV1,tV1⟩))
   refine σE ?_
   rfl
  exact key.sf ((rT _).append (.refl _))
 obtain⟨b,t⟩:=t5 g.1;have D:ef r id a v = {r with K:=r.K.set j ⟨(nth r.K j).Id,(nth r.K j).U.set b v⟩}:=by
  unfold ef;rw[CK ⟨l,by rw[d];exact g,p⟩,d,t];rfl
 rw[O0 g]at n;rw[D];subst t;have u:=au (xs:=(nth r.K j).U) (i:=b) ω;have w:=aQ v 0 999;rw[O0 p]at w;refine⟨true,?_⟩;have key:zzA 107 false [.val (some 2) (ar.enc .O r),.vI id,.vI (b:Nat),.vI v] (.tup [some 2,none]) (ar.enc .own {r with K:=r.K.set j ⟨(nth r.K j).Id,(nth r.K j).U.set b v⟩}++[B true]):=by
  have E:ar.enc .own {r with K:=r.K.set j ⟨(nth r.K j).Id,(nth r.K j).U.set b v⟩} = [I r.j,.s .own ((r.K.map (aF.enc .own)).set j [I (nth r.K j).Id,.s .own (((nth r.K j).U.map (rI .own)).set b [I v])])]:=by
   simp[ar.enc,aF.enc,rI,IC]
  have y:=aE (b:=[B true]) (Ct {r with K:=r.K.set j ⟨(nth r.K j).Id,(nth r.K j).U.set b v⟩}) ⟨tV1,tV1⟩;rw[E]at y |-;refine fO 48 [] Tryz.func107 rfl ?_ (.inr y)
  repeat'(first|refine gE ?_|with_reducible refine CS ω (aa c) ?_|refine Pu.two rfl rfl (aa c) rfl rfl rfl (aa u) rfl (z5 _) rfl ?_)
  rfl
 exact key.sf ((rT _).append (.refl _))
def Ti(r:ar)(id n:Int)(g:ar.sml r):∃b:Bool,zzA 109 false [.val (some 2) (ar.enc .O r),.vI id,.vI n] (.tup [some 2,none]) (ar.enc .suf (fQ r id n)++[B b]):=by
 have w:r.K.length<=1048576:=g.1;have o:=kG r g;have h:=pK r id g.1;by_cases i:0<=pR r id;rotate_left
 ·rw[show fQ r id n=r by unfold fQ;rw[CJ (λx=>i x.1)]]
  refine⟨false,?_⟩;have key:zzA 109 false [.val (some 2) (ar.enc .O r),.vI id,.vI n] (.tup [some 2,none]) (ar.enc .own r++[B false]):=by
   refine fO 44 [(5,11,[30,31,32,33,34,35,36,37,38,39,40])] Tryz.func109 rfl ?_ (.inr (aE (Ct _) ⟨tV1,tV1⟩))
   refine σE ?_
   rfl
  exact key.sf ((rT _).append (.refl _))
 obtain⟨H,J,K⟩:=fJ (iR id) r.K i;obtain⟨j,c⟩:=t5 i;have d:j<r.K.length:=by unfold pR at c;omega
 have a:=au d;have E:(nth r.K j).U.length<=1048576:=g.2 _ (ay d);rw[c]at h;have k:=aQ n 1 (((nth r.K j).U.length:Nat):Int);by_cases l:1<=n/\n<=((nth r.K j).U.length:Nat);rotate_left
 ·rw[show fQ r id n=r by unfold fQ;rw[CJ (λx=>l (by have:=x.2;rw[c]at this;exact this))]]
  rw[C1 l]at k;refine⟨false,?_⟩;have key:zzA 109 false [.val (some 2) (ar.enc .O r),.vI id,.vI n] (.tup [some 2,none]) (ar.enc .own r++[B false]):=by
   refine fO 44 [(5,11,[30,31,32,33,34,35,36,37,38,39,40])] Tryz.func109 rfl ?_ (.inr (aE (Ct _) ⟨tV1,tV1⟩))
   refine σE ?_
   rfl
  exact key.sf ((rT _).append (.refl _))
 obtain⟨b,y⟩:=t5 (show 0<=n by omega);have F:fQ r id n = {r with K:=r.K.set j ⟨(nth r.K j).Id,(nth r.K j).U.take b⟩}:=by
  unfold fQ;rw[CK ⟨i,by rw[c];exact l⟩,c,y];rfl
 rw[O0 l]at k;rw[F];subst y;refine⟨true,?_⟩;have D:=aE (b:=[B true]) (Ct {r with K:=r.K.set j ⟨(nth r.K j).Id,(nth r.K j).U.take b⟩}) ⟨tV1,tV1⟩;have G:ar.enc .own {r with K:=r.K.set j ⟨(nth r.K j).Id,(nth r.K j).U.take b⟩} = [I r.j,.s .own ((r.K.map (aF.enc .own)).set j [I (nth r.K j).Id,.s .own (((nth r.K j).U.take b).map (rI .own))])]:=by
  simp[ar.enc,aF.enc,IC]
 have key:zzA 109 false [.val (some 2) (ar.enc .O r),.vI id,.vI (b:Nat)] (.tup [some 2,none]) (ar.enc .own {r with K:=r.K.set j ⟨(nth r.K j).Id,(nth r.K j).U.take b⟩}++[B true]):=by
  rw[G]at D |-;have p:((nth r.K j).U.map (rI .own)).take b=((nth r.K j).U.take b).map (rI .own):=C8.symm;have t:((nth r.K j).U.take b).map (rI .own)≠[]:=λe=>by have:=O1 List.length e;simp only[I2,I3,List.length_nil]at this;omega
  have u:∀x:List C,((r.K.map (aF.enc .own)).set j x).set j [I (nth r.K j).Id,.s .own (((nth r.K j).U.take b).map (rI .own))]=(r.K.map (aF.enc .own)).set j [I (nth r.K j).Id,.s .own (((nth r.K j).U.take b).map (rI .own))]:=λx=>List.set_set ..
  generalize ((nth r.K j).U.take b).map (rI .own)=R at *;cases R with
  | nil=>exact absurd rfl t
  | cons q L=>
   refine fP 44 [(7000040,[])] [(5,268,[30,31,32,33,34,35,36,37,38,39,41,42,0,1,2,3,4,5,6,7,8,9,10,1000,1001,1002,11,12,13])] Tryz.func109 rfl ?_ (.inr D)
   repeat'(first|refine gE ?_|refine CM rfl (bZ a) rfl ?_|refine CI (bZ a) ?_|refine Cj rfl rfl (aa a) rfl (O2 rfl) rfl rfl ?_|refine CZ b rfl (by rw[I2];omega) (aR λ_=>rfl) p.symm ?_|refine CR rfl rfl (bZ a) rfl (O2 rfl) (O1 (λz=>[I r.j,C.s eS.own z]) (u _).symm) ?_)
   rfl
 exact key.sf ((rT _).append (.refl _))
def NG(w:aP)(a:dP)(i:Nat)(d:bo w.W [])(h:ac.sml w.W)(q:ar.sml w.b0)(j:i<w.W.K.length):zzB 25 false [.mut (some 26) (aP.enc .suf w),.val (some 5) (dP.enc .O a),.val (some 4) (aW.enc .O (nth w.W.K i))] [.mut (some 26) (List.replicate 26 .x),.val (some 5) (dP.enc .O a),.val (some 4) (aW.enc .O (nth w.W.K i))] (.tup [some 26,none]) (aP.enc .suf (mY w a i).1++[I (mY w a i).2]):=by
 have J:=pO d (ay j);have K:=lI d (ay j) (k:=0);have M:1<=(nth w.W.K i).q/\(nth w.W.K i).q<=1000:=by
  rcases d.oow _ (ay j) with⟨s,h,S,F⟩|⟨l,B,c,g⟩
  ·have T:=aT (d.L.sok s h)
   have:=ru (n:=(nth w.W.K i).q) ω;omega
  have U:=cQ (d.L.lok l B);omega
 have C:lf w.W (nth w.W.K i).Addr=i:=by
  obtain⟨F,y,-⟩:=d.objAt (ay j);exact iO (f:=(·.Addr)) (iE d.osr) F j (by rw[y])
 have N:=d.lens.caches;unfold mY;by_cases G:a.a6=2
 ·rw[CK G]
  unfold uO;by_cases c:w.W.G.Calls=100000
  ·rw[CK c]
   have o:=(HL w.W a.p (nth w.W.K i).Addr h d.to c).sE;refine ux (n:=102) (mo:=[]) (tb:=[]) Tryz.func25 (by kernel_rfl) rfl (by kernel_rfl) (by rfl) rfl (yh _ _) ?_
   repeat'(first|refine gB ?_|refine gS (λb=>?_) (λb=>?_)|refine CN (o) ⟨⟨rfl,Cu w.W⟩,⟨rfl,rfl⟩,⟨rfl,rfl⟩,tV1⟩ ?_)
   exact CO rfl rfl tV1
  rw[CJ c];by_cases g:0<=a.p/\a.p<=w.W.Q.length - 1
  ·rw[CK (show oW w.W a from g)]
   obtain⟨t,O⟩:=t5 g.1;have o:=(JX w.W (nth w.W.K i) t h d.to c (ay j) ω).sE;rw[C,<-O]at o;rw[show a.p.toNat=t by omega];have P:=TP w.b0 (nth w.W.K i).Id q;generalize freeT w.W t i=f at o |-;by_cases p:f.2=0
   ·rw[CK p]
    refine ux (n:=102) (mo:=[]) (tb:=[]) Tryz.func25 (by kernel_rfl) rfl (by kernel_rfl) (by rfl) rfl (yh _ _) ?_
    repeat'(first|refine gB ?_|refine gS (λb=>?_) (λb=>?_)|refine CN (o) ⟨⟨rfl,Cu w.W⟩,⟨rfl,rfl⟩,⟨rfl,rfl⟩,tV1⟩ ?_|refine CN (P) ⟨⟨rfl,ar.enc_fzS w.b0⟩,⟨rfl,rfl⟩,tV1⟩ ?_)
    exact CO rfl rfl tV1
   rw[CJ p];refine ux (n:=102) (mo:=[]) (tb:=[]) Tryz.func25 (by kernel_rfl) rfl (by kernel_rfl) (by rfl) rfl (yh _ _) ?_
   repeat'(first|refine gB ?_|refine gS (λb=>?_) (λb=>?_)|refine CN (o) ⟨⟨rfl,Cu w.W⟩,⟨rfl,rfl⟩,⟨rfl,rfl⟩,tV1⟩ ?_)
   exact CO rfl rfl tV1
  rw[CJ (show ¬oW w.W a from g)];have o:=(Kp w.W a.p (nth w.W.K i).Addr h d.to c g).sE;refine ux (n:=102) (mo:=[]) (tb:=[]) Tryz.func25 (by kernel_rfl) rfl (by kernel_rfl) (by rfl) rfl (yh _ _) ?_
  repeat'(first|refine gB ?_|refine gS (λb=>?_) (λb=>?_)|refine CN (o) ⟨⟨rfl,Cu w.W⟩,⟨rfl,rfl⟩,⟨rfl,rfl⟩,tV1⟩ ?_)
  exact CO rfl rfl tV1
 rw[CJ G];by_cases H:a.a6=3
 ·rw[CK H]
  unfold qM;have r:=aQ a.At 0 ((nth w.W.K i).q - 1);by_cases c:0<=a.At/\a.At<=(nth w.W.K i).q - 1;rotate_left
  ·rw[CK c]
   rw[C1 c]at r;refine ux (n:=102) (mo:=[]) (tb:=[]) Tryz.func25 (by kernel_rfl) rfl (by kernel_rfl) (by rfl) rfl (yh _ _) ?_
   repeat'(first|refine gB ?_|refine gS (λb=>?_) (λb=>?_)|fail)
   exact CO rfl rfl tV1
  rw[CJ (S7 c)];rw[O0 c]at r;have D:0<=Lk w.W ((nth w.W.K i).Addr+a.At):=DY (ay j) (O0 ω);by_cases p:0<=a.Value/\a.Value<=999;rotate_left
  ·have e:=(Gv w.W ((nth w.W.K i).Addr+a.At) a.Value h d p D).sE
   unfold tbl at e;by_cases g:(ax w.W.G.F.R (((nth w.W.K i).Addr+a.At) / 16)).o=1
   ·rw[CK g]at e |-
    refine ux (n:=102) (mo:=[]) (tb:=[]) Tryz.func25 (by kernel_rfl) rfl (by kernel_rfl) (by rfl) rfl (yh _ _) ?_
    repeat'(first|refine gB ?_|refine gS (λb=>?_) (λb=>?_)|refine CN (e) ⟨⟨rfl,Cu w.W⟩,⟨rfl,rfl⟩,⟨rfl,rfl⟩,tV1⟩ ?_)
    exact CO rfl rfl tV1
   rw[CJ g]at e |-;rw[CK p];refine ux (n:=102) (mo:=[]) (tb:=[]) Tryz.func25 (by kernel_rfl) rfl (by kernel_rfl) (by rfl) rfl (yh _ _) ?_
   repeat'(first|refine gB ?_|refine gS (λb=>?_) (λb=>?_)|refine CN (e) ⟨⟨rfl,Cu w.W⟩,⟨rfl,rfl⟩,⟨rfl,rfl⟩,tV1⟩ ?_)
   exact CO rfl rfl tV1
  have e:=(Et w.W ((nth w.W.K i).Addr+a.At) a.Value h d p).sE;unfold HV tbl at e;rw[CJ (show ¬Lk w.W ((nth w.W.K i).Addr+a.At)<0 by omega)]at e;by_cases g:(ax w.W.G.F.R (((nth w.W.K i).Addr+a.At) / 16)).o=1
  ·rw[CK g]at e |-
   refine ux (n:=102) (mo:=[]) (tb:=[]) Tryz.func25 (by kernel_rfl) rfl (by kernel_rfl) (by rfl) rfl (yh _ _) ?_
   repeat'(first|refine gB ?_|refine gS (λb=>?_) (λb=>?_)|refine CN (e) ⟨⟨rfl,Cu w.W⟩,⟨rfl,rfl⟩,⟨rfl,rfl⟩,tV1⟩ ?_)
   exact CO rfl rfl tV1
  rw[CJ g]at e |-;rw[CJ (S7 p)];obtain⟨V,Q⟩:=P7 w.b0 (nth w.W.K i).Id a.At a.Value q p;simp only at e;refine ux (n:=102) (mo:=[]) (tb:=[]) Tryz.func25 (by kernel_rfl) rfl (by kernel_rfl) (by rfl) rfl (yh _ _) ?_
  repeat'(first|refine gB ?_|refine gS (λb=>?_) (λb=>?_)|refine CN (e) ⟨⟨rfl,Cu w.W⟩,⟨rfl,rfl⟩,⟨rfl,rfl⟩,tV1⟩ ?_|refine CN (Q) ⟨⟨rfl,ar.enc_fzS w.b0⟩,⟨rfl,rfl⟩,⟨rfl,rfl⟩,⟨rfl,rfl⟩,tV1⟩ ?_)
  exact CO rfl rfl tV1
 rw[CJ H];unfold vd;have u:=(Fo w.W i a.Value h d j).sE;by_cases c:w.W.G.Calls≠100000/\ju w.W i a.Value
 ·rw[CK c]at u |-
  rw[O0 c]at u;have E:=lH true;obtain⟨W,R⟩:=Ti w.b0 (nth w.W.K i).Id a.Value q;refine ux (n:=102) (mo:=[]) (tb:=[]) Tryz.func25 (by kernel_rfl) rfl (by kernel_rfl) (by rfl) rfl (yh _ _) ?_
  repeat'(first|refine gB ?_|refine gS (λb=>?_) (λb=>?_)|refine CN (u) ⟨⟨rfl,Cu w.W⟩,⟨rfl,rfl⟩,⟨rfl,rfl⟩,tV1⟩ ?_|refine CN (R) ⟨⟨rfl,ar.enc_fzS w.b0⟩,⟨rfl,rfl⟩,⟨rfl,rfl⟩,tV1⟩ ?_)
  exact CO rfl rfl tV1
 rw[CJ c]at u |-;rw[C1 c]at u;have E:=lH false;refine ux (n:=102) (mo:=[]) (tb:=[]) Tryz.func25 (by kernel_rfl) rfl (by kernel_rfl) (by rfl) rfl (yh _ _) ?_
 repeat'(first|refine gB ?_|refine gS (λb=>?_) (λb=>?_)|refine CN (u) ⟨⟨rfl,Cu w.W⟩,⟨rfl,rfl⟩,⟨rfl,rfl⟩,tV1⟩ ?_)
 exact CO rfl rfl tV1
end Go.Proofs.YtcblmfpcekokjaaGreat.Ab
