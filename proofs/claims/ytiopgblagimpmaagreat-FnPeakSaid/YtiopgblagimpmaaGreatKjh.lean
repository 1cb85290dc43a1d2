/- Objects trimmed, freed by no thread, written with no value: the program's. No condition. -/
import Derived.Test.YtiopgblagimpmaaGreatKjd
import Derived.Test.YtiopgblagimpmaaGreatKjg
import Derived.Test.YtiopgblagimpmaaGreatKje
import Derived.Lib.Overlaps
import Derived.Lib.AppendZerosOnto
import Derived.Laws.NewBlocks
import Derived.Laws.Externs
import Derived.Test.YtiopgblagimpmaaGreatKjf
import Derived.Test.YtiopgblagimpmaaGreatKjc
set_option linter.unusedVariables false
set_option linter.defProp false
set_option linter.unusedSimpArgs false
set_option linter.constructorNameAsVariable false
namespace Go.Proofs.YtiopgblagimpmaaGreat.Ab
open Go.RowKit
set_option maxRecDepth 20000
set_option maxHeartbeats 4000000
def M0{k:ah}{a:Int}(b:jV k a<k.F.V.W.length):∀m:Nat,a % 16+m<=16->zK k a m=gd k a m
 | 0,_=>by
  unfold zK gd mA;rw[BR b]
 | m+1,h=>by
  have c:(ar k.F.O ((a+m) / 16))=ar k.F.O (a / 16):=by rw[show(a+(m:Int)) / 16=a / 16 by omega]
  have d:((a+(m:Int)) % 16).toNat=(a % 16).toNat+m:=ω
  show jz (zK k a m) (a+m) 0=_;rw[M0 b m ω];unfold jz setCell jV gd;simp only[c,d,mA];rw[show(ar k.F.O (a / 16)).e.toNat=jV k a from rfl,cz,CA ⟨rfl,b⟩,List.set_set]
def xB(l:aA)(n:Int)(d:co l=true):zzA 507 false [.val (some 3) (aA.enc .U l),.val none [I n]] (.tup [some 3,some 2,none]) (if 9<=n/\n<=l.a2 then aA.enc .own (trimL l n)++aC.enc .own (mi l n)++[B true] else aA.enc .own l++[I 0,I 0]++[B false]):=by
 have b:=mP l;rw[d]at b;have a:=aF n 9 l.a2;have g:=d;unfold co at g;rw[C0]at g;by_cases e:9<=n/\n<=l.a2
 ·rw[O0 e]at a
  rw[CA e];have c:=mb n;rw[show eQ n=(n+15) / 16 by unfold eQ;rw[CA ω]]at c;unfold mi;by_cases h:(n+15) / 16<l.a3
  ·rw[CA h]
   refine fO 45 [(3,7,[20,21,22,23,24,25,7]),(6,268,[33,34,35,36,37,38,39,40,41,42,43,44,0,1,2,3,4,5,6,7,8,9,10,11,12,1001,1002,1003,1004,1005,1006,1007,1008,1009,1010,1011,13,14])] Tryz.func507 rfl ?_ (.inr ⟨trivial,trivial,trivial,trivial,trivial,trivial,trivial⟩)
   repeat'(first|refine gB ?_|(conv=>whnf);first|refine C9 ?_|refine C7 (b) ?_|refine C7 (a) ?_|refine C7 (c) ?_|refine C9 ?_)
   rfl
  rw[C8 h];have i:(n+15) / 16=l.a3:=ω
  refine fO 45 [(3,7,[20,21,22,23,24,25,7]),(6,268,[33,34,35,36,37,38,39,40,41,42,43,44,0,1,2,3,4,5,6,7,8,9,10,11,12,1001,1002,1003,1004,1005,1006,1007,1008,1009,1010,1011,13,14])] Tryz.func507 rfl ?_ (.inr ⟨trivial,trivial,trivial,trivial,trivial,trivial,trivial⟩)
  repeat'(first|refine gB ?_|(conv=>whnf);first|refine C9 ?_|refine C7 (b) ?_|refine C7 (a) ?_|refine C7 (c) ?_|refine C9 ?_)
  rfl
 rw[U0 e]at a;rw[C8 e];refine fO 45 [(3,7,[20,21,22,23,24,25,7]),(6,268,[33,34,35,36,37,38,39,40,41,42,43,44,0,1,2,3,4,5,6,7,8,9,10,11,12,1001,1002,1003,1004,1005,1006,1007,1008,1009,1010,1011,13,14])] Tryz.func507 rfl ?_ (.inr ⟨trivial,trivial,trivial,trivial,trivial,trivial,trivial⟩)
 repeat'(first|refine gP ?_|(conv=>whnf);first|refine C9 ?_|refine C7 (b) ?_|refine C7 (a) ?_|refine C9 ?_)
 rfl
def cQ(l:aA)(a:Int)(b:0<=l.Q/\l.Q<=32):zzA 506 false [.val (some 3) (aA.enc .U l),.ptr [I a]] .one [B (mt a l)]:=by
 refine fO 9 [] Tryz.func506 rfl ?_
 repeat'(first|refine gP ?_|(conv=>whnf);first|refine C9 ?_)
 exact X0 (λz=>[B z]) ((by unfold mt;rw[T4];simp))
def Ha(h:ac)(i g:Nat)(n:Int)(K:ah)(a:h.M≠[])(b:h.R≠[]):cN (lE h i g n K)=cE {h with J:=K} (oS h) (.s .own ((h.M.map (aA.enc .own)).set g (aA.enc .own (trimL (nth h.M g) n)))) (.s .own ((h.R.map (bc.enc .own)).set i (splice (bc.enc .own (nth h.R i)) 2 [I n]))):=by
 have c:oL (lE h i g n K)=.s .own ((h.M.map (aA.enc .own)).set g (aA.enc .own (trimL (nth h.M g) n))):=by
  unfold oL;rw[n9 (by simp[lE];exact a)];simp[lE,S5]
 have d:oO (lE h i g n K)=.s .own ((h.R.map (bc.enc .own)).set i (splice (bc.enc .own (nth h.R i)) 2 [I n])):=by
  unfold oO;rw[n9 (by simp[lE];exact b),JY]
 unfold cN;rw[c,d];rfl
def zf(h:ac)(i:Nat)(n:Int)(hs:ac.sml h)(o:bi h [])(W:i<h.R.length):zzA 407 false [.val (some 24) (ac.enc .U h),.val none [I (nth h.R i).Addr],.val none [I n]] (.tup [some 24,none]) (cN (if h.J.Calls≠100000/\lC h i n then trimH h i (y2 h (nth h.R i).Addr).toNat n else h)++[B (decide (h.J.Calls≠100000/\lC h i n))]):=by
 have l:=o.lens;have hnl:=l.larges;have hno:=l.objs;have hpg:gn h<=32:=l.ents;have N:=di h hs;have O:=cw h hs;rw[du,o.to]at O;have C:=jW h.M (mt (nth h.R i).Addr) ω;have d:∀y∈h.M,0<=y.Q/\y.Q<=32:=λy p=>by have:=aY (o.L.lok y p);omega
 change am _ _ _ _ _ [I (y2 h (nth h.R i).Addr)]at C;by_cases e1:y2 h (nth h.R i).Addr<0
 ·rw[C8 (λx=>by have:=x.2.1;omega),U0 (λx=>by have:=x.2.1;omega)]
  refine fP 81 [(105,[2,0,0]),(103,[2,0])] [(9,6,[53,54,55,56,57,58])] Tryz.func407 rfl ?_ (.inr (aD (bS _) ⟨trivial,trivial⟩))
  repeat'(first|refine gE ?_|(conv=>whnf);first|refine C9 ?_|refine C7 (N) ?_|refine C7 (O) ?_|refine Cq.mk (nB (some 3) (aA.enc .U) (mt (nth h.R i).Addr) h.M) (cQ ⟨0,0,0⟩ (nth h.R i).Addr ⟨by decide,by decide⟩).has (λL k rcs q=>?_) ?_|refine C7 (C) ?_)
  ·obtain⟨y,p,rfl,rfl,rfl⟩:=q
   exact cQ y _ (d y p)
  rfl
 by_cases X:h.J.Calls=100000
 ·rw[C8 (λx=>x.1 X),U0 (λx=>x.1 X)]
  refine fP 81 [(105,[2,0,0]),(103,[2,0])] [(9,6,[53,54,55,56,57,58])] Tryz.func407 rfl ?_ (.inr (aD (bS _) ⟨trivial,trivial⟩))
  repeat'(first|refine gB ?_|(conv=>whnf);first|refine C9 ?_|refine C7 (N) ?_|refine C7 (O) ?_|refine Cq.mk (nB (some 3) (aA.enc .U) (mt (nth h.R i).Addr) h.M) (cQ ⟨0,0,0⟩ (nth h.R i).Addr ⟨by decide,by decide⟩).has (λL k rcs q=>?_) ?_|refine C7 (C) ?_)
  ·obtain⟨y,p,rfl,rfl,rfl⟩:=q
   exact cQ y _ (d y p)
  rfl
 obtain⟨f1,f2,f3⟩:=gG (mt (nth h.R i).Addr) h.M (by unfold y2 at e1;omega);obtain⟨g,t⟩:=Z2 (show 0<=y2 h (nth h.R i).Addr by omega);have r:g<h.M.length:=by unfold y2 at t;omega
 have hga:(nth h.M g).Q*16=(nth h.R i).Addr:=by
  have:=of_decide_eq_true f2;rw[show(cA (mt (nth h.R i).Addr) h.M).toNat=g by unfold y2 at t;omega]at this;exact this
 have E:lC h i n↔9<=n/\n<=(nth h.M g).a2:=by
  unfold lC;rw[t,X2];exact⟨λx=>x.2,λx=>⟨ω,x⟩⟩
 rw[t,X2];rw[t]at C;have b:=au r;have P:=xB (nth h.M g) n (o.L.lok _ (ax r));by_cases U:9<=n/\n<=(nth h.M g).a2;rotate_left
 ·rw[C8 (λx=>U (E.1 x.2)),U0 (λx=>U (E.1 x.2))]
  rw[C8 U]at P;refine fP 81 [(105,[2,0,0]),(103,[2,0])] [(9,6,[53,54,55,56,57,58])] Tryz.func407 rfl ?_ (.inr (aD (bS _) ⟨trivial,trivial⟩))
  repeat'(first|refine gB ?_|(conv=>whnf);first|with_reducible refine CB (aa b) ?_|refine C9 ?_|refine C7 (N) ?_|refine C7 (O) ?_|refine Cq.mk (nB (some 3) (aA.enc .U) (mt (nth h.R i).Addr) h.M) (cQ ⟨0,0,0⟩ (nth h.R i).Addr ⟨by decide,by decide⟩).has (λL k rcs q=>?_) ?_|refine C7 (C) ?_|refine C7 (P) ?_|refine CE rfl (aa b) rfl ?_)
  ·obtain⟨y,p,rfl,rfl,rfl⟩:=q
   exact cQ y _ (d y p)
  rfl
 rw[CA ⟨X,E.2 U⟩,O0 ⟨X,E.2 U⟩];rw[CA U]at P;change am _ _ _ _ _ ([I (nth h.M g).Q,I ((n+15) / 16),I n]++aC.enc .own (mi (nth h.M g) n)++[B true]) at P;obtain⟨-,Y,u⟩:=o.objAt (ax W);have hii:ny h (nth h.R i).Addr=i:=by
  have h2:=(o.objAt (ax W)).1;exact iz (f:=(·.Addr)) (ju o.osr) h2 W (by rw[Y])
 rw[hii]at u;have Z:=qJ h (nth h.R i).Addr ω;rw[u]at Z;have c:=au W;have h8:=o.L.lok _ (ax r);unfold co at h8;rw[C0]at h8;have Q:h.M≠[]:=eX r;have R:h.R≠[]:=eX W;have heh:cN h=cE h (oS h) (.s .own (h.M.map (aA.enc .own))) (.s .own (h.R.map (bc.enc .own))):=by
  unfold cN oL oO;rw[n9 λe=>Q (List.map_eq_nil_iff.1 e),n9 λe=>R (List.map_eq_nil_iff.1 e)]
 rw[heh]at N;have heT:=λK=>Ha h i g n K Q R
 have F:((nth h.M g).Q*16+n).tmod 16=((nth h.M g).Q*16+n) % 16:=fD ω;have S:=Fh o r U (C3 _);have hm1:=nJ o r (a:=16*(nth h.M g).Q+n - 1) ω;have w:=wG h.J (16*(nth h.M g).Q+n) (16*((n+15) / 16) - n).toNat;have T:trimH h i g n = {lE h i g n (qi h g n) with J:=dM (qi h g n) ((nth h.M g).Q+(n+15) / 16) (dB (nth h.M g) n),b:=xd h g n}:=rfl;obtain⟨K,hK⟩ : ∃K,K=qi h g n:=⟨_,rfl⟩
 have G:(((nth h.M g).Q*16+n) % 16=0->K=h.J)/\(((nth h.M g).Q*16+n) % 16≠0->K=gd h.J ((nth h.M g).Q*16+n) (16 - ((nth h.M g).Q*16+n) % 16).toNat):=by
  rw[hK];unfold qi;constructor
  ·intro z
   rw[show(16*((n+15) / 16) - n).toNat=0 by omega];rfl
  intro z;rw[show(16*((n+15) / 16) - n).toNat=(16 - ((nth h.M g).Q*16+n) % 16).toNat by omega,show 16*(nth h.M g).Q+n=(nth h.M g).Q*16+n by omega];refine M0 ?_ _ ω;obtain⟨-,-,-,q0,q1⟩:=bZ o.ker hm1;have hul:=(bh.1 (aI.1 o.ker).2.1).2.2.1;rw[show(16*(nth h.M g).Q+n - 1) / 16=((nth h.M g).Q*16+n) / 16 by omega]at q0 q1;unfold jV;omega
 rw[T,<-hK];have hkk:aH K=true:=by rw[hK];exact S
 have hkc:K.Calls≠100000:=by rw[hK];show(zK _ _ _).Calls≠_;rw[w.2.1];exact X
 have hke:K.F.O.K.length=h.J.F.O.K.length:=by rw[hK];show(zK _ _ _).F.O.K.length=_;rw[w.1]
 have hpn:gn (lE h i g n K)=gn h:=hke;clear T S w;have c9:=iy (lE h i g n K) (mi (nth h.M g) n) (dB (nth h.M g) n) hkk hkc (by show h.b.length<=_;have:=l.free;omega) (by
   unfold mi dB;split
   · exact⟨by show(nth h.M g).a3 - (n+15) / 16=_;omega,by show 0<=(nth h.M g).Q+(n+15) / 16;omega,by show(nth h.M g).Q+(n+15) / 16<=_;omega,ω⟩
   exact⟨by show(0:Int)=_;omega,by show(0:Int)<=0;omega,by show(0:Int)<=_;omega,ω⟩)
 rw[hpn,heT]at c9;have hd:cN {lE h i g n K with J:=dM K ((nth h.M g).Q+(n+15) / 16) (dB (nth h.M g) n),b:=xd h g n} = if(n+15) / 16<(nth h.M g).a3 then cN {lE h i g n K with J:=dM K (mi (nth h.M g) n).At (dB (nth h.M g) n),b:=(bY (gn h) h.b (mi (nth h.M g) n)).getD h.b} else cE {h with J:=K} (oS h) (.s .own ((h.M.map (aA.enc .own)).set g (aA.enc .own (trimL (nth h.M g) n)))) (.s .own ((h.R.map (bc.enc .own)).set i (splice (bc.enc .own (nth h.R i)) 2 [I n]))):=by
  by_cases e:(n+15) / 16<(nth h.M g).a3
  ·rw[CA e]
   have e5:mi (nth h.M g) n = ⟨(nth h.M g).Q+(n+15) / 16,(nth h.M g).a3 - (n+15) / 16⟩:=by unfold mi;rw[CA e]
   have H:((dB (nth h.M g) n:Nat):Int)=(nth h.M g).a3 - (n+15) / 16:=by unfold dB;omega
   rw[e5];unfold xd;rw[CA ω,H]
  rw[C8 e,<-heT];have H:dB (nth h.M g) n=0:=by unfold dB;omega
  unfold xd;rw[H,C8 ω];rfl
 rw[hd];have J:(mi (nth h.M g) n).a4=if(n+15) / 16<(nth h.M g).a3 then(nth h.M g).a3 - (n+15) / 16 else 0:=by unfold mi;split<;>rfl
 have j:g9 (if(n+15) / 16<(nth h.M g).a3 then cN {lE h i g n K with J:=dM K (mi (nth h.M g) n).At (dB (nth h.M g) n),b:=(bY (gn h) h.b (mi (nth h.M g) n)).getD h.b} else cE {h with J:=K} (oS h) (.s .own ((h.M.map (aA.enc .own)).set g (aA.enc .own (trimL (nth h.M g) n)))) (.s .own ((h.R.map (bc.enc .own)).set i (splice (bc.enc .own (nth h.R i)) 2 [I n])))):=by rw[<-hd];exact bS _
 clear hd hga u Y f1 f2 f3;by_cases e5:((nth h.M g).Q*16+n) % 16=0
 ·have M:=G.1 e5
  rw[M]at c9 j |-;clear G;by_cases H:(n+15) / 16<(nth h.M g).a3
  ·rw[CA H]at j J |-
   refine fP 81 [(105,[2,0,0]),(103,[2,0])] [(9,6,[53,54,55,56,57,58])] Tryz.func407 rfl ?_ (.inr (aD j ⟨trivial,trivial⟩))
   repeat'(first|refine gB ?_|(conv=>whnf);first|with_reducible (first|refine Bf.D (λV=>?_) (λV=>?_)|refine CB (aa b) ?_|refine CB (aa c) ?_)|refine C9 ?_|refine C7 (N) ?_|refine C7 (O) ?_|refine Cq.mk (nB (some 3) (aA.enc .U) (mt (nth h.R i).Addr) h.M) (cQ ⟨0,0,0⟩ (nth h.R i).Addr ⟨by decide,by decide⟩).has (λL k rcs q=>?_) ?_|refine C7 (C) ?_|refine C7 (P) ?_|refine C7 (Z) ?_|refine CE rfl (aa b) rfl ?_|refine CE rfl (aa c) rfl ?_|refine CN rfl rfl (aa b) rfl (I1 rfl) rfl ?_|refine CN rfl rfl (aa c) rfl (I1 rfl) rfl ?_|refine CM (by decide) ?_|refine CO F ?_|refine CF (c9) (.inl rfl) ?_)
   ·obtain⟨y,p,rfl,rfl,rfl⟩:=q
    exact cQ y _ (d y p)
   rfl
  rw[C8 H]at j J |-;refine fP 81 [(105,[2,0,0]),(103,[2,0])] [(9,6,[53,54,55,56,57,58])] Tryz.func407 rfl ?_ (.inr (aD j ⟨trivial,trivial⟩))
  repeat'(first|refine gB ?_|(conv=>whnf);first|with_reducible (first|refine Bf.D (λV=>?_) (λV=>?_)|refine CB (aa b) ?_|refine CB (aa c) ?_)|refine C9 ?_|refine C7 (N) ?_|refine C7 (O) ?_|refine Cq.mk (nB (some 3) (aA.enc .U) (mt (nth h.R i).Addr) h.M) (cQ ⟨0,0,0⟩ (nth h.R i).Addr ⟨by decide,by decide⟩).has (λL k rcs q=>?_) ?_|refine C7 (C) ?_|refine C7 (P) ?_|refine C7 (Z) ?_|refine CE rfl (aa b) rfl ?_|refine CE rfl (aa c) rfl ?_|refine CN rfl rfl (aa b) rfl (I1 rfl) rfl ?_|refine CN rfl rfl (aa c) rfl (I1 rfl) rfl ?_|refine CM (by decide) ?_|refine CO F ?_)
  ·obtain⟨y,p,rfl,rfl,rfl⟩:=q
   exact cQ y _ (d y p)
  rfl
 have M:=G.2 e5;have hcc:0<=(ar h.J.F.O (((nth h.M g).Q*16+n) / 16)).e/\(ar h.J.F.O (((nth h.M g).Q*16+n) / 16)).e<h.J.F.V.W.length:=by
  obtain⟨-,-,-,q0,q1⟩:=bZ o.ker hm1;have hul:=(bh.1 (aI.1 o.ker).2.1).2.2.1;rw[show(16*(nth h.M g).Q+n - 1) / 16=((nth h.M g).Q*16+n) / 16 by omega]at q0 q1;exact⟨q0,ω⟩
 have c8:=jZ h (oS h) (.s .own ((h.M.map (aA.enc .own)).set g (aA.enc .own (trimL (nth h.M g) n)))) (.s .own ((h.R.map (bc.enc .own)).set i (splice (bc.enc .own (nth h.R i)) 2 [I n]))) ((nth h.M g).Q*16+n) (16 - ((nth h.M g).Q*16+n) % 16).toNat o.ker ω hcc ω (l.row _ (ax (by unfold jV;omega)));rw[<-M,show(((16 - ((nth h.M g).Q*16+n) % 16).toNat:Nat):Int)=16 - ((nth h.M g).Q*16+n) % 16 by omega]at c8;clear G M;by_cases H:(n+15) / 16<(nth h.M g).a3
 ·rw[CA H]at j J |-
  refine fP 81 [(105,[2,0,0]),(103,[2,0])] [(9,6,[53,54,55,56,57,58])] Tryz.func407 rfl ?_ (.inr (aD j ⟨trivial,trivial⟩))
  repeat'(first|refine gB ?_|(conv=>whnf);first|with_reducible (first|refine Bf.D (λV=>?_) (λV=>?_)|refine CB (aa b) ?_|refine CB (aa c) ?_)|refine C9 ?_|refine C7 (N) ?_|refine C7 (O) ?_|refine Cq.mk (nB (some 3) (aA.enc .U) (mt (nth h.R i).Addr) h.M) (cQ ⟨0,0,0⟩ (nth h.R i).Addr ⟨by decide,by decide⟩).has (λL k rcs q=>?_) ?_|refine C7 (C) ?_|refine C7 (P) ?_|refine C7 (Z) ?_|refine CE rfl (aa b) rfl ?_|refine CE rfl (aa c) rfl ?_|refine CN rfl rfl (aa b) rfl (I1 rfl) rfl ?_|refine CN rfl rfl (aa c) rfl (I1 rfl) rfl ?_|refine CM (by decide) ?_|refine CO F ?_|refine CF (c8) (.inl rfl) ?_|refine CF (c9) (.inl rfl) ?_)
  ·obtain⟨y,p,rfl,rfl,rfl⟩:=q
   exact cQ y _ (d y p)
  rfl
 rw[C8 H]at j J |-;refine fP 81 [(105,[2,0,0]),(103,[2,0])] [(9,6,[53,54,55,56,57,58])] Tryz.func407 rfl ?_ (.inr (aD j ⟨trivial,trivial⟩))
 repeat'(first|refine gB ?_|(conv=>whnf);first|with_reducible (first|refine Bf.D (λV=>?_) (λV=>?_)|refine CB (aa b) ?_|refine CB (aa c) ?_)|refine C9 ?_|refine C7 (N) ?_|refine C7 (O) ?_|refine Cq.mk (nB (some 3) (aA.enc .U) (mt (nth h.R i).Addr) h.M) (cQ ⟨0,0,0⟩ (nth h.R i).Addr ⟨by decide,by decide⟩).has (λL k rcs q=>?_) ?_|refine C7 (C) ?_|refine C7 (P) ?_|refine C7 (Z) ?_|refine CE rfl (aa b) rfl ?_|refine CE rfl (aa c) rfl ?_|refine CN rfl rfl (aa b) rfl (I1 rfl) rfl ?_|refine CN rfl rfl (aa c) rfl (I1 rfl) rfl ?_|refine CM (by decide) ?_|refine CO F ?_|refine CF (c8) (.inl rfl) ?_)
 ·obtain⟨y,p,rfl,rfl,rfl⟩:=q
  exact cQ y _ (d y p)
 rfl
def Dk(h:ac)(t a:Int)(b:ac.sml h)(e:jL h=true)(j:h.J.Calls≠100000)(g:¬(0<=t/\t<=h.T.length - 1)):zzA 33 false [.val (some 24) (ac.enc .U h),.val none [I t],.val none [I a]] (.tup [some 24,none]) (cN h++[I 1]):=by
 have c:=cw h b;rw[du,e]at c;have i:h.T.length<=1048576:=b.2.2.2.2.2.1.1;have d:=aF t 0 (h.T.length - 1:Int);rw[U0 g]at d;refine fP 163 [(99,[1,0,0]),(102,[1,0,0]),(103,[2,0]),(105,[2,0,0]),(109,[2,0,0])] [(20,12,[85,86,87,88,89,90,91,92,93,94,95,96]),(24,4,[111,112,113,114])] Tryz.func33 rfl ?_ (.inr (aD (bS _) ⟨trivial,trivial⟩))
 repeat'(first|refine gB ?_|(conv=>whnf);first|refine C9 ?_|refine C7 (c) ?_|refine C7 (d) ?_|refine C7 (di h b) ?_)
 rfl
def Kg(m:aR)(a v:Int)(h:cU m=true)(c:aR.sml m)(i:0<=a/\a<512)(j:¬(0<=v/\v<=999))(k:(ar m.O (a / 16)).o≠0):zzA 505 false [.val (some 3) (aR.enc .U m),.val none [I a],.val none [I v]] (.tup [some 3,none]) (aR.enc .own m++[I (if(ar m.O (a / 16)).o=1 then 2 else 3)]):=by
 have d:=iS m c;have e:=rY m a h c i;have b:=aF v 0 999;rw[U0 j]at b;by_cases g:(ar m.O (a / 16)).o=1
 ·rw[CA g]
  refine fO 42 [] Tryz.func505 rfl ?_ (.inr (aD (aR.enc_fr m) ⟨trivial,trivial⟩))
  repeat'(first|refine gB ?_|(conv=>whnf);first|refine C9 ?_|refine C7 (d) ?_|refine C7 (e) ?_|refine C7 (b) ?_)
  rfl
 rw[C8 g];refine fO 42 [] Tryz.func505 rfl ?_ (.inr (aD (aR.enc_fr m) ⟨trivial,trivial⟩))
 repeat'(first|refine gB ?_|(conv=>whnf);first|refine C9 ?_|refine C7 (d) ?_|refine C7 (e) ?_|refine C7 (b) ?_)
 rfl
def y5(h:ac)(a v:Int)(i:ac.sml h)(c:bi h [])(n:¬(0<=v/\v<=999))(e:0<=F7 h a):zzA 405 false [.val (some 24) (ac.enc .U h),.val none [I a],.val none [I v]] (.tup [some 24,none]) (cN h++[I (if(ar (tbl h) (a / 16)).o=1 then 2 else 3)]):=by
 have j:=di h i;have k:=pZ h a i c;obtain⟨o,p⟩:=HJ c e;have g:=bW c.ker;have d:=Kg h.J.F a v (iT c.ker) g.1 p n o;unfold tbl;by_cases l:(ar h.J.F.O (a / 16)).o=1
 ·rw[CA l]at d |-
  refine fO 38 [] Tryz.func405 rfl ?_ (.inr (aD (bS _) ⟨trivial,trivial⟩))
  repeat'(first|refine gB ?_|(conv=>whnf);first|with_reducible (first|refine Bf.D (λb=>?_) (λb=>?_)|refine Bf.E (λb=>?_) (λb=>?_))|refine C9 ?_|refine C7 (j) ?_|refine C7 (k) ?_|refine C7 (d) ?_)
  rfl
 rw[C8 l]at d |-;refine fO 38 [] Tryz.func405 rfl ?_ (.inr (aD (bS _) ⟨trivial,trivial⟩))
 repeat'(first|refine gB ?_|(conv=>whnf);first|with_reducible (first|refine Bf.D (λb=>?_) (λb=>?_)|refine Bf.E (λb=>?_) (λb=>?_))|refine C9 ?_|refine C7 (j) ?_|refine C7 (k) ?_|refine C7 (d) ?_)
 rfl
set_option maxRecDepth 100000
def GD:∀w,(zeroValue 180).run Tryz.prog w=.ok (.agg #[.int .i64 0,.int .i64 0]) w:=λ_=>by kernel_rfl
def B4:tH Tryz.prog 458 2:=by
 refine⟨⟨_,Tryz.func458,by kernel_rfl,by kernel_rfl⟩,λw g n c i news r y o B C b=>?_⟩;obtain⟨A,X,a⟩:=rp o y r B;have a:Hid (∀t u,news[t]? = some u->w.drew.cell? (A.add t)=some u):=a;have T:Hid (news.length=(n - (i+1))*2):=o;have Y:Hid (∀u∈news,u.oneCell'=true):=C;have Z:Hid (∀t,t<news.length->(w.drew.cell? ⟨g,0+i*2+t,none⟩).isSome=true/\w.drew.frozen? ⟨g,0+i*2+t,none⟩ = false):=λt ht=>by
  rw[Z5];exact b (i*2+t) ω
 obtain⟨p,d⟩ : ∃p,p=w.drew.setCells g (0+i*2) news:=⟨_,rfl⟩
 have K:∀q,q<n*2->(p.cell? ⟨g,q,none⟩).isSome=true/\p.frozen? ⟨g,q,none⟩ = false:=λq U=>by
  have D:∀j,j<news.length->∃z,cel w.drew g (0+i*2+j)=some z:=λj L=>by
   have:=(b (0+i*2+j) ω).1;exact Option.isSome_iff_exists.1 this
  refine⟨?_,by rw[d];exact(X0 Prod.fst (bG g _ news w.drew g q)).trans (b q U).2⟩;rw[d];by_cases h:0+i*2<=q/\q<0+i*2+news.length
  ·have:=bk D (O2 (show q - (0+i*2)<news.length by omega))
   rw[show 0+i*2+(q - (0+i*2))=q by omega]at this;show(cel _ g q).isSome=true;rw[this];rfl
  show(cel _ g q).isSome=true;rw[aT (λx=>h x.2)];exact(b q U).1
 obtain⟨M,E,F,G⟩:=sf (P:=Tryz.prog) p 36 180 2 (.agg #[.int .i64 0,.int .i64 0]) Tryz.underlying36 GD rfl (by intro v V;simp[Value.cells]at V;subst V;rfl) g ((i+(n - (i+1)))*2) (n - (i+(n - (i+1)))) ω (by decide) (λj L=>(K _ ω).1) (λj L=>(K _ ω).2);have k:Hid (M.length=(n - (i+(n - (i+1))))*2):=E;have H:Hid (∀v∈M,v.oneCell'=true):=F;have W:Hid (p=w.drew.setCells g (0+i*2) news):=d;have hic:i<=c:=ω
 have N:i+1<=c:=ω
 have O:¬i=i+1:=ω
 have Q:i+1<=n:=r;have l:n - 1=i+(n - (i+1)):=ω
 clear d K b B C o E F;rw[l];generalize L:i+1=j at X a T G k N O Q l |-;obtain⟨J,R,S⟩ : ∃J,Tryz.prog.info? 180=some J/\J.size=2:=by
  have h:=(lA 180 _ rfl).1;cases e : Tryz.prog.info? 180 with
  | none=>rw[e]at h;cases h
  | some x=>rw[e]at h;simp only[X4,Z0,Prod.mk.injEq]at h;exact⟨x,rfl,h.2.1⟩
 have mixed : Tryz.prog.follows .mixedOrders=true:=by kernel_rfl
 go_enter Tryz.func458,Tryz.ntmps458
 go_wp2_with fail
 go_region_law_o (refine step_append_room rfl (.tmp 22) (.tmp 25) 36 rfl 180 J 2 Tryz.underlying36 R S g 0 i c (by simp[Act.eval,Act.put]) A (n - j) (c - j) news (by simp[Act.eval,Act.put]) T.out a.out Y.out ω Z.out ?_;rw[<-W.out])
 go_wp2
 go_ret
 refine⟨rfl,M,by have:=k.out;omega,H.out,?_⟩;rw[W.out,Z5]
def BA(xs:List aC)(i:Nat)(a:i<xs.length):zzB 458 false [.mut none [.s .own (xs.map (aC.enc .own))],.val none [I (i:Nat)],.val none [I ((i+1:Nat):Int)]] [.mut none [.x],.val none [I (i:Nat)],.val none [I ((i+1:Nat):Int)]] .one [oE ((dele xs i).map (aC.enc .own))]:=by
 have h:=xV B4 (rows:=xs.map (aC.enc .own)) (i:=i) (by rw[C1];exact a) (aQ λ_=>rfl) (aX _ _ λx _=>aC.enc_fr x)
 rwa [show dele (xs.map (aC.enc .own)) i=(dele xs i).map (aC.enc .own) by simp[dele,t4,v4]]at h
variable{α:Type}
def MD(xs:List α)(b:Nat)(y:α):dele (xs.set b y) b=dele xs b:=by
 unfold dele;rw[List.take_set_of_le (C3 b),List.drop_set_of_lt (Nat.lt_succ_self b)]
def rJ(k:ah)(p:Int)(c:aH k=true)(w:k.Calls≠100000)(n:0<=p/\p<k.F.O.K.length)(y:(nth k.F.O.K p.toNat).o=0):zzA 341 false [.val (some 5) (ah.enc .U k),.val none [I p]] (.tup [some 5,none]) (ah.enc .own (ek k p).1++[B (ek k p).2]):=by
 have h:=bW c;have C:=(aI.1 c).2.2.2;have D:=(bt.1 (aI.1 c).2.2.1).2.2;have d:=gp k h;rw[c,O0 w]at d;have g:=ng k h ⟨ω,ω⟩;have a:=xz k.F.V (aI.1 c).2.1 h.1.1;have j:ar k.F.O p=nth k.F.O.K p.toNat:=by unfold ar;exact CA n
 have o:=aF p 0 ((k.F.O.K.length:Int) - 1);rw[O0 ω]at o;have q:=ee k p h.1.2;rw[j,y,U0 (by decide)]at q;have r:=au (xs:=k.F.O.K) (i:=p.toNat) ω;unfold u9 at a;unfold ek;cases e:refd k<;>rw[e]at g
 ·by_cases b:sC k<0
  ·rw[CA (.inr b)]
   rw[CA (show cA (λu=>!u) k.F.V.k<0 from b)]at a;simp only at a;refine fO 64 [] Tryz.func341 rfl ?_ (.inr (aD (CT _) ⟨trivial,trivial⟩))
   repeat'(first|refine gP ?_|(conv=>whnf);first|refine C7 (d) ?_|refine C7 (g) ?_|refine C7 (a) ?_)
   rfl
  rw[C8 (by simp[b])];rw[C8 (show ¬cA (λu=>!u) k.F.V.k<0 from b)]at a;simp only at a;obtain⟨f,t⟩:=Z2 (show 0<=sC k by omega);have l:cA (λu=>!u) k.F.V.k=(f:Nat):=t;rw[l]at a;rw[t];simp only[X2]at a |-;rw[Av]at a;rw[FI];refine fO 64 [] Tryz.func341 rfl ?_ (.inr (aD (by rw[<-FI];exact CT _) ⟨trivial,trivial⟩))
  repeat'(first|refine gP ?_|(conv=>whnf);first|refine C7 (d) ?_|refine C7 (g) ?_|refine C7 (a) ?_|refine C7 (o) ?_|refine C7 (q) ?_|refine CL n.1 (aa r) ?_|refine CN rfl rfl (aa r) rfl (I1 rfl) rfl ?_)
  rfl
 rw[CA (.inl rfl)];by_cases b:sC k<0
 ·rw[CA (show cA (λu=>!u) k.F.V.k<0 from b)]at a
  simp only at a;refine fO 64 [] Tryz.func341 rfl ?_ (.inr (aD (CT _) ⟨trivial,trivial⟩))
  repeat'(first|refine gP ?_|(conv=>whnf);first|refine C7 (d) ?_|refine C7 (g) ?_|refine C7 (a) ?_)
  rfl
 rw[C8 (show ¬cA (λu=>!u) k.F.V.k<0 from b)]at a;simp only at a;refine fO 64 [] Tryz.func341 rfl ?_ (.inr (aD (CT _) ⟨trivial,trivial⟩))
 repeat'(first|refine gP ?_|(conv=>whnf);first|refine C7 (d) ?_|refine C7 (g) ?_|refine C7 (a) ?_)
 rfl
def RE(xs:List aC)(n:Int):List C:=(if(aB xs n).2.2=true then [oE ((aB xs n).1.map (aC.enc .own))] else bE .own xs)++[I (aB xs n).2.1,B (aB xs n).2.2]
def Ra(xs:List aC)(n:Int):g9 (RE xs n):=by
 unfold RE;split
 ·exact aD ⟨D0 (jE _).1.2,trivial⟩ ⟨trivial,trivial,trivial⟩
 exact aD (jE _) ⟨trivial,trivial,trivial⟩
def zY(xs:List aC)(b:Nat)(y:aC):(xs.set b y).map (aC.enc .own)=(xs.map (aC.enc .own)).set b [I y.At,I y.a4]:=by rw[S5];rfl
def wc(pages:Int)(xs:List aC)(n:Int)(K:0<=pages/\pages<=1048576)(u:bC pages xs=true)(R:1<=n/\n<=1000)(S:xs.length<=4096):zzA 340 false [.val none [I pages],.val none (bE .U xs),.val none [I n]] (.tup [none,none,none]) (RE xs n):=by
 have p:ge xs:=⟨ω,λ_ _=>trivial⟩
 have w:=lX pages xs K p;rw[u]at w;have L:=jS xs p;have B:=(vC u).2;refine fP 91 [(458,[1,0,0])] [(8,15,[32,33,34,35,36,37,38,39,40,41,42,43,44,45,46])] Tryz.func340 rfl ?_ (.inr (Ra xs n))
 repeat'(first|refine gE ?_|(conv=>whnf);first|refine C7 (w) ?_|refine C7 (L) ?_)
 (conv=>whnf)
 refine CD (ι:=Nat) (λi=>[(1,.G .one (bE .U xs)),(2,.G .one [I (n)]),(9,.G .one (bE .own xs)),(10,.G .one [I (iQ xs n i)]),(25,.G .one (bE .U xs)),(26,.G .one [I (xs.length)]),(27,.G .one [I ((i:Nat):Int)])]) (λi=>i<=xs.length) (λi=>xs.length - i) (0) ?_ (W0 _) λi M=>?_
 ·exact wC
 have l:=vH xs n i M;by_cases E:i<xs.length
 ·have k:=au E
  have N:=B _ (ax E);have d:iQ xs n (i+1)=if n<=(nth xs i).a4/\(iQ xs n i<0\/(nth xs i).a4<(nth xs (iQ xs n i).toNat).a4) then((i:Nat):Int) else iQ xs n i:=rfl
  by_cases F:n<=(nth xs i).a4
  ·by_cases O:iQ xs n i<0
   ·rw[CA ⟨F,.inl O⟩]at d
    repeat'(first|refine gE ?_|(conv=>whnf);first|with_reducible (first|refine CB (aa k) ?_|refine Bf.D (λh=>?_) (λh=>?_))|refine CE rfl (aa k) rfl ?_)
    ((conv=>whnf);refine CC (i+1) ω ω ?_)
    rw[d];exact wC
   have a:=au (xs:=xs) (i:=(iQ xs n i).toNat) ω;by_cases P:(nth xs i).a4<(nth xs (iQ xs n i).toNat).a4
   ·rw[CA ⟨F,.inr P⟩]at d
    repeat'(first|refine gE ?_|(conv=>whnf);first|with_reducible (first|refine CB (aa k) ?_|refine CL ω (aa a) ?_|refine Bf.D (λh=>?_) (λh=>?_))|refine CE rfl (aa k) rfl ?_)
    ((conv=>whnf);refine CC (i+1) ω ω ?_)
    rw[d];exact wC
   rw[C8 ω]at d
   repeat'(first|refine gE ?_|(conv=>whnf);first|with_reducible (first|refine CB (aa k) ?_|refine CL ω (aa a) ?_|refine Bf.D (λh=>?_) (λh=>?_))|refine CE rfl (aa k) rfl ?_)
   ((conv=>whnf);refine CC (i+1) ω ω ?_)
   rw[d];exact wC
  rw[C8 ω]at d
  repeat'(first|refine gE ?_|(conv=>whnf);first|with_reducible (first|refine CB (aa k) ?_|refine Bf.D (λh=>?_) (λh=>?_))|refine CE rfl (aa k) rfl ?_)
  ((conv=>whnf);refine CC (i+1) ω ω ?_)
  rw[d];exact wC
 obtain rfl:i=xs.length:=ω
 change gI xs n = -1\/_ at l;unfold RE aB;rw[show iQ xs n xs.length=gI xs n from rfl];by_cases e:gI xs n<0
 ·rw[CA e]
  rw[show gI xs n = -1 from l.resolve_right λg=>by have T:0<=gI xs n:=g.1;omega]
  repeat'(first|refine gE ?_|(conv=>whnf);first|with_reducible refine Bf.D (λh=>?_) (λh=>?_))
  rfl
 rw[C8 e];obtain⟨Q,G,U⟩:=l.resolve_left ω;change 0<=gI xs n at Q;change gI xs n<xs.length at G;obtain⟨b,r⟩:=Z2 (show 0<=gI xs n by omega);rw[r]at G |-;simp only[X2];have a:=au (xs:=xs) (i:=b) ω;have N:=B _ (ax (xs:=xs) (i:=b) ω);have c:((xs.map (aC.enc .own)).set b [I ((nth xs b).At+n),I (nth xs b).a4])[b]? = some [I ((nth xs b).At+n),I (nth xs b).a4]:=k7 ω;have j:((xs.set b ⟨(nth xs b).At+n,(nth xs b).a4 - n⟩).map (aC.enc .own))[b]? = some [I ((nth xs b).At+n),I ((nth xs b).a4 - n)]:=by rw[zY];exact k7 ω
 have o:∀t:List C,t.set 0 (.s .own (((xs.map (aC.enc .own)).set b [I ((nth xs b).At+n),I (nth xs b).a4]).set b [I ((nth xs b).At+n),I ((nth xs b).a4 - n)]))=t.set 0 (.s .own ((xs.set b ⟨(nth xs b).At+n,(nth xs b).a4 - n⟩).map (aC.enc .own))):=λt=>by rw[zY,List.set_set]
 have q:=BA (xs.set b ⟨(nth xs b).At+n,(nth xs b).a4 - n⟩) b (by rw[U1];omega);rw[MD]at q;by_cases H:(nth xs b).a4=n
 ·rw[CA H]
  generalize dele xs b=J at q |-;cases J with
  | nil=>
   repeat'(first|refine gB ?_|(conv=>whnf);first|with_reducible (first|refine CB (aa a) ?_|refine Bf.D (λh=>?_) (λh=>?_))|refine CB c ?_|refine CB j ?_|refine CE rfl (aa a) rfl ?_|refine CE rfl c rfl ?_|refine CE rfl j rfl ?_|refine CN rfl rfl (aa a) rfl (I1 rfl) rfl ?_|refine CN rfl rfl c rfl (I1 rfl) (o _).symm ?_|refine CF (q) (.inl rfl) ?_)
   rfl
  | cons y J=>
   repeat'(first|refine gB ?_|(conv=>whnf);first|with_reducible (first|refine CB (aa a) ?_|refine Bf.D (λh=>?_) (λh=>?_))|refine CB c ?_|refine CB j ?_|refine CE rfl (aa a) rfl ?_|refine CE rfl c rfl ?_|refine CE rfl j rfl ?_|refine CN rfl rfl (aa a) rfl (I1 rfl) rfl ?_|refine CN rfl rfl c rfl (I1 rfl) (o _).symm ?_|refine CF (q) (.inl rfl) ?_)
   rfl
 rw[C8 H]
 repeat'(first|refine gB ?_|(conv=>whnf);first|with_reducible (first|refine CB (aa a) ?_|refine Bf.D (λh=>?_) (λh=>?_))|refine CB c ?_|refine CB j ?_|refine CE rfl (aa a) rfl ?_|refine CE rfl c rfl ?_|refine CE rfl j rfl ?_|refine CN rfl rfl (aa a) rfl (I1 rfl) rfl ?_|refine CN rfl rfl c rfl (I1 rfl) (o _).symm ?_)
 rw[CA rfl,n9 (by rw[Ne,List.map_eq_nil_iff,<-List.length_eq_zero_iff,U1];omega)]
 rfl
variable{P:Program}
def dR(w:World)(dT sT ty elem:TypeId)(k b o dLen dCap:Nat)(a:Addr)(sLen sCap n:Nat)(cs:List Value)(h:P.underlying dT=some (.slice elem))(g:(P.info? elem).map (·.size)=some k)(l:Nat.min sLen dLen=n)(p:cs.length=n*k)(c:∀j v,cs[j]? = some v->w.cell? (a.add j)=some v)(q:∀j,j<cs.length->(w.cell? ⟨b,o+j,none⟩).isSome=true)(r:∀j,j<cs.length->w.frozen? ⟨b,o+j,none⟩ = false)(h1:∀v∈cs,v.oneCell'=true) :
  (Builtin.copy_ #[dT,sT] ty #[.slice (some ⟨b,o,none⟩) dLen dCap,.slice (some a) sLen sCap]).run P w=.ok (goInt n) (w.setCells b o cs):=by
 have d:=run_loadCells_list (P:=P) w a cs c;have e:=run_storeCells_cells (P:=P) b o cs 0 w (by simpa using q) (by simpa using r) h1;rw[p]at d;cases f:P.info? elem with
 | none=>simp[f]at g
 | some i=>
  have t:i.size=k:=by simpa[f] using g
  simp[Builtin.copy_,run_underlying h,Builtin.lenOf,Builtin.firstCells,sizeOf,typeInfo,f,t,l,d,e]
variable{Q:Exit->Act->World->Prop}{ops:Array Oper}
def dD(w:World){rest:List Oper}{o:Oper}{a:Act}(b:o.guard=none)(d s:Operand)(t c:TypeId)(g:o.op=.call {callee:=.builtin .copy,args:=#[d,s],argTypes:=#[t,c]})(v u:Value)(i:a.eval d=v)(j:a.eval s=u){e:Value}{f:World}(k:(Builtin.copy_ #[t,c] o.type #[v,u]).run P w=.ok e f)(h:wpList P ops Q rest (a.put o.dst e) f):wpList P ops Q (o::rest) a w:=by
 refine wpList_plain b λ_ l=>?_
 unfold Oper.wp execOp;simp only[g,resolve,invoke,builtin,Sem.run_bind,Sem.run_pure,Result.andThen_ok,List.map_toArray,I5,List.map_nil,i,j,k];exact l _ _ h
variable{w:World}
def im{o:Oper}{a:Act}{K:Act->World->Prop}{E:Prop}(f:o.guard=none)(d x:Operand)(dT sT:TypeId)(b:o.op=Op.call {callee:=Callee.builtin Builtin.copy,args:=#[d,x],argTypes:=#[dT,sT]})(v u:Value)(g:a.eval d=v)(h:a.eval x=u){c:Value}{e:World}(i:(Builtin.copy_ #[dT,sT] o.type #[v,u]).run P w=.ok c e)(j:K (a.put o.dst c) e) :
  if Region.wanted o (yielded ops a.tmps)=true then Oper.wp P o a w K Q else E:=by
 have k:Region.wanted o (yielded ops a.tmps)=true:=by simp[Region.wanted,f]
 rw[CA k];unfold Oper.wp;simp[execOp,b,resolve,invoke,builtin,g,h,i,Result.andThen];exact j
def vA(b:Nat):∀(vs:List Value)(o:Nat)(w:World),(w.setCells b o vs).drew=w.drew.setCells b o vs
 | [],_,_=>rfl
 | v::r,o,w=>by rw[World.setCells,World.setCells,vA b r];rfl
def kL(b:Nat)(vs:List Value)(o:Nat)(w:World)(h:∀j,j<vs.length->(w.cell? ⟨b,o+j,none⟩).isSome=true)(q:Nat)(a:(w.cell? ⟨b,q,none⟩).isSome=true):((w.setCells b o vs).cell? ⟨b,q,none⟩).isSome=true:=by
 by_cases c:o<=q/\q<o+vs.length
 ·have:=World.cell?_setCells_in b vs o w h (q - o) ω
  rw[show o+(q - o)=q by omega]at this;rw[this];rfl
 rw[World.cell?_setCells_out b vs o w ⟨b,q,none⟩ (λ_ _=>by show q<o\/o+vs.length<=q;omega)];exact a
variable{g:Nat}
def FD{z:Value}(a:cel w g 0=some z)(d:fro w g 0=NF):∃t k,w.shape? g=some (t,k)/\k≠0/\w.frozen? ⟨g,0,none⟩ = false/\w.frozen? ⟨g,k,none⟩ = false:=by
 have f:=X0 Prod.fst d;have b:=X0 Prod.snd d;simp only[fro]at f b;unfold mp at b;unfold cel World.cell? at a;unfold World.shape?;simp only at a;cases e:w.heap[g]? with
 | none=>rw[e]at a;cases a
 | some x=>
  rw[e]at a b;cases x with
  | cells c t i=>
   obtain⟨j,l⟩:=i;simp only[Option.isSome_none,Bool.false_eq_true,if_false]at a;have o:0<c.size:=by
    rcases Nat.eq_zero_or_pos c.size with h|h
    ·rw[Array.getElem?_eq_none ω]at a;cases a
    exact h
   refine⟨t,c.size,rfl,ω,f,?_⟩;unfold World.frozen?;simp only[e];simp only at b;split at b
   ·cases b
   rename_i n;have:¬(j<=c.size/\c.size<l):=n;simp only[Bool.and_eq_false_imp,C0,S4];omega
  | _=>cases a
variable{e k:Nat}
def og{tS tR a b:Nat}{z h:Value}(i:P.underlying tS=some (.slice e))(j:∀w,(Go.sizeOf e).run P w=.ok k w)(c:a≠b)(h1:cel w a 0=some z)(l:fro w a 0=NF)(n:cel w b 0=some h)(o:fro w b 0=NF)(x la d f g:Nat) :
  (Extern.SlicesOverlaps.overlaps #[tS,tS] #[tR] #[.slice (some ⟨a,0,none⟩) la d,.slice (some ⟨b,x,none⟩) f g]).run P w=.ok (.bool false) w:=by
 obtain⟨tA,kA,p,y,q,r⟩:=FD h1 l;obtain⟨tB,kB,t,u,-,-⟩:=FD n o;exact Lib.run_overlaps_apart w tS tR e i k j ⟨a,0,none⟩ ⟨b,x,none⟩ la d f g c tA tB kA kB p t u q r
structure xc(w w':World)(g G k n c c' i:Nat)(olds vs:List Value):Prop where
 keep:bw (λb o=>b=g/\o<c*k) w w'
 cel:∀q u,(olds.take (i*k)++vs++olds.drop (i*k))[q]? = some u->cel w' G q=some u
 all:∀q,q<c'*k->(∃z,Ab.cel w' G q=some z/\z.oneCell'=true)/\fro w' G q=NF
 at_:(G=g/\c'=c)\/(w.heap.size<=G/\G<w'.heap.size)
variable{i n:Nat}{olds vs:List Value}
def EU{q:Nat}{u:Value}(j:i<n)(d:olds.length=n*k)(b:vs.length=k)(h:(olds.take (i*k)++vs++olds.drop (i*k))[q]? = some u) :
  q<(n+1)*k/\((q<i*k/\olds[q]? = some u)\/(i*k<=q/\q<i*k+k/\vs[q - i*k]? = some u)\/(i*k+k<=q/\(olds.drop (i*k))[q - (i*k+k)]? = some u)):=by
 have e:i*k<=n*k:=O6 k ω;have l:(n+1)*k=n*k+k:=by rw[Nat.add_mul,Nat.one_mul]
 have a:(olds.take (i*k)).length=i*k:=by rw[V1];omega
 have f:=(U2.1 h).1;simp only[O3,a,b,T3,d]at f;refine⟨ω,?_⟩;by_cases c:q<i*k
 ·rw[v5,I4 ω,List.getElem?_take,CA c]at h
  exact .inl ⟨c,h⟩
 by_cases g:q<i*k+k
 ·rw[I4 (by rw[O3];omega),O4 ω,a]at h
  exact .inr (.inl ⟨ω,g,h⟩)
 rw[O4 (by rw[O3];omega),O3,a,b]at h;exact .inr (.inr ⟨ω,h⟩)
variable{c:Nat}
def oc(B:i<n)(C:n+1<=c)(y:olds.length=n*k)(D:vs.length=k)(E:∀t u,olds[t]? = some u->cel w g t=some u)(h1:∀u∈olds,u.oneCell'=true)(F:∀u∈vs,u.oneCell'=true)(a:∀q,q<c*k->(∃z,cel w g q=some z/\z.oneCell'=true)/\fro w g q=NF) :
  xc w ((w.drew.setCells g ((i+1)*k) (olds.drop (i*k))).setCells g (i*k) vs) g g k n c c i olds vs:=by
 have G:i*k<=n*k:=O6 k ω;have H:(n+1)*k<=c*k:=O6 k C;have N:(n+1)*k=n*k+k:=by rw[Nat.add_mul,Nat.one_mul]
 have O:(i+1)*k=i*k+k:=by rw[Nat.add_mul,Nat.one_mul]
 have J:(olds.drop (i*k)).length=n*k - i*k:=by rw[T3,y]
 have P:∀b q,cel w.drew b q=cel w b q:=λ_ _=>rfl
 have in1:∀j,j<(olds.drop (i*k)).length->∃z,cel w.drew g ((i+1)*k+j)=some z:=λj p=>by
  obtain⟨⟨z,r,-⟩,-⟩:=a ((i+1)*k+j) ω;exact⟨z,r⟩
 have all1:∀q,q<c*k->∃z,cel (w.drew.setCells g ((i+1)*k) (olds.drop (i*k))) g q=some z/\z.oneCell'=true:=λq e=>by
  by_cases h:(i+1)*k<=q/\q<(i+1)*k+(olds.drop (i*k)).length
  ·obtain⟨u,f⟩ : ∃u,(olds.drop (i*k))[q - (i+1)*k]? = some u:=⟨_,O2 ω⟩
   have d:=bk in1 f;rw[show(i+1)*k+(q - (i+1)*k)=q by omega]at d;exact⟨u,d,h1 u (List.mem_of_mem_drop (C2 f))⟩
  rw[aT (λx=>h x.2)];exact(a q e).1
 have in2:∀j,j<vs.length->∃z,cel (w.drew.setCells g ((i+1)*k) (olds.drop (i*k))) g (i*k+j)=some z:=λj p=>by
  obtain⟨z,r,-⟩:=all1 (i*k+j) ω;exact⟨z,r⟩
 refine⟨?_,λq u e=>?_,λq e=>⟨?_,by rw[bG,bG];exact(a q e).2⟩,.inl ⟨rfl,rfl⟩⟩
 ·have K:=dJ (g:=g) (X:=λb o=>b=g/\o<c*k) (olds.drop (i*k)) ((i+1)*k) w.drew λj p=>⟨rfl,ω⟩
  have L:=dJ (g:=g) (X:=λb o=>b=g/\o<c*k) vs (i*k) (w.drew.setCells g ((i+1)*k) (olds.drop (i*k))) λj p=>⟨rfl,ω⟩
  exact((xq w).up λ_ _ h=>h.elim).trans (K.trans L λ_ _ h=>.inr h) λ_ _ h=>.inr h
 ·obtain⟨-,⟨A,l⟩|⟨A,l,M⟩|⟨A,l⟩⟩:=EU B y D e
  ·rw[aT ω,aT ω];exact E q u l
  ·have d:=bk in2 M
   rwa [show i*k+(q - i*k)=q by omega]at d
  rw[aT ω];have d:=bk in1 l;rw[show(i+1)*k+(q - (i*k+k))=q by omega]at d;exact d
 by_cases h:i*k<=q/\q<i*k+vs.length
 ·obtain⟨u,f⟩ : ∃u,vs[q - i*k]? = some u:=⟨_,O2 ω⟩
  have d:=bk in2 f;rw[show i*k+(q - i*k)=q by omega]at d;exact⟨u,d,F u (C2 f)⟩
 rw[aT (λx=>h x.2)];exact all1 q e
def qv{a:World}{G:Nat}{Z:Array Value}(y:a.heap=(w.alloc (.cells ((olds.take (i*k)).toArray++Builtin.zeroCells Z (n+1 - i)++Builtin.zeroCells Z (G - (n+1))) e)).heap)(Q:a.os=w.os)(R:a.tape=w.tape)(S:a.output=w.output)(hi:i<n)(hG:n+1<=G)(hZ:Z.size=k)(T:∀v∈Z.toList,v.oneCell'=true)(U:olds.length=n*k)(d:vs.length=k)(h1:∀u∈olds,u.oneCell'=true)(h2:∀u∈vs,u.oneCell'=true) :
  xc w ((a.setCells w.heap.size (i*k) vs).setCells w.heap.size ((i+1)*k) (olds.drop (i*k))) g w.heap.size k n c G i olds vs:=by
 have V:i*k<=n*k:=O6 k ω;have hGk:(n+1)*k<=G*k:=O6 k hG;have e1:(n+1)*k=n*k+k:=by rw[Nat.add_mul,Nat.one_mul]
 have e2:(i+1)*k=i*k+k:=by rw[Nat.add_mul,Nat.one_mul]
 have hdl:(olds.drop (i*k)).length=n*k - i*k:=by rw[T3,U]
 generalize hcells:(olds.take (i*k)).toArray++Builtin.zeroCells Z (n+1 - i)++Builtin.zeroCells Z (G - (n+1))=cells at y;have C:∀b q,cel a b q=cel (w.alloc (.cells cells e)) b q:=λb q=>by unfold cel World.cell?;rw[y]
 have D:∀b q,fro a b q=fro (w.alloc (.cells cells e)) b q:=λb q=>by unfold fro World.frozen? mp;rw[y]
 have hsz:cells.size=G*k:=by
  rw[<-hcells];simp only[Array.size_append,List.size_toArray,V1,size_zeroCells,hZ,U,Nat.min_eq_left V];rw[<-Nat.add_mul,<-Nat.add_mul]
  congr 1;omega
 have E:∀v∈cells.toList,v.oneCell'=true:=by
  have F:∀m,∀v∈(Builtin.zeroCells Z m).toList,v.oneCell'=true:=λm v d=>by
   rw[Array.mem_toList_iff]at d;simp only[Builtin.zeroCells,Array.mem_map,Array.mem_range]at d;obtain⟨j,A,rfl⟩:=d;have B:0<Z.size:=by rcases Nat.eq_zero_or_pos Z.size with h|h;rw[h]at A;simp at A;exact h
   have H:j % Z.size<Z.size:=Nat.mod_lt _ B;rw[getElem!_pos Z (j % Z.size) H];exact T _ (Array.mem_toList_iff.2 (Array.getElem_mem H))
  intro v d;rw[<-hcells]at d;simp only[Array.toList_append,z3]at d;rcases d with(d|d)|d
  ·exact h1 v (List.mem_of_mem_take d)
  ·exact F _ v d
  exact F _ v d
 have l:∀q,cel a w.heap.size q=cells[q]?:=λq=>(C _ _).trans (gH w cells e q)
 have J:∀q,q<G*k->∃z,cel a w.heap.size q=some z/\z.oneCell'=true:=λq p=>by
  have K:q<cells.size:=ω
  exact⟨cells[q],by rw[l,U5 K],E _ (Array.mem_toList_iff.2 (Array.getElem_mem K))⟩
 have r:∀q u,q<i*k->olds[q]? = some u->cells[q]? = some u:=λq u p t=>by
  rw[<-hcells,Array.append_assoc,Array.getElem?_append_left (by simp;omega)];simp[p,t]
 have L:∀q,fro a w.heap.size q=NF:=λq=>(D _ _).trans (gM w cells e q)
 have hK:bw NO w a:=by
  have B:bw NO w (w.alloc (.cells cells e)):=cI w _;exact⟨Q,R,S,by rw[y];exact B.size,λb M N=>by rw[y];exact B.blk b M N,λb o M N=>(C b o).trans (B.cel b o M N),λb o M N=>(D b o).trans (B.fro b o M N)⟩
 have hS:a.heap.size=w.heap.size+1:=by rw[y];exact jr w _
 have k1:=dJ (g:=w.heap.size) (X:=λb o=>b=w.heap.size) vs (i*k) a λj A=>rfl
 have k2:=dJ (g:=w.heap.size) (X:=λb o=>b=w.heap.size) (olds.drop (i*k)) ((i+1)*k) (a.setCells w.heap.size (i*k) vs) λj A=>rfl
 have in1:∀j,j<vs.length->∃z,cel a w.heap.size (i*k+j)=some z:=λj A=>by
  obtain⟨z,W,-⟩:=J (i*k+j) ω;exact⟨z,W⟩
 have all1:∀q,q<G*k->∃z,cel (a.setCells w.heap.size (i*k) vs) w.heap.size q=some z/\z.oneCell'=true:=λq p=>by
  by_cases h:i*k<=q/\q<i*k+vs.length
  ·obtain⟨u,t⟩ : ∃u,vs[q - i*k]? = some u:=⟨_,O2 ω⟩
   have f:=bk in1 t;rw[show i*k+(q - i*k)=q by omega]at f;exact⟨u,f,h2 u (C2 t)⟩
  rw[aT (λx=>h x.2)];exact J q p
 have in2:∀j,j<(olds.drop (i*k)).length->∃z,cel (a.setCells w.heap.size (i*k) vs) w.heap.size ((i+1)*k+j)=some z:=λj A=>by
  obtain⟨z,W,-⟩:=all1 ((i+1)*k+j) ω;exact⟨z,W⟩
 have O:w.heap.size<((a.setCells w.heap.size (i*k) vs).setCells w.heap.size ((i+1)*k) (olds.drop (i*k))).heap.size:=by
  have:=k1.size;have:=k2.size;omega
 refine⟨?_,λq u p=>?_,λq p=>⟨?_,by rw[bG,bG];exact L q⟩,.inr ⟨C3 _,O⟩⟩
 ·exact(hK.up λ_ _ h=>h.elim).trans (k1.trans k2 λ_ _ h=>.inr h) λ_ _ h=>.inl (by rw[h];exact C3 _)
 ·obtain⟨-,⟨Y,P⟩|⟨Y,P,a3⟩|⟨Y,P⟩⟩:=EU hi U d p
  ·rw[aT ω,aT ω,l];exact r q u Y P
  ·rw[aT ω]
   have f:=bk in1 a3
   rwa [show i*k+(q - i*k)=q by omega]at f
  have f:=bk in2 P;rw[show(i+1)*k+(q - (i*k+k))=q by omega]at f;exact f
 by_cases h:(i+1)*k<=q/\q<(i+1)*k+(olds.drop (i*k)).length
 ·obtain⟨u,t⟩ : ∃u,(olds.drop (i*k))[q - (i+1)*k]? = some u:=⟨_,O2 ω⟩
  have f:=bk in2 t;rw[show(i+1)*k+(q - (i+1)*k)=q by omega]at f;exact⟨u,f,h1 u (List.mem_of_mem_drop (C2 t))⟩
 rw[aT (λx=>h x.2)];exact all1 q p
structure D1(P:Program)(f k T b:Nat):Prop where
 has:Hx P f
 end_:∀(w w1:World)(base:Option Addr)(n c vb m vc:Nat)(r:Value),m=1->n<=c->n<=1073741824->(base=none->n=0/\c=0)->(Builtin.append_ #[T,T] T #[.slice base n c,.slice (some ⟨vb,0,none⟩) m vc]).run P w=.ok r w1->
  Calls P f #[.slice base n c,.int .i64 n,.slice (some ⟨vb,0,none⟩) m vc] w λe w'=>e=.returned r/\w'=w1
 mid:∀(w:World)(g n c i vb m vc:Nat)(olds vs:List Value),m=1->i<n->n<=c->n<=1073741824->b<=1000->olds.length=n*k->vs.length=k->(∀t u,olds[t]? = some u->cel w g t=some u)->(∀t u,vs[t]? = some u->cel w vb t=some u)->
  (∀u∈olds,u.oneCell'=true)->(∀u∈vs,u.oneCell'=true)->(∀q,q<c*k->(∃z,cel w g q=some z/\z.oneCell'=true)/\fro w g q=NF)->fro w vb 0=NF->vb≠g->
  Calls P f #[.slice (some ⟨g,0,none⟩) n c,.int .i64 i,.slice (some ⟨vb,0,none⟩) m vc] w λe w'=>∃G c',e=.returned (.slice (some ⟨G,0,none⟩) (n+1) c')/\n+1<=c'/\xc w w' g G k n c c' i olds vs
def inse(xs:List α)(i:Nat)(y:α):List α:=xs.take i++y::xs.drop i
def DL(xs:List α)(i:Nat)(y:α):(inse xs i y).length=xs.length+1:=by
 unfold inse;rw[O3,List.length_cons,V1,T3];omega
def xA{xs:List α}{y z:α}(h:z∈inse xs i y):z=y\/z∈xs:=by
 unfold inse at h;rcases z3.1 h with h|h
 ·exact .inr (List.mem_of_mem_take h)
 rcases List.mem_cons.1 h with h|h
 ·exact .inl h
 exact .inr (List.mem_of_mem_drop h)
def xT{β:Type}(e:α->β)(xs:List α)(i:Nat)(y:α):inse (xs.map e) i (e y)=(inse xs i y).map e:=by
 unfold inse;simp only[z5,I5,t4,v4]
variable{row:List C}{rows:List (List C)}
def MQ{a b:Nat}{r:List C}{c:C}(g:i<=rows.length)(A:olds.length=rows.length*k)(n:vs.length=k)(o:b<k)(j:∀(a b:Nat)(r:List C)(c:C),rows[a]? = some r->r[b]? = some c->∃z,c=C.v z/\olds[a*k+b]? = some z)(p:∀(b:Nat)(c:C),row[b]? = some c->∃z,c=C.v z/\vs[b]? = some z)(h1:(inse rows i row)[a]? = some r)(e:r[b]? = some c):∃z,c=.v z/\(olds.take (i*k)++vs++olds.drop (i*k))[a*k+b]? = some z:=by
 have q:i*k<=rows.length*k:=O6 k g;have l:(olds.take (i*k)).length=i*k:=by rw[V1];omega
 unfold inse at h1;by_cases h:a<i
 ·rw[I4 (by rw[V1];omega),List.getElem?_take,CA h]at h1
  obtain⟨z,rfl,d⟩:=j a b r c h1 e;have f:a*k+b<i*k:=d9 h o;exact⟨z,rfl,by rw[v5,I4 ω,List.getElem?_take,CA f];exact d⟩
 rw[O4 (by rw[V1];omega),V1,Nat.min_eq_left g]at h1;have t:i*k<=a*k:=O6 k ω;by_cases u:a=i
 ·subst u
  simp only[Nat.sub_self,List.getElem?_cons_zero,Z0]at h1;subst h1;obtain⟨z,rfl,d⟩:=p b c e;exact⟨z,rfl,by rw[I4 (by rw[O3];omega),O4 ω,l,show a*k+b - a*k=b by omega];exact d⟩
 obtain⟨m,rfl⟩ : ∃m,a=i+(m+1):=⟨a - i - 1,ω⟩
 rw[show i+(m+1) - i=m+1 by omega,List.getElem?_cons_succ,List.getElem?_drop]at h1;obtain⟨z,rfl,d⟩:=j (i+m) b r c h1 e;have w:(i+(m+1))*k=i*k+k+m*k:=by rw[<-Nat.add_assoc,Nat.add_mul,Nat.add_mul,Nat.one_mul];omega
 have y:(i+m)*k=i*k+m*k:=Nat.add_mul ..;refine⟨z,rfl,?_⟩;rw[O4 (by rw[O3];omega),O3,l,n,List.getElem?_drop,w,show i*k+(i*k+k+m*k+b - (i*k+k))=i*k+m*k+b by omega,<-y];exact d
def RF(h:QB rows):NL rows:=by
 have b:∀r:List C,(∀c∈r,∃z,c=C.v z)->g9 r:=by
  intro r
  induction r with
  | nil=>exact λ_=>trivial
  | cons c r a=>intro h;obtain⟨z,rfl⟩:=h c (by simp);exact⟨trivial,a λc d=>h c (by simp[d])⟩
 induction rows with
 | nil=>exact trivial
 | cons r f a=>exact⟨b r (h r (by simp)),a λr e=>h r (by simp[e])⟩
variable{f:Nat}
def GG{T:Nat}{d:TypeInfo}{z0:Value}(ht:P.underlying T=some (.slice e))(hi0:P.info? e=some d)(hk0:d.size=k)(hz:d.zero=some z0)(hzs:z0.cells.size=d.size)(hz1:∀x∈z0.cells.toList,x.oneCell'=true)(hby:d.bytes<=1000)(hf:D1 P f k T d.bytes)(hi:i<=rows.length)(hk:∀r∈rows,r.length=k)(hr:row.length=k)(hpk:0<k)(hsc:QB rows)(hsr:QB [row])(hlen:rows.length+1<=1073741824) :
  bf P f false [.mut none [.s .own rows],.val none [I (i:Nat)],.mut none [.s .own [row]]] [.mut none [.x],.val none [I (i:Nat)],.mut none [.x]] .one [.s .own (inse rows i row)]:=by
 subst hk0;refine⟨hf.has,λw S V vs hS hV hVV R=>?_⟩
 match vs,R with
 | [v,v1,v2],⟨R,hA1,hA2,_⟩=>
  have E:=bv.rep1 (show bv w S (V 0) none [C.s .own rows] v from R);have e1:v1=.int .i64 (i:Nat):=by
   have:=bv.rep1 (show bv w S NO none [C.v (.int .i64 (i:Nat))] v1 from hA1);cases this;rfl
  have N:=bv.rep1 (show bv w S (V 2) none [C.s .own [row]] v2 from hA2);subst e1;have hk2:∀r∈[row],r.length=d.size:=λr H=>by simp only[O1]at H;subst H;exact hr
  have hsc':QB (inse rows i row):=λr H=>(xA H).elim (λh=>hsr r (by simp[h])) (hsc r)
  have O:∀(w1:World)(vv:Value)(X:af),bw (λb o=>∃i,V i b o) w w1->(∀b o,X b o->V 0 b o\/V 2 b o\/(w.heap.size<=b/\b<w1.heap.size))->dw w1 S X (.s .own (inse rows i row)) vv->
    ∃v',Ending.returned vv=Ending.returned v'/\bw (λb o=>∃i,V i b o) w w1/\∃(X:af)(V':Nat->af)(S1:af),
   (∀b o,X b o->(∃i,V i b o)\/(b<w1.heap.size/\w.heap.size<=b))/\(∀i b o,V' i b o->(∃i,V i b o)\/(b<w1.heap.size/\w.heap.size<=b))/\
   (∀b o,S1 b o->(false=true/\S b o)\/(∃i,V i b o)\/(b<w1.heap.size/\w.heap.size<=b))/\
   (∀i i',i≠i'->∀b o,V' i b o->¬V' i' b o)/\(∀i b o,X b o->¬V' i b o)/\(∀b o,X b o->¬S1 b o)/\(∀i b o,V' i b o->¬S1 b o)/\
   fg w1 NO .one 1 v'/\cC w1 S1 X [.s .own (inse rows i row)] (cg w1 .one v')/\AZ w1 (λb o=>S b o\/S1 b o) V' [.mut none [.x],.val none [I (i:Nat)],.mut none [.x]] [v,.int .i64 (i:Nat),v2]:=by
   intro w1 vv X D hX hR;have hfr:Qu (.s .own (inse rows i row)):=by simp only[Qu];exact⟨.inl (by simp),RF hsc'⟩
   exact⟨_,rfl,D,X,λ_=>NO,NO,λb o h=>by
       rcases hX b o h with h|h|h
       · exact .inl ⟨0,h⟩
       · exact .inl ⟨2,h⟩
       · exact .inr ⟨h.2,h.1⟩,λ_ _ _ h=>h.elim,λ_ _ h=>h.elim,λ_ _ _ _ _ h=>h.elim,λ_ _ _ _ h=>h.elim,λ_ _ _ h=>h.elim,λ_ _ _ h=>h.elim,rfl,row1 (hR.fresh hfr),
       ⟨⟨rfl,λ_=>v,rfl,row1 (.x _ _ E.one)⟩,trivial,⟨rfl,λ_=>v2,rfl,row1 (.x _ _ N.one)⟩,trivial⟩⟩
  rcases N.els (by simp) hk2 with⟨h,-⟩|⟨vb,vc,u2,f2,rfl,-,hvc,hcell2,hu2,J⟩
  ·cases h
  simp only[List.length_singleton,Nat.one_mul]at hvc hu2;by_cases Y:i=rows.length
  ·have hreads:nz w (some ⟨vb,0,none⟩) ([row].length*d.size) ((List.range ([row].length*d.size)).map u2):=by
    refine⟨by simp,λh=>(by cases h),λad j u had l=>?_⟩;cases had;rw[Addr.add_lit,Z5];rw[I3]at l;cases L:(List.range ([row].length*d.size))[j]? with
    | none=>rw[L]at l;cases l
    | some j'=>
     obtain⟨U,a2⟩:=U2.1 L;simp only[List.length_singleton,Nat.one_mul,List.length_range,List.getElem_range]at U a2;subst a2;rw[L]at l;simp only[X4,Z0]at l;subst l;exact hu2 j U
   obtain⟨v',w1,hrun,hk1,hR⟩:=qy (P:=P) (ty:=T) ht hi0 hz hzs hz1 E hk (V:=V 2) (xr:=[row]) (u2:=u2) (f2:=f2) ⟨J.hk,λq L b o h=>(J.hf q L b o h).1,J.hd,J.hc⟩ (b:=some ⟨vb,0,none⟩) (c:=vc)
    hreads
    (λb o h h'=>hVV 0 2 (by decide) b o h h') (λb o h=>(hV 0 b o h).2) (λb o h=>(hV 0 b o h).1) (λb o h=>(hV 2 b o h).1) hS (by simp;omega) (by
      have:(rows.length+[row].length)*d.bytes<=1073741824*1000:=Nat.mul_le_mul (by simpa using hlen) hby;omega)
   have hins:inse rows i row=rows++[row]:=by unfold inse;rw[Y,W4,List.drop_length]
   rw[<-hins]at hR;have hfin:∀(base:Option Addr)(c:Nat),v=.slice base rows.length c->rows.length<=c->(base=none->rows.length=0/\c=0)->Calls P f #[v,.int .i64 (i:Nat),.slice (some ⟨vb,0,none⟩) 1 vc] w λe W=>e=.returned v'/\W=w1:=λbase c hv hc hb=>by
    subst hv;rw[Y];exact hf.end_ w w1 base rows.length c vb 1 vc v' rfl hc ω hb hrun
   have hgo:Calls P f #[v,.int .i64 (i:Nat),.slice (some ⟨vb,0,none⟩) 1 vc] w λe W=>e=.returned v'/\W=w1:=by
    rcases E.els (by simp) hk with⟨h0,a0,hv⟩|⟨g,Z,u,f',hv,hpos,F,-⟩
    ·exact hfin a0 0 (by rw[hv,h0];rfl) (by rw[h0];exact C3 0) λ_=>⟨by rw[h0];rfl,rfl⟩
    exact hfin _ Z hv F λh=>by cases h
   refine hgo.mono λe W ⟨he,hw⟩=>?_
   subst he hw;exact O W v' _ (hk1.up λb o h=>⟨0,h⟩) (λb o h=>h) hR
  rcases E.els (by simp) hk with⟨h0,a0,hv⟩|⟨g,Z,u,f',rfl,hpos,F,p,hu,hE⟩
  ·rw[h0]at hi Y;simp at hi Y;omega
  have hlt:i<rows.length:=ω
  have A:∀(n j:Nat)(y:Value)(uu:Nat->Value),((List.range n).map uu)[j]? = some y->j<n/\y=uu j:=λn j y uu l=>by
   rw[I3]at l;cases hr:(List.range n)[j]? with
   | none=>rw[hr]at l;cases l
   | some j'=>
    obtain⟨h1,M⟩:=U2.1 hr;simp at h1 M;subst M;rw[hr]at l;simp only[X4,Z0]at l;exact⟨h1,l.symm⟩
  have Q:∀(n j:Nat)(uu:Nat->Value),j<n->((List.range n).map uu)[j]? = some (uu j):=λn j uu l=>by
   rw[I3,Y5 l];rfl
  obtain⟨olds,B⟩ : ∃olds,olds=(List.range (rows.length*d.size)).map u:=⟨_,rfl⟩
  obtain⟨vs,hvs⟩ : ∃vs,vs=(List.range d.size).map u2:=⟨_,rfl⟩
  have hol:olds.length=rows.length*d.size:=by rw[B];simp
  have hvl:vs.length=d.size:=by rw[hvs];simp
  have hck:rows.length*d.size<=Z*d.size:=O6 _ F;have hv0:=hcell2 0 (Nat.mul_pos ω hpk);have hg0:=p 0 (Nat.mul_pos ω hpk);have hne:vb≠g:=λh=>by
   subst h;exact hVV 0 2 (by decide) vb 0 hg0.1 hv0.1
  refine(hf.mid w g rows.length Z i vb 1 vc olds vs rfl hlt F ω hby hol hvl (λt y K=>by
      rw[B]at K;obtain⟨U,rfl⟩:=A _ _ _ _ K;exact hu t U) (λt y K=>by
      rw[hvs]at K;obtain⟨U,rfl⟩:=A _ _ _ _ K;exact hu2 t U) (λy K=>by
      rw[B]at K;obtain⟨j,l⟩:=List.getElem?_of_mem K;obtain⟨U,rfl⟩:=A _ _ _ _ l;exact hE.one U) (λy K=>by
      rw[hvs]at K;obtain⟨j,l⟩:=List.getElem?_of_mem K;obtain⟨U,rfl⟩:=A _ _ _ _ l;exact J.one (by simpa using U)) (λq L=>(p q L).2) hv0.2.2 hne).mono λe W ⟨G,c',he,hc',R⟩=>?_
  subst he;have D:bw (λb o=>∃i,V i b o) w W:=R.keep.up λb o ⟨h1,M⟩=>⟨0,by rw[h1];exact(p o M).1⟩
  refine O W _ (λb o=>V 0 b o\/(w.heap.size<=b/\b<W.heap.size)) D (λb o h=>h.elim .inl (λh=>.inr (.inr h))) ?_;refine .own _ .own G d.size (rows.length+1) c' _ (λq=>(cel W G q).getD undef) (λ_=>NO) trivial (DL ..) (λr H=>(xA H).elim (λh=>by rw[h];exact hr) (hk r)) hc' ω (λq L=>⟨?_,R.all q L⟩) (λq L=>?_) (λ_ _ _ _ h=>h.elim) (λ_ _ _ _ _ _ _ h=>h.elim) (λa b r c ha hb=>?_)
  ·rcases R.at_ with⟨rfl,rfl⟩|h
   ·exact .inl (p q L).1
   exact .inr h
  ·obtain⟨z,hz',-⟩:=(R.all q (X3 L (O6 _ hc'))).1
   rw[hz'];rfl
  have hbk:b<d.size:=by
   have:r.length=d.size:=(xA (C2 ha)).elim (λh=>by rw[h];exact hr) (hk r);rw[<-this];exact(U2.1 hb).1
  have hal:=(U2.1 ha).1;rw[DL]at hal;obtain⟨y,rfl,K⟩:=MQ (olds:=olds) (vs:=vs) hi hol hvl hbk (λa b r c h1 M=>by
      obtain⟨y,rfl⟩:=hsc r (C2 h1) c (C2 M);have h3:=hE.hc a b r _ h1 M;have h4:=qo rfl hk h1 M;generalize hyy:u (a*d.size+b)=yy at h3;cases h3;exact⟨_,rfl,by rw[B,Q _ _ _ (d9 h4.1 h4.2),hyy]⟩) (λb c M=>by
      obtain⟨y,rfl⟩:=hsr row (by simp) c (C2 M);have h3:=J.hc 0 b row _ rfl M;simp only[Nat.zero_mul,Z5]at h3;have h4:=(U2.1 M).1;generalize hyy:u2 b=yy at h3;cases h3;exact⟨_,rfl,by rw[hvs,Q _ _ _ ω,hyy]⟩) ha hb
  have hz':=R.cel _ y K;simp only[hz',Option.getD_some];obtain⟨z,h5,h6⟩:=(R.all (a*d.size+b) (X3 (d9 hal hbk) (O6 _ hc'))).1;rw[hz']at h5;cases h5;exact .v _ _ h6
set_option maxRecDepth 100000
def vJ:∃(b:TypeInfo)(c:Value),Tryz.prog.info? 74=some b/\b.size=4/\b.zero=some c/\c.cells.size=4/\(∀v∈c.cells.toList,v.oneCell'=true)/\b.bytes=32:=by
 have h:=(lA 74 _ rfl).1;cases e : Tryz.prog.info? 74 with
 | none=>rw[e]at h;cases h
 | some x=>
  rw[e]at h;simp only[X4,Z0,Prod.mk.injEq]at h;obtain⟨a,g,i⟩:=h;cases d:x.zero with
  | none=>rw[d]at a;cases a
  | some z=>
   rw[d]at a;simp only[X4,Z0]at a;refine⟨x,z,rfl,g,d,?_,λv f=>?_,i⟩
   ·rw[<-Array.length_toList,a];rfl
   rw[a]at f;have j:(List.map cval [I 0,I 0,I 0,I 0]).all (λv=>v.oneCell')=true:=rfl;exact Z3.1 j v f
def GR:∀w,(Go.sizeOf 74).run Tryz.prog w=.ok 4 w:=λ_=>by kernel_rfl
def FX(w w1:World)(base:Option Addr)(n c d m g:Nat)(r:Value)(i:m=1)(j:n<=c)(h:n<=1073741824)(k:base=none->n=0/\c=0)(b:(Builtin.append_ #[39,39] 39 #[.slice base n c,.slice (some ⟨d,0,none⟩) m g]).run Tryz.prog w=.ok r w1) :
  Calls Tryz.prog 67 #[.slice base n c,.int .i64 n,.slice (some ⟨d,0,none⟩) m g] w λe l=>e=.returned r/\l=w1:=by
 have mixed : Tryz.prog.follows .mixedOrders=true:=by kernel_rfl
 have o:0<m:=ω
 have p:m<=1:=ω
 clear i;have q:¬((m:Int)=0):=ω
 go_enter Tryz.func67,Tryz.ntmps67
 cases base with
 | none=>
  obtain⟨rfl,rfl⟩:=k rfl
  go_wp2_with (at_builtin;refine Lib.wpList_append_run _ rfl _ _ _ _ rfl _ _ rfl rfl _ _ b ?_)
  go_ret
  exact⟨rfl,rfl⟩
 | some a=>
  obtain⟨u,y,asp⟩:=a
  go_wp2_with (at_builtin;refine Lib.wpList_append_run _ rfl _ _ _ _ rfl _ _ rfl rfl _ _ b ?_)
  all_goals(go_ret;exact⟨rfl,rfl⟩)
def Dw(w:World)(g n c i p m C:Nat)(olds vs:List Value)(Z:m=1)(hi:i<n)(X:n<=1073741824)(M:n+m<=c)(N:olds.length=n*4)(D:vs.length=4)(ho:∀t u,olds[t]? = some u->cel w g t=some u)(L:∀t u,vs[t]? = some u->cel w p t=some u)(h1:∀u∈olds,u.oneCell'=true)(h2:∀u∈vs,u.oneCell'=true)(b:∀q,q<c*4->(∃z,cel w g q=some z/\z.oneCell'=true)/\fro w g q=NF)(O:fro w p 0=NF)(E:p≠g) :
  Calls Tryz.prog 67 #[.slice (some ⟨g,0,none⟩) n c,.int .i64 i,.slice (some ⟨p,0,none⟩) m C] w λe w'=>e=.returned (.slice (some ⟨g,0,none⟩) (n+m) c)/\w'=(w.drew.setCells g ((i+m)*4) (olds.drop (i*4))).setCells g (i*4) vs:=by
 have mixed : Tryz.prog.follows .mixedOrders=true:=by kernel_rfl
 have hm1:0<m:=ω
 have hm2:m<=1:=ω
 clear Z;have hz1:¬((m:Int)=0):=ω
 have hz2:¬((i:Int)=(n:Int)):=ω
 have hz3:¬((c:Int)<(n:Int)+(m:Int)):=ω
 have F:(Tryz.prog.info? 74).map (·.size)=some 4:=by obtain⟨i0,z0,e1,e2,-⟩:=vJ;rw[e1];simp[e2]
 have cell:∀q,q<(n+m)*4->(w.cell? ⟨g,q,none⟩).isSome=true/\w.frozen? ⟨g,q,none⟩ = false:=λq Y=>by
  obtain⟨⟨z,hz,-⟩,hf⟩:=b q ω;exact⟨by show(cel w g q).isSome=true;rw[hz];rfl,X0 Prod.fst hf⟩
 have P:∀Q R,(callFunc 193 #[.slice (some ⟨p,0,none⟩) m C,.slice (some ⟨g,(i+m)*4,none⟩) Q R]).run Tryz.prog w=.ok (.value (.bool false)) w:=λQ R=>by
  obtain⟨y,hy⟩ : ∃y,vs[0]? = some y:=⟨_,O2 ω⟩
  obtain⟨⟨y',S,-⟩,T⟩:=b 0 ω;rw[run_callFunc_extern Tryz.func193 (by kernel_rfl) (by kernel_rfl) (by kernel_rfl) (e:=Extern.SlicesOverlaps.overlaps #[39,39] #[4]) (by kernel_rfl),
    og (e:=74) (k:=4) Tryz.underlying39 GR E (L 0 y hy) O S T _ m C Q R]
  rfl
 have l:(olds.drop (i*4)).length=(n - i)*4:=by rw[T3,N];omega
 have hw1:IntKind.i64.wrap ((i:Int)+(m:Int))=(i:Int)+(m:Int):=by rw[IntKind.wrap_i64];omega
 have hw2:IntKind.i64.wrap ((n:Int)+(m:Int))=(n:Int)+(m:Int):=by rw[IntKind.wrap_i64];omega
 have hb1:(0:Int)<=(i:Int)+(m:Int):=ω
 have hin:i<=n:=ω
 have htn:((i:Int)+(m:Int)).toNat=i+m:=ω
 have hb2:¬(c=i+m):=ω
 have hb3:(i:Int)<=(n:Int)+(m:Int):=ω
 have hb4:¬(c=i):=ω
 have o:∀r B U,(Builtin.copy_ #[39,39] r #[.slice (some ⟨g,(i+m)*4,none⟩) (n+m - (i+m)) B,.slice (some ⟨g,i*4,none⟩) (n+m - i) U]).run Tryz.prog w.drew=.ok (goInt ((n - i:Nat):Int)) (w.drew.setCells g ((i+m)*4) (olds.drop (i*4))):=λr B U=>
  dR w.drew _ _ r 74 4 g ((i+m)*4) (n+m - (i+m)) B ⟨g,i*4,none⟩ (n+m - i) U (n - i) (olds.drop (i*4)) Tryz.underlying39 F (by simp only[Nat.min_def];split<;>omega) l
   (λj v a=>by rw[Addr.add_lit];exact ho (i*4+j) v (by rwa [List.getElem?_drop]at a))
   (λj a=>by rw[l]at a;exact(cell _ ω).1) (λj a=>by rw[l]at a;exact(cell _ ω).2) (λv L=>h1 v (List.mem_of_mem_drop L))
 obtain⟨G,d⟩ : ∃G,G=w.drew.setCells g ((i+m)*4) (olds.drop (i*4)):=⟨_,rfl⟩
 have H:∀q,q<(n+m)*4->(G.cell? ⟨g,q,none⟩).isSome=true:=λq Y=>by
  rw[d];exact kL g _ _ _ (λj a=>by rw[l]at a;exact(cell _ ω).1) _ (cell q Y).1
 have J:∀(W:World),(∀x,W.cell? x=G.cell? x)->(∀x,W.frozen? x=G.frozen? x)->∀r B,(Builtin.copy_ #[39,39] r #[.slice (some ⟨g,i*4,none⟩) (n+m - i) B,.slice (some ⟨p,0,none⟩) m C]).run Tryz.prog W=.ok (goInt ((1:Nat):Int)) (W.setCells g (i*4) vs):=λW K V r B=>
  dR W _ _ r 74 4 g (i*4) (n+m - i) B ⟨p,0,none⟩ m C 1 vs Tryz.underlying39 F (by simp only[Nat.min_def];split<;>omega) ω
   (λj v a=>by
     rw[Addr.add_lit,Z5,K,d,World.cell?_setCells_out g _ _ _ _ (λh _=>absurd h E)];exact L j v a)
   (λj a=>by rw[K];rw[D]at a;exact H _ ω) (λj a=>by rw[V,d,World.frozen?_setCells];rw[D]at a;exact(cell _ ω).2) h2
 rw[<-d]at o;clear cell b
 go_enter Tryz.func67,Tryz.ntmps67
 go_wp2_with (simp only[P])
 go_region_law_o (refine im rfl _ _ 39 39 rfl _ _ (by simp[Act.eval,Act.put]) (by simp[Act.eval,Act.put]) (o _ _ _) ?_)
 go_wp2_with (at_builtin;refine dD _ rfl _ _ 39 39 rfl _ _ rfl rfl (J _ (λ_=>rfl) (λ_=>rfl) _ _) ?_)
 go_ret
 first|exact⟨rfl,rfl⟩|exact⟨rfl,by rw[d]⟩
variable{q:Value}{H:TypeInfo}
def Fw(J : Tryz.prog.info? 74=some H)(K:H.size=4)(V:H.zero=some q)(X:q.cells.size=4)(L:H.bytes=32)(w:World)(g n c i r m Y:Nat)(olds vs:List Value)(hm:m=1)(hi:i<n)(hn63:n<=1073741824)(hnc:n<=c)(C:c<n+m)(M:olds.length=n*4)(N:vs.length=4)(Z:∀t u,olds[t]? = some u->cel w g t=some u)(T:∀t u,vs[t]? = some u->cel w r t=some u)(h1:∀u∈olds,u.oneCell'=true)(h2:∀u∈vs,u.oneCell'=true) :
  Calls Tryz.prog 67 #[.slice (some ⟨g,0,none⟩) n c,.int .i64 i,.slice (some ⟨r,0,none⟩) m Y] w λe w'=>e=.returned (.slice (some ⟨w.heap.size,0,none⟩) (n+m) (grownCap w (n+m) c 74))/\
   w'=(((w.alloc (.cells ((olds.take (i*4)).toArray++Builtin.zeroCells q.cells (n+m - i)++Builtin.zeroCells q.cells (grownCap w (n+m) c 74 - (n+m))) 74)).drew.setCells w.heap.size (i*4) vs).drew).setCells w.heap.size ((i+m)*4) (olds.drop (i*4)):=by
 have mixed : Tryz.prog.follows .mixedOrders=true:=by kernel_rfl
 have hm1:0<m:=ω
 have hm2:m<=1:=ω
 clear hm;have hz1:¬((m:Int)=0):=ω
 have hz2:¬((i:Int)=(n:Int)):=ω
 have hz3:(c:Int)<(n:Int)+(m:Int):=ω
 have O:(Tryz.prog.info? 74).map (·.size)=some 4:=by rw[J];simp[K]
 have hbw:g<w.heap.size:=block_lt_of_cell (Z 0 _ (O2 ω));have hvw:r<w.heap.size:=block_lt_of_cell (T 0 _ (O2 ω));have P:(n:Int)+(m:Int) - (i:Int)=((n+m - i:Nat):Int):=ω
 have D:i+(n+m - i)=n+m:=ω
 have y:(Builtin.firstCells H.size i (.slice (some ⟨g,0,none⟩) i c)).run Tryz.prog w.drew=.ok (olds.take (i*4)).toArray w.drew:=by
  rw[K];exact run_firstCells_some w.drew 4 i ⟨g,0,none⟩ i c (olds.take (i*4)) (by rw[V1];omega) (λj v a=>by
    rw[Addr.add_lit,Z5];rw[List.getElem?_take]at a;split at a
    · exact Z j v a
    cases a)
 have p:∀d,(Builtin.append_ #[39,3] d #[.slice (some ⟨g,0,none⟩) i c,.int .i64 ((n:Int)+(m:Int) - (i:Int))]).run Tryz.prog w =
   .ok (.slice (some ⟨w.heap.size,0,none⟩) (n+m) (grownCap w (n+m) c 74)) (w.drew.alloc (.cells ((olds.take (i*4)).toArray++Builtin.zeroCells q.cells (n+m - i)++Builtin.zeroCells q.cells (grownCap w (n+m) c 74 - (n+m))) 74)):=λd=>by
  have h:=Lib.run_append_grow_zeros w 39 3 d 74 H _ .i64 .i64 Tryz.underlying39 Tryz.underlying3 J V (some ⟨g,0,none⟩) i c (olds.take (i*4)) y (n+m - i) ω ω ω ω (by rw[L];omega) (by rw[L,D];exact growslice_fits C ω);rw[D]at h;rw[P];exact h
 obtain⟨G,U⟩ : ∃G,G=grownCap w (n+m) c 74:=⟨_,rfl⟩
 obtain⟨ROW,k⟩ : ∃ROW:Array Value,ROW=(olds.take (i*4)).toArray++Builtin.zeroCells q.cells (n+m - i)++Builtin.zeroCells q.cells (G - (n+m)):=⟨_,rfl⟩
 rw[<-U]at p |-;rw[<-k]at p |-;have hRl:(n+m)*4<=ROW.size:=by
  rw[k];simp only[Array.size_append,List.size_toArray,V1,size_zeroCells,X,M];omega
 obtain⟨o,b⟩ : ∃o,o=w.drew.alloc (.cells ROW 74):=⟨_,rfl⟩
 rw[<-b]at p;have hN:∀j,j<(n+m)*4->(o.cell? ⟨w.heap.size,j,none⟩).isSome=true:=λj a=>by
  rw[b,World.cell?_alloc_at (w:=w.drew) ROW _ w.heap.size j rfl,U5 ω];rfl
 have Q:∀j,o.frozen? ⟨w.heap.size,j,none⟩ = false:=λj=>by rw[b];exact World.frozen?_alloc_at (w:=w.drew) ROW _ w.heap.size j rfl
 have hOb:∀j v,w.cell? ⟨g,j,none⟩ = some v->o.cell? ⟨g,j,none⟩ = some v:=λj v h=>by rw[b,World.cell?_alloc_past (w:=w.drew) _ g j hbw];exact h
 have hOv:∀j v,w.cell? ⟨r,j,none⟩ = some v->o.cell? ⟨r,j,none⟩ = some v:=λj v h=>by rw[b,World.cell?_alloc_past (w:=w.drew) _ r j hvw];exact h
 have R:∀(W:World),(∀x,W.cell? x=o.cell? x)->(∀x,W.frozen? x=o.frozen? x)->∀d E,(Builtin.copy_ #[39,39] d #[.slice (some ⟨w.heap.size,i*4,none⟩) (n+m - i) E,.slice (some ⟨r,0,none⟩) m Y]).run Tryz.prog W=.ok (goInt ((1:Nat):Int)) (W.setCells w.heap.size (i*4) vs):=λW l F d E=>
  dR W _ _ d 74 4 w.heap.size (i*4) (n+m - i) E ⟨r,0,none⟩ m Y 1 vs Tryz.underlying39 O (by simp only[Nat.min_def];split<;>omega) ω
   (λj v a=>by rw[Addr.add_lit,Z5,l];exact hOv _ v (T j v a))
   (λj a=>by rw[l];rw[N]at a;exact hN _ ω) (λj a=>by rw[F];exact Q _) h2
 have hGn:n+m<=G:=by rw[U];exact grownCap_ge w _ _ _
 have hG63:G<=9223372036854775807:=by
  have:=grownCap_le_maxLen w (n+m) c 74 (by unfold maxLen;omega);rw[<-U]at this;unfold maxLen at this;omega
 have hGi:¬(G=i):=ω
 have hGim:¬(G=i+m):=ω
 have hci:¬(c=i):=ω
 have hbN:g≠w.heap.size:=ω
 have S:(olds.drop (i*4)).length=(n - i)*4:=by rw[T3,M];omega
 have B:∀(W:World),(∀x,W.cell? x=(o.setCells w.heap.size (i*4) vs).cell? x)->(∀x,W.frozen? x=(o.setCells w.heap.size (i*4) vs).frozen? x)->∀d E sc,(Builtin.copy_ #[39,39] d #[.slice (some ⟨w.heap.size,(i+m)*4,none⟩) (n+m - (i+m)) E,.slice (some ⟨g,i*4,none⟩) (n - i) sc]).run Tryz.prog W=.ok (goInt ((n - i:Nat):Int)) (W.setCells w.heap.size ((i+m)*4) (olds.drop (i*4))):=λW l F d E sc=>
  dR W _ _ d 74 4 w.heap.size ((i+m)*4) (n+m - (i+m)) E ⟨g,i*4,none⟩ (n - i) sc (n - i) (olds.drop (i*4)) Tryz.underlying39 O (by simp only[Nat.min_def];split<;>omega) S
   (λj v a=>by
     rw[Addr.add_lit,l,World.cell?_setCells_out _ _ _ _ _ (λh _=>absurd h hbN)];exact hOb _ v (Z (i*4+j) v (by rwa [List.getElem?_drop]at a)))
   (λj a=>by rw[l];rw[S]at a;exact kL _ _ _ _ (λt ht=>by rw[N]at ht;exact hN _ ω) _ (hN _ ω))
   (λj a=>by rw[F,World.frozen?_setCells];exact Q _) (λv T=>h1 v (List.mem_of_mem_drop T))
 subst b;have hE1:∀x,((w.alloc (.cells ROW 74)).drew).cell? x=(w.drew.alloc (.cells ROW 74)).cell? x:=λx=>rfl
 have hE2:∀x,((w.alloc (.cells ROW 74)).drew).frozen? x=(w.drew.alloc (.cells ROW 74)).frozen? x:=λx=>rfl
 have hF1:∀x,(((w.alloc (.cells ROW 74)).drew.setCells w.heap.size (i*4) vs).drew).cell? x=((w.drew.alloc (.cells ROW 74)).setCells w.heap.size (i*4) vs).cell? x:=λx=>rfl
 have hF2:∀x,(((w.alloc (.cells ROW 74)).drew.setCells w.heap.size (i*4) vs).drew).frozen? x=((w.drew.alloc (.cells ROW 74)).setCells w.heap.size (i*4) vs).frozen? x:=λx=>rfl
 have hw1:IntKind.i64.wrap ((i:Int)+(m:Int))=(i:Int)+(m:Int):=by rw[IntKind.wrap_i64];omega
 have hw2:IntKind.i64.wrap ((n:Int)+(m:Int))=(n:Int)+(m:Int):=by rw[IntKind.wrap_i64];omega
 have hw3:IntKind.i64.wrap ((n:Int)+(m:Int) - (i:Int))=(n:Int)+(m:Int) - (i:Int):=by rw[IntKind.wrap_i64];omega
 have hb1:(0:Int)<=(i:Int)+(m:Int):=ω
 have hin:i<=n:=ω
 have htn:((i:Int)+(m:Int)).toNat=i+m:=ω
 have hb3:(i:Int)<=(n:Int):=ω
 clear P D y k U hRl
 go_enter Tryz.func67,Tryz.ntmps67
 go_wp2_with (first
   | (at_builtin;refine Lib.wpList_append_run _ rfl _ _ _ _ rfl _ _ rfl rfl _ _ (p _) ?_)
   | (at_builtin;refine dD _ rfl _ _ 39 39 rfl _ _ rfl rfl (R _ hE1 hE2 _ _) ?_)
   | (at_builtin;refine dD _ rfl _ _ 39 39 rfl _ _ rfl rfl (B _ (λ_=>rfl) (λ_=>rfl) _ _ _) ?_))
 go_region_law_o (refine im rfl _ _ 39 39 rfl (.slice (some ⟨w.heap.size,(i+m)*4,none⟩) (n+m - (i+m)) (G - (i+m))) (.slice (some ⟨g,i*4,none⟩) (n - i) (c - i)) (by simp[Act.eval,Act.put]) (by simp[Act.eval,Act.put]) (B _ hF1 hF2 3 (G - (i+m)) (c - i)) ?_)
 go_wp2
 go_ret
 exact⟨rfl,rfl⟩
def Hj:D1 Tryz.prog 67 4 39 32:=by
 refine⟨⟨_,Tryz.func67,by kernel_rfl,by kernel_rfl⟩,FX,λw g n c i K m L olds M l o r h P b d u N p q j y B=>?_⟩;obtain⟨Q,R,C,D,E,k,F,G⟩:=vJ;by_cases a:n+m<=c
 ·refine(Dw w g n c i K m L olds M l o h a b d u N p q j y B).mono λe O ⟨H,J⟩=>?_
  subst l;rw[J];exact⟨g,c,H,a,oc o a b d u p q j⟩
 refine(Fw C D E k G w g n c i K m L olds M l o h r ω b d u N p q).mono λe O ⟨H,J⟩=>?_
 subst l;rw[J,vA];exact⟨_,_,H,grownCap_ge w _ _ _,qv (e:=74) rfl rfl rfl rfl o (grownCap_ge w _ _ _) k F b d p q⟩
def uJ(xs:List bc):QB (xs.map (bc.enc .own)):=λr b c a=>by
 obtain⟨s,-,rfl⟩:=z4.1 b;simp[bc.enc]at a;rcases a with rfl|rfl|rfl|rfl<;>exact⟨_,rfl⟩
def xZ(xs:List bc)(i:Nat)(x:bc)(j:i<=xs.length)(k:xs.length+1<=1073741824):zzB 67 false [.mut none [.s .own (xs.map (bc.enc .own))],.val none [I (i:Nat)],.mut none [.s .own [bc.enc .own x]]] [.mut none [.x],.val none [I (i:Nat)],.mut none [.x]] .one [.s .own ((inse xs i x).map (bc.enc .own))]:=by
 obtain⟨l,n,c,a,d,e,g,b⟩:=vJ;have h:=GG (row:=bc.enc .own x) Tryz.underlying39 c a d (by rw[a,e]) g (by rw[b];decide) (by rw[b];exact Hj) (rows:=xs.map (bc.enc .own)) (i:=i) (by rw[C1];exact j) (aQ λ_=>rfl) rfl (by decide) (uJ xs) (uJ [x]) (by rw[C1];exact k)
 rwa [xT]at h
def qI:∃(b:TypeInfo)(c:Value),Tryz.prog.info? 175=some b/\b.size=3/\b.zero=some c/\c.cells.size=3/\(∀v∈c.cells.toList,v.oneCell'=true)/\b.bytes=24:=by
 have h:=(lA 175 _ rfl).1;cases e : Tryz.prog.info? 175 with
 | none=>rw[e]at h;cases h
 | some x=>
  rw[e]at h;simp only[X4,Z0,Prod.mk.injEq]at h;obtain⟨a,g,i⟩:=h;cases d:x.zero with
  | none=>rw[d]at a;cases a
  | some z=>
   rw[d]at a;simp only[X4,Z0]at a;refine⟨x,z,rfl,g,d,?_,λv f=>?_,i⟩
   ·rw[<-Array.length_toList,a];rfl
   rw[a]at f;have j:(List.map cval [I 0,I 0,I 0]).all (λv=>v.oneCell')=true:=rfl;exact Z3.1 j v f
def BM:∀w,(Go.sizeOf 175).run Tryz.prog w=.ok 3 w:=λ_=>by kernel_rfl
def Dg(w w1:World)(base:Option Addr)(n c d m g:Nat)(r:Value)(i:m=1)(j:n<=c)(h:n<=1073741824)(k:base=none->n=0/\c=0)(b:(Builtin.append_ #[38,38] 38 #[.slice base n c,.slice (some ⟨d,0,none⟩) m g]).run Tryz.prog w=.ok r w1) :
  Calls Tryz.prog 192 #[.slice base n c,.int .i64 n,.slice (some ⟨d,0,none⟩) m g] w λe l=>e=.returned r/\l=w1:=by
 have mixed : Tryz.prog.follows .mixedOrders=true:=by kernel_rfl
 have o:0<m:=ω
 have p:m<=1:=ω
 clear i;have q:¬((m:Int)=0):=ω
 go_enter Tryz.func192,Tryz.ntmps192
 cases base with
 | none=>
  obtain⟨rfl,rfl⟩:=k rfl
  go_wp2_with (at_builtin;refine Lib.wpList_append_run _ rfl _ _ _ _ rfl _ _ rfl rfl _ _ b ?_)
  go_ret
  exact⟨rfl,rfl⟩
 | some a=>
  obtain⟨u,y,asp⟩:=a
  go_wp2_with (at_builtin;refine Lib.wpList_append_run _ rfl _ _ _ _ rfl _ _ rfl rfl _ _ b ?_)
  all_goals(go_ret;exact⟨rfl,rfl⟩)
def xa(w:World)(g n c i p m C:Nat)(olds vs:List Value)(Z:m=1)(hi:i<n)(X:n<=1073741824)(M:n+m<=c)(N:olds.length=n*3)(D:vs.length=3)(ho:∀t u,olds[t]? = some u->cel w g t=some u)(L:∀t u,vs[t]? = some u->cel w p t=some u)(h1:∀u∈olds,u.oneCell'=true)(h2:∀u∈vs,u.oneCell'=true)(b:∀q,q<c*3->(∃z,cel w g q=some z/\z.oneCell'=true)/\fro w g q=NF)(O:fro w p 0=NF)(E:p≠g) :
  Calls Tryz.prog 192 #[.slice (some ⟨g,0,none⟩) n c,.int .i64 i,.slice (some ⟨p,0,none⟩) m C] w λe w'=>e=.returned (.slice (some ⟨g,0,none⟩) (n+m) c)/\w'=(w.drew.setCells g ((i+m)*3) (olds.drop (i*3))).setCells g (i*3) vs:=by
 have mixed : Tryz.prog.follows .mixedOrders=true:=by kernel_rfl
 have hm1:0<m:=ω
 have hm2:m<=1:=ω
 clear Z;have hz1:¬((m:Int)=0):=ω
 have hz2:¬((i:Int)=(n:Int)):=ω
 have hz3:¬((c:Int)<(n:Int)+(m:Int)):=ω
 have F:(Tryz.prog.info? 175).map (·.size)=some 3:=by obtain⟨i0,z0,e1,e2,-⟩:=qI;rw[e1];simp[e2]
 have cell:∀q,q<(n+m)*3->(w.cell? ⟨g,q,none⟩).isSome=true/\w.frozen? ⟨g,q,none⟩ = false:=λq Y=>by
  obtain⟨⟨z,hz,-⟩,hf⟩:=b q ω;exact⟨by show(cel w g q).isSome=true;rw[hz];rfl,X0 Prod.fst hf⟩
 have P:∀Q R,(callFunc 343 #[.slice (some ⟨p,0,none⟩) m C,.slice (some ⟨g,(i+m)*3,none⟩) Q R]).run Tryz.prog w=.ok (.value (.bool false)) w:=λQ R=>by
  obtain⟨y,hy⟩ : ∃y,vs[0]? = some y:=⟨_,O2 ω⟩
  obtain⟨⟨y',S,-⟩,T⟩:=b 0 ω;rw[run_callFunc_extern Tryz.func343 (by kernel_rfl) (by kernel_rfl) (by kernel_rfl) (e:=Extern.SlicesOverlaps.overlaps #[38,38] #[4]) (by kernel_rfl),
    og (e:=175) (k:=3) Tryz.underlying38 BM E (L 0 y hy) O S T _ m C Q R]
  rfl
 have l:(olds.drop (i*3)).length=(n - i)*3:=by rw[T3,N];omega
 have hw1:IntKind.i64.wrap ((i:Int)+(m:Int))=(i:Int)+(m:Int):=by rw[IntKind.wrap_i64];omega
 have hw2:IntKind.i64.wrap ((n:Int)+(m:Int))=(n:Int)+(m:Int):=by rw[IntKind.wrap_i64];omega
 have hb1:(0:Int)<=(i:Int)+(m:Int):=ω
 have hin:i<=n:=ω
 have htn:((i:Int)+(m:Int)).toNat=i+m:=ω
 have hb2:¬(c=i+m):=ω
 have hb3:(i:Int)<=(n:Int)+(m:Int):=ω
 have hb4:¬(c=i):=ω
 have o:∀r B U,(Builtin.copy_ #[38,38] r #[.slice (some ⟨g,(i+m)*3,none⟩) (n+m - (i+m)) B,.slice (some ⟨g,i*3,none⟩) (n+m - i) U]).run Tryz.prog w.drew=.ok (goInt ((n - i:Nat):Int)) (w.drew.setCells g ((i+m)*3) (olds.drop (i*3))):=λr B U=>
  dR w.drew _ _ r 175 3 g ((i+m)*3) (n+m - (i+m)) B ⟨g,i*3,none⟩ (n+m - i) U (n - i) (olds.drop (i*3)) Tryz.underlying38 F (by simp only[Nat.min_def];split<;>omega) l
   (λj v a=>by rw[Addr.add_lit];exact ho (i*3+j) v (by rwa [List.getElem?_drop]at a))
   (λj a=>by rw[l]at a;exact(cell _ ω).1) (λj a=>by rw[l]at a;exact(cell _ ω).2) (λv L=>h1 v (List.mem_of_mem_drop L))
 obtain⟨G,d⟩ : ∃G,G=w.drew.setCells g ((i+m)*3) (olds.drop (i*3)):=⟨_,rfl⟩
 have H:∀q,q<(n+m)*3->(G.cell? ⟨g,q,none⟩).isSome=true:=λq Y=>by
  rw[d];exact kL g _ _ _ (λj a=>by rw[l]at a;exact(cell _ ω).1) _ (cell q Y).1
 have J:∀(W:World),(∀x,W.cell? x=G.cell? x)->(∀x,W.frozen? x=G.frozen? x)->∀r B,(Builtin.copy_ #[38,38] r #[.slice (some ⟨g,i*3,none⟩) (n+m - i) B,.slice (some ⟨p,0,none⟩) m C]).run Tryz.prog W=.ok (goInt ((1:Nat):Int)) (W.setCells g (i*3) vs):=λW K V r B=>
  dR W _ _ r 175 3 g (i*3) (n+m - i) B ⟨p,0,none⟩ m C 1 vs Tryz.underlying38 F (by simp only[Nat.min_def];split<;>omega) ω
   (λj v a=>by
     rw[Addr.add_lit,Z5,K,d,World.cell?_setCells_out g _ _ _ _ (λh _=>absurd h E)];exact L j v a)
   (λj a=>by rw[K];rw[D]at a;exact H _ ω) (λj a=>by rw[V,d,World.frozen?_setCells];rw[D]at a;exact(cell _ ω).2) h2
 rw[<-d]at o;clear cell b
 go_enter Tryz.func192,Tryz.ntmps192
 go_wp2_with (simp only[P])
 go_region_law_o (refine im rfl _ _ 38 38 rfl _ _ (by simp[Act.eval,Act.put]) (by simp[Act.eval,Act.put]) (o _ _ _) ?_)
 go_wp2_with (at_builtin;refine dD _ rfl _ _ 38 38 rfl _ _ rfl rfl (J _ (λ_=>rfl) (λ_=>rfl) _ _) ?_)
 go_ret
 first|exact⟨rfl,rfl⟩|exact⟨rfl,by rw[d]⟩
def y8(J : Tryz.prog.info? 175=some H)(K:H.size=3)(V:H.zero=some q)(X:q.cells.size=3)(L:H.bytes=24)(w:World)(g n c i r m Y:Nat)(olds vs:List Value)(hm:m=1)(hi:i<n)(hn63:n<=1073741824)(hnc:n<=c)(C:c<n+m)(M:olds.length=n*3)(N:vs.length=3)(Z:∀t u,olds[t]? = some u->cel w g t=some u)(T:∀t u,vs[t]? = some u->cel w r t=some u)(h1:∀u∈olds,u.oneCell'=true)(h2:∀u∈vs,u.oneCell'=true) :
  Calls Tryz.prog 192 #[.slice (some ⟨g,0,none⟩) n c,.int .i64 i,.slice (some ⟨r,0,none⟩) m Y] w λe w'=>e=.returned (.slice (some ⟨w.heap.size,0,none⟩) (n+m) (grownCap w (n+m) c 175))/\
   w'=(((w.alloc (.cells ((olds.take (i*3)).toArray++Builtin.zeroCells q.cells (n+m - i)++Builtin.zeroCells q.cells (grownCap w (n+m) c 175 - (n+m))) 175)).drew.setCells w.heap.size (i*3) vs).drew).setCells w.heap.size ((i+m)*3) (olds.drop (i*3)):=by
 have mixed : Tryz.prog.follows .mixedOrders=true:=by kernel_rfl
 have hm1:0<m:=ω
 have hm2:m<=1:=ω
 clear hm;have hz1:¬((m:Int)=0):=ω
 have hz2:¬((i:Int)=(n:Int)):=ω
 have hz3:(c:Int)<(n:Int)+(m:Int):=ω
 have O:(Tryz.prog.info? 175).map (·.size)=some 3:=by rw[J];simp[K]
 have hbw:g<w.heap.size:=block_lt_of_cell (Z 0 _ (O2 ω));have hvw:r<w.heap.size:=block_lt_of_cell (T 0 _ (O2 ω));have P:(n:Int)+(m:Int) - (i:Int)=((n+m - i:Nat):Int):=ω
 have D:i+(n+m - i)=n+m:=ω
 have y:(Builtin.firstCells H.size i (.slice (some ⟨g,0,none⟩) i c)).run Tryz.prog w.drew=.ok (olds.take (i*3)).toArray w.drew:=by
  rw[K];exact run_firstCells_some w.drew 3 i ⟨g,0,none⟩ i c (olds.take (i*3)) (by rw[V1];omega) (λj v a=>by
    rw[Addr.add_lit,Z5];rw[List.getElem?_take]at a;split at a
    · exact Z j v a
    cases a)
 have p:∀d,(Builtin.append_ #[38,3] d #[.slice (some ⟨g,0,none⟩) i c,.int .i64 ((n:Int)+(m:Int) - (i:Int))]).run Tryz.prog w =
   .ok (.slice (some ⟨w.heap.size,0,none⟩) (n+m) (grownCap w (n+m) c 175)) (w.drew.alloc (.cells ((olds.take (i*3)).toArray++Builtin.zeroCells q.cells (n+m - i)++Builtin.zeroCells q.cells (grownCap w (n+m) c 175 - (n+m))) 175)):=λd=>by
  have h:=Lib.run_append_grow_zeros w 38 3 d 175 H _ .i64 .i64 Tryz.underlying38 Tryz.underlying3 J V (some ⟨g,0,none⟩) i c (olds.take (i*3)) y (n+m - i) ω ω ω ω (by rw[L];omega) (by rw[L,D];exact growslice_fits C ω);rw[D]at h;rw[P];exact h
 obtain⟨G,U⟩ : ∃G,G=grownCap w (n+m) c 175:=⟨_,rfl⟩
 obtain⟨ROW,k⟩ : ∃ROW:Array Value,ROW=(olds.take (i*3)).toArray++Builtin.zeroCells q.cells (n+m - i)++Builtin.zeroCells q.cells (G - (n+m)):=⟨_,rfl⟩
 rw[<-U]at p |-;rw[<-k]at p |-;have hRl:(n+m)*3<=ROW.size:=by
  rw[k];simp only[Array.size_append,List.size_toArray,V1,size_zeroCells,X,M];omega
 obtain⟨o,b⟩ : ∃o,o=w.drew.alloc (.cells ROW 175):=⟨_,rfl⟩
 rw[<-b]at p;have hN:∀j,j<(n+m)*3->(o.cell? ⟨w.heap.size,j,none⟩).isSome=true:=λj a=>by
  rw[b,World.cell?_alloc_at (w:=w.drew) ROW _ w.heap.size j rfl,U5 ω];rfl
 have Q:∀j,o.frozen? ⟨w.heap.size,j,none⟩ = false:=λj=>by rw[b];exact World.frozen?_alloc_at (w:=w.drew) ROW _ w.heap.size j rfl
 have hOb:∀j v,w.cell? ⟨g,j,none⟩ = some v->o.cell? ⟨g,j,none⟩ = some v:=λj v h=>by rw[b,World.cell?_alloc_past (w:=w.drew) _ g j hbw];exact h
 have hOv:∀j v,w.cell? ⟨r,j,none⟩ = some v->o.cell? ⟨r,j,none⟩ = some v:=λj v h=>by rw[b,World.cell?_alloc_past (w:=w.drew) _ r j hvw];exact h
 have R:∀(W:World),(∀x,W.cell? x=o.cell? x)->(∀x,W.frozen? x=o.frozen? x)->∀d E,(Builtin.copy_ #[38,38] d #[.slice (some ⟨w.heap.size,i*3,none⟩) (n+m - i) E,.slice (some ⟨r,0,none⟩) m Y]).run Tryz.prog W=.ok (goInt ((1:Nat):Int)) (W.setCells w.heap.size (i*3) vs):=λW l F d E=>
  dR W _ _ d 175 3 w.heap.size (i*3) (n+m - i) E ⟨r,0,none⟩ m Y 1 vs Tryz.underlying38 O (by simp only[Nat.min_def];split<;>omega) ω
   (λj v a=>by rw[Addr.add_lit,Z5,l];exact hOv _ v (T j v a))
   (λj a=>by rw[l];rw[N]at a;exact hN _ ω) (λj a=>by rw[F];exact Q _) h2
 have hGn:n+m<=G:=by rw[U];exact grownCap_ge w _ _ _
 have hG63:G<=9223372036854775807:=by
  have:=grownCap_le_maxLen w (n+m) c 175 (by unfold maxLen;omega);rw[<-U]at this;unfold maxLen at this;omega
 have hGi:¬(G=i):=ω
 have hGim:¬(G=i+m):=ω
 have hci:¬(c=i):=ω
 have hbN:g≠w.heap.size:=ω
 have S:(olds.drop (i*3)).length=(n - i)*3:=by rw[T3,M];omega
 have B:∀(W:World),(∀x,W.cell? x=(o.setCells w.heap.size (i*3) vs).cell? x)->(∀x,W.frozen? x=(o.setCells w.heap.size (i*3) vs).frozen? x)->∀d E sc,(Builtin.copy_ #[38,38] d #[.slice (some ⟨w.heap.size,(i+m)*3,none⟩) (n+m - (i+m)) E,.slice (some ⟨g,i*3,none⟩) (n - i) sc]).run Tryz.prog W=.ok (goInt ((n - i:Nat):Int)) (W.setCells w.heap.size ((i+m)*3) (olds.drop (i*3))):=λW l F d E sc=>
  dR W _ _ d 175 3 w.heap.size ((i+m)*3) (n+m - (i+m)) E ⟨g,i*3,none⟩ (n - i) sc (n - i) (olds.drop (i*3)) Tryz.underlying38 O (by simp only[Nat.min_def];split<;>omega) S
   (λj v a=>by
     rw[Addr.add_lit,l,World.cell?_setCells_out _ _ _ _ _ (λh _=>absurd h hbN)];exact hOb _ v (Z (i*3+j) v (by rwa [List.getElem?_drop]at a)))
   (λj a=>by rw[l];rw[S]at a;exact kL _ _ _ _ (λt ht=>by rw[N]at ht;exact hN _ ω) _ (hN _ ω))
   (λj a=>by rw[F,World.frozen?_setCells];exact Q _) (λv T=>h1 v (List.mem_of_mem_drop T))
 subst b;have hE1:∀x,((w.alloc (.cells ROW 175)).drew).cell? x=(w.drew.alloc (.cells ROW 175)).cell? x:=λx=>rfl
 have hE2:∀x,((w.alloc (.cells ROW 175)).drew).frozen? x=(w.drew.alloc (.cells ROW 175)).frozen? x:=λx=>rfl
 have hF1:∀x,(((w.alloc (.cells ROW 175)).drew.setCells w.heap.size (i*3) vs).drew).cell? x=((w.drew.alloc (.cells ROW 175)).setCells w.heap.size (i*3) vs).cell? x:=λx=>rfl
 have hF2:∀x,(((w.alloc (.cells ROW 175)).drew.setCells w.heap.size (i*3) vs).drew).frozen? x=((w.drew.alloc (.cells ROW 175)).setCells w.heap.size (i*3) vs).frozen? x:=λx=>rfl
 have hw1:IntKind.i64.wrap ((i:Int)+(m:Int))=(i:Int)+(m:Int):=by rw[IntKind.wrap_i64];omega
 have hw2:IntKind.i64.wrap ((n:Int)+(m:Int))=(n:Int)+(m:Int):=by rw[IntKind.wrap_i64];omega
 have hw3:IntKind.i64.wrap ((n:Int)+(m:Int) - (i:Int))=(n:Int)+(m:Int) - (i:Int):=by rw[IntKind.wrap_i64];omega
 have hb1:(0:Int)<=(i:Int)+(m:Int):=ω
 have hin:i<=n:=ω
 have htn:((i:Int)+(m:Int)).toNat=i+m:=ω
 have hb3:(i:Int)<=(n:Int):=ω
 clear P D y k U hRl
 go_enter Tryz.func192,Tryz.ntmps192
 go_wp2_with (first
   | (at_builtin;refine Lib.wpList_append_run _ rfl _ _ _ _ rfl _ _ rfl rfl _ _ (p _) ?_)
   | (at_builtin;refine dD _ rfl _ _ 38 38 rfl _ _ rfl rfl (R _ hE1 hE2 _ _) ?_)
   | (at_builtin;refine dD _ rfl _ _ 38 38 rfl _ _ rfl rfl (B _ (λ_=>rfl) (λ_=>rfl) _ _ _) ?_))
 go_region_law_o (refine im rfl _ _ 38 38 rfl (.slice (some ⟨w.heap.size,(i+m)*3,none⟩) (n+m - (i+m)) (G - (i+m))) (.slice (some ⟨g,i*3,none⟩) (n - i) (c - i)) (by simp[Act.eval,Act.put]) (by simp[Act.eval,Act.put]) (B _ hF1 hF2 3 (G - (i+m)) (c - i)) ?_)
 go_wp2
 go_ret
 exact⟨rfl,rfl⟩
def B0:D1 Tryz.prog 192 3 38 24:=by
 refine⟨⟨_,Tryz.func192,by kernel_rfl,by kernel_rfl⟩,Dg,λw g n c i K m L olds M l o r h P b d u N p q j y B=>?_⟩;obtain⟨Q,R,C,D,E,k,F,G⟩:=qI;by_cases a:n+m<=c
 ·refine(xa w g n c i K m L olds M l o h a b d u N p q j y B).mono λe O ⟨H,J⟩=>?_
  subst l;rw[J];exact⟨g,c,H,a,oc o a b d u p q j⟩
 refine(y8 C D E k G w g n c i K m L olds M l o h r ω b d u N p q).mono λe O ⟨H,J⟩=>?_
 subst l;rw[J,vA];exact⟨_,_,H,grownCap_ge w _ _ _,qv (e:=175) rfl rfl rfl rfl o (grownCap_ge w _ _ _) k F b d p q⟩
def qh(xs:List aA):QB (xs.map (aA.enc .own)):=λr b c a=>by
 obtain⟨s,-,rfl⟩:=z4.1 b;simp[aA.enc]at a;rcases a with rfl|rfl|rfl<;>exact⟨_,rfl⟩
def Dn(xs:List aA)(i:Nat)(x:aA)(j:i<=xs.length)(k:xs.length+1<=1073741824):zzB 192 false [.mut none [.s .own (xs.map (aA.enc .own))],.val none [I (i:Nat)],.mut none [.s .own [aA.enc .own x]]] [.mut none [.x],.val none [I (i:Nat)],.mut none [.x]] .one [.s .own ((inse xs i x).map (aA.enc .own))]:=by
 obtain⟨l,n,c,a,d,e,g,b⟩:=qI;have h:=GG (row:=aA.enc .own x) Tryz.underlying38 c a d (by rw[a,e]) g (by rw[b];decide) (by rw[b];exact B0) (rows:=xs.map (aA.enc .own)) (i:=i) (by rw[C1];exact j) (aQ λ_=>rfl) rfl (by decide) (qh xs) (qh [x]) (by rw[C1];exact k)
 rwa [xT]at h
def tG:∃(b:TypeInfo)(c:Value),Tryz.prog.info? 267=some b/\b.size=3/\b.zero=some c/\c.cells.size=3/\(∀v∈c.cells.toList,v.oneCell'=true)/\b.bytes=24:=by
 have h:=(lA 267 _ rfl).1;cases e : Tryz.prog.info? 267 with
 | none=>rw[e]at h;cases h
 | some x=>
  rw[e]at h;simp only[X4,Z0,Prod.mk.injEq]at h;obtain⟨a,g,i⟩:=h;cases d:x.zero with
  | none=>rw[d]at a;cases a
  | some z=>
   rw[d]at a;simp only[X4,Z0]at a;refine⟨x,z,rfl,g,d,?_,λv f=>?_,i⟩
   ·rw[<-Array.length_toList,a];rfl
   rw[a]at f;have j:(List.map cval [I 0,I 0,I 0]).all (λv=>v.oneCell')=true:=rfl;exact Z3.1 j v f
def Ey:∀w,(Go.sizeOf 267).run Tryz.prog w=.ok 3 w:=λ_=>by kernel_rfl
def FT(w w1:World)(base:Option Addr)(n c d m g:Nat)(r:Value)(i:m=1)(j:n<=c)(h:n<=1073741824)(k:base=none->n=0/\c=0)(b:(Builtin.append_ #[37,37] 37 #[.slice base n c,.slice (some ⟨d,0,none⟩) m g]).run Tryz.prog w=.ok r w1) :
  Calls Tryz.prog 342 #[.slice base n c,.int .i64 n,.slice (some ⟨d,0,none⟩) m g] w λe l=>e=.returned r/\l=w1:=by
 have mixed : Tryz.prog.follows .mixedOrders=true:=by kernel_rfl
 have o:0<m:=ω
 have p:m<=1:=ω
 clear i;have q:¬((m:Int)=0):=ω
 go_enter Tryz.func342,Tryz.ntmps342
 cases base with
 | none=>
  obtain⟨rfl,rfl⟩:=k rfl
  go_wp2_with (at_builtin;refine Lib.wpList_append_run _ rfl _ _ _ _ rfl _ _ rfl rfl _ _ b ?_)
  go_ret
  exact⟨rfl,rfl⟩
 | some a=>
  obtain⟨u,y,asp⟩:=a
  go_wp2_with (at_builtin;refine Lib.wpList_append_run _ rfl _ _ _ _ rfl _ _ rfl rfl _ _ b ?_)
  all_goals(go_ret;exact⟨rfl,rfl⟩)
def yK(w:World)(g n c i p m C:Nat)(olds vs:List Value)(Z:m=1)(hi:i<n)(X:n<=1073741824)(M:n+m<=c)(N:olds.length=n*3)(D:vs.length=3)(ho:∀t u,olds[t]? = some u->cel w g t=some u)(L:∀t u,vs[t]? = some u->cel w p t=some u)(h1:∀u∈olds,u.oneCell'=true)(h2:∀u∈vs,u.oneCell'=true)(b:∀q,q<c*3->(∃z,cel w g q=some z/\z.oneCell'=true)/\fro w g q=NF)(O:fro w p 0=NF)(E:p≠g) :
  Calls Tryz.prog 342 #[.slice (some ⟨g,0,none⟩) n c,.int .i64 i,.slice (some ⟨p,0,none⟩) m C] w λe w'=>e=.returned (.slice (some ⟨g,0,none⟩) (n+m) c)/\w'=(w.drew.setCells g ((i+m)*3) (olds.drop (i*3))).setCells g (i*3) vs:=by
 have mixed : Tryz.prog.follows .mixedOrders=true:=by kernel_rfl
 have hm1:0<m:=ω
 have hm2:m<=1:=ω
 clear Z;have hz1:¬((m:Int)=0):=ω
 have hz2:¬((i:Int)=(n:Int)):=ω
 have hz3:¬((c:Int)<(n:Int)+(m:Int)):=ω
 have F:(Tryz.prog.info? 267).map (·.size)=some 3:=by obtain⟨i0,z0,e1,e2,-⟩:=tG;rw[e1];simp[e2]
 have cell:∀q,q<(n+m)*3->(w.cell? ⟨g,q,none⟩).isSome=true/\w.frozen? ⟨g,q,none⟩ = false:=λq Y=>by
  obtain⟨⟨z,hz,-⟩,hf⟩:=b q ω;exact⟨by show(cel w g q).isSome=true;rw[hz];rfl,X0 Prod.fst hf⟩
 have P:∀Q R,(callFunc 461 #[.slice (some ⟨p,0,none⟩) m C,.slice (some ⟨g,(i+m)*3,none⟩) Q R]).run Tryz.prog w=.ok (.value (.bool false)) w:=λQ R=>by
  obtain⟨y,hy⟩ : ∃y,vs[0]? = some y:=⟨_,O2 ω⟩
  obtain⟨⟨y',S,-⟩,T⟩:=b 0 ω;rw[run_callFunc_extern Tryz.func461 (by kernel_rfl) (by kernel_rfl) (by kernel_rfl) (e:=Extern.SlicesOverlaps.overlaps #[37,37] #[4]) (by kernel_rfl),
    og (e:=267) (k:=3) Tryz.underlying37 Ey E (L 0 y hy) O S T _ m C Q R]
  rfl
 have l:(olds.drop (i*3)).length=(n - i)*3:=by rw[T3,N];omega
 have hw1:IntKind.i64.wrap ((i:Int)+(m:Int))=(i:Int)+(m:Int):=by rw[IntKind.wrap_i64];omega
 have hw2:IntKind.i64.wrap ((n:Int)+(m:Int))=(n:Int)+(m:Int):=by rw[IntKind.wrap_i64];omega
 have hb1:(0:Int)<=(i:Int)+(m:Int):=ω
 have hin:i<=n:=ω
 have htn:((i:Int)+(m:Int)).toNat=i+m:=ω
 have hb2:¬(c=i+m):=ω
 have hb3:(i:Int)<=(n:Int)+(m:Int):=ω
 have hb4:¬(c=i):=ω
 have o:∀r B U,(Builtin.copy_ #[37,37] r #[.slice (some ⟨g,(i+m)*3,none⟩) (n+m - (i+m)) B,.slice (some ⟨g,i*3,none⟩) (n+m - i) U]).run Tryz.prog w.drew=.ok (goInt ((n - i:Nat):Int)) (w.drew.setCells g ((i+m)*3) (olds.drop (i*3))):=λr B U=>
  dR w.drew _ _ r 267 3 g ((i+m)*3) (n+m - (i+m)) B ⟨g,i*3,none⟩ (n+m - i) U (n - i) (olds.drop (i*3)) Tryz.underlying37 F (by simp only[Nat.min_def];split<;>omega) l
   (λj v a=>by rw[Addr.add_lit];exact ho (i*3+j) v (by rwa [List.getElem?_drop]at a))
   (λj a=>by rw[l]at a;exact(cell _ ω).1) (λj a=>by rw[l]at a;exact(cell _ ω).2) (λv L=>h1 v (List.mem_of_mem_drop L))
 obtain⟨G,d⟩ : ∃G,G=w.drew.setCells g ((i+m)*3) (olds.drop (i*3)):=⟨_,rfl⟩
 have H:∀q,q<(n+m)*3->(G.cell? ⟨g,q,none⟩).isSome=true:=λq Y=>by
  rw[d];exact kL g _ _ _ (λj a=>by rw[l]at a;exact(cell _ ω).1) _ (cell q Y).1
 have J:∀(W:World),(∀x,W.cell? x=G.cell? x)->(∀x,W.frozen? x=G.frozen? x)->∀r B,(Builtin.copy_ #[37,37] r #[.slice (some ⟨g,i*3,none⟩) (n+m - i) B,.slice (some ⟨p,0,none⟩) m C]).run Tryz.prog W=.ok (goInt ((1:Nat):Int)) (W.setCells g (i*3) vs):=λW K V r B=>
  dR W _ _ r 267 3 g (i*3) (n+m - i) B ⟨p,0,none⟩ m C 1 vs Tryz.underlying37 F (by simp only[Nat.min_def];split<;>omega) ω
   (λj v a=>by
     rw[Addr.add_lit,Z5,K,d,World.cell?_setCells_out g _ _ _ _ (λh _=>absurd h E)];exact L j v a)
   (λj a=>by rw[K];rw[D]at a;exact H _ ω) (λj a=>by rw[V,d,World.frozen?_setCells];rw[D]at a;exact(cell _ ω).2) h2
 rw[<-d]at o;clear cell b
 go_enter Tryz.func342,Tryz.ntmps342
 go_wp2_with (simp only[P])
 go_region_law_o (refine im rfl _ _ 37 37 rfl _ _ (by simp[Act.eval,Act.put]) (by simp[Act.eval,Act.put]) (o _ _ _) ?_)
 go_wp2_with (at_builtin;refine dD _ rfl _ _ 37 37 rfl _ _ rfl rfl (J _ (λ_=>rfl) (λ_=>rfl) _ _) ?_)
 go_ret
 first|exact⟨rfl,rfl⟩|exact⟨rfl,by rw[d]⟩
def BH(J : Tryz.prog.info? 267=some H)(K:H.size=3)(V:H.zero=some q)(X:q.cells.size=3)(L:H.bytes=24)(w:World)(g n c i r m Y:Nat)(olds vs:List Value)(hm:m=1)(hi:i<n)(hn63:n<=1073741824)(hnc:n<=c)(C:c<n+m)(M:olds.length=n*3)(N:vs.length=3)(Z:∀t u,olds[t]? = some u->cel w g t=some u)(T:∀t u,vs[t]? = some u->cel w r t=some u)(h1:∀u∈olds,u.oneCell'=true)(h2:∀u∈vs,u.oneCell'=true) :
  Calls Tryz.prog 342 #[.slice (some ⟨g,0,none⟩) n c,.int .i64 i,.slice (some ⟨r,0,none⟩) m Y] w λe w'=>e=.returned (.slice (some ⟨w.heap.size,0,none⟩) (n+m) (grownCap w (n+m) c 267))/\
   w'=(((w.alloc (.cells ((olds.take (i*3)).toArray++Builtin.zeroCells q.cells (n+m - i)++Builtin.zeroCells q.cells (grownCap w (n+m) c 267 - (n+m))) 267)).drew.setCells w.heap.size (i*3) vs).drew).setCells w.heap.size ((i+m)*3) (olds.drop (i*3)):=by
 have mixed : Tryz.prog.follows .mixedOrders=true:=by kernel_rfl
 have hm1:0<m:=ω
 have hm2:m<=1:=ω
 clear hm;have hz1:¬((m:Int)=0):=ω
 have hz2:¬((i:Int)=(n:Int)):=ω
 have hz3:(c:Int)<(n:Int)+(m:Int):=ω
 have O:(Tryz.prog.info? 267).map (·.size)=some 3:=by rw[J];simp[K]
 have hbw:g<w.heap.size:=block_lt_of_cell (Z 0 _ (O2 ω));have hvw:r<w.heap.size:=block_lt_of_cell (T 0 _ (O2 ω));have P:(n:Int)+(m:Int) - (i:Int)=((n+m - i:Nat):Int):=ω
 have D:i+(n+m - i)=n+m:=ω
 have y:(Builtin.firstCells H.size i (.slice (some ⟨g,0,none⟩) i c)).run Tryz.prog w.drew=.ok (olds.take (i*3)).toArray w.drew:=by
  rw[K];exact run_firstCells_some w.drew 3 i ⟨g,0,none⟩ i c (olds.take (i*3)) (by rw[V1];omega) (λj v a=>by
    rw[Addr.add_lit,Z5];rw[List.getElem?_take]at a;split at a
    · exact Z j v a
    cases a)
 have p:∀d,(Builtin.append_ #[37,3] d #[.slice (some ⟨g,0,none⟩) i c,.int .i64 ((n:Int)+(m:Int) - (i:Int))]).run Tryz.prog w =
   .ok (.slice (some ⟨w.heap.size,0,none⟩) (n+m) (grownCap w (n+m) c 267)) (w.drew.alloc (.cells ((olds.take (i*3)).toArray++Builtin.zeroCells q.cells (n+m - i)++Builtin.zeroCells q.cells (grownCap w (n+m) c 267 - (n+m))) 267)):=λd=>by
  have h:=Lib.run_append_grow_zeros w 37 3 d 267 H _ .i64 .i64 Tryz.underlying37 Tryz.underlying3 J V (some ⟨g,0,none⟩) i c (olds.take (i*3)) y (n+m - i) ω ω ω ω (by rw[L];omega) (by rw[L,D];exact growslice_fits C ω);rw[D]at h;rw[P];exact h
 obtain⟨G,U⟩ : ∃G,G=grownCap w (n+m) c 267:=⟨_,rfl⟩
 obtain⟨ROW,k⟩ : ∃ROW:Array Value,ROW=(olds.take (i*3)).toArray++Builtin.zeroCells q.cells (n+m - i)++Builtin.zeroCells q.cells (G - (n+m)):=⟨_,rfl⟩
 rw[<-U]at p |-;rw[<-k]at p |-;have hRl:(n+m)*3<=ROW.size:=by
  rw[k];simp only[Array.size_append,List.size_toArray,V1,size_zeroCells,X,M];omega
 obtain⟨o,b⟩ : ∃o,o=w.drew.alloc (.cells ROW 267):=⟨_,rfl⟩
 rw[<-b]at p;have hN:∀j,j<(n+m)*3->(o.cell? ⟨w.heap.size,j,none⟩).isSome=true:=λj a=>by
  rw[b,World.cell?_alloc_at (w:=w.drew) ROW _ w.heap.size j rfl,U5 ω];rfl
 have Q:∀j,o.frozen? ⟨w.heap.size,j,none⟩ = false:=λj=>by rw[b];exact World.frozen?_alloc_at (w:=w.drew) ROW _ w.heap.size j rfl
 have hOb:∀j v,w.cell? ⟨g,j,none⟩ = some v->o.cell? ⟨g,j,none⟩ = some v:=λj v h=>by rw[b,World.cell?_alloc_past (w:=w.drew) _ g j hbw];exact h
 have hOv:∀j v,w.cell? ⟨r,j,none⟩ = some v->o.cell? ⟨r,j,none⟩ = some v:=λj v h=>by rw[b,World.cell?_alloc_past (w:=w.drew) _ r j hvw];exact h
 have R:∀(W:World),(∀x,W.cell? x=o.cell? x)->(∀x,W.frozen? x=o.frozen? x)->∀d E,(Builtin.copy_ #[37,37] d #[.slice (some ⟨w.heap.size,i*3,none⟩) (n+m - i) E,.slice (some ⟨r,0,none⟩) m Y]).run Tryz.prog W=.ok (goInt ((1:Nat):Int)) (W.setCells w.heap.size (i*3) vs):=λW l F d E=>
  dR W _ _ d 267 3 w.heap.size (i*3) (n+m - i) E ⟨r,0,none⟩ m Y 1 vs Tryz.underlying37 O (by simp only[Nat.min_def];split<;>omega) ω
   (λj v a=>by rw[Addr.add_lit,Z5,l];exact hOv _ v (T j v a))
   (λj a=>by rw[l];rw[N]at a;exact hN _ ω) (λj a=>by rw[F];exact Q _) h2
 have hGn:n+m<=G:=by rw[U];exact grownCap_ge w _ _ _
 have hG63:G<=9223372036854775807:=by
  have:=grownCap_le_maxLen w (n+m) c 267 (by unfold maxLen;omega);rw[<-U]at this;unfold maxLen at this;omega
 have hGi:¬(G=i):=ω
 have hGim:¬(G=i+m):=ω
 have hci:¬(c=i):=ω
 have hbN:g≠w.heap.size:=ω
 have S:(olds.drop (i*3)).length=(n - i)*3:=by rw[T3,M];omega
 have B:∀(W:World),(∀x,W.cell? x=(o.setCells w.heap.size (i*3) vs).cell? x)->(∀x,W.frozen? x=(o.setCells w.heap.size (i*3) vs).frozen? x)->∀d E sc,(Builtin.copy_ #[37,37] d #[.slice (some ⟨w.heap.size,(i+m)*3,none⟩) (n+m - (i+m)) E,.slice (some ⟨g,i*3,none⟩) (n - i) sc]).run Tryz.prog W=.ok (goInt ((n - i:Nat):Int)) (W.setCells w.heap.size ((i+m)*3) (olds.drop (i*3))):=λW l F d E sc=>
  dR W _ _ d 267 3 w.heap.size ((i+m)*3) (n+m - (i+m)) E ⟨g,i*3,none⟩ (n - i) sc (n - i) (olds.drop (i*3)) Tryz.underlying37 O (by simp only[Nat.min_def];split<;>omega) S
   (λj v a=>by
     rw[Addr.add_lit,l,World.cell?_setCells_out _ _ _ _ _ (λh _=>absurd h hbN)];exact hOb _ v (Z (i*3+j) v (by rwa [List.getElem?_drop]at a)))
   (λj a=>by rw[l];rw[S]at a;exact kL _ _ _ _ (λt ht=>by rw[N]at ht;exact hN _ ω) _ (hN _ ω))
   (λj a=>by rw[F,World.frozen?_setCells];exact Q _) (λv T=>h1 v (List.mem_of_mem_drop T))
 subst b;have hE1:∀x,((w.alloc (.cells ROW 267)).drew).cell? x=(w.drew.alloc (.cells ROW 267)).cell? x:=λx=>rfl
 have hE2:∀x,((w.alloc (.cells ROW 267)).drew).frozen? x=(w.drew.alloc (.cells ROW 267)).frozen? x:=λx=>rfl
 have hF1:∀x,(((w.alloc (.cells ROW 267)).drew.setCells w.heap.size (i*3) vs).drew).cell? x=((w.drew.alloc (.cells ROW 267)).setCells w.heap.size (i*3) vs).cell? x:=λx=>rfl
 have hF2:∀x,(((w.alloc (.cells ROW 267)).drew.setCells w.heap.size (i*3) vs).drew).frozen? x=((w.drew.alloc (.cells ROW 267)).setCells w.heap.size (i*3) vs).frozen? x:=λx=>rfl
 have hw1:IntKind.i64.wrap ((i:Int)+(m:Int))=(i:Int)+(m:Int):=by rw[IntKind.wrap_i64];omega
 have hw2:IntKind.i64.wrap ((n:Int)+(m:Int))=(n:Int)+(m:Int):=by rw[IntKind.wrap_i64];omega
 have hw3:IntKind.i64.wrap ((n:Int)+(m:Int) - (i:Int))=(n:Int)+(m:Int) - (i:Int):=by rw[IntKind.wrap_i64];omega
 have hb1:(0:Int)<=(i:Int)+(m:Int):=ω
 have hin:i<=n:=ω
 have htn:((i:Int)+(m:Int)).toNat=i+m:=ω
 have hb3:(i:Int)<=(n:Int):=ω
 clear P D y k U hRl
 go_enter Tryz.func342,Tryz.ntmps342
 go_wp2_with (first
   | (at_builtin;refine Lib.wpList_append_run _ rfl _ _ _ _ rfl _ _ rfl rfl _ _ (p _) ?_)
   | (at_builtin;refine dD _ rfl _ _ 37 37 rfl _ _ rfl rfl (R _ hE1 hE2 _ _) ?_)
   | (at_builtin;refine dD _ rfl _ _ 37 37 rfl _ _ rfl rfl (B _ (λ_=>rfl) (λ_=>rfl) _ _ _) ?_))
 go_region_law_o (refine im rfl _ _ 37 37 rfl (.slice (some ⟨w.heap.size,(i+m)*3,none⟩) (n+m - (i+m)) (G - (i+m))) (.slice (some ⟨g,i*3,none⟩) (n - i) (c - i)) (by simp[Act.eval,Act.put]) (by simp[Act.eval,Act.put]) (B _ hF1 hF2 3 (G - (i+m)) (c - i)) ?_)
 go_wp2
 go_ret
 exact⟨rfl,rfl⟩
def DG:D1 Tryz.prog 342 3 37 24:=by
 refine⟨⟨_,Tryz.func342,by kernel_rfl,by kernel_rfl⟩,FT,λw g n c i K m L olds M l o r h P b d u N p q j y B=>?_⟩;obtain⟨Q,R,C,D,E,k,F,G⟩:=tG;by_cases a:n+m<=c
 ·refine(yK w g n c i K m L olds M l o h a b d u N p q j y B).mono λe O ⟨H,J⟩=>?_
  subst l;rw[J];exact⟨g,c,H,a,oc o a b d u p q j⟩
 refine(BH C D E k G w g n c i K m L olds M l o h r ω b d u N p q).mono λe O ⟨H,J⟩=>?_
 subst l;rw[J,vA];exact⟨_,_,H,grownCap_ge w _ _ _,qv (e:=267) rfl rfl rfl rfl o (grownCap_ge w _ _ _) k F b d p q⟩
def sB(xs:List ay):QB (xs.map (ay.enc .own)):=λr b c a=>by
 obtain⟨s,-,rfl⟩:=z4.1 b;simp[ay.enc]at a;rcases a with rfl|rfl|rfl<;>exact⟨_,rfl⟩
def EF(xs:List ay)(i:Nat)(x:ay)(j:i<=xs.length)(k:xs.length+1<=1073741824):zzB 342 false [.mut none [.s .own (xs.map (ay.enc .own))],.val none [I (i:Nat)],.mut none [.s .own [ay.enc .own x]]] [.mut none [.x],.val none [I (i:Nat)],.mut none [.x]] .one [.s .own ((inse xs i x).map (ay.enc .own))]:=by
 obtain⟨l,n,c,a,d,e,g,b⟩:=tG;have h:=GG (row:=ay.enc .own x) Tryz.underlying37 c a d (by rw[a,e]) g (by rw[b];decide) (by rw[b];exact DG) (rows:=xs.map (ay.enc .own)) (i:=i) (by rw[C1];exact j) (aQ λ_=>rfl) rfl (by decide) (sB xs) (sB [x]) (by rw[C1];exact k)
 rwa [xT]at h
def oF(h:ac):C:=oE (h.b.map (aC.enc .own))
def gk(h:ac):List C:=[.s .own (h.J.F.V.W.map (aK .own)),.s .own (h.J.F.V.k.map (rB .own)),.s .own (h.J.F.O.K.map (bp.enc .own)),I h.J.Calls,.s .own (h.J.j.map (rI .own)),oF h,.s .own (h.H.map (ay.enc .own)),.s .own (h.M.map (aA.enc .own)),.s .own (h.R.map (bc.enc .own)),.s .own (h.T.map (aE.enc .own)),.s .own (h.u.S.map (bL .own)),.s .own (h.u.d.map (aK .own)),I h.a5.b7,.s .own (h.a5.a1.map (aO.enc .own)),I h.b5,I h.b0,I h.c1,I h.w,B h.q,I h.y.Y.a8,I h.y.Y.a6,.s .own (h.y.Y.W.map (rI .own)),I h.y.a9,I h.y.w]
def HO(h:ac):List C:=[.x,.x,.x,.x,.x,oF h,.s .own (h.H.map (ay.enc .own)),.s .own (h.M.map (aA.enc .own)),.s .own (h.R.map (bc.enc .own)),.s .own (h.T.map (aE.enc .own)),.s .own (h.u.S.map (bL .own)),.s .own (h.u.d.map (aK .own)),I h.a5.b7,.s .own (h.a5.a1.map (aO.enc .own)),I h.b5,I h.b0,I h.c1,I h.w,B h.q,I h.y.Y.a8,I h.y.Y.a6,.s .own (h.y.Y.W.map (rI .own)),I h.y.a9,I h.y.w]
def Qo(h:ac):fz (oF h)=.s .U (h.b.map (aC.enc .U)):=(Fg _).trans (List.cons.inj (jF h.b)).1
def gS(h:ac):dN (gk h)=ac.enc .U h:=by
 have a:=ac.enc_fz h;have b:dN (gk h)=(dN (ac.enc .own h)).set 5 (fz (oF h)):=rfl;rw[b,a,Qo];rfl
variable{u:Nat->Value}{h:ac}
def Lk{S Y:af}(d:cC w S Y (ac.enc .own h) u):cC w S Y (gk h) u:=by
 obtain⟨f,b,e,g⟩:=d;refine⟨f,λj c a=>?_,e,g⟩;have i:gk h=(ac.enc .own h).set 5 (oF h):=rfl;rw[i]at a;by_cases k:j=5
 ·subst k
  have:c=oF h:=by simpa[ac.enc] using a.symm
  rw[this];exact qQ (b 5 _ rfl)
 rw[List.getElem?_set_ne ω]at a;exact b j c a
def GI(h:ac)(a:ac.sml h):zzA 62 false [.val (some 24) (ac.enc .U h)] .agg (gk h):=by
 obtain⟨b,c⟩:=gF h a;refine⟨b,λw S d g i=>(c w S d g i).mono λe w1 j=>?_⟩;obtain⟨v,k,l,X,S1,n,o,p,q,r⟩:=j;exact⟨v,k,l,X,S1,n,o,p,q,Lk r⟩
def Q0{b:Bool}{X Y:Prop}(h:b=true)(a:X):cond b X Y:=by subst h;exact a
def Hl{b:Bool}{X Y:Prop}(h:b=false)(a:Y):cond b X Y:=by subst h;exact a
def Rt(h:ac):bn [oF h]=false\/(bn [oF h]=true/\h.b=[]):=by
 unfold oF;cases a:h.b with
 | nil=>exact .inr ⟨rfl,rfl⟩
 | cons y b=>exact .inl rfl
def Ry(a:bn [oF h]=true):[oF h]=bE .U h.b:=by
 unfold oF at a |-;cases b:h.b with
 | nil=>rfl
 | cons y c=>rw[b]at a;simp[oE,bn,eP]at a
def xe(h:ac)(n:Nat):ac × Int × Bool:=
 if(aB h.b (n:Nat)).2.2=false then(h,-1,false)
 else if(bO h.J (aB h.b (n:Nat)).2.1 n).2=n then({h with J:=(bO h.J (aB h.b (n:Nat)).2.1 n).1,b:=(aB h.b (n:Nat)).1},(aB h.b (n:Nat)).2.1,true)
 else({h with J:=dM (bO h.J (aB h.b (n:Nat)).2.1 n).1 (aB h.b (n:Nat)).2.1 (bO h.J (aB h.b (n:Nat)).2.1 n).2},-1,false)
def od(h:ac)(n:Nat)(w:bi h [])(U:h.J.Calls<=90000)(hn:1<=n/\n<=63):zzB 189 false [.ptr (gk h),.val none [I (n:Nat)]] [.ptr (gk (xe h n).1),.val none [I (n:Nat)]] (.tup [none,none]) [I (xe h n).2.1,B (xe h n).2.2]:=by
 have P:gn h<=32:=w.lens.ents;have M:=w;have C:dN [oF h]=bE .U h.b:=X0 (λy=>[y]) (Qo h);have N:=rV h;have t:=wc (gn h:Nat) h.b (n:Nat) ⟨ω,ω⟩ w.rng ⟨ω,ω⟩ (by have:=w.lens.free;omega);unfold RE at t;have D:=lF w (show(1:Int)<=(n:Nat) by omega);unfold xe;have c:bn [oF h]=false\/(bn [oF h]=true/\(aB h.b (n:Nat)).2.2=false):=(Rt h).imp id λg=>⟨g.1,by rw[g.2];rfl⟩
 generalize aB h.b (n:Nat)=r at t D c |-;obtain⟨V,p,ok⟩:=r;simp only at t D c |-;refine fM 76 [] [(1,270,[15,16,17,18,19,20,21,22,23,24,14,25,26,27,0,1,2,3,4,5,6,7,8,9,10,11,12,13,14,1012,1013,15,1013,16])] [(0,0),(0,0)] Tryz.func189 rfl (λu q=>?_) (.inr ⟨trivial,trivial,trivial⟩);rcases c with c|⟨c,Q⟩
 ·cases ok with
   | false=>
    rw[CA rfl];rw[C8 (by simp)]at t
    repeat'(first|refine gP ?_|(conv=>whnf);first|refine C9 ?_|refine CJ (N) ⟨⟨rfl,gS h⟩,trivial⟩ ?_|refine CJ (t) ⟨⟨rfl,rfl⟩,⟨rfl,C⟩,⟨rfl,rfl⟩,trivial⟩ ?_|refine C9 ?_|refine Hl c ?_)
    refine CK rfl rfl ?_;exact wC
   | true=>
    rw[C8 (by simp)];rw[CA rfl]at t;obtain⟨O,L,E,u4⟩:=D rfl;change p+(n:Nat)<=(h.J.F.O.K.length:Nat) at L;change ∀q:Nat,p<=q->(q:Int)<p+(n:Nat)->(nth h.J.F.O.K q).o=0 at E
    have W:h.J.F.O.K.length<=32:=P;cases V with
    | nil=>
      repeat'(first|refine gP ?_|(conv=>whnf);first|refine C9 ?_|refine CJ (N) ⟨⟨rfl,gS h⟩,trivial⟩ ?_|refine CJ (t) ⟨⟨rfl,rfl⟩,⟨rfl,C⟩,⟨rfl,rfl⟩,trivial⟩ ?_|refine C9 ?_|refine Hl c ?_)
      (conv=>whnf)
      refine CD (ι:=Nat) (λi=>[(0,.G .box (HO h)),(1,.G .one [I ((n:Nat):Int)]),(6,.G .one ([oE (([]:List aC).map (aC.enc .own))])),(7,.G .one [I (p)]),(9,.G .box (ah.enc .own (bO h.J p i).1)),(10,.G .one [I ((i:Nat):Int)])]) (λi=>i<=n/\(bO h.J p i).2=i) (λi=>n - i) (0) ?_ (⟨W0 _,rfl⟩) λi w=>?_
      ·exact wC
      obtain⟨F,G⟩:=w;have s:=mn.of (p:=p) (n:=n) M.ker ω ⟨O,L⟩ E i F;have R:=s.calls;have S:=s.len;by_cases X:i<n
      ·have H:(nth (bO h.J p i).1.F.O.K (p+(i:Nat)).toNat).o=0:=by
        rw[s.out _ (by rw[G];omega)];exact E _ ω ω
       have l:=rJ (bO h.J p i).1 (p+(i:Nat)) s.ker ω ⟨ω,ω⟩ H;have a:bO h.J p (i+1)=((ek (bO h.J p i).1 (p+(i:Nat))).1,if(ek (bO h.J p i).1 (p+(i:Nat))).2=true then i+1 else i):=by
        show(if(bO h.J p i).2=i then _ else _)=_;rw[CA G]
       cases e:(ek (bO h.J p i).1 (p+(i:Nat))).2 with
       | true=>
        rw[e]at l a;rw[CA rfl]at a;have J:(ek (bO h.J p i).1 (p+(i:Nat))).1=(bO h.J p (i+1)).1:=by rw[a]
        rw[J]at l
        repeat'(first|refine gE ?_|(conv=>whnf);first|refine C9 ?_|refine CJ (l) ⟨⟨rfl,ah.enc_fz _⟩,⟨rfl,rfl⟩,trivial⟩ ?_)
        ((conv=>whnf);refine CC (i+1) ⟨ω,by rw[a]⟩ ω ?_;(exact wC))
       | false=>
        rw[e]at l a;rw[C8 (by simp)]at a;have o:=qZ (k:=h.J) (p:=p) (i:=i+1) (by rw[a];simp only;omega) (n - (i+1));rw[show i+1+(n - (i+1))=n by omega]at o;have K:=mn.of (p:=p) (n:=n) M.ker ω ⟨O,L⟩ E (i+1) ω;rw[C8 ω,o.1];have b:=K.calls;rw[a]at K b |-;have d:=K.ker;simp only at d b |-;generalize (ek (bO h.J p i).1 (p+(i:Nat))).1=k at l d b |-
        repeat'(first|refine gE ?_|(conv=>whnf);first|refine C9 ?_|refine CJ (l) ⟨⟨rfl,ah.enc_fz _⟩,⟨rfl,rfl⟩,trivial⟩ ?_)
        (conv=>whnf)
        refine CD (ι:=Nat) (λj=>[(0,.G .box (HO h)),(7,.G .one [I (p)]),(9,.G .box (ah.enc .own (dM k p j))),(10,.G .one [I ((i:Nat):Int)]),(13,.G .one [I (p+(j:Nat))])]) (λj=>j<=i) (λj=>i - j) (0) ?_ (W0 _) λj Y=>?_
        ·exact wC
        have T:=nP (dM k p j) (p+(j:Nat)) (lI d p j) (by rw[(gK k p j).2.1];omega);by_cases Z:j<i
        ·repeat'(first|refine gE ?_|(conv=>whnf);first|refine C9 ?_|refine CJ (T) ⟨⟨rfl,ah.enc_fz _⟩,⟨rfl,rfl⟩,trivial⟩ ?_)
         ((conv=>whnf);refine CC (j+1) ω ω ?_;(exact wC))
        obtain rfl:j=i:=ω
        repeat'(first|refine gE ?_|(conv=>whnf);first|refine C9 ?_)
        refine CK rfl rfl ?_;exact wC
      obtain rfl:i=n:=ω
      rw[CA G];generalize (bO h.J p i).1=k
      repeat'(first|refine gE ?_|(conv=>whnf);first|refine C9 ?_)
      refine CK rfl rfl ?_;exact wC
    | cons y ys=>
      repeat'(first|refine gP ?_|(conv=>whnf);first|refine C9 ?_|refine CJ (N) ⟨⟨rfl,gS h⟩,trivial⟩ ?_|refine CJ (t) ⟨⟨rfl,rfl⟩,⟨rfl,C⟩,⟨rfl,rfl⟩,trivial⟩ ?_|refine C9 ?_|refine Hl c ?_)
      (conv=>whnf)
      refine CD (ι:=Nat) (λi=>[(0,.G .box (HO h)),(1,.G .one [I ((n:Nat):Int)]),(6,.G .one ([oE ((y::ys).map (aC.enc .own))])),(7,.G .one [I (p)]),(9,.G .box (ah.enc .own (bO h.J p i).1)),(10,.G .one [I ((i:Nat):Int)])]) (λi=>i<=n/\(bO h.J p i).2=i) (λi=>n - i) (0) ?_ (⟨W0 _,rfl⟩) λi w=>?_
      ·exact wC
      obtain⟨F,G⟩:=w;have s:=mn.of (p:=p) (n:=n) M.ker ω ⟨O,L⟩ E i F;have R:=s.calls;have S:=s.len;by_cases X:i<n
      ·have H:(nth (bO h.J p i).1.F.O.K (p+(i:Nat)).toNat).o=0:=by
        rw[s.out _ (by rw[G];omega)];exact E _ ω ω
       have l:=rJ (bO h.J p i).1 (p+(i:Nat)) s.ker ω ⟨ω,ω⟩ H;have a:bO h.J p (i+1)=((ek (bO h.J p i).1 (p+(i:Nat))).1,if(ek (bO h.J p i).1 (p+(i:Nat))).2=true then i+1 else i):=by
        show(if(bO h.J p i).2=i then _ else _)=_;rw[CA G]
       cases e:(ek (bO h.J p i).1 (p+(i:Nat))).2 with
       | true=>
        rw[e]at l a;rw[CA rfl]at a;have J:(ek (bO h.J p i).1 (p+(i:Nat))).1=(bO h.J p (i+1)).1:=by rw[a]
        rw[J]at l
        repeat'(first|refine gE ?_|(conv=>whnf);first|refine C9 ?_|refine CJ (l) ⟨⟨rfl,ah.enc_fz _⟩,⟨rfl,rfl⟩,trivial⟩ ?_)
        ((conv=>whnf);refine CC (i+1) ⟨ω,by rw[a]⟩ ω ?_;(exact wC))
       | false=>
        rw[e]at l a;rw[C8 (by simp)]at a;have o:=qZ (k:=h.J) (p:=p) (i:=i+1) (by rw[a];simp only;omega) (n - (i+1));rw[show i+1+(n - (i+1))=n by omega]at o;have K:=mn.of (p:=p) (n:=n) M.ker ω ⟨O,L⟩ E (i+1) ω;rw[C8 ω,o.1];have b:=K.calls;rw[a]at K b |-;have d:=K.ker;simp only at d b |-;generalize (ek (bO h.J p i).1 (p+(i:Nat))).1=k at l d b |-
        repeat'(first|refine gE ?_|(conv=>whnf);first|refine C9 ?_|refine CJ (l) ⟨⟨rfl,ah.enc_fz _⟩,⟨rfl,rfl⟩,trivial⟩ ?_)
        (conv=>whnf)
        refine CD (ι:=Nat) (λj=>[(0,.G .box (HO h)),(7,.G .one [I (p)]),(9,.G .box (ah.enc .own (dM k p j))),(10,.G .one [I ((i:Nat):Int)]),(13,.G .one [I (p+(j:Nat))])]) (λj=>j<=i) (λj=>i - j) (0) ?_ (W0 _) λj Y=>?_
        ·exact wC
        have T:=nP (dM k p j) (p+(j:Nat)) (lI d p j) (by rw[(gK k p j).2.1];omega);by_cases Z:j<i
        ·repeat'(first|refine gE ?_|(conv=>whnf);first|refine C9 ?_|refine CJ (T) ⟨⟨rfl,ah.enc_fz _⟩,⟨rfl,rfl⟩,trivial⟩ ?_)
         ((conv=>whnf);refine CC (j+1) ω ω ?_;(exact wC))
        obtain rfl:j=i:=ω
        repeat'(first|refine gE ?_|(conv=>whnf);first|refine C9 ?_)
        refine CK rfl rfl ?_;exact wC
      obtain rfl:i=n:=ω
      rw[CA G];generalize (bO h.J p i).1=k
      repeat'(first|refine gE ?_|(conv=>whnf);first|refine C9 ?_)
      refine CK rfl rfl ?_;exact wC
 subst Q;rw[CA rfl];rw[C8 (by simp)]at t
 repeat'(first|refine gP ?_|(conv=>whnf);first|refine C9 ?_|refine CJ (N) ⟨⟨rfl,gS h⟩,trivial⟩ ?_|refine CJ (t) ⟨⟨rfl,rfl⟩,⟨rfl,Ry c⟩,⟨rfl,rfl⟩,trivial⟩ ?_|refine C9 ?_|refine Q0 c ?_)
 refine CK rfl rfl ?_;exact wC
def vm(h:ac)(p c:Int)(w:h.H.length<=4096):zzB 190 false [.ptr (gk h),.val (some 3) [I p,I c,I 0]] [.ptr (gk {h with H:=jt (Hb p) h.H ⟨p,c,0⟩}),.val (some 3) [I p,I c,I 0]] .one [I (kh (Hb p) h.H:Nat)]:=by
 refine fM 40 [(342,[1,0,1])] [(2,18,[6,7,8,9,10,11,12,13,14,15,16,17,18,19,20,21,22,23]),(4,264,[28,29,30,31,32,33,34,35,0,1,2,3,4,5,6,7,8,1000,9,10,11])] [(0,0),(0,0)] Tryz.func190 rfl (λu q=>?_)
 repeat'(first|refine gP ?_|(conv=>whnf);first|refine C9 ?_)
 (conv=>whnf)
 refine CD (ι:=Nat) (λi=>[(0,.G .box (gk h)),(3,.G .box ([I p,I c,I 0])),(5,.G .one [I ((i:Nat):Int)])]) (λi=>i<=h.H.length/\∀(j:Nat)(z:ay),j<i->h.H[j]? = some z->Hb p z=false) (λi=>h.H.length - i) (0) ?_ (⟨W0 _,λj z y=>ω⟩) λi g=>?_
 ·exact wC
 obtain⟨k,d⟩:=g;by_cases l:i<h.H.length/\(nth h.H i).Q<p
 ·have b:=au l.1
  repeat'(first|refine gE ?_|(conv=>whnf);first|with_reducible refine CB (aa b) ?_|refine C9 ?_|refine CE rfl (aa b) rfl ?_)
  ((conv=>whnf);refine CC (i+1) ⟨ω,iG b (U0 ω) d⟩ ω ?_;(exact wC))
 have a:kh (Hb p) h.H=i:=vt ω d λz e=>by
  have n:=(U2.1 e).1;have:z=nth h.H i:=(bD e).symm;subst this;exact O0 ω
 have b:i<h.H.length->h.H[i]? = some (nth h.H i):=λo=>au o
 have r:=EF h.H i ⟨p,c,0⟩ ω ω;rw[vE a,a]
 repeat'(first|refine gE ?_|(conv=>whnf);first|with_reducible (first|refine CB (aa (b ω)) ?_|refine Bf.D (λt=>?_) (λt=>?_))|refine C9 ?_|refine CE rfl (aa (b ω)) rfl ?_|refine CF (r) (.inl rfl) ?_)
 all_goals
  refine CK rfl rfl ?_;exact wC
def GN(h:ac)(i:Nat):gk (slotT h i)=((gk h).set 14 (I (yw h.b5))).set 6 (.s .own ((h.H.map (ay.enc .own)).set i [I (nth h.H i).Q,I (nth h.H i).Z,I (i9 (nth h.H i).a7 (zP h i))])):=by
 simp[gk,slotT,rK,S5,ay.enc,oF]
def yA(h:ac)(E:List Int)(i:Nat)(a:bi h E)(b:i<h.H.length)(p:(kj h i).length=0):zzA 188 false [.ptr (ac.enc .U h),.val none [I (i:Nat)]] (.tup [none,none]) [I (-1),B false]:=by
 have g:=au b;have c:=a.L.sok _ (ax b);have d:=dQ c;have j:=(bt.1 (aI.1 a.ker).2.2.1).2.2;have n:=a.lens.spans;have e:=oq a.L.sok (ps:=b6 h (nth h.H i).Q) d (b6 h (nth h.H i).Q).length;change 0<=fC h i/\fC h i<=65535 at e;have o:=f7 (nth h.H i).Z;have k:=pV h i ⟨ω,λ_ _=>trivial⟩ ⟨by show h.J.F.O.K.length<=_;omega,λ_ _=>trivial⟩ a.L.sok b;rw[ul a.L.sok b]at k;have l:=ov (nth h.H i).Z (fC h i) ω;change am _ _ _ _ _ (aK .own (kj h i)) at l;refine fO 63 [(2,7,[17,18,19,20,21,22,23]),(7,12,[43,44,45,46,47,48,49,50,51,52,53,54]),(8,5,[57,58,59,60,61])] Tryz.func188 rfl ?_ (.inr ⟨trivial,trivial,trivial⟩)
 repeat'(first|refine gB ?_|(conv=>whnf);first|refine C9 ?_|refine CB (aa g) ?_|refine CE rfl (aa g) rfl ?_|refine C7 (o) ?_|refine C7 (k) ?_|refine C7 (l) ?_|refine C9 ?_)
 rfl
def n6(h:ac)(E:List Int)(i:Nat)(b:bi h E)(j:i<h.H.length):zzB 188 false [.ptr (gk h),.val none [I (i:Nat)]] [.ptr (gk (m9 h i).1),.val none [I (i:Nat)]] (.tup [none,none]) [I (m9 h i).2,B (decide (0<(kj h i).length))]:=by
 have F:=b.lens.spans;have d:=au j;have c:=b.L.sok _ (ax j);have e:=dQ c;have a:=b.nums;unfold dh at a;rw[C0]at a;have y:=(bt.1 (aI.1 b.ker).2.2.1).2.2;have k:=oq b.L.sok (ps:=b6 h (nth h.H i).Q) e (b6 h (nth h.H i).Q).length;change 0<=fC h i/\fC h i<=65535 at k;have C:=f7 (nth h.H i).Z;have l:=pV h i ⟨ω,λ_ _=>trivial⟩ ⟨by show h.J.F.O.K.length<=_;omega,λ_ _=>trivial⟩ b.L.sok j;rw[ul b.L.sok j]at l;have o:=ov (nth h.H i).Z (fC h i) ω;change am _ _ _ _ _ (aK .own (kj h i)) at o;have p:=G6 (nth h.H i).Z (fC h i);change (kj h i).length<=16 at p;unfold m9;by_cases D:(kj h i).length=0
 ·rw[CA D,U0 ω]
  refine fM 63 [] [(2,7,[17,18,19,20,21,22,23]),(7,12,[43,44,45,46,47,48,49,50,51,52,53,54]),(8,5,[57,58,59,60,61])] [(0,0),(0,0)] Tryz.func188 rfl (λu q=>?_) (.inr ⟨trivial,trivial,trivial⟩)
  repeat'(first|refine gB ?_|(conv=>whnf);first|refine C9 ?_|refine CB (aa d) ?_|refine CE rfl (aa d) rfl ?_|refine C7 (C) ?_|refine CJ (l) ⟨⟨rfl,gS h⟩,⟨rfl,rfl⟩,trivial⟩ ?_|refine C7 (o) ?_|refine C9 ?_)
  refine CK rfl rfl ?_;exact wC
 rw[C8 D,O0 ω];have G:=zG (h:=h) (i:=i) ω;obtain⟨H,O,P⟩:=xo G;have J:=(jw (aL c).2.2).2.2.1;have r:=q8 h.b5 (n:=((kj h i).length:Nat)) ω;have K:=uG h.b5 ((kj h i).length:Nat) ω ω;have M:=yU (nth h.H i).a7 (zP h i) e ω;obtain⟨N,t⟩:=Z2 H;have w:=qe (nth h.H i) N c ω;unfold jQ at w;rw[<-t]at w;have g:(kj h i)[(ER h.b5 ((kj h i).length:Nat)).toNat]? = some (zP h i):=au ω;unfold uK;rw[GN];refine fM 63 [] [(2,7,[17,18,19,20,21,22,23]),(7,12,[43,44,45,46,47,48,49,50,51,52,53,54]),(8,5,[57,58,59,60,61])] [(0,0),(0,0)] Tryz.func188 rfl (λu q=>?_) (.inr ⟨trivial,trivial,trivial⟩)
 repeat'(first|refine gB ?_|(conv=>whnf);first|refine C9 ?_|refine CB (aa d) ?_|refine CE rfl (aa g) rfl ?_|refine CE rfl (aa d) rfl ?_|refine C7 (C) ?_|refine CJ (l) ⟨⟨rfl,gS h⟩,⟨rfl,rfl⟩,trivial⟩ ?_|refine C7 (o) ?_|refine C7 (K) ?_|refine C7 (M) ?_|refine C7 (w) ?_|refine CL r.1 (aa g) ?_|refine C9 ?_|refine CN rfl rfl (aa d) rfl (I1 rfl) rfl ?_)
 refine CK rfl ?_ ?_
 ·rfl
 exact wC
def J8(k:ah)(p:Int):bO k p 1=((ek k p).1,if(ek k p).2=true then 1 else 0):=by
 show(if(0:Nat)=0 then((ek k (p+((0:Nat):Int))).1,if(ek k (p+((0:Nat):Int))).2=true then 0+1 else 0) else(k,0))=_;rw[CA rfl,show p+((0:Nat):Int)=p by omega]
def JL(h:ac):xe h 1=if(aB h.b 1).2.2=false then(h,-1,false)
  else if(ek h.J (aB h.b 1).2.1).2=false then({h with J:=(ek h.J (aB h.b 1).2.1).1},-1,false)
  else({h with J:=(ek h.J (aB h.b 1).2.1).1,b:=(aB h.b 1).1},(aB h.b 1).2.1,true):=by
 unfold xe;rw[show((1:Nat):Int)=1 from rfl,J8];cases e:(ek h.J (aB h.b 1).2.1).2
 ·simp[dM]
 simp
def La(h:ac)(a:C):List C:=(gk h).set 9 a
def pK(h:ac)(a:C):Prop:=fz a=.s .U (h.T.map (aE.enc .U))
def Pb{a:C}(b:pK h a):dN (La h a)=ac.enc .U h:=by
 have c:dN (La h a)=(dN (gk h)).set 9 (fz a):=rfl;rw[c,gS,b];rfl
def pK.own(h:ac):pK h (.s .own (h.T.map (aE.enc .own))):=by
 have a:=X0 (λl:List C=>l[9]?) (gS h);have b:(dN (gk h))[9]? = some (fz (.s .own (h.T.map (aE.enc .own)))):=rfl;have c:(ac.enc .U h)[9]? = some (.s .U (h.T.map (aE.enc .U))):=rfl;simp only[b,c,Z0]at a;exact a
def RW(h:ac)(t c:Nat):C:=.s .own ((h.T.map (aE.enc .own)).set t [.s .own (((nth h.T t).X.map (aK .own)).set c (aK .U ((nth (nth h.T t).X c).take ((nth (nth h.T t).X c).length - 1))))])
def QP(h:ac)(t c:Nat):pK {h with T:=h.T.set t (qC (nth h.T t) c)} (RW h t c):=by
 have b:fz (.s .own (h.T.map (aE.enc .own)))=.s .U (h.T.map (aE.enc .U)):=pK.own h;have e:∀a:List (List C),fz (.s .own a)=.s .U (a.map dN):=λa=>by rw[JT];congr 1;apply List.map_congr_left;intro r _;rw[bX]
 unfold pK RW;rw[e]at b |-;simp only[C.s.injEq,true_and]at b |-;rw[S5,b,S5]
 congr 1
 have d:=CW (qC (nth h.T t) c);rw[MH]at d;rw[<-d];simp only[dN,e,S5]
 congr 3
def JZ(h:ac){t:Nat}(a:t<h.T.length)(r:List C):gk h=((gk h).set 9 (.s .own ((h.T.map (aE.enc .own)).set t r))).set 9 (.s .own (((h.T.map (aE.enc .own)).set t r).set t (aE.enc .own (nth h.T t)))):=by
 have e:(h.T.map (aE.enc .own)).set t (aE.enc .own (nth h.T t))=h.T.map (aE.enc .own):=by
  rw[<-S5,BR a]
 rw[List.set_set,List.set_set,e];rfl
def wn(h:ac)(t c:Nat)(o:bi h [])(E:t<h.T.length)(T:c<=3)(r:h.J.Calls<=90000):∃W,pK (eJ h t c).1 W/\zzB 65 false [.ptr (gk h),.val none [I (t:Nat)],.val none [I (c:Nat)]] [.ptr (La (eJ h t c).1 W),.val none [I (t:Nat)],.val none [I (c:Nat)]] (.tup [none,none]) [I (eJ h t c).2,B (decide (0<=(eJ h t c).2))]:=by
 have w:=o.cach _ (ax E);have hl4:=nZ w;have d:=au E;have F:=vK (nth h.T t) c w T;have hls:=o.lens.spans;have C:=o;have G:=JZ h E;unfold Te at F;by_cases N:0<(nth (nth h.T t).X c).length
 ·obtain⟨O,H⟩:=o.pop E ω N (HF w c)
  have k:=iU.nn o H;unfold eJ;rw[CA N]at F |-;refine⟨RW h t c,QP h t c,?_⟩;simp only;rw[O0 k];refine fM 86 [(186,[1,0]),(188,[2,0]),(189,[2,0]),(190,[2,0]),(4000062,[]),(5000077,[])] [(3,6,[31,32,33,34,35,36]),(8,10,[49,50,51,52,53,54,55,56,57,58])] [(0,0),(0,0),(0,0)] Tryz.func65 rfl (λu q=>?_) (.inr ⟨trivial,trivial,trivial⟩)
  repeat'(first|refine gP ?_|(conv=>whnf);first|with_reducible refine CB (aa d) ?_|refine C9 ?_|refine CB (eH d) ?_|refine CE rfl (aa d) rfl ?_|refine CE rfl (eH d) rfl ?_|refine Lq.one rfl rfl (aa d) rfl (I1 rfl) rfl rfl ?_|refine CF (F) (.inl rfl) ?_|refine C9 ?_|refine CN rfl rfl (eH d) rfl (I1 rfl) (G _) ?_|refine CN rfl rfl (aa d) rfl (I1 rfl) rfl ?_)
  refine CK rfl rfl ?_;exact wC
 rw[C8 N]at F;refine⟨_,pK.own _,?_⟩;change bf _ _ _ _ [.ptr (gk (eJ h t c).1),_,_] _ _;have e:eJ h t c=match tU h c with
  | some i=>(slotT h i,uK h i)
  | none=>if(aB h.b 1).2.2=false then(h,-1)
   else if(ek h.J (aB h.b 1).2.1).2=false then({h with J:=(ek h.J (aB h.b 1).2.1).1},-1)
   else m9 (tj h c) (ru h):=by unfold eJ;exact C8 N
 refine fM 86 [(186,[1,0]),(188,[2,0]),(189,[2,0]),(190,[2,0]),(4000062,[]),(5000077,[])] [(3,6,[31,32,33,34,35,36]),(8,10,[49,50,51,52,53,54,55,56,57,58])] [(0,0),(0,0),(0,0)] Tryz.func65 rfl (λu q=>?_) (.inr ⟨trivial,trivial,trivial⟩)
 repeat'(first|refine gP ?_|(conv=>whnf);first|with_reducible refine CB (aa d) ?_|refine C9 ?_|refine CB (eH d) ?_|refine CE rfl (aa d) rfl ?_|refine CE rfl (eH d) rfl ?_|refine Lq.one rfl rfl (aa d) rfl (I1 rfl) rfl rfl ?_|refine CF (F) (.inl rfl) ?_|refine C9 ?_|refine CN rfl rfl (eH d) rfl (I1 rfl) (G _) ?_)
 (conv=>whnf)
 refine CD (ι:=Nat) (λi=>[(0,.G .box (gk h)),(2,.G .one [I ((c:Nat):Int)]),(42,.c0 0 6 [] none),(43,.G .one [I (h.H.length)]),(44,.G .one [I ((i:Nat):Int)])]) (λi=>i<=h.H.length/\∀j,j<i->sD h c j=false) (λi=>h.H.length - i) (0) ?_ (⟨W0 _,λj hj=>ω⟩) λi o=>?_
 ·exact wC
 obtain⟨hi1,J⟩:=o;by_cases K:i<h.H.length
 ·have n:=au K
  by_cases X:(nth h.H i).Z=c
  ·have L:=Ah h (nth h.H i).Q
   cases P:fp h (nth h.H i).Q with
   | true=>
    rw[P]at L
    repeat'(first|refine gB ?_|(conv=>whnf);first|with_reducible refine CB (aa n) ?_|refine C9 ?_|refine CE rfl (aa n) rfl ?_|refine CJ (L) ⟨⟨rfl,gS h⟩,⟨rfl,rfl⟩,trivial⟩ ?_|refine C9 ?_)
    ((conv=>whnf);refine CC (i+1) ⟨ω,sM (by unfold sD;rw[P];simp) J⟩ ω ?_;(exact wC))
   | false=>
    rw[P]at L;by_cases M:(kj h i).length=0
    ·have y:=yA h [] i C K M
     repeat'(first|refine gB ?_|(conv=>whnf);first|with_reducible refine CB (aa n) ?_|refine C9 ?_|refine CE rfl (aa n) rfl ?_|refine CJ (L) ⟨⟨rfl,gS h⟩,⟨rfl,rfl⟩,trivial⟩ ?_|refine Ch.pl ?_|refine CJ (y) ⟨gS h,⟨rfl,rfl⟩,trivial⟩ ?_|refine C9 ?_)
     ((conv=>whnf);refine CC (i+1) ⟨ω,sM (by unfold sD;rw[U0 (by omega:¬0<(kj h i).length)];simp) J⟩ ω ?_;(exact wC))
    have y:=n6 h [] i C K;unfold m9 at y;rw[C8 M,O0 (by omega:0<(kj h i).length)]at y;have U:tU h c=some i:=FE K (by unfold sD;rw[O0 X,P,O0 ω];rfl) J;rw[U]at e;simp only at e;obtain⟨O,H⟩:=C.slotT K (by omega:0<(kj h i).length);have k:=iU.nn O H;rw[e];generalize slotT h i=g at y |-;generalize uK h i=a at y k |-;rw[O0 k]
    repeat'(first|refine gB ?_|(conv=>whnf);first|with_reducible refine CB (aa n) ?_|refine C9 ?_|refine CE rfl (aa n) rfl ?_|refine CJ (L) ⟨⟨rfl,gS h⟩,⟨rfl,rfl⟩,trivial⟩ ?_|refine Ch.lt ?_|refine CF (y) (.inl rfl) ?_|refine C9 ?_)
    refine CK rfl rfl ?_;exact wC
  repeat'(first|refine gB ?_|(conv=>whnf);first|with_reducible refine CB (aa n) ?_|refine C9 ?_|refine CE rfl (aa n) rfl ?_|refine C9 ?_)
  ((conv=>whnf);refine CC (i+1) ⟨ω,sM (by unfold sD;rw[U0 X];rfl) J⟩ ω ?_;(exact wC))
 obtain rfl:i=h.H.length:=ω
 have U:tU h c=none:=Er J;rw[U]at e;simp only at e;have l:=od h 1 C r ⟨ω,ω⟩;rw[JL]at l;rw[e];by_cases Q:(aB h.b 1).2.2=false
 ·rw[CA Q]at l |-
  repeat'(first|refine gE ?_|(conv=>whnf);first|refine C9 ?_|refine CF (l) (.inl rfl) ?_)
  refine CK rfl rfl ?_;exact wC
 rw[C8 Q]at l |-;by_cases R:(ek h.J (aB h.b 1).2.1).2=false
 ·rw[CA R]at l |-
  repeat'(first|refine gE ?_|(conv=>whnf);first|refine C9 ?_|refine CF (l) (.inl rfl) ?_)
  refine CK rfl rfl ?_;exact wC
 rw[C8 R]at l |-;obtain⟨Y,Z⟩:=Md C T r Q R;have D:=vm {h with J:=(ek h.J (aB h.b 1).2.1).1,b:=(aB h.b 1).1} (aB h.b 1).2.1 (c:Nat) (by show h.H.length<=4096;omega);have S:=n6 (tj h c) [] (ru h) Y Z;have V:=tJ C E T r;rw[e,C8 Q,C8 R]at V;have k:decide (0<(kj (tj h c) (ru h)).length)=decide (0<=(m9 (tj h c) (ru h)).2):=by
  unfold m9;by_cases M:(kj (tj h c) (ru h)).length=0
  ·rw[CA M,U0 ω];rfl
  rw[C8 M,O0 ω];obtain⟨O,H⟩:=Y.slotT Z ω;exact(O0 (iU.nn O H)).symm
 rw[k]at S;change bf _ _ _ _ [.ptr (gk (tj h c)),_] _ [I ((ru h:Nat):Int)]at D;generalize (aB h.b 1).2.1=p at l D;generalize tj h c=g at D S |-;generalize ru h=b at D S |-;generalize ({h with J:=(ek h.J p).1,b:=(aB h.b 1).1} : ac)=h1 at l D
 repeat'(first|refine gE ?_|(conv=>whnf);first|refine C9 ?_|refine CF (l) (.inl rfl) ?_|refine CF (D) (.inl rfl) ?_|refine CF (S) (.inl rfl) ?_)
 refine CK rfl rfl ?_;exact wC
def x3(h:ac)(size:Int)(e:bi h [])(l:9<=size/\size<=1000)(n:h.J.Calls<=90000):zzB 66 false [.ptr (gk h),.val none [I size]] [.ptr (gk (Hw h size).1),.val none [I size]] (.tup [none,none]) [I (Hw h size).2,B (decide (0<=(Hw h size).2))]:=by
 have E:=e.lens.larges;have R:=e;have o:eQ size=((mh size:Nat):Int):=by unfold eQ mh;split<;>omega
 have F:1<=mh size/\mh size<=63:=by unfold mh;omega
 have g:=mb size;rw[o]at g;have a:=od h (mh size) e n F;have c:=lF e (show(1:Int)<=(mh size:Nat) by omega);unfold xe at a;unfold Hw js;generalize mh size=N at *;generalize aB h.b (N:Nat)=r at a c |-;obtain⟨G,p,ok⟩:=r;simp only at a c |-;refine fM 56 [(189,[2,0]),(192,[1,0,1])] [(7,268,[39,40,41,42,43,44,45,46,47,48,49,50,0,1,2,3,4,5,6,7,8,9,10,11,12,1000,13,14,15])] [(0,0),(0,0)] Tryz.func66 rfl (λu q=>?_) (.inr ⟨trivial,trivial,trivial⟩);cases ok with
 | false=>
  rw[CA rfl]at a |-
  repeat'(first|refine gP ?_|(conv=>whnf);first|refine C9 ?_|refine C7 (g) ?_|refine CF (a) (.inl rfl) ?_)
  refine CK rfl rfl ?_;exact wC
 | true=>
  rw[C8 (by simp)]at a |-;obtain⟨S,H,-,-⟩:=c rfl;have J:h.J.F.O.K.length<=32:=e.lens.ents;have t:p+(N:Nat)<=(h.J.F.O.K.length:Nat):=H;by_cases w:(bO h.J p N).2=N
  ·rw[CA w]at a |-
   rw[O0 (show(0:Int)<=16*p by omega)];generalize (bO h.J p N).1=k at a |-
   repeat'(first|refine gP ?_|(conv=>whnf);first|refine C9 ?_|refine C7 (g) ?_|refine CF (a) (.inl rfl) ?_)
   (conv=>whnf)
   refine CD (ι:=Nat) (λm=>[(0,.G .box (gk {h with J:=k,b:=G})),(1,.G .one [I (size)]),(6,.G .one [I (p)]),(8,.G .one [I ((m:Nat):Int)])]) (λm=>m<=h.M.length/\∀(j:Nat)(z:aA),j<m->h.M[j]? = some z->Qf p z=false) (λm=>h.M.length - m) (0) ?_ (⟨W0 _,λj z T=>ω⟩) λm K=>?_
   ·exact wC
   obtain⟨L,C⟩:=K;by_cases M:m<h.M.length/\(nth h.M m).Q<p
   ·have d:=au M.1
    repeat'(first|refine gP ?_|(conv=>whnf);first|refine C9 ?_|refine Bf.D (λb=>?_) (λb=>absurd b (by first|omega|(simp only at *;omega)))|refine CB (aa d) ?_|refine CE rfl (aa d) rfl ?_)
    ((conv=>whnf);refine CC (m+1) ⟨ω,iG d (U0 ω) C⟩ ω ?_;(exact wC))
   have i:kh (Qf p) h.M=m:=vt ω C λz l=>by
    have O:=(U2.1 l).1;have:z=nth h.M m:=(bD l).symm;subst this;exact O0 ω
   have d:m<h.M.length->h.M[m]? = some (nth h.M m):=λP=>au P
   have Q:=Dn h.M m ⟨p,(N:Nat),size⟩ ω ω;rw[vE i]
   repeat'(first|refine gP ?_|(conv=>whnf);first|refine C9 ?_|refine Bf.D (λb=>?_) (λb=>absurd b (by first|omega|(simp only at *;omega)))|refine Bf.D (λb=>absurd b (by first|omega|(simp only at *;omega))) (λb=>?_)|refine Bf.D (λb=>?_) (λb=>?_)|refine CB (aa (d (by first|omega|(simp only at *;omega)))) ?_|refine CE rfl (aa (d (by first|omega|(simp only at *;omega)))) rfl ?_|refine C7 (g) ?_|refine CF (Q) (.inl rfl) ?_|refine C9 ?_)
   all_goals
    refine CK rfl ?_ ?_
    ·exact X0 (λy=>[I y,B true]) (show p*16=16*p by omega)
    exact wC
  rw[C8 w]at a |-
  repeat'(first|refine gP ?_|(conv=>whnf);first|refine C9 ?_|refine C7 (g) ?_|refine CF (a) (.inl rfl) ?_)
  refine CK rfl rfl ?_;exact wC
def E8(h:ac)(t size:Int)(hs:ac.sml h)(l:bi h [])(P:jG h=true):∃E,pK (fy h t size).1 E/\zzA 17 true [.val (some 24) (ac.enc .U h),.val none [I t],.val none [I size]] (.tup [some 24,none,none]) (La (fy h t size).1 E++[I (fy h t size).2.1,I (fy h t size).2.2]):=by
 have hl:=l.lens;have hlc:=hl.caches;have Q:=hl.objs;have r:=l.nums;unfold dh at r;rw[C0]at r;have R:=sN l.objSz h.R.length (C3 _);change 0<=wH h/\wH h<=_ at R;have p:=GI h hs;have o:=cw h hs;rw[P]at o;have q:=aF t 0 ((h.T.length:Int) - 1);have u:=aF size 1 1000;have F:=wN h l.objSz ω;have G:=kE size;unfold fy;by_cases h1:1000000<=h.w
 ·rw[CA (.inl h1)]
  refine⟨_,pK.own _,?_⟩;change am _ _ _ _ _ (gk _++_);refine fP 108 [(65,[2,0,0]),(66,[2,0]),(67,[1,0,1])] [(8,6,[47,48,49,50,51,52])] Tryz.func17 rfl ?_ (.inl rfl)
  repeat'(first|refine gB ?_|(conv=>whnf);first|refine C7 (p) ?_|refine C7 (o) ?_)
  rfl
 by_cases h2:90000<h.J.Calls
 ·rw[CA (.inr h2)]
  refine⟨_,pK.own _,?_⟩;change am _ _ _ _ _ (gk _++_);refine fP 108 [(65,[2,0,0]),(66,[2,0]),(67,[1,0,1])] [(8,6,[47,48,49,50,51,52])] Tryz.func17 rfl ?_ (.inl rfl)
  repeat'(first|refine gB ?_|(conv=>whnf);first|with_reducible refine Bf.D (λb=>?_) (λb=>?_)|refine C7 (p) ?_|refine C7 (o) ?_)
  rfl
 rw[C8 ω];by_cases B:¬(0<=t/\t<=h.T.length - 1)
 ·rw[CA B]
  rw[U0 B]at q;refine⟨_,pK.own _,?_⟩;change am _ _ _ _ _ (gk _++_);refine fP 108 [(65,[2,0,0]),(66,[2,0]),(67,[1,0,1])] [(8,6,[47,48,49,50,51,52])] Tryz.func17 rfl ?_ (.inl rfl)
  repeat'(first|refine gB ?_|(conv=>whnf);first|with_reducible refine Bf.D (λb=>?_) (λb=>?_)|refine C7 (p) ?_|refine C7 (o) ?_|refine C7 (q) ?_)
  rfl
 rw[C8 B];replace B:=Decidable.not_not.1 B;rw[O0 B]at q;by_cases y:¬(1<=size/\size<=1000)
 ·rw[CA y]
  rw[U0 y]at u;refine⟨_,pK.own _,?_⟩;change am _ _ _ _ _ (gk _++_);refine fP 108 [(65,[2,0,0]),(66,[2,0]),(67,[1,0,1])] [(8,6,[47,48,49,50,51,52])] Tryz.func17 rfl ?_ (.inl rfl)
  repeat'(first|refine gB ?_|(conv=>whnf);first|with_reducible refine Bf.D (λb=>?_) (λb=>?_)|refine C7 (p) ?_|refine C7 (o) ?_|refine C7 (q) ?_|refine C7 (u) ?_)
  rfl
 rw[C8 y];replace y:=Decidable.not_not.1 y;rw[O0 y]at u;by_cases h5:h.c1<wH h+size
 ·rw[CA h5]
  refine⟨_,pK.own _,?_⟩;change am _ _ _ _ _ (gk _++_);refine fP 108 [(65,[2,0,0]),(66,[2,0]),(67,[1,0,1])] [(8,6,[47,48,49,50,51,52])] Tryz.func17 rfl ?_ (.inl rfl)
  repeat'(first|refine gB ?_|(conv=>whnf);first|with_reducible refine Bf.D (λb=>?_) (λb=>?_)|refine C7 (p) ?_|refine C7 (o) ?_|refine C7 (q) ?_|refine C7 (u) ?_|refine C7 (F) ?_|refine C9 ?_)
  rfl
 rw[C8 h5];by_cases H:0<=aV size
 ·rw[CA H]
  have hc3:aV size<=3:=by unfold aV;repeat' split<;>omega
  obtain⟨T,rfl⟩:=Z2 B.1;obtain⟨K,hK⟩:=Z2 H;obtain⟨E,C,d⟩:=wn h T K l ω ω ω;have s:=tJ (t:=T) (c:=K) l ω ω ω;rw[hK]at G |-;simp only[X2];generalize eJ h T K=w at d s C |-;obtain⟨g,a⟩:=w;have e:g.w=h.w:=s.nx;simp only at d |-;by_cases J:a<0
  ·rw[CA J]
   rw[U0 ω]at d;refine⟨E,C,?_⟩;refine fP 108 [(65,[2,0,0]),(66,[2,0]),(67,[1,0,1])] [(8,6,[47,48,49,50,51,52])] Tryz.func17 rfl ?_ (.inl rfl)
   repeat'(first|refine gB ?_|(conv=>whnf);first|with_reducible refine Bf.D (λb=>?_) (λb=>?_)|refine C7 (p) ?_|refine C7 (o) ?_|refine C7 (q) ?_|refine C7 (u) ?_|refine C7 (F) ?_|refine C9 ?_|refine C7 (G) ?_|refine CF (d) (.inl rfl) ?_)
   rfl
  rw[C8 J];rw[O0 ω]at d;obtain⟨k1,k2⟩:=s.yes (show(0:Int)<=a by omega);have S:g.R.length<=512:=k1.lens.objs;have U:1<=g.w/\g.w<=1000000:=ω
  refine⟨E,C,?_⟩;refine fP 108 [(65,[2,0,0]),(66,[2,0]),(67,[1,0,1])] [(8,6,[47,48,49,50,51,52])] Tryz.func17 rfl ?_ (.inl rfl)
  repeat'(first|refine gB ?_|(conv=>whnf);first|with_reducible refine Bf.D (λb=>?_) (λb=>?_)|refine C7 (p) ?_|refine C7 (o) ?_|refine C7 (q) ?_|refine C7 (u) ?_|refine C7 (F) ?_|refine C9 ?_|refine C7 (G) ?_|refine CF (d) (.inl rfl) ?_)
  (conv=>whnf)
  refine CD (ι:=Nat) (λi=>[(1,.G .one [I ((T:Nat):Int)]),(2,.G .one [I (size)]),(3,.G .box (ac.enc .U h)),(6,.G .box (rM)),(9,.G .box (La g E)),(10,.G .one [I (a)]),(13,.G .one [I ((i:Nat):Int)])]) (λi=>i<=g.R.length/\∀(j:Nat)(z:bc),j<i->g.R[j]? = some z->NE a z=false) (λi=>g.R.length - i) (0) ?_ (⟨W0 _,λj z hj=>ω⟩) λi l=>?_
  ·exact wC
  obtain⟨V,L⟩:=l;by_cases W:i<g.R.length/\(nth g.R i).Addr<a
  ·have k:=au W.1
   repeat'(first|refine gE ?_|(conv=>whnf);first|with_reducible refine CB (aa k) ?_|refine CE rfl (aa k) rfl ?_)
   ((conv=>whnf);refine CC (i+1) ⟨ω,iG k (U0 ω) L⟩ ω ?_;(exact wC))
  have n:kh (NE a) g.R=i:=vt ω L λz M=>by
   have X:=(U2.1 M).1;have:z=nth g.R i:=(bD M).symm;subst this;exact O0 ω
  have k:i<g.R.length->g.R[i]? = some (nth g.R i):=λY=>au Y
  have Z:=xZ g.R i ⟨h.w,a,size,(T:Nat)⟩ ω ω;rw[show addO g a size (T:Nat) = {g with R:=g.R.take i++⟨g.w,a,size,(T:Nat)⟩::g.R.drop i,w:=g.w+1} by unfold addO;rw[vE n],e]
  repeat'(first|refine gE ?_|(conv=>whnf);first|with_reducible (first|refine CB (aa (k ω)) ?_|refine Bf.D (λb=>?_) (λb=>?_))|refine CE rfl (aa (k ω)) rfl ?_|refine CF (Z) (.inl rfl) ?_|refine C9 ?_)
  all_goals
   rw[e];rfl
 rw[C8 H];have N:9<=size:=by unfold aV at H;repeat' split at H<;>omega
 have d:=x3 h size l ⟨N,y.2⟩ ω;rw[KI t l ⟨N,y.2⟩];have hg:(Hw h size).1.w=h.w/\(Hw h size).1.R=h.R:=by
  unfold Hw;split
  ·exact⟨rfl,rfl⟩
  split<;>exact⟨rfl,rfl⟩
 generalize Hw h size=w at d hg |-;obtain⟨g,a⟩:=w;obtain⟨e,O⟩:=hg;simp only at d e O |-;have S:g.R.length<=512:=by rw[O];exact Q
 have U:1<=g.w/\g.w<=1000000:=ω
 by_cases J:a<0
 ·rw[CA J]
  rw[U0 ω]at d;refine⟨_,pK.own _,?_⟩;change am _ _ _ _ _ (gk _++_);refine fP 108 [(65,[2,0,0]),(66,[2,0]),(67,[1,0,1])] [(8,6,[47,48,49,50,51,52])] Tryz.func17 rfl ?_ (.inl rfl)
  repeat'(first|refine gB ?_|(conv=>whnf);first|with_reducible refine Bf.D (λb=>?_) (λb=>?_)|refine C7 (p) ?_|refine C7 (o) ?_|refine C7 (q) ?_|refine C7 (u) ?_|refine C7 (F) ?_|refine C9 ?_|refine C7 (G) ?_|refine CF (d) (.inl rfl) ?_)
  rfl
 rw[C8 J];rw[O0 ω]at d;refine⟨_,pK.own _,?_⟩;change am _ _ _ _ _ (gk _++_);refine fP 108 [(65,[2,0,0]),(66,[2,0]),(67,[1,0,1])] [(8,6,[47,48,49,50,51,52])] Tryz.func17 rfl ?_ (.inl rfl)
 repeat'(first|refine gB ?_|(conv=>whnf);first|with_reducible refine Bf.D (λb=>?_) (λb=>?_)|refine C7 (p) ?_|refine C7 (o) ?_|refine C7 (q) ?_|refine C7 (u) ?_|refine C7 (F) ?_|refine C9 ?_|refine C7 (G) ?_|refine CF (d) (.inl rfl) ?_)
 (conv=>whnf)
 refine CD (ι:=Nat) (λi=>[(1,.G .one [I (t)]),(2,.G .one [I (size)]),(3,.G .box (ac.enc .U h)),(6,.G .box (rM)),(9,.G .box (gk g)),(10,.G .one [I (a)]),(13,.G .one [I ((i:Nat):Int)])]) (λi=>i<=g.R.length/\∀(j:Nat)(z:bc),j<i->g.R[j]? = some z->NE a z=false) (λi=>g.R.length - i) (0) ?_ (⟨W0 _,λj z hj=>ω⟩) λi l=>?_
 ·exact wC
 obtain⟨V,L⟩:=l;by_cases W:i<g.R.length/\(nth g.R i).Addr<a
 ·have k:=au W.1
  repeat'(first|refine gE ?_|(conv=>whnf);first|with_reducible refine CB (aa k) ?_|refine CE rfl (aa k) rfl ?_)
  ((conv=>whnf);refine CC (i+1) ⟨ω,iG k (U0 ω) L⟩ ω ?_;(exact wC))
 have n:kh (NE a) g.R=i:=vt ω L λz M=>by
  have X:=(U2.1 M).1;have:z=nth g.R i:=(bD M).symm;subst this;exact O0 ω
 have k:i<g.R.length->g.R[i]? = some (nth g.R i):=λY=>au Y
 have Z:=xZ g.R i ⟨h.w,a,size,t⟩ ω ω;rw[show addO g a size t = {g with R:=g.R.take i++⟨g.w,a,size,t⟩::g.R.drop i,w:=g.w+1} by unfold addO;rw[vE n],e]
 repeat'(first|refine gE ?_|(conv=>whnf);first|with_reducible (first|refine CB (aa (k ω)) ?_|refine Bf.D (λb=>?_) (λb=>?_))|refine CE rfl (aa (k ω)) rfl ?_|refine CF (Z) (.inl rfl) ?_|refine C9 ?_)
 all_goals
  rw[e];rfl
def cl(k:ah)(f c:Nat):Int:=nth (nth k.F.V.W f) c
structure At(k:ah)(a:Int)(f c:Nat):Prop where
 m:(ar k.F.O (a / 16)).o≠0
 f:(ar k.F.O (a / 16)).e=f
 c:a % 16=c
def At.cell{k:ah}{a:Int}(h:At k a f c):tc k a=cl k f c:=by
 unfold tc cl;rw[h.f,h.c,X2,X2]
def bi.pe{E:List Int}(a:bi h E){s:ay}(b:s∈h.H):ar (tbl h) s.Q=nth (tbl h).K s.Q.toNat:=by
 obtain⟨c,d,-⟩:=a.mapped b;unfold ar;rw[CA ⟨c,d⟩]
def Ts(h:ac)(o:bc)(f c:Nat):Prop:=∃j:Int,0<=j/\j<o.a2/\At h.J (o.Addr+j) f c
def JX(h:ac)(f c:Nat):Prop:=h.q=true/\(ar (tbl h) h.y.Y.a8).e=f/\(c:Int)∈h.y.Y.W.take h.y.w.toNat
structure CI(h:ac):Prop where
 z:∀f c:Nat,c<16->cl h.J f c≠0->(∃o∈h.R,Ts h o f c)\/JX h f c
 jv:h.q=true->∀c:Nat,(c:Int)∈h.y.Y.W.take h.y.w.toNat->cl h.J (iq h.J h.y.Y.a8) c=cl h.J (iq h.J h.y.Y.a6) c
 jd:h.q=true->∀s∈h.H,s.Q=h.y.Y.a8->∀c:Nat,c<16->(c:Int)∈h.y.Y.W->aW s.a7 ((c:Int) / csz s.Z)=false
 jc:h.q=true->∀s∈h.H,s.Q=h.y.Y.a6->∀c:Nat,c<16->aW s.a7 ((c:Int) / csz s.Z)=true->(c:Int)∈h.y.Y.W
 jn:h.q=true->(h.y.a9=0->h.y.w=0)/\(h.y.a9=2->h.y.w=h.y.Y.W.length)
 m1:∀q:Nat,(nth (tbl h).K q).o=1->h.q=true/\(q:Int)=h.y.Y.a6/\h.y.a9≠0
 m2:h.q=true->h.y.a9≠0->(ar (tbl h) h.y.Y.a6).o=1
def bi.jobM{E:List Int}(c:bi h E)(f:h.q=true):(ar (tbl h) h.y.Y.a8).o≠0/\(ar (tbl h) h.y.Y.a6).o≠0:=by
 obtain⟨-,⟨a,d,g⟩,b,e,i⟩:=c.job f;rw[<-g,<-i,c.pe d,c.pe e];exact⟨(c.mapped d).2.2,(c.mapped e).2.2⟩
def MM{k:ah}(a:aH k=true){p:Int}(b:(ar k.F.O p).o≠0):(ar k.F.O p).e=(iq k p:Nat):=by
 obtain⟨-,-,-,c,-⟩:=bZ a b;unfold iq;omega
def Jy{t:aN}{p:Int}(h:(ar t p).o≠0):0<=p/\p<t.K.length/\ar t p=nth t.K p.toNat:=by
 unfold ar at h |-;split
 ·rename_i e;exact⟨e.1,e.2,rfl⟩
 rename_i e;rw[C8 e]at h;exact absurd rfl h
structure T0(h h':ac)(x:bc):Prop where
 mem:∀o,o∈h'.R↔o=x\/o∈h.R
 ze:∀j:Int,0<=j->j<x.a2->tc h'.J (x.Addr+j)=0
 ke:∀o∈h.R,∀j:Int,0<=j->j<o.a2->tc h'.J (o.Addr+j)=tc h.J (o.Addr+j)
structure JP(h:ac):Prop where
 km:(ar (tbl h) h.y.Y.a8).o≠0
 mm:(ar (tbl h) h.y.Y.a6).o≠0
 kf:(ar (tbl h) h.y.Y.a8).e=(iq h.J h.y.Y.a8:Nat)
 mf:(ar (tbl h) h.y.Y.a6).e=(iq h.J h.y.Y.a6:Nat)
 ne:iq h.J h.y.Y.a8≠iq h.J h.y.Y.a6
 pe:h.y.Y.a8≠h.y.Y.a6
 k2:CI h->(ar (tbl h) h.y.Y.a8).o≠1
def JP.of{E:List Int}(g:bi h E)(i:JI h)(j:h.q=true):JP h:=by
 obtain⟨k,b⟩:=g.jobM j;have a:=(fJ.1 (g.job j).1).1;unfold fo at a;simp only[I0,C0]at a;have c:=a.2.2.2.2.2;have l:=MM g.ker k;have n:=MM g.ker b;obtain⟨t,u,o⟩:=Jy k;obtain⟨w,y,q⟩:=Jy b;refine⟨k,b,l,n,λe=>c ?_,c,λr p=>?_⟩
 ·have d:(ar (tbl h) h.y.Y.a8).e=(iq h.J h.y.Y.a8:Nat):=l
  have f:(ar (tbl h) h.y.Y.a6).e=(iq h.J h.y.Y.a6:Nat):=n;rw[o]at d;rw[q]at f b;have:=i.sk j h.y.Y.a6.toNat b (by rw[d,f,e]);omega
 rw[o]at p;have:=(r.m1 _ p).2.1;omega
def hE(h:ac)(k:ah):ac:={h with J:=k,q:=false,y:=⟨⟨0,0,[]⟩,0,0⟩}
def sm{α:Type}(f:α->Int):List α->Int
 | []=>0
 | a::l=>f a+sm f l
def cells1(xs:List Int)(i:Nat)(h:i<xs.length):[rI .U (nth xs i)]=((xs.map (rI .U)).take (i+1)).drop i:=by
 rw[List.drop_take,<-v4,gR h,show i+1 - i=1 by omega]
 rfl
def B1(k:ah)(j:dy)(c:aH k=true)(D:kq j=true):zzA 493 false [.val (some 5) (ah.enc .U k),.val (some 5) (dy.enc .U j)] (.tup [some 5,some 5]) (ah.enc .own (gl k j).1++dy.enc .own (gl k j).2):=by
 obtain⟨F,Y,Z,Q,j6⟩:=fJ.1 D;have R:=oo F;have y:=bW c;have g:=fE k y;have l:=rx j (AB D);have b:=gp k y;rw[c,Bool.and_true]at b;have o:=xW j (AB D);rw[D]at o;have d:=ee k j.Y.a8 y.1.2;have p:=ee k j.Y.a6 y.1.2;have r:=cJ k.F.O j.Y.a8 y.1.2;have t:=cJ k.F.O j.Y.a6 y.1.2;have L:=(bt.1 (aI.1 c).2.2.1).2.2;have S:=(bh.1 (aI.1 c).2.1).2.2.1;have q:jmay k j=false->gl k j=(k,j):=λe=>by unfold gl;rw[e];rfl
 refine fO 149 [(1,262,[11,12,13,14,15,16,0,1,2,3,4,5,6,1003,1004,1005,7]),(2,6,[17,18,19,20,8,9]),(3,33,[21,22,23,24,25,26,27,28,29,30,31,32,33,34,35,36,37,38,39,40,41,42,43,44,45,46,47,48,49,50,51,52,53]),(4,258,[56,57,0,1,2,1001,3]),(15,272,[82,83,84,85,86,87,88,89,90,91,92,93,94,81,95,96,0,1,2,3,4,5,6,7,8,9,10,11,12,13,14,15,16,1015]),(25,273,[123,124,125,126,127,128,129,130,131,132,133,134,135,122,136,137,138,0,1,2,3,4,5,6,7,8,9,10,11,12,13,14,15,16,17,1015]),(29,258,[147,148,0,1,2,1001,3])] Tryz.func493 rfl ?_ (.inr (aD (CT _) (dy.enc_fr _)));by_cases u:k.Calls=100000
 ·rw[U0 (λn=>n u)]at b
  rw[q (by rw[<-Z4,oR];exact λh=>h.1.2 u)]
  repeat'(first|refine gP ?_|(conv=>whnf);first|refine C9 ?_|refine C7 (g) ?_|refine C7 (l) ?_|refine C7 (b) ?_|refine C9 ?_)
  rfl
 rw[O0 u]at b;by_cases B:(ar k.F.O j.Y.a8).o=0
 ·rw[U0 (λn=>n B)]at d
  rw[q (by rw[<-Z4,oR];exact λh=>h.2.2.1 B)]
  repeat'(first|refine gP ?_|(conv=>whnf);first|refine C9 ?_|refine C7 (g) ?_|refine C7 (l) ?_|refine C7 (b) ?_|refine C7 (o) ?_|refine C7 (d) ?_|refine C9 ?_)
  rfl
 rw[O0 B]at d;by_cases w:(ar k.F.O j.Y.a6).o=0
 ·rw[U0 (λn=>n w)]at p
  rw[q (by rw[<-Z4,oR];exact λh=>h.2.2.2.1 w)]
  repeat'(first|refine gP ?_|(conv=>whnf);first|refine C9 ?_|refine C7 (g) ?_|refine C7 (l) ?_|refine C7 (b) ?_|refine C7 (o) ?_|refine C7 (d) ?_|refine C7 (p) ?_|refine C9 ?_)
  rfl
 rw[O0 w]at p;by_cases G:(ar k.F.O j.Y.a8).e=(ar k.F.O j.Y.a6).e
 ·rw[q (by rw[<-Z4,oR];exact λh=>h.2.2.2.2 G)]
  repeat'(first|refine gB ?_|(conv=>whnf);first|refine C9 ?_|refine C7 (g) ?_|refine C7 (l) ?_|refine C7 (b) ?_|refine C7 (o) ?_|refine C7 (d) ?_|refine C7 (p) ?_|refine C7 (r) ?_|refine C7 (t) ?_|refine C9 ?_)
  rfl
 have T:jmay k j=true:=oR.2 ⟨⟨c,u⟩,D,B,w,G⟩;rw[show gl k j=jstep k j by unfold gl;rw[T];rfl];have H:j.Y.a6≠j.Y.a8:=λe=>G (by rw[e])
 unfold jstep;by_cases M:j.a9=0
 ·rw[CA M]
  have a:=qk k j.Y.a6 1 c u w (.inl rfl);cases e:(gj k j.Y.a6 1).2<;>rw[e]at a
  all_goals
   repeat'(first|refine gB ?_|(conv=>whnf);first|refine C9 ?_|refine C7 (g) ?_|refine C7 (l) ?_|refine C7 (b) ?_|refine C7 (o) ?_|refine C7 (d) ?_|refine C7 (p) ?_|refine C7 (r) ?_|refine C7 (t) ?_|refine C7 (a) ?_|refine C9 ?_)
   rfl
 rw[C8 M];by_cases N:j.a9=1
 ·rw[CA N]
  by_cases E:j.w=j.Y.W.length
  ·rw[CA E]
   repeat'(first|refine gB ?_|(conv=>whnf);first|refine C9 ?_|refine C7 (g) ?_|refine C7 (l) ?_|refine C7 (b) ?_|refine C7 (o) ?_|refine C7 (d) ?_|refine C7 (p) ?_|refine C7 (r) ?_|refine C7 (t) ?_|refine C9 ?_)
   rfl
  rw[C8 E];obtain⟨n,C⟩:=Z2 Q;have a:=Gi k j.Y.a6 j.Y.a8 (nth j.Y.W j.w.toNat) c u w B (mB F ω);rw[C,X2]at a;have J:n<j.Y.W.length:=ω
  rw[show nth j.Y.W j.w.toNat=nth j.Y.W n by rw[C];rfl]
  repeat'(first|refine gB ?_|(conv=>whnf);first|refine C9 ?_|refine C7 (g) ?_|refine C7 (l) ?_|refine C7 (b) ?_|refine C7 (o) ?_|refine C7 (d) ?_|refine C7 (p) ?_|refine C7 (r) ?_|refine C7 (t) ?_|refine Sl.mid (rows':=[rI .U (nth j.Y.W n)]) n (n+1) C ω ω (by rw[C1];omega) (aQ λ_=>rfl) (cells1 _ _ J) ?_|refine C7 (a) ?_|refine C9 ?_)
  rfl
 rw[C8 N];by_cases O:j.a9=2
 ·rw[CA O]
  have a:=EJ k j.Y.a6 j.Y.a8 c u w B H;cases e:(yo k j.Y.a6 j.Y.a8).2<;>rw[e]at a
  all_goals
   repeat'(first|refine gB ?_|(conv=>whnf);first|refine C9 ?_|refine C7 (g) ?_|refine C7 (l) ?_|refine C7 (b) ?_|refine C7 (o) ?_|refine C7 (d) ?_|refine C7 (p) ?_|refine C7 (r) ?_|refine C7 (t) ?_|refine C7 (a) ?_|refine C9 ?_)
   rfl
 rw[C8 O];by_cases K:j.a9=3
 ·rw[CA K]
  obtain⟨p1,p2,p3,U,p5⟩:=bZ c B;by_cases E:0<j.w
  ·rw[CA E]
   have P:=mB F (i:=(j.w - 1).toNat) ω;have V:=au (xs:=j.Y.W) (i:=(j.w - 1).toNat) ω;have W:0<=j.Y.a8*16+nth j.Y.W (j.w - 1).toNat/\j.Y.a8*16+nth j.Y.W (j.w - 1).toNat<512:=ω
   have X:(j.Y.a8*16+nth j.Y.W (j.w - 1).toNat) / 16=j.Y.a8:=ω
   have a:=wL k.F (j.Y.a8*16+nth j.Y.W (j.w - 1).toNat) 0 (iT c) y.1 W ω (λ_=>by rw[X];exact⟨U,ω,row16 c (f:=iq k j.Y.a8) (by unfold iq;omega)⟩);generalize (kb k.F (j.Y.a8*16+nth j.Y.W (j.w - 1).toNat) 0).1=m at a |-;generalize (kb k.F (j.Y.a8*16+nth j.Y.W (j.w - 1).toNat) 0).2=e at a
   repeat'(first|refine gB ?_|(conv=>whnf);first|refine C9 ?_|refine C7 (g) ?_|refine C7 (l) ?_|refine C7 (b) ?_|refine C7 (o) ?_|refine C7 (d) ?_|refine C7 (p) ?_|refine C7 (r) ?_|refine C7 (t) ?_|refine C7 (a) ?_|refine CL ω (aa V) ?_|refine C9 ?_)
   rfl
  rw[C8 E];have a:=qk k j.Y.a6 2 c u w (.inr rfl);cases e:(gj k j.Y.a6 2).2<;>rw[e]at a
  all_goals
   repeat'(first|refine gB ?_|(conv=>whnf);first|refine C9 ?_|refine C7 (g) ?_|refine C7 (l) ?_|refine C7 (b) ?_|refine C7 (o) ?_|refine C7 (d) ?_|refine C7 (p) ?_|refine C7 (r) ?_|refine C7 (t) ?_|refine C7 (a) ?_|refine C9 ?_)
   first|rfl|(rw[<-K];rfl)
 rw[C8 K]
 repeat'(first|refine gB ?_|(conv=>whnf);first|refine C9 ?_|refine C7 (g) ?_|refine C7 (l) ?_|refine C7 (b) ?_|refine C7 (o) ?_|refine C7 (d) ?_|refine C7 (p) ?_|refine C7 (r) ?_|refine C7 (t) ?_|refine C9 ?_)
 rfl
def RZ(h:ac):Int:=(gl h.J h.y).2.a9
def y6(h:ac)(l:bi h [])(n:h.q=true)(o:ac.sml h)(t:h.J.Calls<=99000):zzA 387 false [.val (some 24) (ac.enc .U h)] (.tup [some 24,none,none]) (ac.enc .own (mStep h)++[I (RZ h),B true]):=by
 obtain⟨q,-,-⟩:=l.job n;have i:=gF h o;have c:=cw h o;rw[du,l.to]at c;have j:=B1 h.J h.y l.ker q;have a:=aD (b:=[I (RZ h),B true]) (ac.enc_fr (mStep h)) ⟨trivial,trivial,trivial⟩;unfold RZ mStep at a |-;generalize gl h.J h.y=r at j a |-;have d:(ac.enc .U h)=(ac.enc .U h).set 18 (B true):=by rw[<-n];rfl
 rw[d];rw[d]at i c;by_cases e:r.2.a9=4
 ·rw[CA (show over r.2=true from O0 (.inl e)),CA (show over r.2=true from O0 (.inl e))]at a |-
  refine fO 51 [(3,260,[23,24,25,26,0,1,2,3,4,1001,1002,1003,5,6])] Tryz.func387 rfl ?_ (.inr a)
  repeat'((conv=>whnf);first|with_reducible (first|refine Lm ?_|refine Wm ω ?_|refine dF ω (λg=>?_)|refine eT ω (λg=>?_)|refine eF ω (λg=>?_)|refine Bn ?_|refine jh.wk rfl ?_)|refine Bt ?_|refine Bu ?_|refine C9 ?_|refine C7 (i) ?_|refine C7 (c) ?_|refine C7 (j) ?_|refine C9 ?_)
  rw[e];exact wC
 by_cases k:r.2.a9=5
 ·rw[CA (show over r.2=true from O0 (.inr k)),CA (show over r.2=true from O0 (.inr k))]at a |-
  refine fO 51 [(3,260,[23,24,25,26,0,1,2,3,4,1001,1002,1003,5,6])] Tryz.func387 rfl ?_ (.inr a)
  repeat'((conv=>whnf);first|with_reducible (first|refine Lm ?_|refine Wm ω ?_|refine dF ω (λg=>?_)|refine eT ω (λg=>?_)|refine eF ω (λg=>?_)|refine Bn ?_|refine jh.wk rfl ?_)|refine Bt ?_|refine Bu ?_|refine C9 ?_|refine C7 (i) ?_|refine C7 (c) ?_|refine C7 (j) ?_|refine C9 ?_)
  rw[k];exact wC
 have p:¬over r.2=true:=by unfold over;simp[e,k]
 rw[C8 p,C8 p]at a |-;refine fO 51 [(3,260,[23,24,25,26,0,1,2,3,4,1001,1002,1003,5,6])] Tryz.func387 rfl ?_ (.inr a)
 repeat'(first|refine gB ?_|(conv=>whnf);first|refine C9 ?_|refine C7 (i) ?_|refine C7 (c) ?_|refine C7 (j) ?_|refine C9 ?_)
 rw[n]
 rfl
def PV{k:ah}(a:aH k=true):cL k.F.V=fA k.F.V.k k.F.V.k.length:=by
 unfold cL;rw[CA (aI.1 a).2.1]
def Hg(w:bi h [])(b:JI h)(j:h.q=true):(gl h.J h.y).1.F.V.k=if Fr h=true then h.J.F.V.k.set (iq h.J h.y.Y.a6) false else h.J.F.V.k:=by
 have c:=JP.of w b j;have D:=b.ph j;unfold Fr gl;by_cases a:jmay h.J h.y=true;rotate_left
 ·rw[C8 a,C8 (by simp only[C0];omega)]
 rw[CA a];unfold jstep;by_cases y:h.y.a9=0
 ·rw[CA y]
  have l:decide ((if(gj h.J h.y.Y.a6 1).2=true then(1:Int) else 5)=4)=false:=by split<;>decide
  show(gj h.J h.y.Y.a6 1).1.F.V.k=if decide ((if(gj h.J h.y.Y.a6 1).2=true then(1:Int) else 5)=4)=true then _ else _
  rw[l,C8 (by decide)];unfold gj;split<;>rfl
 rw[C8 y];by_cases A:h.y.a9=1
 ·rw[CA A]
  split
  ·rw[C8 (by simp)]
  rw[C8 (by simp only[C0];omega)];rfl
 rw[C8 A];by_cases B:h.y.a9=2
 ·rw[CA B]
  simp only;have C:h.J.Calls≠100000:=by unfold jmay at a;simp only[I0,C0]at a;exact a.1.2
  cases d:(yo h.J h.y.Y.a6 h.y.Y.a8).2 with
  | false=>
   rw[C8 (by simp),Lh d];rfl
  | true=>
   rw[CA (by simp)];have f:=H8 w.ker (p:=h.y.Y.a6) (o:=h.y.Y.a8) c.mm d;unfold yo at d |-;by_cases e:refd h.J=true
   ·rw[CA e]at d;cases d
   rw[C8 e];simp only;obtain⟨L,M,E⟩:=Jy c.mm;obtain⟨N,O,G⟩:=Jy c.km;have H:(nth h.J.F.O.K h.y.Y.a6.toNat).e=(iq h.J h.y.Y.a6:Nat):=by
    rw[show nth h.J.F.O.K h.y.Y.a6.toNat=nth (tbl h).K h.y.Y.a6.toNat from rfl,<-E];exact c.mf
   have J:(nth h.J.F.O.K h.y.Y.a8.toNat).e=(iq h.J h.y.Y.a8:Nat):=by
    rw[show nth h.J.F.O.K h.y.Y.a8.toNat=nth (tbl h).K h.y.Y.a8.toNat from rfl,<-G];exact c.kf
   unfold fH;rw[CA ?_]
   ·show h.J.F.V.k.set _ false=_
    rw[H,X2]
   refine Classical.byContradiction λn=>?_
   obtain⟨q,P,r,g⟩:=ed.1 (Nat.pos_of_ne_zero n);have i:=(f q).2;unfold yo at i;rw[C8 e]at i;simp only at i;have t:∀(k:ah)(F:Int),(fH k F).F.O=k.F.O:=λk F=>by unfold fH;split<;>rfl
   rw[t]at i;rw[i]at r g;by_cases u:(q:Int)=h.y.Y.a6
   ·rw[CA u]at g
    have Q:(nth h.J.F.O.K h.y.Y.a8.toNat).e=(nth h.J.F.O.K h.y.Y.a6.toNat).e:=g;exact c.ne ω
   rw[C8 u]at r g;exact u (b.sm j q r g)
 rw[C8 B];have K:h.y.a9=3:=ω
 rw[CA K];split
 ·rw[C8 (by simp only[C0];omega)]
  simp only;unfold kb
  repeat' split
  all_goals rfl
 have l:decide ((if(gj h.J h.y.Y.a6 2).2=true then(5:Int) else 3)=4)=false:=by split<;>decide
 show(gj h.J h.y.Y.a6 2).1.F.V.k=if decide ((if(gj h.J h.y.Y.a6 2).2=true then(5:Int) else 3)=4)=true then _ else _
 rw[l,C8 (by decide)];unfold gj;split<;>rfl
section
variable{P:Program}{w0 w w1:World}{M S0 S:af}{N:eA}{φ:Nat->af}{F:Nat->AV}{a:Act}{TE:Nat->Option TI}
end
def Ke{S Y:af}{t:List C}(d:cC w S Y (ac.enc .own h++t) u):cC w S Y (cN h++t) u:=by
 obtain⟨f,b,e,g⟩:=d;refine⟨f,λj c a=>?_,e,g⟩;have i:cN h++t=(((ac.enc .own h++t).set 6 (oS h)).set 7 (oL h)).set 8 (oO h):=rfl;rw[i]at a;by_cases k:j=8
 ·subst k
  have:c=oO h:=by simpa[ac.enc] using a.symm
  rw[this];exact qQ (b 8 _ rfl)
 by_cases l:j=7
 ·subst l
  have:c=oL h:=by simpa[ac.enc] using a.symm
  rw[this];exact qQ (b 7 _ rfl)
 by_cases n:j=6
 ·subst n
  have:c=oS h:=by simpa[ac.enc] using a.symm
  rw[this];exact qQ (b 6 _ rfl)
 rw[List.getElem?_set_ne ω,List.getElem?_set_ne ω,List.getElem?_set_ne ω]at a;exact b j c a
def am.E{sh:Bool}{A:List RA}{k:Kd}{t:List C}(c:am P f sh A k (ac.enc .own h++t)):am P f sh A k (cN h++t):=by
 obtain⟨a,b⟩:=c;refine⟨a,λw S d g i=>(b w S d g i).mono λe w1 j=>?_⟩;obtain⟨v,l,n,X,S1,o,p,q,r,u⟩:=j;exact⟨v,l,n,X,S1,o,p,q,r,Ke u⟩
def uH(h:ac)(a:ac.sml h)(b:h.q=false):zzA 387 false [.val (some 24) (ac.enc .U h)] (.tup [some 24,none,none]) (cN h++[I h.y.a9,B false]):=by
 have c:=di h a;refine fO 51 [(3,260,[23,24,25,26,0,1,2,3,4,1001,1002,1003,5,6])] Tryz.func387 rfl ?_ (.inr (aD (bS _) ⟨trivial,trivial,trivial⟩))
 repeat'(first|refine gP ?_|(conv=>whnf);first|refine C9 ?_|refine C7 (c) ?_|refine Bf.f b ?_)
 rfl
def stp1(h:ac):ac:=if h.q=true then mStep h else h
def Gg(h:ac)(d:bi h [])(b:ac.sml h)(e:h.J.Calls<=99000):zzA 269 false [.val (some 24) (ac.enc .U h)] (.tup [some 24,none]) (cN (stp1 h)++[B h.q]):=by
 unfold stp1;cases c:h.q with
 | true=>
  rw[CA rfl];have a:=(y6 h d c b e).E;generalize mStep h=g at a |-;refine fO 15 [] Tryz.func269 rfl ?_ (.inr (aD (bS _) ⟨trivial,trivial⟩))
  repeat'(first|refine gP ?_|(conv=>whnf);first|refine C9 ?_|refine C7 (a) ?_)
  rfl
 | false=>
  rw[C8 (by simp)];have a:=uH h b c;refine fO 15 [] Tryz.func269 rfl ?_ (.inr (aD (bS _) ⟨trivial,trivial⟩))
  repeat'(first|refine gP ?_|(conv=>whnf);first|refine C9 ?_|refine C7 (a) ?_)
  rfl
def vg(q:b9)(now:Int)(l:gm q=true)(M:q.a1.length<=4096)(F:0<=now/\now<=1000000)(b:∀y∈q.a1,y.b2<=1000000):zzA 411 false [.val (some 2) (b9.enc .U q),.val none [I now],.val none [I 100]] (.tup [some 2,none]) (Pz q now):=by
 have p:b9.sml q:=⟨ω,λ_ _=>trivial⟩
 have G:=lQ q p;have r:=oX q p;rw[l]at r;have t:=aF now 0 1000000;rw[O0 F]at t;have u:=aF 100 0 1000000;rw[O0 (by decide)]at u;have n:=(jC.1 l).1;have a:g9 (Pz q now):=aD (b9.enc_fr _) (o6 _);have w:∀i,i<q.a1.length->0<=(nth q.a1 i).b2:=λi c=>(n _ (ax c)).2.2.2
 unfold Pz at a |-;generalize H:qT now q.a1=k at a |-;refine fO 59 [] Tryz.func411 rfl ?_ (.inr a)
 repeat'(first|refine gP ?_|(conv=>whnf);first|refine C7 (G) ?_|refine C7 (r) ?_|refine C7 (t) ?_|refine C7 (u) ?_)
 (conv=>whnf)
 refine Lp.fz 8 (ι:=Nat) (λi=>[(1,.G .one [I now]),(2,.G .one [I 100]),(3,.G .box (b9.enc .U q)),(6,.G .box [I 0,.z]),(8,.G .box (b9.enc .U q)),(9,.G .one [I (i:Nat)])]) (λi=>i<=q.a1.length/\∀j,j<i->(nth q.a1 j).b2<now - 100) (λi=>q.a1.length - i) 0 ?_ ⟨W0 _,λj J=>ω⟩ λi c=>?_
 ·(repeat'(first|exact trivial|rfl|exact CG rfl (show Pe (dN (b9.enc .own q)) (b9.enc .U q) by rw[b9.enc_fz];exact mu _)|refine CG ?_ ?_))
 obtain⟨c,B⟩:=c;by_cases d:i<q.a1.length/\(nth q.a1 i).b2<now - 100
 ·have g:=au d.1
  have:=w i d.1;have:=b _ (ax d.1)
  repeat'(first|refine gE ?_|(conv=>whnf);first|with_reducible refine CB (aa g) ?_|refine CE rfl (aa g) rfl ?_)
  ((conv=>whnf);refine CC (i+1) ⟨ω,λj J=>by by_cases e:j=i;(subst e;exact d.2);exact B j ω⟩ ω ?_;(exact wC))
 have h:=H9 now (i:=i) c B (λK L=>d ⟨K,L⟩);rw[H]at h;subst h;have C:=kx (q.a1.take k) (by rw[V1];omega);have E:=kx (q.a1.drop k) (by rw[T3];omega);by_cases o:k<q.a1.length
 ·have g:=au o
  have:=w k o;have:=b _ (ax o)
  repeat'(first|refine gE ?_|(conv=>whnf);first|with_reducible (first|refine CB (aa g) ?_|refine Bf.D (λl=>?_) (λl=>?_))|refine CE rfl (aa g) rfl ?_|refine CS k rfl (by rw[C1];omega) (aQ λ_=>rfl) t4 ?_|refine Sl.suf k rfl (by rw[C1];omega) (aQ λ_=>rfl) v4 ?_|refine C7 (C) ?_|refine C7 (E) ?_|refine C9 ?_)
  rfl
 repeat'(first|refine gE ?_|(conv=>whnf);first|refine CS k rfl (by rw[C1];omega) (aQ λ_=>rfl) t4 ?_|refine Sl.suf k rfl (by rw[C1];omega) (aQ λ_=>rfl) v4 ?_|refine C7 (C) ?_|refine C7 (E) ?_|refine C9 ?_)
 rfl
def KC(h:ac)(xs:List aO)(k:Nat)(a:k<xs.length):freeAs h ((xs.take (k+1)).map (·.Addr))=freeA (freeAs h ((xs.take k).map (·.Addr))) (nth xs k).Addr:=by
 unfold freeAs;rw[t5,au a];simp
def y4(h:ac)(n:Int)(o:ac.sml h)(c:bi h [])(u:h.J.Calls≠100000)(p:0<=n/\n<=1000)(e:h.b0+n<=1000000):zzA 268 false [.val (some 24) (ac.enc .U h),.val none [I n]] (.tup [some 24,none]) (cN (tick h n)++[I ((ns h n).length:Nat)]):=by
 have w:=di h o;have q:=cw h o;rw[du,c.to]at q;have r:=aF n 0 1000;rw[O0 p]at r;have a:=c.nums;unfold dh at a;rw[C0]at a;have B:=c.lens.quar;have t:=vg h.a5 (h.b0+n) c.quar ω ω (λy C=>by have:=c.snc y C;omega);unfold Pz at t;have b:=c.aged (n:=n) p.1 e;have D:((h.a5.a1.take (qT (h.b0+n) h.a5.a1))).length<=512:=by rw[V1];omega
 have g:ns h n=(h.a5.a1.take (qT (h.b0+n) h.a5.a1)).map (·.Addr):=rfl;have E:cN (aged h n)=((cN h).set 15 (I (h.b0+n))).set 13 (.s .own ((h.a5.a1.drop (qT (h.b0+n) h.a5.a1)).map (aO.enc .own))):=rfl;unfold tick;rw[g]at b |-;rw[List.append_nil]at b;generalize h.a5.a1.take (qT (h.b0+n) h.a5.a1)=out at *;refine fP 63 [(247,[2,0])] [] Tryz.func268 rfl ?_ (.inr (aD (bS _) ⟨trivial,trivial⟩))
 repeat'(first|refine gB ?_|(conv=>whnf);first|refine C7 (w) ?_|refine C7 (q) ?_|refine C7 (r) ?_|refine C7 (t) ?_)
 (conv=>whnf)
 refine CD (ι:=Nat) (λk=>[(4,.G .box rM),(6,.G .box (cN (freeAs (aged h n) ((out.take k).map (·.Addr))))),(8,.G .one (dA .own out)),(50,.c0 8 0 [] none),(51,.G .one [I (out.length)]),(52,.G .one [I ((k:Nat):Int)])]) (λk=>k<=out.length) (λk=>out.length - k) (0) ?_ (W0 _) λk G=>?_
 ·exact wC
 by_cases i:k<out.length
 ·have d:=au i
  have j:out.map (·.Addr)=(out.take k).map (·.Addr)++(nth out k).Addr::(out.drop (k+1)).map (·.Addr):=by
   conv=>lhs;rw[<-List.take_append_drop k out,gR i]
   simp
  have l:bi (freeAs (aged h n) ((out.take k).map (·.Addr))) ((nth out k).Addr::(out.drop (k+1)).map (·.Addr)):=bi.freeAs (by rw[<-j];exact b);have F:=jT _ _ _ l (by rw[(ip _ _).2.2.1];exact u)
  repeat'(first|refine gE ?_|(conv=>whnf);first|refine CB (aa d) ?_|refine CE rfl (aa d) rfl ?_|refine CF (F) (.inl rfl) ?_)
  ((conv=>whnf);refine CC (k+1) ω ω ?_)
  rw[KC _ out k i];exact wC
 obtain rfl:k=out.length:=ω
 rw[W4]
 repeat'(first|refine gE ?_|fail)
 rw[C1]
 rfl
def am.fzE{sh:Bool}{A:List RA}{k:Kd}{g:ac}{x:C}(c:am P f sh A k (cN g++[x]))(b:fz x=x):am P f sh A k (ac.enc .U g++[x]):=by
 have a:=c.fzR;rw[df,BG]at a;change am _ _ _ _ _ (_++[fz x]) at a
 rwa [b]at a
def AR(h:ac)(t:Int)(a:ac.sml h)(c:bi h [])(d:¬(h.J.Calls≠100000/\0<=t/\t<=h.T.length - 1)):zzA 91 false [.val (some 24) (ac.enc .U h),.val none [I t]] (.tup [some 24,none]) (cN h++[I 0]):=by
 have e:=di h a;have b:=mH h t a;rw[c.to,show(decide (0<=t/\t<=h.T.length - 1)&&decide (h.J.Calls≠100000)&&true)=false by
   rw[Bool.and_true,<-Z4,I0,C0,C0];exact λx=>d ⟨x.2,x.1⟩]at b
 refine fP 52 [(247,[2,0])] [] Tryz.func91 rfl ?_ (.inr (aD (bS _) ⟨trivial,trivial⟩))
 repeat'(first|refine gP ?_|(conv=>whnf);first|refine C9 ?_|refine C7 (e) ?_|refine C7 (b) ?_)
 rfl
def Ea(h:ac)(n:Int)(g:ac.sml h)(i:bi h [])(j:¬(h.J.Calls≠100000/\(0<=n/\n<=1000)/\h.b0+n<=1000000)):zzA 268 false [.val (some 24) (ac.enc .U h),.val none [I n]] (.tup [some 24,none]) (cN h++[I 0]):=by
 have d:=di h g;have b:=cw h g;rw[du,i.to]at b;have c:=aF n 0 1000;have a:=i.nums;unfold dh at a;rw[C0]at a;by_cases k:h.J.Calls=100000
 ·refine fP 63 [(247,[2,0])] [] Tryz.func268 rfl ?_ (.inr (aD (bS _) ⟨trivial,trivial⟩))
  repeat'(first|refine gB ?_|(conv=>whnf);first|refine C9 ?_|refine C7 (d) ?_|refine C7 (b) ?_)
  rfl
 by_cases e:0<=n/\n<=1000
 ·rw[O0 e]at c
  have l:¬h.b0+n<=1000000:=λx=>j ⟨k,e,x⟩
  refine fP 63 [(247,[2,0])] [] Tryz.func268 rfl ?_ (.inr (aD (bS _) ⟨trivial,trivial⟩))
  repeat'(first|refine gB ?_|(conv=>whnf);first|refine C9 ?_|refine C7 (d) ?_|refine C7 (b) ?_|refine C7 (c) ?_)
  rfl
 rw[U0 e]at c;refine fP 63 [(247,[2,0])] [] Tryz.func268 rfl ?_ (.inr (aD (bS _) ⟨trivial,trivial⟩))
 repeat'(first|refine gB ?_|(conv=>whnf);first|refine C9 ?_|refine C7 (d) ?_|refine C7 (b) ?_|refine C7 (c) ?_)
 rfl
def DY(h:ac)(a:ac.sml h)(b:h.q=true)(d:99000<h.J.Calls):zzA 387 false [.val (some 24) (ac.enc .U h)] (.tup [some 24,none,none]) (cN h++[I h.y.a9,B false]):=by
 have c:=di h a;refine fO 51 [(3,260,[23,24,25,26,0,1,2,3,4,1001,1002,1003,5,6])] Tryz.func387 rfl ?_ (.inr (aD (bS _) ⟨trivial,trivial,trivial⟩))
 repeat'(first|refine gE ?_|(conv=>whnf);first|refine C9 ?_|refine C7 (c) ?_|refine Bf.t b ?_)
 rfl
def BP(h:ac)(i:bi h [])(a:ac.sml h):zzA 269 false [.val (some 24) (ac.enc .U h)] (.tup [some 24,none]) (cN (if vd h=true then mStep h else h)++[B (vd h)]):=by
 by_cases b:h.J.Calls<=99000
 ·have c:=Gg h i a b
  unfold stp1 at c;have e:vd h=h.q:=by unfold vd;rw[O0 b,Bool.and_true]
  rw[e];exact c
 have e:vd h=false:=by unfold vd;rw[U0 b,Bool.and_false]
 rw[e,C8 (by simp)];cases g:h.q with
 | true=>
  have d:=DY h a g ω;refine fO 15 [] Tryz.func269 rfl ?_ (.inr (aD (bS _) ⟨trivial,trivial⟩))
  repeat'(first|refine gP ?_|(conv=>whnf);first|refine C9 ?_|refine C7 (d) ?_)
  rfl
 | false=>
  have d:=uH h a g;refine fO 15 [] Tryz.func269 rfl ?_ (.inr (aD (bS _) ⟨trivial,trivial⟩))
  repeat'(first|refine gP ?_|(conv=>whnf);first|refine C9 ?_|refine C7 (d) ?_)
  rfl
def Hv(h:ac):∀k,(sg h k).2<=k
 | 0=>C3 _
 | k+1=>by
  have:=Hv h k;unfold sg;split
  ·show(sg h k).2+1<=_;omega
  omega
def P1{w:bB}{m:Nat}(h:uU w m)(d:jx w.a.J.j)(k:Nat)(f:k<=50):ac.sml (sg w.a k).1:=by
 have e:∀a:dK,a.b1=10->a.N=(k:Nat)->(lm w a).1.a=(sg w.a k).1:=λa c b=>by
  unfold lm;rw[C8 ω,C8 ω,C8 ω,C8 ω,C8 ω,CA ω];show(sg w.a a.N.toNat).1=_;rw[b];rfl
 have c:=h.act ⟨10,0,(k:Nat),0,0⟩;have b:=Fi h ⟨10,0,(k:Nat),0,0⟩;unfold rfs at b;rw[<-e ⟨10,0,(k:Nat),0,0⟩ rfl rfl];exact(c.fit (by rw[b];exact d)).1
def yI(w:bB)(a:dK)(i m:Nat)(h:uU w m)(T:m<=900)(o:ac.sml w.a)(p:i<w.a.R.length):zzA 264 true [.val (some 26) (bB.enc .U w),.val (some 5) (dK.enc .U a),.val (some 4) (bc.enc .U (nth w.a.R i))] (.tup [some 26,none]) (bB.enc .U (na w a i).1++[I (na w a i).2]):=by
 have d:=h.inv;have K:=xP d (ax p);have M:=qY d (ax p) (k:=0);have N:1<=(nth w.a.R i).a2/\(nth w.a.R i).a2<=1000:=by
  rcases d.oow _ (ax p) with⟨s,o,U,G⟩|⟨l,B,c,g⟩
  ·have V:=aL (d.L.sok s o)
   have:=wX (n:=(nth w.a.R i).a2) ω;omega
  have W:=cW (d.L.lok l B);omega
 have C:ny w.a (nth w.a.R i).Addr=i:=by
  obtain⟨G,y,-⟩:=d.objAt (ax p);exact iz (f:=(·.Addr)) (ju d.osr) G p (by rw[y])
 have O:=d.lens.caches;unfold na;by_cases H:a.b1=2
 ·rw[CA H]
  unfold rC;by_cases c:w.a.J.Calls=100000
  ·rw[CA c]
   have j:=(Dl w.a a.a0 (nth w.a.R i).Addr o d.to c).fzE rfl;refine fO 102 [] Tryz.func264 rfl ?_ (.inl rfl)
   repeat'(first|refine gB ?_|(conv=>whnf);first|with_reducible refine Bf.E (λb=>?_) (λb=>?_)|refine C9 ?_|refine Cl.sh j rfl ?_|refine C7 (j) ?_)
   rfl
  rw[C8 c];by_cases g:0<=a.a0/\a.a0<=w.a.T.length - 1
  ·rw[CA (show r9 w.a a from g)]
   obtain⟨t,P⟩:=Z2 g.1;have j:=(BS w.a (nth w.a.R i) t o d.to c (ax p) ω).fzE rfl;rw[C,<-P]at j;rw[show a.a0.toNat=t by omega];have Q:=De w.c3 (nth w.a.R i).Id m h.ref ω;generalize freeT w.a t i=f at j |-;by_cases q:f.2=0
   ·rw[CA q]
    refine fO 102 [] Tryz.func264 rfl ?_ (.inl rfl)
    repeat'(first|refine gB ?_|(conv=>whnf);first|with_reducible refine Bf.E (λb=>?_) (λb=>?_)|refine C9 ?_|refine C7 (j) ?_|refine Cl.sh Q rfl ?_)
    rfl
   rw[C8 q];refine fO 102 [] Tryz.func264 rfl ?_ (.inl rfl)
   repeat'(first|refine gB ?_|(conv=>whnf);first|with_reducible refine Bf.E (λb=>?_) (λb=>?_)|refine C9 ?_|refine C7 (j) ?_)
   rfl
  rw[C8 (show ¬r9 w.a a from g)];have j:=(Dk w.a a.a0 (nth w.a.R i).Addr o d.to c g).fzE rfl;refine fO 102 [] Tryz.func264 rfl ?_ (.inl rfl)
  repeat'(first|refine gB ?_|(conv=>whnf);first|with_reducible refine Bf.E (λb=>?_) (λb=>?_)|refine C9 ?_|refine C7 (j) ?_)
  rfl
 rw[C8 H];by_cases J:a.b1=3
 ·rw[CA J]
  unfold oU;have r:=aF a.At 0 ((nth w.a.R i).a2 - 1);by_cases c:0<=a.At/\a.At<=(nth w.a.R i).a2 - 1;rotate_left
  ·rw[CA c]
   rw[U0 c]at r;refine fO 102 [] Tryz.func264 rfl ?_ (.inl rfl)
   repeat'(first|refine gB ?_|(conv=>whnf);first|with_reducible refine Bf.E (λb=>?_) (λb=>?_)|refine C9 ?_|refine C7 (r) ?_)
   rfl
  rw[C8 (not_not_intro c)];rw[O0 c]at r;have D:0<=F7 w.a ((nth w.a.R i).Addr+a.At):=MY (ax p) (O0 ω);by_cases q:0<=a.Value/\a.Value<=999;rotate_left
  ·have e:=(y5 w.a ((nth w.a.R i).Addr+a.At) a.Value o d q D).fzE rfl
   unfold tbl at e;by_cases g:(ar w.a.J.F.O (((nth w.a.R i).Addr+a.At) / 16)).o=1
   ·rw[CA g]at e |-
    refine fO 102 [] Tryz.func264 rfl ?_ (.inl rfl)
    repeat'(first|refine gB ?_|(conv=>whnf);first|with_reducible refine Bf.E (λb=>?_) (λb=>?_)|refine C9 ?_|refine C7 (r) ?_|refine C7 (e) ?_)
    rfl
   rw[C8 g]at e |-;rw[CA q];refine fO 102 [] Tryz.func264 rfl ?_ (.inl rfl)
   repeat'(first|refine gB ?_|(conv=>whnf);first|with_reducible refine Bf.E (λb=>?_) (λb=>?_)|refine C9 ?_|refine C7 (r) ?_|refine C7 (e) ?_)
   rfl
  have e:=(wx w.a ((nth w.a.R i).Addr+a.At) a.Value o d q).fzE rfl;unfold BT tbl at e;rw[C8 (show ¬F7 w.a ((nth w.a.R i).Addr+a.At)<0 by omega)]at e;by_cases g:(ar w.a.J.F.O (((nth w.a.R i).Addr+a.At) / 16)).o=1
  ·rw[CA g]at e |-
   refine fO 102 [] Tryz.func264 rfl ?_ (.inl rfl)
   repeat'(first|refine gB ?_|(conv=>whnf);first|with_reducible refine Bf.E (λb=>?_) (λb=>?_)|refine C9 ?_|refine C7 (r) ?_|refine C7 (e) ?_)
   rfl
  rw[C8 g]at e |-;rw[C8 (not_not_intro q)];obtain⟨X,R⟩:=y9 w.c3 (nth w.a.R i).Id a.At a.Value m h.ref ω q;simp only at e;refine fO 102 [] Tryz.func264 rfl ?_ (.inl rfl)
  repeat'(first|refine gB ?_|(conv=>whnf);first|with_reducible refine Bf.E (λb=>?_) (λb=>?_)|refine C9 ?_|refine C7 (r) ?_|refine C7 (e) ?_|refine Cl.sh R rfl ?_)
  rfl
 rw[C8 J];unfold r6;have u:=(zf w.a i a.Value o d p).fzE rfl;by_cases c:w.a.J.Calls≠100000/\lC w.a i a.Value
 ·rw[CA c]at u |-
  rw[O0 c]at u;have F:=iW true;obtain⟨Y,S⟩:=AF w.c3 (nth w.a.R i).Id a.Value m h.ref ω;refine fO 102 [] Tryz.func264 rfl ?_ (.inl rfl)
  repeat'(first|refine gB ?_|(conv=>whnf);first|with_reducible refine Bf.E (λb=>?_) (λb=>?_)|refine C9 ?_|refine C7 (u) ?_|refine C7 (F) ?_|refine Cl.sh S rfl ?_)
  rfl
 rw[C8 c]at u |-;rw[U0 c]at u;have F:=iW false;refine fO 102 [] Tryz.func264 rfl ?_ (.inl rfl)
 repeat'(first|refine gB ?_|(conv=>whnf);first|with_reducible refine Bf.E (λb=>?_) (λb=>?_)|refine C9 ?_|refine C7 (u) ?_|refine C7 (F) ?_)
 rfl
def xg(w:bB)(a:dK)(m:Nat)(h:uU w m)(Y:m<=900)(O:jx w.a.J.j):zzA 116 true [.val (some 26) (bB.enc .U w),.val (some 5) (dK.enc .U a)] (.tup [some 26,none]) (bB.enc .U (lm w a).1++[I (lm w a).2]):=by
 have l:=h.inv;have p:=(h.fit O).1;have C:=h.ref.sml (by omega:m<=1000);have g:=(yl w p C).fzR;rw[bB.enc_fz]at g;have i:=cw w.a p;rw[du,l.to]at i;have Z:=l.lens.objs;unfold lm;by_cases P:a.b1=1
 ·rw[CA P]
  obtain⟨cc,r,d⟩:=E8 w.a a.a0 a.N p l (by rw[du];exact l.to);have c:=d.fzR;rw[df,Pb r]at c;change am _ _ _ _ _ (_++[I _,I _]) at c;by_cases e:(fy w.a a.a0 a.N).2.2=0
  ·rw[CA e]
   have F:1<=a.N/\a.N<=1000:=by
    refine Classical.byContradiction λQ=>?_
    unfold fy at e;rw[CA Q]at e;split at e
    ·exact absurd (show(5:Int)=0 from e) (by decide)
    split at e
    ·exact absurd (show(1:Int)=0 from e) (by decide)
    exact absurd (show(2:Int)=0 from e) (by decide)
   have j:=zj w.c3 a.N m h.ref ω F;clear d r;generalize fy w.a a.a0 a.N=f at c e |-;refine fO 148 [(15,11,[56,57,58,59,60,61,62,63,64,65,66])] Tryz.func116 rfl ?_ (.inl rfl)
   repeat'(first|refine gB ?_|(conv=>whnf);first|with_reducible refine Bf.E (λb=>?_) (λb=>?_)|refine C9 ?_|refine C7 (g) ?_|refine C7 (i) ?_|refine Cl.sh c rfl ?_|refine Cl.sh j rfl ?_)
   rfl
  rw[C8 e];clear d r;generalize fy w.a a.a0 a.N=f at c e |-;refine fO 148 [(15,11,[56,57,58,59,60,61,62,63,64,65,66])] Tryz.func116 rfl ?_ (.inl rfl)
  repeat'(first|refine gB ?_|(conv=>whnf);first|with_reducible refine Bf.E (λb=>?_) (λb=>?_)|refine C9 ?_|refine C7 (g) ?_|refine C7 (i) ?_|refine Cl.sh c rfl ?_)
  rfl
 rw[C8 P];by_cases u:a.b1=2\/a.b1=3\/a.b1=4
 ·rw[CA u]
  have G:=jy w.a.R (gy a.N) ω;change am _ _ _ _ _ [I (su w.a a.N)]at G;by_cases e:su w.a a.N<0
  ·rw[CA e]
   rcases u with k|k|k
   all_goals
    refine fO 148 [(15,11,[56,57,58,59,60,61,62,63,64,65,66])] Tryz.func116 rfl ?_ (.inl rfl)
    repeat'(first|refine gB ?_|(conv=>whnf);first|with_reducible (first|refine Bf.D (λb=>?_) (λb=>?_)|refine Bf.E (λb=>?_) (λb=>?_))|refine C9 ?_|refine C7 (g) ?_|refine C7 (i) ?_|refine Cq.mk (nB (some 4) (bc.enc .U) (gy a.N) w.a.R) (ri default a).has (λL k rcs H=>?_) ?_|refine C7 (G) ?_)
    ·obtain⟨y,-,rfl,rfl,rfl⟩:=H
     exact ri y a
    rfl
  rw[C8 e];obtain⟨R,f2,f3⟩:=gG (Qh a.N) w.a.R (by unfold su at e;omega);have S:=yI w a (su w.a a.N).toNat m h Y p R;have J:=au R;change w.a.R[(su w.a a.N).toNat]? = _ at J;generalize na w a (su w.a a.N).toNat=f at S |-;rcases u with k|k|k
  all_goals
   refine fO 148 [(15,11,[56,57,58,59,60,61,62,63,64,65,66])] Tryz.func116 rfl ?_ (.inl rfl)
   repeat'(first|refine gB ?_|(conv=>whnf);first|with_reducible (first|refine Bf.D (λb=>?_) (λb=>?_)|refine Bf.E (λb=>?_) (λb=>?_))|refine C9 ?_|refine C7 (g) ?_|refine C7 (i) ?_|refine Cq.mk (nB (some 4) (bc.enc .U) (gy a.N) w.a.R) (ri default a).has (λL k rcs H=>?_) ?_|refine C7 (G) ?_|refine CL ω (aa J) ?_|refine CE rfl (aa J) rfl ?_|refine Cl.sh S rfl ?_|refine C9 ?_)
   ·obtain⟨y,-,rfl,rfl,rfl⟩:=H
    exact ri y a
   rfl
 rw[C8 u];by_cases T:a.b1=5\/a.b1=6\/a.b1=7
 ·rw[CA T]
  unfold jb;by_cases U:a.b1=5
  ·rw[CA U]
   have c:=tP w.a a.a0 p l;by_cases e:(0<=a.a0/\a.a0<=w.a.T.length - 1)/\0<(nth w.a.u.S a.a0.toNat).length
   ·rw[CA (show r9 w.a a/\0<(nth w.a.u.S a.a0.toNat).length from e)]
    rw[CA e,O0 e]at c;have j:=iW true;refine fO 148 [(15,11,[56,57,58,59,60,61,62,63,64,65,66])] Tryz.func116 rfl ?_ (.inl rfl)
    repeat'(first|refine gB ?_|(conv=>whnf);first|with_reducible refine Bf.E (λb=>?_) (λb=>?_)|refine C9 ?_|refine C7 (g) ?_|refine C7 (i) ?_|refine Cl.sh c rfl ?_|refine C7 (j) ?_)
    rfl
   rw[C8 (show ¬(r9 w.a a/\0<(nth w.a.u.S a.a0.toNat).length) from e)];rw[C8 e,U0 e]at c;have j:=iW false;refine fO 148 [(15,11,[56,57,58,59,60,61,62,63,64,65,66])] Tryz.func116 rfl ?_ (.inl rfl)
   repeat'(first|refine gB ?_|(conv=>whnf);first|with_reducible refine Bf.E (λb=>?_) (λb=>?_)|refine C9 ?_|refine C7 (g) ?_|refine C7 (i) ?_|refine Cl.sh c rfl ?_|refine C7 (j) ?_)
   rfl
  rw[C8 U];by_cases e:w.a.J.Calls≠100000/\0<=a.a0/\a.a0<=w.a.T.length - 1;rotate_left
  ·rw[CA (show ¬(w.a.J.Calls≠100000/\r9 w.a a) from e)]
   by_cases K:a.b1=6
   ·have d:=me w.a a.a0 p l
    rw[C8 e,C8 e]at d;have c:=d.fzE rfl;refine fO 148 [(15,11,[56,57,58,59,60,61,62,63,64,65,66])] Tryz.func116 rfl ?_ (.inl rfl)
    repeat'(first|refine gB ?_|(conv=>whnf);first|with_reducible refine Bf.E (λb=>?_) (λb=>?_)|refine C9 ?_|refine C7 (g) ?_|refine C7 (i) ?_|refine C7 (c) ?_)
    rfl
   have e7:a.b1=7:=ω
   have c:=(AR w.a a.a0 p l e).fzE rfl;refine fO 148 [(15,11,[56,57,58,59,60,61,62,63,64,65,66])] Tryz.func116 rfl ?_ (.inl rfl)
   repeat'(first|refine gB ?_|(conv=>whnf);first|with_reducible refine Bf.E (λb=>?_) (λb=>?_)|refine C9 ?_|refine C7 (g) ?_|refine C7 (i) ?_|refine C7 (c) ?_)
   rfl
  rw[C8 (show ¬¬(w.a.J.Calls≠100000/\r9 w.a a) from not_not_intro e)];by_cases K:a.b1=6
  ·rw[CA K]
   have d:=me w.a a.a0 p l;rw[CA e,CA e]at d;have c:=d.fzE rfl;refine fO 148 [(15,11,[56,57,58,59,60,61,62,63,64,65,66])] Tryz.func116 rfl ?_ (.inl rfl)
   repeat'(first|refine gB ?_|(conv=>whnf);first|with_reducible refine Bf.E (λb=>?_) (λb=>?_)|refine C9 ?_|refine C7 (g) ?_|refine C7 (i) ?_|refine C7 (c) ?_)
   rfl
  rw[C8 K];have e7:a.b1=7:=ω
  obtain⟨t,ht⟩:=Z2 e.2.1;have c:=(yf w.a t p l.to e.1 ω).fzE rfl;rw[<-ht]at c;rw[show a.a0.toNat=t by omega];refine fO 148 [(15,11,[56,57,58,59,60,61,62,63,64,65,66])] Tryz.func116 rfl ?_ (.inl rfl)
  repeat'(first|refine gB ?_|(conv=>whnf);first|with_reducible refine Bf.E (λb=>?_) (λb=>?_)|refine C9 ?_|refine C7 (g) ?_|refine C7 (i) ?_|refine C7 (c) ?_)
  rfl
 rw[C8 T];by_cases V:a.b1=8
 ·rw[CA V]
  unfold pB;by_cases e:w.a.J.Calls≠100000/\(0<=a.N/\a.N<=1000)/\w.a.b0+a.N<=1000000
  ·rw[CA e]
   have c:=(y4 w.a a.N p l e.1 e.2.1 e.2.2).fzE rfl;refine fO 148 [(15,11,[56,57,58,59,60,61,62,63,64,65,66])] Tryz.func116 rfl ?_ (.inl rfl)
   repeat'(first|refine gB ?_|(conv=>whnf);first|with_reducible refine Bf.E (λb=>?_) (λb=>?_)|refine C9 ?_|refine C7 (g) ?_|refine C7 (i) ?_|refine C7 (c) ?_)
   rfl
  rw[C8 e];have c:=(Ea w.a a.N p l e).fzE rfl;refine fO 148 [(15,11,[56,57,58,59,60,61,62,63,64,65,66])] Tryz.func116 rfl ?_ (.inl rfl)
  repeat'(first|refine gB ?_|(conv=>whnf);first|with_reducible refine Bf.E (λb=>?_) (λb=>?_)|refine C9 ?_|refine C7 (g) ?_|refine C7 (i) ?_|refine C7 (c) ?_)
  rfl
 rw[C8 V];by_cases W:a.b1=9
 ·rw[CA W]
  unfold oY;have c:=(yg w.a p).fzE rfl;unfold D5 at c;rw[l.to]at c;cases q:w.a.q with
  | true=>
   rw[CA rfl];rw[C8 (λx=>by rw[q]at x;cases x.1)]at c;have j:=iW false;refine fO 148 [(15,11,[56,57,58,59,60,61,62,63,64,65,66])] Tryz.func116 rfl ?_ (.inl rfl)
   repeat'(first|refine gB ?_|(conv=>whnf);first|with_reducible refine Bf.E (λb=>?_) (λb=>?_)|refine C9 ?_|refine C7 (g) ?_|refine C7 (i) ?_|refine C7 (c) ?_|refine C7 (j) ?_)
   rfl
  | false=>
   rw[C8 (by simp)];rw[CA ⟨q,rfl⟩]at c;have j:=iW (started w.a).2;refine fO 148 [(15,11,[56,57,58,59,60,61,62,63,64,65,66])] Tryz.func116 rfl ?_ (.inl rfl)
   repeat'(first|refine gB ?_|(conv=>whnf);first|with_reducible refine Bf.E (λb=>?_) (λb=>?_)|refine C9 ?_|refine C7 (g) ?_|refine C7 (i) ?_|refine C7 (c) ?_|refine C7 (j) ?_)
   rfl
 rw[C8 W];by_cases k10:a.b1=10;rotate_left
 ·rw[C8 (λx=>k10 x.1)]
  refine fO 148 [(15,11,[56,57,58,59,60,61,62,63,64,65,66])] Tryz.func116 rfl ?_ (.inl rfl)
  repeat'(first|refine gB ?_|(conv=>whnf);first|with_reducible refine Bf.E (λb=>?_) (λb=>?_)|refine C9 ?_|refine C7 (g) ?_|refine C7 (i) ?_)
  all_goals first|omega|rfl
 have c:=aF a.N 0 50;by_cases q:0<=a.N/\a.N<=50;rotate_left
 ·rw[C8 (λx=>q x.2)]
  rw[U0 q]at c;refine fO 148 [(15,11,[56,57,58,59,60,61,62,63,64,65,66])] Tryz.func116 rfl ?_ (.inl rfl)
  repeat'(first|refine gB ?_|(conv=>whnf);first|with_reducible refine Bf.E (λb=>?_) (λb=>?_)|refine C9 ?_|refine C7 (g) ?_|refine C7 (i) ?_|refine C7 (c) ?_)
  rfl
 rw[CA ⟨k10,q⟩];rw[O0 q]at c;obtain⟨n,Q⟩:=Z2 q.1;rw[show a.N.toNat=n by omega];refine fO 148 [(15,11,[56,57,58,59,60,61,62,63,64,65,66])] Tryz.func116 rfl ?_ (.inl rfl)
 repeat'(first|refine gB ?_|(conv=>whnf);first|with_reducible refine Bf.E (λb=>?_) (λb=>?_)|refine C9 ?_|refine C7 (g) ?_|refine C7 (i) ?_|refine C7 (c) ?_)
 (conv=>whnf)
 refine CD (ι:=Nat) (λk=>[(3,.G .box (dK.enc .U a)),(4,.G .box [.z,.z,.z,I 0,.z,.z,.z,.z,.z,.z,.z,.z,I 0,.z,I 0,I 0,I 0,I 0,B false,I 0,I 0,.z,I 0,I 0,I 0,.z]),(6,.G .box (bB.enc .U ⟨(sg w.a k).1,w.c3⟩)),(7,.G .one [I (((sg w.a k).2:Nat):Int)]),(10,.G .one [I ((k:Nat):Int)])]) (λk=>k<=n) (λk=>n - k) (0) ?_ (W0 _) λk hk=>?_
 ·exact wC
 obtain⟨g1,g2⟩:=xO l h.ji k;have M:=P1 h O k ω;have hk2:(sg w.a k).2<=k:=Hv w.a k;have j:=(BP (sg w.a k).1 g1 M).fzE rfl;by_cases lk:k<n
 ·have o:sg w.a (k+1)=if vd (sg w.a k).1=true then(mStep (sg w.a k).1,(sg w.a k).2+1) else sg w.a k:=rfl
  cases X:vd (sg w.a k).1 with
  | true=>
   rw[X]at o j;rw[CA rfl]at o j
   repeat'(first|refine gE ?_|(conv=>whnf);first|with_reducible refine Bf.D (λb=>?_) (λb=>?_)|refine C9 ?_|refine C7 (j) ?_)
   ((conv=>whnf);refine CC (k+1) ω ω ?_)
   rw[o];exact wC
  | false=>
   rw[X]at o j;rw[C8 (by simp)]at o j
   repeat'(first|refine gE ?_|(conv=>whnf);first|with_reducible refine Bf.D (λb=>?_) (λb=>?_)|refine C9 ?_|refine C7 (j) ?_)
   ((conv=>whnf);refine CC (k+1) ω ω ?_)
   rw[o];exact wC
 obtain rfl:k=n:=ω
 repeat'(first|refine gE ?_|(conv=>whnf);first|with_reducible refine Bf.D (λb=>?_) (λb=>?_)|refine C9 ?_)
 rfl
end Go.Proofs.YtiopgblagimpmaaGreat.Ab
