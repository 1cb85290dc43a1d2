/- The reference heap: the program's operations, all that comes back its caller's own. No condition. -/
import Derived.Test.YtjooeakgbamfnaaGreatKRd
import Derived.Test.YtjooeakgbamfnaaGreatKRh
import Derived.Test.YtjooeakgbamfnaaGreatKRi
import Derived.Test.YtjooeakgbamfnaaGreatKRg
import Derived.Test.YtjooeakgbamfnaaGreatKRc
import Derived.ProofKit
import Derived.OpenShut
import Derived.Deep.Slices
import Derived.Deep.Fields
import Derived.ChangeSame
import Derived.WideShapes
set_option linter.unusedVariables false
set_option linter.defProp false
set_option linter.unusedSimpArgs false
set_option linter.constructorNameAsVariable false
namespace Go.Proofs.YtjooeakgbamfnaaGreat.Ab
open Go.RowKit
set_option maxRecDepth 20000
set_option maxHeartbeats 4000000
def YC{rows:List (List C)}(h:HN rows):Gg (oE rows):=by
 cases rows with
 | nil=>exact⟨.inr rfl,tV1⟩
 | cons=>exact sQ (by simp) h
def NS(r:au)(n:Int)(m:Nat)(a:sG r m)(h:m<=1000)(c:1<=n/\n<=1000):zzA 36 false [.val (some 2) (au.enc .O r),.vI n] (.tup [some 2,none]) (au.enc .suf (jt r n)++[I r.k]):=by
 have i:=a.sml h;have d:=a.len;have j:=a.nx;have k:=k4 r i;have e:=aG n 1 1000;rw[O0 c]at e;have key:zzA 36 false [.val (some 2) (au.enc .O r),.vI n] (.tup [some 2,none]) (au.enc .own (jt r n)++[I r.k]):=by
  unfold jt;rw[CJ c];have g:=a7 (b:=[I r.k]) (Cr {r with k:=r.k+1,K:=r.K++[⟨r.k,List.replicate n.toNat 0⟩]}) ⟨tV1,tV1⟩;have l:au.enc .own {r with k:=r.k+1,K:=r.K++[⟨r.k,List.replicate n.toNat 0⟩]} = [I (r.k+1),.s .own (r.K.map (aK.enc .own)++[[I r.k,.s .own (List.replicate n.toNat [I 0])]])]:=by
   simp[au.enc,aK.enc,rI]
  rw[l]at g |-;refine fO 30 [(4,263,[13,14,15,16,17,18,22,0,1,2,3,4,5,6,1000,1001,7,1000,1001,8,9,10]),(6,259,[27,28,29,0,1,2,3,1001,1002,4])] Tryz.func36 rfl ?_ (.inr g)
  repeat'(first|refine gP ?_|refine Mk.mk n.toNat ω ω ω (zc ω qs) rfl ?_|refine Ap.sn (aN λ_=>rfl) rfl kd qs rfl ?_)
  rfl
 exact key.sf ((rz _).append (.refl _))
def Tl(r:au)(id:Int)(m:Nat)(d:sG r m)(o:m<=1000):zzA 124 false [.val (some 2) (au.enc .O r),.vI id] (.tup [some 2,none]) (au.enc .suf (kw r id)++[B (!decide (oD r id<0))]):=by
 have g:=d.sml o;have h:=d.len;have i:=k4 r g;have a:=pn r id g.1;by_cases e:oD r id<0
 ·have key:zzA 124 false [.val (some 2) (au.enc .O r),.vI id] (.tup [some 2,none]) (au.enc .own r++[B false]):=by
   refine fP 24 [(285,[1,0,0])] [] Tryz.func124 rfl ?_ (.inr (a7 (Cr _) ⟨tV1,tV1⟩))
   refine σE ?_
   rfl
  unfold kw;rw[CJ e,O0 e];exact key.sf ((rz _).append (.refl _))
 obtain⟨p,q,t⟩:=eZ (iG id) r.K (by unfold oD at e;omega);obtain⟨j,b⟩:=t5 (show 0<=oD r id by omega);have c:j<r.K.length:=by unfold oD at b;omega
 have k:=EE r.K j c;have key:zzA 124 false [.val (some 2) (au.enc .O r),.vI id] (.tup [some 2,none]) ([I r.k,oE ((dele r.K j).map (aK.enc .own))]++[B true]):=by
  rw[b]at a;rcases ug (rows:=(dele r.K j).map (aK.enc .own)) with l|⟨-,l⟩
  all_goals
   have n:=YC (rows:=(dele r.K j).map (aK.enc .own)) (bj _ _ λx _=>aK.enc_fr x);rw[l]at k n |-;refine fP 24 [(285,[1,0,0])] [] Tryz.func124 rfl ?_ (.inr ⟨tV1,n,tV1,tV1⟩)
   refine σE ?_
   rfl
 unfold kw;rw[CI e,C1 e,b];exact key.sf (.cons (.rfl_ _) (.cons (LW (Qm _)) (.refl _)))
def Ph(r:au)(id a v:Int)(m:Nat)(p:sG r m)(D:m<=1000)(q:0<=v/\v<=999):∃b:Bool,zzA 126 false [.val (some 2) (au.enc .O r),.vI id,.vI a,.vI v] (.tup [some 2,none]) (au.enc .suf (dU r id a v)++[B b]):=by
 have n:=p.sml D;have t:=p.len;have o:=k4 r n;have h:=pn r id n.1;by_cases k:0<=oD r id;rotate_left
 ·rw[show dU r id a v=r by unfold dU;rw[CI (λx=>k x.1)]]
  refine⟨false,?_⟩;have key:zzA 126 false [.val (some 2) (au.enc .O r),.vI id,.vI a,.vI v] (.tup [some 2,none]) (au.enc .own r++[B false]):=by
   refine fO 48 [] Tryz.func126 rfl ?_ (.inr (a7 (Cr _) ⟨tV1,tV1⟩))
   refine σE ?_
   rfl
  exact key.sf ((rz _).append (.refl _))
 obtain⟨H,J,K⟩:=eZ (iG id) r.K k;obtain⟨j,d⟩:=t5 k;have e:j<r.K.length:=by unfold oD at d;omega
 have c:=ar e;have E:(nth r.K j).U.length<=1048576:=n.2 _ (ax e);rw[d]at h;have l:=aG a 0 (((nth r.K j).U.length:Nat) - 1:Int);by_cases g:0<=a/\a<=((nth r.K j).U.length:Nat) - 1;rotate_left
 ·rw[show dU r id a v=r by unfold dU;rw[CI (λx=>g (by have:=x.2.1;rw[d]at this;exact this))]]
  rw[C1 g]at l;refine⟨false,?_⟩;have key:zzA 126 false [.val (some 2) (au.enc .O r),.vI id,.vI a,.vI v] (.tup [some 2,none]) (au.enc .own r++[B false]):=by
   refine fO 48 [] Tryz.func126 rfl ?_ (.inr (a7 (Cr _) ⟨tV1,tV1⟩))
   refine σE ?_
   rfl
  exact key.sf ((rz _).append (.refl _))
 obtain⟨b,u⟩:=t5 g.1;have F:dU r id a v = {r with K:=r.K.set j ⟨(nth r.K j).Id,(nth r.K j).U.set b v⟩}:=by
  unfold dU;rw[CJ ⟨k,by rw[d];exact g,q⟩,d,u];rfl
 rw[O0 g]at l;rw[F];subst u;have w:=ar (xs:=(nth r.K j).U) (i:=b) ω;have y:=aG v 0 999;rw[O0 q]at y;refine⟨true,?_⟩;have key:zzA 126 false [.val (some 2) (au.enc .O r),.vI id,.vI (b:Nat),.vI v] (.tup [some 2,none]) (au.enc .own {r with K:=r.K.set j ⟨(nth r.K j).Id,(nth r.K j).U.set b v⟩}++[B true]):=by
  have G:au.enc .own {r with K:=r.K.set j ⟨(nth r.K j).Id,(nth r.K j).U.set b v⟩} = [I r.k,.s .own ((r.K.map (aK.enc .own)).set j [I (nth r.K j).Id,.s .own (((nth r.K j).U.map (rI .own)).set b [I v])])]:=by
   simp[au.enc,aK.enc,rI,CC]
  have C:=a7 (b:=[B true]) (Cr {r with K:=r.K.set j ⟨(nth r.K j).Id,(nth r.K j).U.set b v⟩}) ⟨tV1,tV1⟩;rw[G]at C |-;refine fO 48 [] Tryz.func126 rfl ?_ (.inr C)
  repeat'(first|refine gE ?_|with_reducible refine CQ ω (aa c) ?_|refine Pu.two rfl rfl (aa c) rfl rfl rfl (aa w) rfl (z5 _) rfl ?_)
  rfl
 exact key.sf ((rz _).append (.refl _))
def QR(r:au)(id n:Int)(m:Nat)(w:sG r m)(F:m<=1000):∃b:Bool,zzA 128 false [.val (some 2) (au.enc .O r),.vI id,.vI n] (.tup [some 2,none]) (au.enc .suf (fy r id n)++[B b]):=by
 have l:=w.sml F;have y:=w.len;have o:=k4 r l;have g:=pn r id l.1;by_cases h:0<=oD r id;rotate_left
 ·rw[show fy r id n=r by unfold fy;rw[CI (λx=>h x.1)]]
  refine⟨false,?_⟩;have key:zzA 128 false [.val (some 2) (au.enc .O r),.vI id,.vI n] (.tup [some 2,none]) (au.enc .own r++[B false]):=by
   refine fO 44 [(5,11,[30,31,32,33,34,35,36,37,38,39,40])] Tryz.func128 rfl ?_ (.inr (a7 (Cr _) ⟨tV1,tV1⟩))
   refine σE ?_
   rfl
  exact key.sf ((rz _).append (.refl _))
 obtain⟨K,L,M⟩:=eZ (iG id) r.K h;obtain⟨j,c⟩:=t5 h;have d:j<r.K.length:=by unfold oD at c;omega
 have a:=ar d;have G:(nth r.K j).U.length<=1048576:=l.2 _ (ax d);rw[c]at g;have i:=aG n 1 (((nth r.K j).U.length:Nat):Int);by_cases k:1<=n/\n<=((nth r.K j).U.length:Nat);rotate_left
 ·rw[show fy r id n=r by unfold fy;rw[CI (λx=>k (by have:=x.2;rw[c]at this;exact this))]]
  rw[C1 k]at i;refine⟨false,?_⟩;have key:zzA 128 false [.val (some 2) (au.enc .O r),.vI id,.vI n] (.tup [some 2,none]) (au.enc .own r++[B false]):=by
   refine fO 44 [(5,11,[30,31,32,33,34,35,36,37,38,39,40])] Tryz.func128 rfl ?_ (.inr (a7 (Cr _) ⟨tV1,tV1⟩))
   refine σE ?_
   rfl
  exact key.sf ((rz _).append (.refl _))
 obtain⟨b,D⟩:=t5 (show 0<=n by omega);have H:fy r id n = {r with K:=r.K.set j ⟨(nth r.K j).Id,(nth r.K j).U.take b⟩}:=by
  unfold fy;rw[CJ ⟨h,by rw[c];exact k⟩,c,D];rfl
 rw[O0 k]at i;rw[H];subst D;refine⟨true,?_⟩;have E:=a7 (b:=[B true]) (Cr {r with K:=r.K.set j ⟨(nth r.K j).Id,(nth r.K j).U.take b⟩}) ⟨tV1,tV1⟩;have J:au.enc .own {r with K:=r.K.set j ⟨(nth r.K j).Id,(nth r.K j).U.take b⟩} = [I r.k,.s .own ((r.K.map (aK.enc .own)).set j [I (nth r.K j).Id,.s .own (((nth r.K j).U.take b).map (rI .own))])]:=by
  simp[au.enc,aK.enc,CC]
 have key:zzA 128 false [.val (some 2) (au.enc .O r),.vI id,.vI (b:Nat)] (.tup [some 2,none]) (au.enc .own {r with K:=r.K.set j ⟨(nth r.K j).Id,(nth r.K j).U.take b⟩}++[B true]):=by
  rw[J]at E |-;have p:((nth r.K j).U.map (rI .own)).take b=((nth r.K j).U.take b).map (rI .own):=C8.symm;have t:((nth r.K j).U.take b).map (rI .own)≠[]:=λe=>by have:=O1 List.length e;simp only[I2,I3,List.length_nil]at this;omega
  have u:∀x:List C,((r.K.map (aK.enc .own)).set j x).set j [I (nth r.K j).Id,.s .own (((nth r.K j).U.take b).map (rI .own))]=(r.K.map (aK.enc .own)).set j [I (nth r.K j).Id,.s .own (((nth r.K j).U.take b).map (rI .own))]:=λx=>List.set_set ..
  generalize ((nth r.K j).U.take b).map (rI .own)=R at *;cases R with
  | nil=>exact absurd rfl t
  | cons q N=>
   refine fP 44 [(7000040,[])] [(5,268,[30,31,32,33,34,35,36,37,38,39,41,42,0,1,2,3,4,5,6,7,8,9,10,1000,1001,1002,11,12,13])] Tryz.func128 rfl ?_ (.inr E)
   repeat'(first|refine gE ?_|refine CL rfl (ce a) rfl ?_|refine CH (ce a) ?_|refine Cg rfl rfl (aa a) rfl (O2 rfl) rfl rfl ?_|refine CZ b rfl (by rw[I2];omega) (aN λ_=>rfl) p.symm ?_|refine CR rfl rfl (ce a) rfl (O2 rfl) (O1 (λz=>[I r.k,C.s eL.own z]) (u _).symm) ?_)
   rfl
 exact key.sf ((rz _).append (.refl _))
def NX:∀{cs:List C},(∀(j:Nat)(c:C),cs[j]? = some c->Gg c)->gl cs
 | [],_=>trivial
 | _::_,h=>⟨h 0 _ rfl,NX λj c a=>h (j+1) c a⟩
def UG:∀{a:List (List C)},(∀(j:Nat)(r:List C),a[j]? = some r->gl r)->HN a
 | [],_=>trivial
 | _::_,h=>⟨h 0 _ rfl,UG λj c b=>h (j+1) c b⟩
def oB.fr{c b:C}(h:oB c b):Gg c->Gg b:=by
 induction h with
 | rfl_ c=>exact id
 | z_=>exact λ_=>⟨.inr rfl,tV1⟩
 | i_=>exact λ_=>⟨.inr rfl,tV1⟩
 | s_ o a d t u n w p=>
  intro q;refine sQ (by simp) (UG λi y e=>NX λj b g=>?_);have A:=(C4.1 e).1;have f:=z4 (l:=a) (i:=i) ω;have B:=(C4.1 g).1;have r:=n i _ _ f e;have k:=z4 (l:=a[i]'(ω)) (i:=j) ω;exact p i j _ _ _ _ f e k g (um (AA q.2 f) k)
def yL.fr{cs a:List C}(h:yL cs a)(d:gl cs):gl a:=NX λj e b=>by
 have f:=(C4.1 b).1;have c:=z4 (l:=cs) (i:=j) (by have:=h.1;omega);exact(h.2 j _ _ c b).fr (um d c)
def qj(w:aR):yL (aR.enc .own w) (aR.enc .suf w):=(Tw w.Y).append (rz w.c5)
def xZ(w:aR)(n:Int):gl (aR.enc .suf w++[I n]):=a7 ((qj w).fr (aR.enc_fr w)) ⟨tV1,tV1⟩
variable{f:Nat}
def ah.sE{P:Program}{sh:Bool}{A:List RA}{k:Kd}{g:ac}{x:C}(c:ah P f sh A k (dq g++[x])):ah P f sh A k (ac.enc .suf g++[x]):=c.sf ((WR g).append (.refl _))
def Nv(w:aR)(a:bF)(i m:Nat)(h:qm w m)(S:m<=900)(j:ac.sml w.Y)(o:i<w.Y.K.length):zzB 39 false [.mut (some 26) (aR.enc .suf w),.val (some 5) (bF.enc .O a),.val (some 4) (aW.enc .O (nth w.Y.K i))] [.mut (some 26) (List.replicate 26 .x),.val (some 5) (bF.enc .O a),.val (some 4) (aW.enc .O (nth w.Y.K i))] (.tup [some 26,none]) (aR.enc .suf (og w a i).1++[I (og w a i).2]):=by
 have d:=h.inv;have J:=pE d (ax o);have K:=kX d (ax o) (k:=0);have M:1<=(nth w.Y.K i).y/\(nth w.Y.K i).y<=1000:=by
  rcases d.oow _ (ax o) with⟨s,j,T,F⟩|⟨l,B,c,g⟩
  ·have U:=aO (d.L.sok s j)
   have:=rO (n:=(nth w.Y.K i).y) ω;omega
  have V:=cJ (d.L.lok l B);omega
 have C:kR w.Y (nth w.Y.K i).Addr=i:=by
  obtain⟨F,y,-⟩:=d.objAt (ax o);exact i6 (f:=(·.Addr)) (iu d.osr) F o (by rw[y])
 have N:=d.lens.caches;unfold og;by_cases G:a.b3=2
 ·rw[CJ G]
  unfold xG;by_cases c:w.Y.G.Calls=100000
  ·rw[CJ c]
   have p:=(Hk w.Y a.w (nth w.Y.K i).Addr j d.to c).sE;refine tP (n:=102) (mo:=[]) (tb:=[]) Tryz.func39 (by kernel_rfl) rfl (by kernel_rfl) (by rfl) rfl (xZ _ _) ?_
   repeat'(first|refine gB ?_|refine gS (λb=>?_) (λb=>?_)|refine CM (p) ⟨⟨rfl,Cs w.Y⟩,⟨rfl,rfl⟩,⟨rfl,rfl⟩,tV1⟩ ?_)
   exact CN rfl rfl tV1
  rw[CI c];by_cases g:0<=a.w/\a.w<=w.Y.R.length - 1
  ·rw[CJ (show ow w.Y a from g)]
   obtain⟨t,O⟩:=t5 g.1;have p:=(Jr w.Y (nth w.Y.K i) t j d.to c (ax o) ω).sE;rw[C,<-O]at p;rw[show a.w.toNat=t by omega];have P:=Tl w.c5 (nth w.Y.K i).Id m h.ref ω;generalize freeT w.Y t i=f at p |-;by_cases q:f.2=0
   ·rw[CJ q]
    refine tP (n:=102) (mo:=[]) (tb:=[]) Tryz.func39 (by kernel_rfl) rfl (by kernel_rfl) (by rfl) rfl (xZ _ _) ?_
    repeat'(first|refine gB ?_|refine gS (λb=>?_) (λb=>?_)|refine CM (p) ⟨⟨rfl,Cs w.Y⟩,⟨rfl,rfl⟩,⟨rfl,rfl⟩,tV1⟩ ?_|refine CM (P) ⟨⟨rfl,au.enc_fzS w.c5⟩,⟨rfl,rfl⟩,tV1⟩ ?_)
    exact CN rfl rfl tV1
   rw[CI q];refine tP (n:=102) (mo:=[]) (tb:=[]) Tryz.func39 (by kernel_rfl) rfl (by kernel_rfl) (by rfl) rfl (xZ _ _) ?_
   repeat'(first|refine gB ?_|refine gS (λb=>?_) (λb=>?_)|refine CM (p) ⟨⟨rfl,Cs w.Y⟩,⟨rfl,rfl⟩,⟨rfl,rfl⟩,tV1⟩ ?_)
   exact CN rfl rfl tV1
  rw[CI (show ¬ow w.Y a from g)];have p:=(H2 w.Y a.w (nth w.Y.K i).Addr j d.to c g).sE;refine tP (n:=102) (mo:=[]) (tb:=[]) Tryz.func39 (by kernel_rfl) rfl (by kernel_rfl) (by rfl) rfl (xZ _ _) ?_
  repeat'(first|refine gB ?_|refine gS (λb=>?_) (λb=>?_)|refine CM (p) ⟨⟨rfl,Cs w.Y⟩,⟨rfl,rfl⟩,⟨rfl,rfl⟩,tV1⟩ ?_)
  exact CN rfl rfl tV1
 rw[CI G];by_cases H:a.b3=3
 ·rw[CJ H]
  unfold tl;have r:=aG a.At 0 ((nth w.Y.K i).y - 1);by_cases c:0<=a.At/\a.At<=(nth w.Y.K i).y - 1;rotate_left
  ·rw[CJ c]
   rw[C1 c]at r;refine tP (n:=102) (mo:=[]) (tb:=[]) Tryz.func39 (by kernel_rfl) rfl (by kernel_rfl) (by rfl) rfl (xZ _ _) ?_
   repeat'(first|refine gB ?_|refine gS (λb=>?_) (λb=>?_)|fail)
   exact CN rfl rfl tV1
  rw[CI (S7 c)];rw[O0 c]at r;have D:0<=Ly w.Y ((nth w.Y.K i).Addr+a.At):=BD (ax o) (O0 ω);by_cases q:0<=a.Value/\a.Value<=999;rotate_left
  ·have e:=(F9 w.Y ((nth w.Y.K i).Addr+a.At) a.Value j d q D).sE
   unfold tbl at e;by_cases g:(ay w.Y.G.F.Q (((nth w.Y.K i).Addr+a.At) / 16)).o=1
   ·rw[CJ g]at e |-
    refine tP (n:=102) (mo:=[]) (tb:=[]) Tryz.func39 (by kernel_rfl) rfl (by kernel_rfl) (by rfl) rfl (xZ _ _) ?_
    repeat'(first|refine gB ?_|refine gS (λb=>?_) (λb=>?_)|refine CM (e) ⟨⟨rfl,Cs w.Y⟩,⟨rfl,rfl⟩,⟨rfl,rfl⟩,tV1⟩ ?_)
    exact CN rfl rfl tV1
   rw[CI g]at e |-;rw[CJ q];refine tP (n:=102) (mo:=[]) (tb:=[]) Tryz.func39 (by kernel_rfl) rfl (by kernel_rfl) (by rfl) rfl (xZ _ _) ?_
   repeat'(first|refine gB ?_|refine gS (λb=>?_) (λb=>?_)|refine CM (e) ⟨⟨rfl,Cs w.Y⟩,⟨rfl,rfl⟩,⟨rfl,rfl⟩,tV1⟩ ?_)
   exact CN rfl rfl tV1
  have e:=(DZ w.Y ((nth w.Y.K i).Addr+a.At) a.Value j d q).sE;unfold Hw tbl at e;rw[CI (show ¬Ly w.Y ((nth w.Y.K i).Addr+a.At)<0 by omega)]at e;by_cases g:(ay w.Y.G.F.Q (((nth w.Y.K i).Addr+a.At) / 16)).o=1
  ·rw[CJ g]at e |-
   refine tP (n:=102) (mo:=[]) (tb:=[]) Tryz.func39 (by kernel_rfl) rfl (by kernel_rfl) (by rfl) rfl (xZ _ _) ?_
   repeat'(first|refine gB ?_|refine gS (λb=>?_) (λb=>?_)|refine CM (e) ⟨⟨rfl,Cs w.Y⟩,⟨rfl,rfl⟩,⟨rfl,rfl⟩,tV1⟩ ?_)
   exact CN rfl rfl tV1
  rw[CI g]at e |-;rw[CI (S7 q)];obtain⟨W,Q⟩:=Ph w.c5 (nth w.Y.K i).Id a.At a.Value m h.ref ω q;simp only at e;refine tP (n:=102) (mo:=[]) (tb:=[]) Tryz.func39 (by kernel_rfl) rfl (by kernel_rfl) (by rfl) rfl (xZ _ _) ?_
  repeat'(first|refine gB ?_|refine gS (λb=>?_) (λb=>?_)|refine CM (e) ⟨⟨rfl,Cs w.Y⟩,⟨rfl,rfl⟩,⟨rfl,rfl⟩,tV1⟩ ?_|refine CM (Q) ⟨⟨rfl,au.enc_fzS w.c5⟩,⟨rfl,rfl⟩,⟨rfl,rfl⟩,⟨rfl,rfl⟩,tV1⟩ ?_)
  exact CN rfl rfl tV1
 rw[CI H];unfold wF;have u:=(Fn w.Y i a.Value j d o).sE;by_cases c:w.Y.G.Calls≠100000/\je w.Y i a.Value
 ·rw[CJ c]at u |-
  rw[O0 c]at u;have E:=lh true;obtain⟨X,R⟩:=QR w.c5 (nth w.Y.K i).Id a.Value m h.ref ω;refine tP (n:=102) (mo:=[]) (tb:=[]) Tryz.func39 (by kernel_rfl) rfl (by kernel_rfl) (by rfl) rfl (xZ _ _) ?_
  repeat'(first|refine gB ?_|refine gS (λb=>?_) (λb=>?_)|refine CM (u) ⟨⟨rfl,Cs w.Y⟩,⟨rfl,rfl⟩,⟨rfl,rfl⟩,tV1⟩ ?_|refine CM (R) ⟨⟨rfl,au.enc_fzS w.c5⟩,⟨rfl,rfl⟩,⟨rfl,rfl⟩,tV1⟩ ?_)
  exact CN rfl rfl tV1
 rw[CI c]at u |-;rw[C1 c]at u;have E:=lh false;refine tP (n:=102) (mo:=[]) (tb:=[]) Tryz.func39 (by kernel_rfl) rfl (by kernel_rfl) (by rfl) rfl (xZ _ _) ?_
 repeat'(first|refine gB ?_|refine gS (λb=>?_) (λb=>?_)|refine CM (u) ⟨⟨rfl,Cs w.Y⟩,⟨rfl,rfl⟩,⟨rfl,rfl⟩,tV1⟩ ?_)
 exact CN rfl rfl tV1
def WZ(w:aR)(a:bF)(m:Nat)(h:qm w m)(W:m<=900)(K:im w.Y.G.a):zzA 9 false [.val (some 26) (aR.enc .O w),.val (some 5) (bF.enc .O a)] (.tup [some 26,none]) (aR.enc .suf (pk w a).1++[I (pk w a).2]):=by
 have l:=h.inv;have p:=(h.fit K).1;have C:=h.ref.sml (by omega:m<=1000);have i:=(B8 w p C).sf (qj w);have g:=cW w.Y p;rw[eR,l.to]at g;have X:=l.lens.objs;unfold pk;by_cases M:a.b3=1
 ·rw[CJ M]
  obtain⟨cc,r,d⟩:=Mh w.Y a.w a.N p l (by rw[eR];exact l.to);have c:=d.sf ((Wo r).append (.refl _));by_cases e:(fA w.Y a.w a.N).2.2=0
  ·rw[CJ e]
   have D:1<=a.N/\a.N<=1000:=by
    refine Classical.byContradiction λO=>?_
    unfold fA at e;rw[CJ O]at e;split at e
    ·exact absurd (show(5:Int)=0 from e) qs
    split at e
    ·exact absurd (show(1:Int)=0 from e) qs
    exact absurd (show(2:Int)=0 from e) qs
   have j:=NS w.c5 a.N m h.ref ω D;clear d r;generalize fA w.Y a.w a.N=f at c e |-;refine fP 148 [(39,[1,0,0])] [(15,266,[56,57,58,59,60,61,62,63,65,66,0,1,2,3,4,5,6,7,8,9,10,11,12])] Tryz.func9 rfl ?_ (.inr (xZ _ _))
   repeat'(first|refine gB ?_|refine gS (λb=>?_) (λb=>?_)|refine CM (j) ⟨⟨rfl,au.enc_fzS w.c5⟩,⟨rfl,rfl⟩,tV1⟩ ?_)
   rfl
  rw[CI e];clear d r;generalize fA w.Y a.w a.N=f at c e |-;refine fP 148 [(39,[1,0,0])] [(15,266,[56,57,58,59,60,61,62,63,65,66,0,1,2,3,4,5,6,7,8,9,10,11,12])] Tryz.func9 rfl ?_ (.inr (xZ _ _))
  repeat'(first|refine gB ?_|refine gS (λb=>?_) (λb=>?_)|fail)
  rfl
 rw[CI M];by_cases u:a.b3=2\/a.b3=3\/a.b3=4
 ·rw[CJ u]
  have E:=lJ w.Y.K (jr a.N) ω;change ah _ _ _ _ _ [I (nQ w.Y a.N)]at E;by_cases e:nQ w.Y a.N<0
  ·rw[CJ e]
   rcases u with k|k|k
   all_goals
    refine fP 148 [(39,[1,0,0])] [(15,266,[56,57,58,59,60,61,62,63,65,66,0,1,2,3,4,5,6,7,8,9,10,11,12])] Tryz.func9 rfl ?_ (.inr (xZ _ _))
    repeat'(first|refine gB ?_|refine gS (λb=>?_) (λb=>?_)|refine Cq.mk (sB (some 4) (aW.enc .O) (jr a.N) w.Y.K) (xe default a).has (λL k rcs F=>?_) ?_)
    ·obtain⟨y,-,rfl,rfl,rfl⟩:=F
     exact xe y a
    rfl
  rw[CI e];obtain⟨P,f2,f3⟩:=eZ (PO a.N) w.Y.K (by unfold nQ at e;omega);have Q:=Nv w a (nQ w.Y a.N).toNat m h W p P;have G:=ar P;change w.Y.K[(nQ w.Y a.N).toNat]? = _ at G;generalize og w a (nQ w.Y a.N).toNat=f at Q |-;rcases u with k|k|k
  all_goals
   refine fP 148 [(39,[1,0,0])] [(15,266,[56,57,58,59,60,61,62,63,65,66,0,1,2,3,4,5,6,7,8,9,10,11,12])] Tryz.func9 rfl ?_ (.inr (xZ _ _))
   repeat'(first|refine gB ?_|refine gS (λb=>?_) (λb=>?_)|refine Cq.mk (sB (some 4) (aW.enc .O) (jr a.N) w.Y.K) (xe default a).has (λL k rcs F=>?_) ?_|refine CQ ω (aa G) ?_)
   ·obtain⟨y,-,rfl,rfl,rfl⟩:=F
    exact xe y a
   rfl
 rw[CI u];by_cases R:a.b3=5\/a.b3=6\/a.b3=7
 ·rw[CJ R]
  unfold iY;by_cases S:a.b3=5
  ·rw[CJ S]
   have c:=ER w.Y a.w p l;by_cases e:(0<=a.w/\a.w<=w.Y.R.length - 1)/\0<(nth w.Y.e.T a.w.toNat).length
   ·rw[CJ (show ow w.Y a/\0<(nth w.Y.e.T a.w.toNat).length from e)]
    rw[CJ e,O0 e]at c;have j:=lh true;refine fP 148 [(39,[1,0,0])] [(15,266,[56,57,58,59,60,61,62,63,65,66,0,1,2,3,4,5,6,7,8,9,10,11,12])] Tryz.func9 rfl ?_ (.inr (xZ _ _))
    repeat'(first|refine gB ?_|refine gS (λb=>?_) (λb=>?_)|fail)
    rfl
   rw[CI (show ¬(ow w.Y a/\0<(nth w.Y.e.T a.w.toNat).length) from e)];rw[CI e,C1 e]at c;have j:=lh false;refine fP 148 [(39,[1,0,0])] [(15,266,[56,57,58,59,60,61,62,63,65,66,0,1,2,3,4,5,6,7,8,9,10,11,12])] Tryz.func9 rfl ?_ (.inr (xZ _ _))
   repeat'(first|refine gB ?_|refine gS (λb=>?_) (λb=>?_)|fail)
   rfl
  rw[CI S];by_cases e:w.Y.G.Calls≠100000/\0<=a.w/\a.w<=w.Y.R.length - 1;rotate_left
  ·rw[CJ (show ¬(w.Y.G.Calls≠100000/\ow w.Y a) from e)]
   by_cases H:a.b3=6
   ·have d:=qn w.Y a.w p l
    rw[CI e,CI e]at d;have c:=d.sE;refine fP 148 [(39,[1,0,0])] [(15,266,[56,57,58,59,60,61,62,63,65,66,0,1,2,3,4,5,6,7,8,9,10,11,12])] Tryz.func9 rfl ?_ (.inr (xZ _ _))
    repeat'(first|refine gB ?_|refine gS (λb=>?_) (λb=>?_)|fail)
    rfl
   have Y:a.b3=7:=ω
   have c:=(JT w.Y a.w p l e).sE;refine fP 148 [(39,[1,0,0])] [(15,266,[56,57,58,59,60,61,62,63,65,66,0,1,2,3,4,5,6,7,8,9,10,11,12])] Tryz.func9 rfl ?_ (.inr (xZ _ _))
   repeat'(first|refine gB ?_|refine gS (λb=>?_) (λb=>?_)|fail)
   rfl
  rw[CI (show ¬¬(w.Y.G.Calls≠100000/\ow w.Y a) from S7 e)];by_cases H:a.b3=6
  ·rw[CJ H]
   have d:=qn w.Y a.w p l;rw[CJ e,CJ e]at d;have c:=d.sE;refine fP 148 [(39,[1,0,0])] [(15,266,[56,57,58,59,60,61,62,63,65,66,0,1,2,3,4,5,6,7,8,9,10,11,12])] Tryz.func9 rfl ?_ (.inr (xZ _ _))
   repeat'(first|refine gB ?_|refine gS (λb=>?_) (λb=>?_)|fail)
   rfl
  rw[CI H];have Y:a.b3=7:=ω
  obtain⟨t,Z⟩:=t5 e.2.1;have c:=(Ej w.Y t p l.to e.1 ω).sE;rw[<-Z]at c;rw[show a.w.toNat=t by omega];refine fP 148 [(39,[1,0,0])] [(15,266,[56,57,58,59,60,61,62,63,65,66,0,1,2,3,4,5,6,7,8,9,10,11,12])] Tryz.func9 rfl ?_ (.inr (xZ _ _))
  repeat'(first|refine gB ?_|refine gS (λb=>?_) (λb=>?_)|fail)
  rfl
 rw[CI R];by_cases T:a.b3=8
 ·rw[CJ T]
  unfold uq;by_cases e:w.Y.G.Calls≠100000/\(0<=a.N/\a.N<=1000)/\w.Y.b1+a.N<=1000000
  ·rw[CJ e]
   have c:=(F5 w.Y a.N p l e.1 e.2.1 e.2.2).sE;refine fP 148 [(39,[1,0,0])] [(15,266,[56,57,58,59,60,61,62,63,65,66,0,1,2,3,4,5,6,7,8,9,10,11,12])] Tryz.func9 rfl ?_ (.inr (xZ _ _))
   repeat'(first|refine gB ?_|refine gS (λb=>?_) (λb=>?_)|fail)
   rfl
  rw[CI e];have c:=(Km w.Y a.N p l e).sE;refine fP 148 [(39,[1,0,0])] [(15,266,[56,57,58,59,60,61,62,63,65,66,0,1,2,3,4,5,6,7,8,9,10,11,12])] Tryz.func9 rfl ?_ (.inr (xZ _ _))
  repeat'(first|refine gB ?_|refine gS (λb=>?_) (λb=>?_)|fail)
  rfl
 rw[CI T];by_cases U:a.b3=9
 ·rw[CJ U]
  unfold uw;have c:=(BX w.Y p).sE;unfold Jm at c;rw[l.to]at c;cases q:w.Y.a2 with
  | true=>
   rw[CJ rfl];rw[CI (λx=>by rw[q]at x;cases x.1)]at c;have j:=lh false;refine fP 148 [(39,[1,0,0])] [(15,266,[56,57,58,59,60,61,62,63,65,66,0,1,2,3,4,5,6,7,8,9,10,11,12])] Tryz.func9 rfl ?_ (.inr (xZ _ _))
   repeat'(first|refine gB ?_|refine gS (λb=>?_) (λb=>?_)|fail)
   rfl
  | false=>
   rw[CI (by simp)];rw[CJ ⟨q,rfl⟩]at c;have j:=lh (started w.Y).2;refine fP 148 [(39,[1,0,0])] [(15,266,[56,57,58,59,60,61,62,63,65,66,0,1,2,3,4,5,6,7,8,9,10,11,12])] Tryz.func9 rfl ?_ (.inr (xZ _ _))
   repeat'(first|refine gB ?_|refine gS (λb=>?_) (λb=>?_)|fail)
   rfl
 rw[CI U];by_cases k10:a.b3=10;rotate_left
 ·rw[CI (λx=>k10 x.1)]
  refine fP 148 [(39,[1,0,0])] [(15,266,[56,57,58,59,60,61,62,63,65,66,0,1,2,3,4,5,6,7,8,9,10,11,12])] Tryz.func9 rfl ?_ (.inr (xZ _ _))
  repeat'(first|refine gB ?_|refine gS (λb=>?_) (λb=>?_)|fail)
  all_goals first|omega|rfl
 have c:=aG a.N 0 50;by_cases q:0<=a.N/\a.N<=50;rotate_left
 ·rw[CI (λx=>q x.2)]
  rw[C1 q]at c;refine fP 148 [(39,[1,0,0])] [(15,266,[56,57,58,59,60,61,62,63,65,66,0,1,2,3,4,5,6,7,8,9,10,11,12])] Tryz.func9 rfl ?_ (.inr (xZ _ _))
  repeat'(first|refine gB ?_|refine gS (λb=>?_) (λb=>?_)|fail)
  rfl
 rw[CJ ⟨k10,q⟩];rw[O0 q]at c;obtain⟨n,O⟩:=t5 q.1;rw[show a.N.toNat=n by omega];refine fP 148 [(39,[1,0,0])] [(15,266,[56,57,58,59,60,61,62,63,65,66,0,1,2,3,4,5,6,7,8,9,10,11,12])] Tryz.func9 rfl ?_ (.inr (xZ _ _))
 repeat'(first|refine gB ?_|refine gS (λb=>?_) (λb=>?_)|fail)
 refine lp0 n (λk=>[(3,bS (bF.enc .O a)),(4,bS [.z,.z,.z,I 0,.z,.z,.z,.z,.z,.z,.z,.z,I 0,.z,I 0,I 0,I 0,I 0,B false,I 0,I 0,.z,I 0,I 0,I 0,.z]),(6,bS (aR.enc .suf ⟨(kS w.Y k).1,w.c5⟩)),(7,fN ((kS w.Y k).2)),(10,fN k)]) λk hk=>?_
 obtain⟨g1,g2⟩:=Dm l h.ji k;have J:=W5 h K k ω;have hk2:(kS w.Y k).2<=k:=PA w.Y k;have j:=(JC (kS w.Y k).1 g1 J).sE;by_cases lk:k<n
 ·have o:kS w.Y (k+1)=if qq (kS w.Y k).1=true then(mStep (kS w.Y k).1,(kS w.Y k).2+1) else kS w.Y k:=rfl
  cases V:qq (kS w.Y k).1 with
  | true=>
   rw[V]at o j;rw[CJ rfl]at o j
   repeat'(first|refine gE ?_|refine gS (λb=>?_) (λb=>?_)|refine CM (j) ⟨⟨rfl,Cs (kS w.Y k).1⟩,tV1⟩ ?_)
   (refine CP (k+1) ω ω ?_)
   rw[o];exact wC
  | false=>
   rw[V]at o j;rw[CI (by simp)]at o j
   repeat'(first|refine gE ?_|refine gS (λb=>?_) (λb=>?_)|refine CM (j) ⟨⟨rfl,Cs (kS w.Y k).1⟩,tV1⟩ ?_)
   (refine CP (k+1) ω ω ?_)
   rw[o];exact wC
 obtain rfl:k=n:=ω
 repeat'(first|refine gE ?_|refine gS (λb=>?_) (λb=>?_)|fail)
 rfl
def HJ(c:eU)(acts:List bF):∀i,(AI c acts i).2.length=i
 | 0=>rfl
 | k+1=>by show((AI c acts k).2++[_]).length=_;rw[I5,HJ c acts k];rfl
structure bt where
 a0:Int
 V:Int
 c4:Int
 c2:Int
 a:List Int
deriving DecidableEq,Inhabited
def bt.enc(o:eL)(x:bt):List C:=[I x.a0,I x.V,I x.c4,I x.c2,.s o (x.a.map (rI o))]
def bt.enc_fr(x:bt):gl (bt.enc .own x):=⟨tV1,tV1,tV1,tV1,⟨.inl λh=>(by cases h),bj _ _ λy _=>sM y⟩,tV1⟩
def bt.wf(x:bt):Prop:=mY x.a0/\mY x.V/\mY x.c4/\mY x.c2/\im x.a
def bt.cnt(x:bt):Nat:=ek x.a
def bt.sz(x:bt):Nat:=szIntS x.a
def bt.sml(x:bt):Prop:=jE x.a
def bt.sml_of{x:bt}(h:bt.sz x<=1048576):bt.sml x:=NQ (by unfold bt.sz at h;omega)
def bt.cnt_le(x:bt):bt.cnt x<=8*bt.sz x:=by unfold bt.cnt bt.sz;have:=MY x.a;omega
def bt.mark(x:bt)(k:Int):bt:={x with a:=markIntS x.a (k)}
def bF.wf(x:bF):Prop:=mY x.b3/\mY x.w/\mY x.N/\mY x.At/\mY x.Value
def bF.cnt(_:bF):Nat:=5
def bF.sml(_:bF):Prop:=True
def bF.mark(_:bF)(k:Int):bF:=⟨k,k+1,k+1+1,k+1+1+1,k+1+1+1+1⟩
def HV(x:List bF):Prop:=x.length<=9223372036854775807/\∀y∈x,bF.wf y
def jz:List bF->Nat
 | []=>0
 | x::xs=>bF.cnt x+jz xs
def uj(x:List bF):Nat:=x.length
def tV(x:List bF):Prop:=x.length<=1048576/\∀y∈x,bF.sml y
def jf:List bF->Int->List bF
 | [],_=>[]
 | x::xs,k=>bF.mark x k::jf xs (k+(bF.cnt x:Nat))
def vq:∀(x:List bF)(k:Int),(jf x k).length=x.length
 | [],_=>rfl
 | _::xs,k=>by simp[jf,vq xs]
def fK:List bF->Nat->Nat
 | [],_=>0
 | _::_,0=>0
 | x::xs,i+1=>bF.cnt x+fK xs i
def vz:∀(x:List bF)(k:Int)(i:Nat)(y:bF),x[i]? = some y->(jf x k)[i]? = some (bF.mark y (k+(fK x i:Nat)))
 | [],_,i,y,h=>by simp at h
 | x::xs,k,0,y,h=>by simp at h;subst h;simp[jf,fK]
 | x::xs,k,i+1,y,h=>by
  simp only[jf,List.getElem?_cons_succ];rw[vz xs _ i y (by simpa using h)]
  congr 2
  simp only[fK];omega
def uU(x:List bF):fK x 0=0:=by cases x<;>rfl
def vm:∀(x:List bF)(i:Nat)(y:bF),x[i]? = some y->fK x (i+1)=fK x i+bF.cnt y
 | [],i,y,h=>by simp at h
 | x::xs,0,y,h=>by simp at h;subst h;simp[fK,uU]
 | x::xs,i+1,y,h=>by
  simp only[fK];rw[vm xs i y (by simpa using h)];omega
def xk:∀(x:List bF),fK x x.length=jz x
 | []=>rfl
 | x::xs=>by simp only[List.length_cons,fK,jz,xk xs]
def Ku{x:List bF}(h:uj x<=1048576):tV x:=⟨h,λ_ _=>tV1⟩
def zi:∀(x:List bF),jz x<=8*uj x
 | []=>by simp[jz]
 | x::xs=>by have:=zi xs;simp only[jz,uj,List.length_cons,bF.cnt]at this |-;omega
def zb:∀(x:List bF)(i:Nat),fK x i<=jz x
 | [],_=>by simp[fK]
 | x::xs,0=>by simp[fK]
 | x::xs,i+1=>by simp only[fK,jz];have:=zb xs i;omega
def nO(n:Int):Prop:=1<=n/\n<=32
def wx(a:List Int):Prop:=a.length<=40/\∀x∈a,0<=x
instance (n:Int):Decidable (nO n):=by unfold nO;infer_instance
instance (rf:List Int):Decidable (wx rf):=by unfold wx;infer_instance
def w9{p:Nat}{a:List Int}(h:¬wx a):aH (bJ p f a)=false:=by
 cases e:aH (bJ p f a) with
 | false=>rfl
 | true=>
  refine absurd ?_ h;unfold aH at e;simp only[I0,C0]at e;obtain⟨⟨b,-⟩,-,-,c⟩:=e;refine⟨c,λx d=>?_⟩;obtain⟨i,g,rfl⟩:=bw d;have:=of_decide_eq_true (gv b g);exact this
def vd{p:Nat}{a:List Int}(b:1<=p/\p<=32)(c:1<=f/\f<=32)(d:a.length<=1048576):af.sml (bJ p f a):=⟨(bk (w5 b c)).1,d⟩
def wP(n:Int)(b:¬nO n):zzA 491 false [.vI n] (.tup [some 2,none]) [.z,.z,B false]:=by
 have a:=aG n 1 32;rw[C1 (show ¬(1<=n/\n<=32) from b)]at a;refine fO 25 [(7,4,[18,19,20,21])] Tryz.func491 rfl ?_ (.inr ⟨tV1,tV1,tV1,tV1⟩)
 refine σP ?_
 rfl
def qi(n:Int)(b:¬nO n):zzA 492 false [.vI n] (.tup [some 1,none]) [.z,B false]:=by
 have a:=aG n 1 32;rw[C1 (show ¬(1<=n/\n<=32) from b)]at a;refine fO 11 [] Tryz.func492 rfl ?_ (.inr ⟨tV1,tV1,tV1⟩)
 refine σP ?_
 rfl
def wj(p f:Int)(h:¬(nO p/\nO f)):zzA 435 false [.vI p,.vI f] (.tup [some 3,none]) [.z,.z,.z,B false]:=by
 by_cases c:nO f
 ·have a:¬nO p:=λx=>h ⟨x,c⟩
  obtain⟨f,rfl⟩:=t5 (show 0<=f by have:=c.1;omega);have d:=sK f (by have:=c;unfold nO at this;omega);have b:=qi p a;refine fO 30 [] Tryz.func435 rfl ?_ (.inr ⟨tV1,tV1,tV1,tV1,tV1⟩)
  refine σP ?_
  rfl
 have d:=wP f c;by_cases a:nO p
 ·obtain⟨p,rfl⟩:=t5 (show 0<=p by have:=a.1;omega)
  have b:=vt p (by have:=a;unfold nO at this;omega);refine fO 30 [] Tryz.func435 rfl ?_ (.inr ⟨tV1,tV1,tV1,tV1,tV1⟩)
  refine σP ?_
  rfl
 have b:=qi p a;refine fO 30 [] Tryz.func435 rfl ?_ (.inr ⟨tV1,tV1,tV1,tV1,tV1⟩)
 refine σP ?_
 rfl
def rW(n:Int)(b:¬(1<=n/\n<=4)):zzA 328 false [.vI n] (.tup [some 2,none]) [.z,.z,B false]:=by
 have a:=aG n 1 4;rw[C1 b]at a;refine fO 13 [(3,4,[8,9,10,11])] Tryz.func328 rfl ?_ (.inr ⟨tV1,tV1,tV1,tV1⟩)
 refine σP ?_
 rfl
def wX(p f:Int)(a:List Int)(j:a.length<=1048576)(h:¬((nO p/\nO f)/\wx a)):zzA 327 false [.vI p,.vI f,.val none (aE .O a)] (.tup [some 5,none]) [.z,.z,.z,I 0,.z,B false]:=by
 by_cases g:nO p/\nO f
 ·obtain⟨b,c⟩:=g
  have k:¬wx a:=λx=>h ⟨⟨b,c⟩,x⟩
  obtain⟨p,rfl⟩:=t5 (show 0<=p by have:=b.1;omega);obtain⟨f,rfl⟩:=t5 (show 0<=f by have:=c.1;omega);unfold nO at b c;have d:=rX p f ω ω;have i:=lH (bJ p f a) (vd ω ω j);rw[w9 k]at i;have e:=cK a ω;refine fO 30 [(2,260,[17,18,19,10,0,1,2,4,3,1004,5])] Tryz.func327 rfl ?_ (.inr ⟨tV1,tV1,tV1,tV1,tV1,tV1,tV1⟩)
  repeat'(first|refine gP ?_|refine CM (i) ⟨⟨rfl,CU (bJ p f a)⟩,tV1⟩ ?_)
  rfl
 have d:=wj p f g;have e:=cK a ω;refine fO 30 [(2,260,[17,18,19,10,0,1,2,4,3,1004,5])] Tryz.func327 rfl ?_ (.inr ⟨tV1,tV1,tV1,tV1,tV1,tV1,tV1⟩)
 refine σP ?_
 rfl
def zY(p f t lim:Int)(c:List Int)(o:c.length<=1048576)(h:¬(((nO p/\nO f)/\wx c)/\(1<=t/\t<=4)/\0<=lim/\lim<=1000)):zzA 173 false [.vI p,.vI f,.vI t,.vI lim,.val none (aE .O c)] (.tup [some 24,none]) (jX++[B false]):=by
 have k:=aG lim 0 1000;have a:gl (jX++[B false]):=by repeat' first|exact tV1|refine CK ?_ ?_
 by_cases g:(nO p/\nO f)/\wx c
 ·have i:=g
  obtain⟨⟨l,n⟩,q⟩:=g;obtain⟨p,rfl⟩:=t5 (show 0<=p by have:=l.1;omega);obtain⟨f,rfl⟩:=t5 (show 0<=f by have:=n.1;omega);unfold nO at l n;have d:=xF p f c ω ω q;by_cases e:1<=t/\t<=4
  ·have j:¬(0<=lim/\lim<=1000):=λx=>h ⟨i,e,x⟩
   rw[C1 j]at k;obtain⟨t,rfl⟩:=t5 (show 0<=t by omega);have b:=r8 t ω;refine fO 68 [(10,4,[61,62,63,64])] Tryz.func173 rfl ?_ (.inr a)
   refine σP ?_
   rfl
  have b:=rW t e;refine fO 68 [(10,4,[61,62,63,64])] Tryz.func173 rfl ?_ (.inr a)
  refine σP ?_
  rfl
 have d:=wX p f c o g;by_cases e:1<=t/\t<=4
 ·obtain⟨t,rfl⟩:=t5 (show 0<=t by omega)
  have b:=r8 t ω;refine fO 68 [(10,4,[61,62,63,64])] Tryz.func173 rfl ?_ (.inr a)
  refine σP ?_
  rfl
 have b:=rW t e;refine fO 68 [(10,4,[61,62,63,64])] Tryz.func173 rfl ?_ (.inr a)
 refine σP ?_
 rfl
def y9(c:bt)(a:c.a.length<=1048576)(h:¬(((nO c.a0/\nO c.V)/\wx c.a)/\(1<=c.c4/\c.c4<=4)/\0<=c.c2/\c.c2<=1000)):zzA 57 false [.val (some 5) (bt.enc .O c)] (.tup [some 26,none]) (jX++[I 0,.z]++[B false]):=by
 have b:=zY c.a0 c.V c.c4 c.c2 c.a a h;refine fO 26 [(4,2,[23,24])] Tryz.func57 rfl ?_ (.inr (by repeat' first|exact tV1|refine CK ?_ ?_))
 refine σP ?_
 rfl
def wW(n:Int)(b:¬nO n):zzA 489 false [.vI n] (.tup [some 2,none]) [.z,.z,B false]:=by
 have a:=aP n 1 32;rw[C1 (show ¬(1<=n/\n<=32) from b)]at a;refine fO 28 [(7,4,[16,17,18,19])] Tryz.func489 rfl ?_ (.inr ⟨tV1,tV1,tV1,tV1⟩)
 refine σP ?_
 rfl
def qD(n:Int)(b:¬nO n):zzA 490 false [.vI n] (.tup [some 1,none]) [.z,B false]:=by
 have a:=aP n 1 32;rw[C1 (show ¬(1<=n/\n<=32) from b)]at a;refine fO 11 [] Tryz.func490 rfl ?_ (.inr ⟨tV1,tV1,tV1⟩)
 refine σP ?_
 rfl
def vM(p f:Int)(h:¬(nO p/\nO f)):zzA 434 false [.vI p,.vI f] (.tup [some 3,none]) [.z,.z,.z,B false]:=by
 by_cases c:nO f
 ·have a:¬nO p:=λx=>h ⟨x,c⟩
  obtain⟨f,rfl⟩:=t5 (show 0<=f by have:=c.1;omega);have d:=tn f (by have:=c;unfold nO at this;omega);have b:=qD p a;refine fO 30 [] Tryz.func434 rfl ?_ (.inr ⟨tV1,tV1,tV1,tV1,tV1⟩)
  refine σP ?_
  rfl
 have d:=wW f c;by_cases a:nO p
 ·obtain⟨p,rfl⟩:=t5 (show 0<=p by have:=a.1;omega)
  have b:=vp p (by have:=a;unfold nO at this;omega);refine fO 30 [] Tryz.func434 rfl ?_ (.inr ⟨tV1,tV1,tV1,tV1,tV1⟩)
  refine σP ?_
  rfl
 have b:=qD p a;refine fO 30 [] Tryz.func434 rfl ?_ (.inr ⟨tV1,tV1,tV1,tV1,tV1⟩)
 refine σP ?_
 rfl
def sr(n:Int)(b:¬(1<=n/\n<=4)):zzA 324 false [.vI n] (.tup [some 2,none]) [.z,.z,B false]:=by
 have a:=aP n 1 4;rw[C1 b]at a;refine fO 13 [(3,4,[8,9,10,11])] Tryz.func324 rfl ?_ (.inr ⟨tV1,tV1,tV1,tV1⟩)
 refine σP ?_
 rfl
def wV(p f:Int)(a:List Int)(i:a.length<=1048576)(h:¬((nO p/\nO f)/\wx a)):zzA 323 false [.vI p,.vI f,.val none (aE .O a)] (.tup [some 5,none]) [.z,.z,.z,I 0,.z,B false]:=by
 by_cases e:nO p/\nO f
 ·obtain⟨b,c⟩:=e
  have j:¬wx a:=λx=>h ⟨⟨b,c⟩,x⟩
  obtain⟨p,rfl⟩:=t5 (show 0<=p by have:=b.1;omega);obtain⟨f,rfl⟩:=t5 (show 0<=f by have:=c.1;omega);unfold nO at b c;have d:=se p f ω ω;have g:=lL (bJ p f a) (vd ω ω i);rw[w9 j]at g;have k:=cK a ω;refine fO 31 [(2,260,[17,18,19,10,0,1,2,5,3,1000,1005,4,1005,6])] Tryz.func323 rfl ?_ (.inr ⟨tV1,tV1,tV1,tV1,tV1,tV1,tV1⟩)
  repeat'(first|refine gP ?_|refine CW (λ_=>rfl) (λ_=>rfl) ω qs ?_|refine Ce (λ_=>rfl) (λ_=>rfl) ω qs ?_|refine CM (g) ⟨⟨rfl,CU (bJ p f a)⟩,tV1⟩ ?_)
  rfl
 have d:=vM p f e;have k:=cK a ω;refine fO 31 [(2,260,[17,18,19,10,0,1,2,5,3,1000,1005,4,1005,6])] Tryz.func323 rfl ?_ (.inr ⟨tV1,tV1,tV1,tV1,tV1,tV1,tV1⟩)
 repeat'(first|refine gP ?_|refine CW (λ_=>rfl) (λ_=>rfl) ω qs ?_|refine Ce (λ_=>rfl) (λ_=>rfl) ω qs ?_)
 rfl
def Am(p f t lim:Int)(c:List Int)(o:c.length<=1048576)(h:¬(((nO p/\nO f)/\wx c)/\(1<=t/\t<=4)/\0<=lim/\lim<=1000)):zzA 171 false [.vI p,.vI f,.vI t,.vI lim,.val none (aE .O c)] (.tup [some 24,none]) (jX++[B false]):=by
 have k:=aP lim 0 1000;have a:gl (jX++[B false]):=by repeat' first|exact tV1|refine CK ?_ ?_
 by_cases g:(nO p/\nO f)/\wx c
 ·have i:=g
  obtain⟨⟨l,n⟩,q⟩:=g;obtain⟨p,rfl⟩:=t5 (show 0<=p by have:=l.1;omega);obtain⟨f,rfl⟩:=t5 (show 0<=f by have:=n.1;omega);unfold nO at l n;have d:=sZ p f c ω ω q;by_cases e:1<=t/\t<=4
  ·have j:¬(0<=lim/\lim<=1000):=λx=>h ⟨i,e,x⟩
   rw[C1 j]at k;obtain⟨t,rfl⟩:=t5 (show 0<=t by omega);have b:=rA t ω;refine fO 66 [(9,4,[54,55,56,57])] Tryz.func171 rfl ?_ (.inr a)
   refine σP ?_
   rfl
  have b:=sr t e;refine fO 66 [(9,4,[54,55,56,57])] Tryz.func171 rfl ?_ (.inr a)
  refine σP ?_
  rfl
 have d:=wV p f c o g;by_cases e:1<=t/\t<=4
 ·obtain⟨t,rfl⟩:=t5 (show 0<=t by omega)
  have b:=rA t ω;refine fO 66 [(9,4,[54,55,56,57])] Tryz.func171 rfl ?_ (.inr a)
  refine σP ?_
  rfl
 have b:=sr t e;refine fO 66 [(9,4,[54,55,56,57])] Tryz.func171 rfl ?_ (.inr a)
 refine σP ?_
 rfl
def yr(c:bt)(a:c.a.length<=1048576)(h:¬(((nO c.a0/\nO c.V)/\wx c.a)/\(1<=c.c4/\c.c4<=4)/\0<=c.c2/\c.c2<=1000)):zzA 55 false [.val (some 5) (bt.enc .O c)] (.tup [some 26,none]) (jX++[I 0,.z]++[B false]):=by
 have b:=Am c.a0 c.V c.c4 c.c2 c.a a h;refine fO 26 [(4,2,[23,24])] Tryz.func55 rfl ?_ (.inr (by repeat' first|exact tV1|refine CK ?_ ?_))
 refine σP ?_
 rfl
def yg(c:bt):Prop:=((nO c.a0/\nO c.V)/\wx c.a)/\(1<=c.c4/\c.c4<=4)/\0<=c.c2/\c.c2<=1000
instance (c:bt):Decidable (yg c):=by unfold yg;infer_instance
def Xr(c:bt):eU:=⟨c.a0.toNat,c.V.toNat,c.c4.toNat,c.c2,c.a⟩
def NL{c:bt}(h:yg c):KB (Xr c)/\bt.enc .O c=eU.enc .O (Xr c):=by
 obtain⟨⟨⟨a,b⟩,d⟩,f,e⟩:=h;unfold nO at a b;refine⟨⟨?_,?_,?_,e,d⟩,?_⟩
 ·show 1<=c.a0.toNat/\c.a0.toNat<=32;omega
 ·show 1<=c.V.toNat/\c.V.toNat<=32;omega
 ·show 1<=c.c4.toNat/\c.c4.toNat<=4;omega
 unfold bt.enc eU.enc Xr;simp only;rw[show((c.a0.toNat:Nat):Int)=c.a0 by omega,show((c.V.toNat:Nat):Int)=c.V by omega,show((c.c4.toNat:Nat):Int)=c.c4 by omega]
def QY(c:eU)(acts:List bF)(h:KB c)(b:im c.a)(n:acts.length<=80):zzA 18 false [.val (some 5) (eU.enc .O c),.val none (fE .O acts)] (.tup [some 26,none]) (aR.enc .suf (AI c acts acts.length).1++aE .own (AI c acts acts.length).2):=by
 have g:=(vw c h).sf ((qj _).append (.refl _));refine fO 47 [(5,3,[27,28,29]),(6,1,[30])] Tryz.func18 rfl ?_ (.inr (a7 ((qj _).fr (aR.enc_fr _)) (bH _)))
 refine σE ?_
 refine CV (ι:=Nat) (λi=>[(1,bC (fE .O acts)),(4,bS [.z,.z,.z,I 0,.z,.z,.z,.z,.z,.z,.z,.z,I 0,.z,I 0,I 0,I 0,I 0,B false,I 0,I 0,.z,I 0,I 0,I 0,.z]),(6,bS (aR.enc .suf (AI c acts i).1)),(8,bC (aE .own (AI c acts i).2)),(27,bC (fE .O acts)),(28,fI acts.length),(29,fN i)]) (λi=>i<=acts.length) (λi=>acts.length - i) (0) ?_ (I1 _) λi o=>?_
 ·exact wE
 have j:=Dp h acts i;have a:=HH h acts i;have d:=HJ c acts i;by_cases k:i<acts.length
 ·have e:=ar k
  have l:=WZ (AI c acts i).1 (nth acts i) i j ω (by unfold rfs at a;rw[a];exact b)
  repeat'(first|refine gE ?_|refine CM (l) ⟨⟨rfl,aR.enc_fzS _⟩,⟨rfl,rfl⟩,tV1⟩ ?_|refine Cb cN (λr b=>by rw[z3.1 b];rfl) (by simp[bu,f6]) kd (by simp only[I2];exact zc kd qs) rfl ?_)
  (refine CP (i+1) ω ω ?_)
  repeat'(first|exact tV1|rfl| exact tz _ |exact CK rfl (CK (O1 (C.s eL.own) (by simp[AI,rI])) tV1)|refine CK ?_ ?_|(exact XK (by first|omega|(simp only;omega)|(simp;omega))))
 obtain rfl:i=acts.length:=ω
 refine σE ?_
 rfl
def world9:aR:=⟨⟨⟨⟨⟨[],[]⟩,⟨[]⟩⟩,0,[]⟩,[],[],[],[],[],⟨[],[]⟩,⟨0,[]⟩,0,0,0,0,false,⟨⟨0,0,[]⟩,0,0⟩⟩,⟨0,[]⟩⟩
def DN(c:bt)(acts:List bF):aR × List Int:=if yg c/\acts.length<=80 then AI (Xr c) acts acts.length else(world9,[])
def AH:yL (jX++[I 0,.z]++[.z]) (aR.enc .suf world9++aE .suf []):=by
 repeat' first|exact yL.nil|exact oB.z_|exact oB.i_|exact oB.rfl_ _|refine yL.cons ?_ ?_
def V1(c:bt)(acts:List bF)(h:im c.a)(i:c.a.length<=1048576)(j:acts.length<=1048576):zzA 18 false [.val (some 5) (bt.enc .O c),.val none (fE .O acts)] (.tup [some 26,none]) (aR.enc .suf (DN c acts).1++aE .suf (DN c acts).2):=by
 unfold DN;by_cases a:yg c
 ·obtain⟨e,g⟩:=NL a
  by_cases b:acts.length<=80
  ·rw[CJ ⟨a,b⟩,g]
   exact(QY (Xr c) acts e h b).sf (.append (.refl _) (.cons (AX _) .nil))
  rw[CI (λx=>b x.2),g];have d:=(vw (Xr c) e).sf ((qj _).append (.refl _));refine ah.sf (rcs:=jX++[I 0,.z]++[.z]) ?_ AH;refine fO 47 [(5,3,[27,28,29]),(6,1,[30])] Tryz.func18 rfl ?_ (.inr (by repeat' first|exact tV1|exact Or.inr rfl|refine CK ?_ ?_))
  refine σE ?_
  rfl
 rw[CI (λx=>a x.1)];have d:=y9 c i a;refine ah.sf (rcs:=jX++[I 0,.z]++[.z]) ?_ AH;refine fO 47 [(5,3,[27,28,29]),(6,1,[30])] Tryz.func18 rfl ?_ (.inr (by repeat' first|exact tV1|exact Or.inr rfl|refine CK ?_ ?_))
 refine σP ?_
 rfl
def Vb(c:bt)(acts:List bF)(h:im c.a)(i:c.a.length<=1048576)(j:acts.length<=1048576):zzA 15 false [.val (some 5) (bt.enc .O c),.val none (fE .O acts)] (.tup [some 26,none]) (aR.enc .suf (DN c acts).1++aE .suf (DN c acts).2):=by
 unfold DN;by_cases a:yg c
 ·obtain⟨e,g⟩:=NL a
  by_cases b:acts.length<=80
  ·rw[CJ ⟨a,b⟩,g]
   exact(JX (Xr c) acts e h b).sf (.append (qj _) (.cons (AX _) .nil))
  rw[CI (λx=>b x.2),g];have d:=vi (Xr c) e;refine ah.sf (rcs:=jX++[I 0,.z]++[.z]) ?_ AH;refine fO 42 [] Tryz.func15 rfl ?_ (.inr (by repeat' first|exact tV1|exact Or.inr rfl|refine CK ?_ ?_))
  refine σE ?_
  rfl
 rw[CI (λx=>a x.1)];have d:=yr c i a;refine ah.sf (rcs:=jX++[I 0,.z]++[.z]) ?_ AH;refine fO 42 [] Tryz.func15 rfl ?_ (.inr (by repeat' first|exact tV1|exact Or.inr rfl|refine CK ?_ ?_))
 refine σP ?_
 rfl
set_option maxHeartbeats 2000000
def jU(x:List Int)(k:Int)(g:jE x)(l:0<=k)(h1:k+(ek x:Nat)<=1099511627776):zzB 24 false [.mut none (aE .suf x),.vI k] [.mut none (aE .suf (markIntS x k)),.val none []] .one [I (k+(ek x:Nat))]:=by
 have n:x.length<=1048576:=g;unfold ek at h1;have a:((markIntS x k).map (rI .suf)).length=(x.map (rI .suf)).length:=by simp[rm]
 refine fM 19 [] [] [(0,0),(0,0)] Tryz.func24 rfl (λu p=>?_)
 refine σP ?_
 refine CV (ι:=Nat) (λi=>[(0,bC [.s (.tagS (u 0 0)) (kZ ((markIntS x k).map (rI .suf)) (x.map (rI .suf)) i)]),(1,fI (k+(lI x i:Nat))),(5,fN i)]) (λi=>i<=x.length) (λi=>x.length - i) 0 ?_ (I1 _) λi o=>?_
 ·rw[fR]
  repeat'(first|exact tV1|rfl|exact CK rfl (CK (O1 I (by unfold lI;omega)) tV1)|refine CK ?_ ?_)
 have b:=(i7 a i).trans (show(x.map (rI .suf)).length=x.length by simp);by_cases c:i<x.length
 ·obtain⟨y,h⟩ : ∃y,x[i]? = some y:=⟨_,z4 c⟩
  have d:=gQ a i kd;rw[aa h]at d;have e:=qZ x k i c;unfold lI
  repeat'(first|refine gE ?_|with_reducible (first|refine CY b ?_|refine CH d ?_)|refine CR rfl rfl d rfl (z5 _) rfl ?_|refine CT qs ?_|refine CX rfl ?_|refine CH (bc d) ?_|refine CP (i+1) ω ω ?_)
  repeat'(first|exact tV1|rfl|exact CK rfl (CK (O1 (C.s _) (by first|exact cH a (aa e)|(simp only[List.set_set];exact cH a (aa e)))) tV1)|exact CK rfl (CK (O1 I (by first|omega|(unfold lI;omega))) tV1)|refine CK ?_ ?_)
 repeat'(first|refine gE ?_|with_reducible refine CY b ?_|refine CN rfl ?_ ?_)
 ·have j:i=x.length:=ω
  subst j;exact gm (by unfold lI ek;rfl)
 rw[gN _ a kd]
 repeat'(first|exact tV1|exact rfl|refine CK ?_ ?_)
def rK(x:List (List Int))(k:Int)(j:qp x)(o:0<=k)(h1:k+(gc x:Nat)<=1099511627776):zzB 314 false [.mut none (g9 .suf x),.vI k] [.mut none (g9 .suf (markIntSS x k)),.val none []] .one [I (k+(gc x:Nat))]:=by
 have q:x.length<=1048576:=j.1;have a:((markIntSS x k).map (aE .suf)).length=(x.map (aE .suf)).length:=by simp[qh]
 refine fM 19 [(24,[1,0])] [] [(0,0),(0,0)] Tryz.func314 rfl (λu p=>?_)
 refine σP ?_
 refine CV (ι:=Nat) (λi=>[(0,bC [.s (.tagS (u 0 0)) (kZ ((markIntSS x k).map (aE .suf)) (x.map (aE .suf)) i)]),(1,fI (k+(eX x i:Nat))),(5,fN i)]) (λi=>i<=x.length) (λi=>x.length - i) 0 ?_ (I1 _) λi r=>?_
 ·rw[fR,pI]
  repeat'(first|exact tV1|rfl|exact CK rfl (CK (O1 I ω) tV1)|refine CK ?_ ?_)
 have b:=(i7 a i).trans (show(x.map (aE .suf)).length=x.length by simp);by_cases e:i<x.length
 ·obtain⟨y,d⟩ : ∃y,x[i]? = some y:=⟨_,z4 e⟩
  have c:=gQ a i kd;rw[aa d]at c;have l:=pX x k i y d;have g:=pW x i y d;have h:=tX x (i+1);rw[g]at h
  repeat'(first|refine gE ?_|with_reducible (first|refine CY b ?_|refine CH c ?_)|refine CL rfl c rfl ?_|refine Cg rfl rfl c rfl (z5 _) rfl rfl ?_|refine CO (jU y _ (j.2 y (t4 d)) ω ω) (.inl rfl) ?_|refine CR rfl rfl (bc c) rfl (z5 _) rfl ?_|refine CH (bc c) ?_|refine CP (i+1) ω ω ?_)
  repeat'(first|exact tV1|rfl|exact CK rfl (CK (O1 (C.s _) (by first|exact cH a (aa l)|(simp only[List.set_set];exact cH a (aa l)))) tV1)|exact CK rfl (CK (O1 I ω) tV1)|refine CK ?_ ?_)
 repeat'(first|refine gE ?_|with_reducible refine CY b ?_|refine CN rfl ?_ ?_)
 ·have n:i=x.length:=ω
  subst n;exact gm (by rw[rq])
 rw[gN _ a kd]
 repeat'(first|exact tV1|exact rfl|refine CK ?_ ?_)
def HK(x:List Bool)(k:Int)(g:xh x)(l:0<=k)(h1:k+(j8 x:Nat)<=1099511627776):zzB 485 false [.mut none (lf .suf x),.vI k] [.mut none (lf .suf (markBoolS x k)),.val none []] .one [I (k+(j8 x:Nat))]:=by
 have n:x.length<=1048576:=g;unfold j8 at h1;have a:((markBoolS x k).map (rB .suf)).length=(x.map (rB .suf)).length:=by simp[pz]
 refine fM 21 [] [] [(0,0),(0,0)] Tryz.func485 rfl (λu p=>?_)
 refine σP ?_
 refine CV (ι:=Nat) (λi=>[(0,bC [.s (.tagS (u 0 0)) (kZ ((markBoolS x k).map (rB .suf)) (x.map (rB .suf)) i)]),(1,fI (k+(jC x i:Nat))),(5,fN i)]) (λi=>i<=x.length) (λi=>x.length - i) 0 ?_ (I1 _) λi o=>?_
 ·rw[fR]
  repeat'(first|exact tV1|rfl|exact CK rfl (CK (O1 I (by unfold jC;omega)) tV1)|refine CK ?_ ?_)
 have b:=(i7 a i).trans (show(x.map (rB .suf)).length=x.length by simp);by_cases c:i<x.length
 ·obtain⟨y,h⟩ : ∃y,x[i]? = some y:=⟨_,z4 c⟩
  have d:=gQ a i kd;rw[aa h]at d;have e:=pJ x k i c;unfold jC
  repeat'(first|refine gE ?_|with_reducible (first|refine CY b ?_|refine CH d ?_)|refine CR rfl rfl d rfl (z5 _) rfl ?_|refine CT qs ?_|refine CX rfl ?_|refine CH (bc d) ?_|refine CP (i+1) ω ω ?_)
  repeat'(first|exact tV1|rfl|exact CK rfl (CK (O1 (C.s _) (by first|exact cH a (aa e)|(simp only[List.set_set];exact cH a (aa e)))) tV1)|exact CK rfl (CK (O1 I (by first|omega|(unfold jC;omega))) tV1)|refine CK ?_ ?_)
 repeat'(first|refine gE ?_|with_reducible refine CY b ?_|refine CN rfl ?_ ?_)
 ·have j:i=x.length:=ω
  subst j;exact gm (by unfold jC j8;rfl)
 rw[gN _ a kd]
 repeat'(first|exact tV1|exact rfl|refine CK ?_ ?_)
def FI(x:aQ)(k:Int)(a:aQ.sml x)(d:0<=k)(h1:k+(aQ.cnt x:Nat)<=1099511627776):zzB 428 false [.mut (some 2) (aQ.enc .suf x),.vI k] [.mut (some 2) (aQ.enc .suf (x.mark k)),.val none []] .one [I (k+(aQ.cnt x:Nat))]:=by
 obtain⟨b,c⟩:=a;unfold aQ.cnt at h1;refine fM 14 [(314,[1,0]),(485,[1,0])] [] [(2,0),(0,0)] Tryz.func428 rfl (λu p=>?_)
 repeat'(first|refine gP ?_|refine CO (rK x.U _ b ω ω) (.inl rfl) ?_|refine CO (HK x.a3 _ c ω ω) (.inl rfl) ?_|refine CN rfl ?_ ?_)
 ·exact gm (by unfold aQ.cnt;omega)
 repeat'(first|exact tV1|exact rfl|refine CK ?_ ?_)
def FE(x:List aS)(k:Int)(l:qY x)(o:0<=k)(h1:k+(fG x:Nat)<=1099511627776):zzB 486 false [.mut none (j7 .suf x),.vI k] [.mut none (j7 .suf (ew x k)),.val none []] .one [I (k+(fG x:Nat))]:=by
 have q:x.length<=1048576:=l.1;have a:((ew x k).map (aS.enc .suf)).length=(x.map (aS.enc .suf)).length:=by simp[mD]
 refine fM 27 [] [] [(0,0),(0,0)] Tryz.func486 rfl (λu p=>?_)
 refine σP ?_
 refine CV (ι:=Nat) (λi=>[(0,bC [.s (.tagS (u 0 0)) (kZ ((ew x k).map (aS.enc .suf)) (x.map (aS.enc .suf)) i)]),(1,fI (k+(cV x i:Nat))),(5,fN i)]) (λi=>i<=x.length) (λi=>x.length - i) 0 ?_ (I1 _) λi r=>?_
 ·rw[fR,mT]
  repeat'(first|exact tV1|rfl|exact CK rfl (CK (O1 I ω) tV1)|refine CK ?_ ?_)
 have b:=(i7 a i).trans (show(x.map (aS.enc .suf)).length=x.length by simp);by_cases g:i<x.length
 ·obtain⟨y,h⟩ : ∃y,x[i]? = some y:=⟨_,z4 g⟩
  have d:=gQ a i kd;rw[aa h]at d;have j:=mE x k i y h;have c:=mt x i y h;have e:=pA x (i+1);rw[c]at e;simp only[aS.cnt]at c e
  repeat'(first|refine gE ?_|with_reducible (first|refine CY b ?_|refine CH d ?_)|refine CR rfl rfl d rfl (O2 rfl) rfl ?_|refine CR rfl rfl (bc d) rfl (O2 rfl) rfl ?_|refine CH (bc d) ?_|refine CP (i+1) ω ω ?_)
  repeat'(first|exact tV1|rfl|exact CK rfl (CK (O1 (C.s _) (by first|exact cH a (aa j)|(simp only[List.set_set];exact cH a (aa j)))) tV1)|exact CK rfl (CK (O1 I (by first|omega|(simp only[aS.cnt]at c;omega))) tV1)|refine CK ?_ ?_)
 repeat'(first|refine gE ?_|with_reducible refine CY b ?_|refine CN rfl ?_ ?_)
 ·have n:i=x.length:=ω
  subst n;exact gm (by rw[nJ])
 rw[gN _ a kd]
 repeat'(first|exact tV1|exact rfl|refine CK ?_ ?_)
def Hl(x:aM)(k:Int)(a:aM.sml x)(c:0<=k)(h1:k+(aM.cnt x:Nat)<=1099511627776):zzB 429 false [.mut (some 1) (aM.enc .suf x),.vI k] [.mut (some 1) (aM.enc .suf (x.mark k)),.val none []] .one [I (k+(aM.cnt x:Nat))]:=by
 have b:=a;unfold aM.cnt at h1;refine fM 10 [(486,[1,0])] [] [(2,0),(0,0)] Tryz.func429 rfl (λu p=>?_)
 repeat'(first|refine gP ?_|refine CO (FE x.M _ b ω ω) (.inl rfl) ?_|refine CN rfl ?_ ?_)
 ·exact gm (by unfold aM.cnt;omega)
 repeat'(first|exact tV1|exact rfl|refine CK ?_ ?_)
def DR(x:aL)(k:Int)(a:aL.sml x)(d:0<=k)(h1:k+(aL.cnt x:Nat)<=1099511627776):zzB 313 false [.mut (some 3) (aL.enc .suf x),.vI k] [.mut (some 3) (aL.enc .suf (x.mark k)),.val none []] .one [I (k+(aL.cnt x:Nat))]:=by
 obtain⟨b,c⟩:=a;unfold aL.cnt at h1;refine fM 14 [(428,[1,0]),(429,[1,0])] [] [(2,0),(0,0)] Tryz.func313 rfl (λu p=>?_)
 repeat'(first|refine gP ?_|refine CO (FI x.V _ b ω ω) (.inl rfl) ?_|refine CO (Hl x.Q _ c ω ω) (.inl rfl) ?_|refine CN rfl ?_ ?_)
 ·exact gm (by unfold aL.cnt;omega)
 repeat'(first|exact tV1|exact rfl|refine CK ?_ ?_)
def FP(x:af)(k:Int)(a:af.sml x)(d:0<=k)(h1:k+(af.cnt x:Nat)<=1099511627776):zzB 151 false [.mut (some 5) (af.enc .suf x),.vI k] [.mut (some 5) (af.enc .suf (x.mark k)),.val none []] .one [I (k+(af.cnt x:Nat))]:=by
 obtain⟨b,c⟩:=a;unfold af.cnt at h1;refine fM 14 [(313,[1,0]),(24,[1,0])] [] [(2,0),(0,0)] Tryz.func151 rfl (λu p=>?_)
 repeat'(first|refine gP ?_|refine CO (DR x.F _ b ω ω) (.inl rfl) ?_|refine CO (jU x.a _ c ω ω) (.inl rfl) ?_|refine CN rfl ?_ ?_)
 ·exact gm (by unfold af.cnt;omega)
 repeat'(first|exact tV1|exact rfl|refine CK ?_ ?_)
def FR(x:List aC)(k:Int)(l:f9 x)(o:0<=k)(h1:k+(cA x:Nat)<=1099511627776):zzB 152 false [.mut none (bn .suf x),.vI k] [.mut none (bn .suf (eD x k)),.val none []] .one [I (k+(cA x:Nat))]:=by
 have q:x.length<=1048576:=l.1;have a:((eD x k).map (aC.enc .suf)).length=(x.map (aC.enc .suf)).length:=by simp[mJ]
 refine fM 27 [] [] [(0,0),(0,0)] Tryz.func152 rfl (λu p=>?_)
 refine σP ?_
 refine CV (ι:=Nat) (λi=>[(0,bC [.s (.tagS (u 0 0)) (kZ ((eD x k).map (aC.enc .suf)) (x.map (aC.enc .suf)) i)]),(1,fI (k+(cX x i:Nat))),(5,fN i)]) (λi=>i<=x.length) (λi=>x.length - i) 0 ?_ (I1 _) λi r=>?_
 ·rw[fR,mN]
  repeat'(first|exact tV1|rfl|exact CK rfl (CK (O1 I ω) tV1)|refine CK ?_ ?_)
 have b:=(i7 a i).trans (show(x.map (aC.enc .suf)).length=x.length by simp);by_cases g:i<x.length
 ·obtain⟨y,h⟩ : ∃y,x[i]? = some y:=⟨_,z4 g⟩
  have d:=gQ a i kd;rw[aa h]at d;have j:=mL x k i y h;have c:=mF x i y h;have e:=pu x (i+1);rw[c]at e;simp only[aC.cnt]at c e
  repeat'(first|refine gE ?_|with_reducible (first|refine CY b ?_|refine CH d ?_)|refine CR rfl rfl d rfl (O2 rfl) rfl ?_|refine CR rfl rfl (bc d) rfl (O2 rfl) rfl ?_|refine CH (bc d) ?_|refine CP (i+1) ω ω ?_)
  repeat'(first|exact tV1|rfl|exact CK rfl (CK (O1 (C.s _) (by first|exact cH a (aa j)|(simp only[List.set_set];exact cH a (aa j)))) tV1)|exact CK rfl (CK (O1 I (by first|omega|(simp only[aC.cnt]at c;omega))) tV1)|refine CK ?_ ?_)
 repeat'(first|refine gE ?_|with_reducible refine CY b ?_|refine CN rfl ?_ ?_)
 ·have n:i=x.length:=ω
  subst n;exact gm (by rw[nS])
 rw[gN _ a kd]
 repeat'(first|exact tV1|exact rfl|refine CK ?_ ?_)
def HO(x:List aA)(k:Int)(l:dl x)(o:0<=k)(h1:k+(dA x:Nat)<=1099511627776):zzB 153 false [.mut none (bP .suf x),.vI k] [.mut none (bP .suf (f8 x k)),.val none []] .one [I (k+(dA x:Nat))]:=by
 have q:x.length<=1048576:=l.1;have a:((f8 x k).map (aA.enc .suf)).length=(x.map (aA.enc .suf)).length:=by simp[nH]
 refine fM 34 [] [] [(0,0),(0,0)] Tryz.func153 rfl (λu p=>?_)
 refine σP ?_
 refine CV (ι:=Nat) (λi=>[(0,bC [.s (.tagS (u 0 0)) (kZ ((f8 x k).map (aA.enc .suf)) (x.map (aA.enc .suf)) i)]),(1,fI (k+(dQ x i:Nat))),(5,fN i)]) (λi=>i<=x.length) (λi=>x.length - i) 0 ?_ (I1 _) λi r=>?_
 ·rw[fR,ot]
  repeat'(first|exact tV1|rfl|exact CK rfl (CK (O1 I ω) tV1)|refine CK ?_ ?_)
 have b:=(i7 a i).trans (show(x.map (aA.enc .suf)).length=x.length by simp);by_cases g:i<x.length
 ·obtain⟨y,h⟩ : ∃y,x[i]? = some y:=⟨_,z4 g⟩
  have c:=gQ a i kd;rw[aa h]at c;have j:=nZ x k i y h;have d:=nX x i y h;have e:=ri x (i+1);rw[d]at e;simp only[aA.cnt]at d e
  repeat'(first|refine gE ?_|with_reducible (first|refine CY b ?_|refine CH c ?_)|refine CR rfl rfl c rfl (O2 rfl) rfl ?_|refine CR rfl rfl (bc c) rfl (O2 rfl) rfl ?_|refine CR rfl rfl (bc (bc c)) rfl (O2 rfl) rfl ?_|refine CH (bc c) ?_|refine CH (bc (bc c)) ?_|refine CP (i+1) ω ω ?_)
  repeat'(first|exact tV1|rfl|exact CK rfl (CK (O1 (C.s _) (by first|exact cH a (aa j)|(simp only[List.set_set];exact cH a (aa j)))) tV1)|exact CK rfl (CK (O1 I (by first|omega|(simp only[aA.cnt]at d;omega))) tV1)|refine CK ?_ ?_)
 repeat'(first|refine gE ?_|with_reducible refine CY b ?_|refine CN rfl ?_ ?_)
 ·have n:i=x.length:=ω
  subst n;exact gm (by rw[qa])
 rw[gN _ a kd]
 repeat'(first|exact tV1|exact rfl|refine CK ?_ ?_)
def EH(x:List a8)(k:Int)(l:du x)(o:0<=k)(h1:k+(dd x:Nat)<=1099511627776):zzB 154 false [.mut none (bV .suf x),.vI k] [.mut none (bV .suf (eB x k)),.val none []] .one [I (k+(dd x:Nat))]:=by
 have q:x.length<=1048576:=l.1;have a:((eB x k).map (a8.enc .suf)).length=(x.map (a8.enc .suf)).length:=by simp[mG]
 refine fM 34 [] [] [(0,0),(0,0)] Tryz.func154 rfl (λu p=>?_)
 refine σP ?_
 refine CV (ι:=Nat) (λi=>[(0,bC [.s (.tagS (u 0 0)) (kZ ((eB x k).map (a8.enc .suf)) (x.map (a8.enc .suf)) i)]),(1,fI (k+(dh x i:Nat))),(5,fN i)]) (λi=>i<=x.length) (λi=>x.length - i) 0 ?_ (I1 _) λi r=>?_
 ·rw[fR,mw]
  repeat'(first|exact tV1|rfl|exact CK rfl (CK (O1 I ω) tV1)|refine CK ?_ ?_)
 have b:=(i7 a i).trans (show(x.map (a8.enc .suf)).length=x.length by simp);by_cases g:i<x.length
 ·obtain⟨y,h⟩ : ∃y,x[i]? = some y:=⟨_,z4 g⟩
  have c:=gQ a i kd;rw[aa h]at c;have j:=mz x k i y h;have d:=mQ x i y h;have e:=qd x (i+1);rw[d]at e;simp only[a8.cnt]at d e
  repeat'(first|refine gE ?_|with_reducible (first|refine CY b ?_|refine CH c ?_)|refine CR rfl rfl c rfl (O2 rfl) rfl ?_|refine CR rfl rfl (bc c) rfl (O2 rfl) rfl ?_|refine CR rfl rfl (bc (bc c)) rfl (O2 rfl) rfl ?_|refine CH (bc c) ?_|refine CH (bc (bc c)) ?_|refine CP (i+1) ω ω ?_)
  repeat'(first|exact tV1|rfl|exact CK rfl (CK (O1 (C.s _) (by first|exact cH a (aa j)|(simp only[List.set_set];exact cH a (aa j)))) tV1)|exact CK rfl (CK (O1 I (by first|omega|(simp only[a8.cnt]at d;omega))) tV1)|refine CK ?_ ?_)
 repeat'(first|refine gE ?_|with_reducible refine CY b ?_|refine CN rfl ?_ ?_)
 ·have n:i=x.length:=ω
  subst n;exact gm (by rw[nY])
 rw[gN _ a kd]
 repeat'(first|exact tV1|exact rfl|refine CK ?_ ?_)
def LM(x:List aW)(k:Int)(l:xw x)(o:0<=k)(h1:k+(fJ x:Nat)<=1099511627776):zzB 155 false [.mut none (iU .suf x),.vI k] [.mut none (iU .suf (gp x k)),.val none []] .one [I (k+(fJ x:Nat))]:=by
 have q:x.length<=1048576:=l.1;have a:((gp x k).map (aW.enc .suf)).length=(x.map (aW.enc .suf)).length:=by simp[qe]
 refine fM 41 [] [] [(0,0),(0,0)] Tryz.func155 rfl (λu p=>?_)
 refine σP ?_
 refine CV (ι:=Nat) (λi=>[(0,bC [.s (.tagS (u 0 0)) (kZ ((gp x k).map (aW.enc .suf)) (x.map (aW.enc .suf)) i)]),(1,fI (k+(fh x i:Nat))),(5,fN i)]) (λi=>i<=x.length) (λi=>x.length - i) 0 ?_ (I1 _) λi r=>?_
 ·rw[fR,pp]
  repeat'(first|exact tV1|rfl|exact CK rfl (CK (O1 I ω) tV1)|refine CK ?_ ?_)
 have c:=(i7 a i).trans (show(x.map (aW.enc .suf)).length=x.length by simp);by_cases g:i<x.length
 ·obtain⟨y,h⟩ : ∃y,x[i]? = some y:=⟨_,z4 g⟩
  have b:=gQ a i kd;rw[aa h]at b;have j:=pH x k i y h;have d:=p8 x i y h;have e:=tf x (i+1);rw[d]at e;simp only[aW.cnt]at d e
  repeat'(first|refine gE ?_|with_reducible (first|refine CY c ?_|refine CH b ?_)|refine CR rfl rfl b rfl (O2 rfl) rfl ?_|refine CR rfl rfl (bc b) rfl (O2 rfl) rfl ?_|refine CR rfl rfl (bc (bc b)) rfl (O2 rfl) rfl ?_|refine CR rfl rfl (bc (bc (bc b))) rfl (O2 rfl) rfl ?_|refine CH (bc b) ?_|refine CH (bc (bc b)) ?_|refine CH (bc (bc (bc b))) ?_|refine CP (i+1) ω ω ?_)
  repeat'(first|exact tV1|rfl|exact CK rfl (CK (O1 (C.s _) (by first|exact cH a (aa j)|(simp only[List.set_set];exact cH a (aa j)))) tV1)|exact CK rfl (CK (O1 I (by first|omega|(simp only[aW.cnt]at d;omega))) tV1)|refine CK ?_ ?_)
 repeat'(first|refine gE ?_|with_reducible refine CY c ?_|refine CN rfl ?_ ?_)
 ·have n:i=x.length:=ω
  subst n;exact gm (by rw[qR])
 rw[gN _ a kd]
 repeat'(first|exact tV1|exact rfl|refine CK ?_ ?_)
def FN(x:List aB)(k:Int)(j:rS x)(o:0<=k)(h1:k+(dI x:Nat)<=1099511627776):zzB 156 false [.mut none (hJ .suf x),.vI k] [.mut none (hJ .suf (eA x k)),.val none []] .one [I (k+(dI x:Nat))]:=by
 have q:x.length<=1048576:=j.1;have a:((eA x k).map (aB.enc .suf)).length=(x.map (aB.enc .suf)).length:=by simp[mu]
 refine fM 20 [(314,[1,0])] [] [(0,0),(0,0)] Tryz.func156 rfl (λu p=>?_)
 refine σP ?_
 refine CV (ι:=Nat) (λi=>[(0,bC [.s (.tagS (u 0 0)) (kZ ((eA x k).map (aB.enc .suf)) (x.map (aB.enc .suf)) i)]),(1,fI (k+(cZ x i:Nat))),(5,fN i)]) (λi=>i<=x.length) (λi=>x.length - i) 0 ?_ (I1 _) λi r=>?_
 ·rw[fR,mS]
  repeat'(first|exact tV1|rfl|exact CK rfl (CK (O1 I ω) tV1)|refine CK ?_ ?_)
 have b:=(i7 a i).trans (show(x.map (aB.enc .suf)).length=x.length by simp);by_cases h:i<x.length
 ·obtain⟨y,g⟩ : ∃y,x[i]? = some y:=⟨_,z4 h⟩
  have c:=gQ a i kd;rw[aa g]at c;have l:=m6 x k i y g;have d:=my x i y g;have e:=pq x (i+1);rw[d]at e
  repeat'(first|refine gE ?_|with_reducible (first|refine CY b ?_|refine CH c ?_)|refine CL rfl c rfl ?_|refine Cg rfl rfl c rfl (z5 _) rfl rfl ?_|refine CO (rK y.W _ (j.2 y (t4 g)) ω (by simp only[aB.cnt]at e;omega)) (.inl rfl) ?_|refine CR rfl rfl (bc c) rfl (z5 _) rfl ?_|refine CH (bc c) ?_|refine CP (i+1) ω ω ?_)
  repeat'(first|exact tV1|rfl|exact CK rfl (CK (O1 (C.s _) (by first|exact cH a (aa l)|(simp only[List.set_set];exact cH a (aa l)))) tV1)|exact CK rfl (CK (O1 I (by first|omega|(simp only[aB.cnt]at d;omega))) tV1)|refine CK ?_ ?_)
 repeat'(first|refine gE ?_|with_reducible refine CY b ?_|refine CN rfl ?_ ?_)
 ·have n:i=x.length:=ω
  subst n;exact gm (by rw[oh])
 rw[gN _ a kd]
 repeat'(first|exact tV1|exact rfl|refine CK ?_ ?_)
def JV(x:List aX)(k:Int)(l:uo x)(o:0<=k)(h1:k+(ep x:Nat)<=1099511627776):zzB 430 false [.mut none (bg .suf x),.vI k] [.mut none (bg .suf (eO x k)),.val none []] .one [I (k+(ep x:Nat))]:=by
 have q:x.length<=1048576:=l.1;have a:((eO x k).map (aX.enc .suf)).length=(x.map (aX.enc .suf)).length:=by simp[nR]
 refine fM 27 [] [] [(0,0),(0,0)] Tryz.func430 rfl (λu p=>?_)
 refine σP ?_
 refine CV (ι:=Nat) (λi=>[(0,bC [.s (.tagS (u 0 0)) (kZ ((eO x k).map (aX.enc .suf)) (x.map (aX.enc .suf)) i)]),(1,fI (k+(dN x i:Nat))),(5,fN i)]) (λi=>i<=x.length) (λi=>x.length - i) 0 ?_ (I1 _) λi r=>?_
 ·rw[fR,oz]
  repeat'(first|exact tV1|rfl|exact CK rfl (CK (O1 I ω) tV1)|refine CK ?_ ?_)
 have b:=(i7 a i).trans (show(x.map (aX.enc .suf)).length=x.length by simp);by_cases g:i<x.length
 ·obtain⟨y,h⟩ : ∃y,x[i]? = some y:=⟨_,z4 g⟩
  have d:=gQ a i kd;rw[aa h]at d;have j:=ox x k i y h;have c:=oy x i y h;have e:=qT x (i+1);rw[c]at e;simp only[aX.cnt]at c e
  repeat'(first|refine gE ?_|with_reducible (first|refine CY b ?_|refine CH d ?_)|refine CR rfl rfl d rfl (O2 rfl) rfl ?_|refine CR rfl rfl (bc d) rfl (O2 rfl) rfl ?_|refine CH (bc d) ?_|refine CP (i+1) ω ω ?_)
  repeat'(first|exact tV1|rfl|exact CK rfl (CK (O1 (C.s _) (by first|exact cH a (aa j)|(simp only[List.set_set];exact cH a (aa j)))) tV1)|exact CK rfl (CK (O1 I (by first|omega|(simp only[aX.cnt]at c;omega))) tV1)|refine CK ?_ ?_)
 repeat'(first|refine gE ?_|with_reducible refine CY b ?_|refine CN rfl ?_ ?_)
 ·have n:i=x.length:=ω
  subst n;exact gm (by rw[pv])
 rw[gN _ a kd]
 repeat'(first|exact tV1|exact rfl|refine CK ?_ ?_)
def FX(x:List (List aX))(k:Int)(j:qS x)(o:0<=k)(h1:k+(eP x:Nat)<=1099511627776):zzB 315 false [.mut none (iR .suf x),.vI k] [.mut none (iR .suf (eC x k)),.val none []] .one [I (k+(eP x:Nat))]:=by
 have q:x.length<=1048576:=j.1;have a:((eC x k).map (bg .suf)).length=(x.map (bg .suf)).length:=by simp[mI]
 refine fM 19 [(430,[1,0])] [] [(0,0),(0,0)] Tryz.func315 rfl (λu p=>?_)
 refine σP ?_
 refine CV (ι:=Nat) (λi=>[(0,bC [.s (.tagS (u 0 0)) (kZ ((eC x k).map (bg .suf)) (x.map (bg .suf)) i)]),(1,fI (k+(cU x i:Nat))),(5,fN i)]) (λi=>i<=x.length) (λi=>x.length - i) 0 ?_ (I1 _) λi r=>?_
 ·rw[fR,m0]
  repeat'(first|exact tV1|rfl|exact CK rfl (CK (O1 I ω) tV1)|refine CK ?_ ?_)
 have b:=(i7 a i).trans (show(x.map (bg .suf)).length=x.length by simp);by_cases e:i<x.length
 ·obtain⟨y,d⟩ : ∃y,x[i]? = some y:=⟨_,z4 e⟩
  have c:=gQ a i kd;rw[aa d]at c;have l:=m9 x k i y d;have g:=mR x i y d;have h:=qg x (i+1);rw[g]at h
  repeat'(first|refine gE ?_|with_reducible (first|refine CY b ?_|refine CH c ?_)|refine CL rfl c rfl ?_|refine Cg rfl rfl c rfl (z5 _) rfl rfl ?_|refine CO (JV y _ (j.2 y (t4 d)) ω ω) (.inl rfl) ?_|refine CR rfl rfl (bc c) rfl (z5 _) rfl ?_|refine CH (bc c) ?_|refine CP (i+1) ω ω ?_)
  repeat'(first|exact tV1|rfl|exact CK rfl (CK (O1 (C.s _) (by first|exact cH a (aa l)|(simp only[List.set_set];exact cH a (aa l)))) tV1)|exact CK rfl (CK (O1 I ω) tV1)|refine CK ?_ ?_)
 repeat'(first|refine gE ?_|with_reducible refine CY b ?_|refine CN rfl ?_ ?_)
 ·have n:i=x.length:=ω
  subst n;exact gm (by rw[nU])
 rw[gN _ a kd]
 repeat'(first|exact tV1|exact rfl|refine CK ?_ ?_)
def LY(x:aI)(k:Int)(a:aI.sml x)(d:0<=k)(h1:k+(aI.cnt x:Nat)<=1099511627776):zzB 157 false [.mut (some 2) (aI.enc .suf x),.vI k] [.mut (some 2) (aI.enc .suf (x.mark k)),.val none []] .one [I (k+(aI.cnt x:Nat))]:=by
 obtain⟨b,c⟩:=a;unfold aI.cnt at h1;refine fM 14 [(315,[1,0]),(314,[1,0])] [] [(2,0),(0,0)] Tryz.func157 rfl (λu p=>?_)
 repeat'(first|refine gP ?_|refine CO (FX x.T _ b ω ω) (.inl rfl) ?_|refine CO (rK x.g _ c ω ω) (.inl rfl) ?_|refine CN rfl ?_ ?_)
 ·exact gm (by unfold aI.cnt;omega)
 repeat'(first|exact tV1|exact rfl|refine CK ?_ ?_)
def FG(x:List aJ)(k:Int)(l:iP x)(o:0<=k)(h1:k+(fF x:Nat)<=1099511627776):zzB 316 false [.mut none (bY .suf x),.vI k] [.mut none (bY .suf (eE x k)),.val none []] .one [I (k+(fF x:Nat))]:=by
 have q:x.length<=1048576:=l.1;have a:((eE x k).map (aJ.enc .suf)).length=(x.map (aJ.enc .suf)).length:=by simp[mA]
 refine fM 34 [] [] [(0,0),(0,0)] Tryz.func316 rfl (λu p=>?_)
 refine σP ?_
 refine CV (ι:=Nat) (λi=>[(0,bC [.s (.tagS (u 0 0)) (kZ ((eE x k).map (aJ.enc .suf)) (x.map (aJ.enc .suf)) i)]),(1,fI (k+(cY x i:Nat))),(5,fN i)]) (λi=>i<=x.length) (λi=>x.length - i) 0 ?_ (I1 _) λi r=>?_
 ·rw[fR,mU]
  repeat'(first|exact tV1|rfl|exact CK rfl (CK (O1 I ω) tV1)|refine CK ?_ ?_)
 have b:=(i7 a i).trans (show(x.map (aJ.enc .suf)).length=x.length by simp);by_cases g:i<x.length
 ·obtain⟨y,h⟩ : ∃y,x[i]? = some y:=⟨_,z4 g⟩
  have c:=gQ a i kd;rw[aa h]at c;have j:=mM x k i y h;have d:=m7 x i y h;have e:=p9 x (i+1);rw[d]at e;simp only[aJ.cnt]at d e
  repeat'(first|refine gE ?_|with_reducible (first|refine CY b ?_|refine CH c ?_)|refine CR rfl rfl c rfl (O2 rfl) rfl ?_|refine CR rfl rfl (bc c) rfl (O2 rfl) rfl ?_|refine CR rfl rfl (bc (bc c)) rfl (O2 rfl) rfl ?_|refine CH (bc c) ?_|refine CH (bc (bc c)) ?_|refine CP (i+1) ω ω ?_)
  repeat'(first|exact tV1|rfl|exact CK rfl (CK (O1 (C.s _) (by first|exact cH a (aa j)|(simp only[List.set_set];exact cH a (aa j)))) tV1)|exact CK rfl (CK (O1 I (by first|omega|(simp only[aJ.cnt]at d;omega))) tV1)|refine CK ?_ ?_)
 repeat'(first|refine gE ?_|with_reducible refine CY b ?_|refine CN rfl ?_ ?_)
 ·have n:i=x.length:=ω
  subst n;exact gm (by rw[o7])
 rw[gN _ a kd]
 repeat'(first|exact tV1|exact rfl|refine CK ?_ ?_)
def Lu(x:bh)(k:Int)(a:bh.sml x)(c:0<=k)(h1:k+(bh.cnt x:Nat)<=1099511627776):zzB 158 false [.mut (some 2) (bh.enc .suf x),.vI k] [.mut (some 2) (bh.enc .suf (x.mark k)),.val none []] .one [I (k+(bh.cnt x:Nat))]:=by
 have b:=a;unfold bh.cnt at h1;refine fM 10 [(316,[1,0])] [] [(2,0),(0,0)] Tryz.func158 rfl (λu p=>?_)
 repeat'(first|refine gP ?_|refine CO (FG x.q _ b ω ω) (.inl rfl) ?_|refine CN rfl ?_ ?_)
 ·exact gm (by unfold bh.cnt;omega)
 repeat'(first|exact tV1|exact rfl|refine CK ?_ ?_)
def L9(x:b9)(k:Int)(a:b9.sml x)(c:0<=k)(h1:k+(b9.cnt x:Nat)<=1099511627776):zzB 317 false [.mut (some 3) (b9.enc .suf x),.vI k] [.mut (some 3) (b9.enc .suf (x.mark k)),.val none []] .one [I (k+(b9.cnt x:Nat))]:=by
 have b:=a;unfold b9.cnt at h1;refine fM 10 [(24,[1,0])] [] [(2,0),(0,0)] Tryz.func317 rfl (λu p=>?_)
 repeat'(first|refine gP ?_|refine CO (jU x.U _ b ω ω) (.inl rfl) ?_|refine CN rfl ?_ ?_)
 ·exact gm (by unfold b9.cnt;omega)
 repeat'(first|exact tV1|exact rfl|refine CK ?_ ?_)
def N3(x:bW)(k:Int)(a:bW.sml x)(c:0<=k)(h1:k+(bW.cnt x:Nat)<=1099511627776):zzB 159 false [.mut (some 5) (bW.enc .suf x),.vI k] [.mut (some 5) (bW.enc .suf (x.mark k)),.val none []] .one [I (k+(bW.cnt x:Nat))]:=by
 have b:=a;unfold bW.cnt at h1;refine fM 10 [(317,[1,0])] [] [(2,0),(0,0)] Tryz.func159 rfl (λu p=>?_)
 repeat'(first|refine gP ?_|refine CO (L9 x.d _ b ω ω) (.inl rfl) ?_|refine CN rfl ?_ ?_)
 ·exact gm (by unfold bW.cnt;omega)
 repeat'(first|exact tV1|exact rfl|refine CK ?_ ?_)
def LU(x:ac)(k:Int)(a:ac.sml x)(n:0<=k)(h1:k+(ac.cnt x:Nat)<=1099511627776):zzB 50 false [.mut (some 24) (ac.enc .suf x),.vI k] [.mut (some 24) (ac.enc .suf (x.mark k)),.val none []] .one [I (k+(ac.cnt x:Nat))]:=by
 obtain⟨b,c,d,e,g,h,i,j,l⟩:=a;unfold ac.cnt at h1;refine fM 42 [(159,[1,0]),(151,[1,0]),(157,[1,0]),(158,[1,0]),(156,[1,0]),(154,[1,0]),(155,[1,0]),(152,[1,0]),(153,[1,0])] [] [(2,0),(0,0)] Tryz.func50 rfl (λu p=>?_)
 repeat'(first|refine gP ?_|refine CO (FP x.G _ b ω ω) (.inl rfl) ?_|refine CO (FR x.b _ c ω ω) (.inl rfl) ?_|refine CO (HO x.J _ d ω ω) (.inl rfl) ?_|refine CO (EH x.H _ e ω ω) (.inl rfl) ?_|refine CO (LM x.K _ g ω ω) (.inl rfl) ?_|refine CO (FN x.R _ h ω ω) (.inl rfl) ?_|refine CO (LY x.e _ i ω ω) (.inl rfl) ?_|refine CO (Lu x.a1 _ j ω ω) (.inl rfl) ?_|refine CO (N3 x.a5 _ l ω ω) (.inl rfl) ?_|refine CN rfl ?_ ?_)
 ·exact gm (by unfold ac.cnt;omega)
 repeat'(first|exact tV1|exact rfl|refine CK ?_ ?_)
set_option maxHeartbeats 2000000
def aK.ct2(x:aK):Nat:=1+ek x.U
def aK.mk2(x:aK)(k:Int):aK:=⟨k,markIntS x.U (k+1)⟩
def Ao:List aK->Nat
 | []=>0
 | x::xs=>aK.ct2 x+Ao xs
def zZ:List aK->Int->List aK
 | [],_=>[]
 | x::xs,k=>aK.mk2 x k::zZ xs (k+(aK.ct2 x:Nat))
def AU:∀(x:List aK)(k:Int),(zZ x k).length=x.length
 | [],_=>rfl
 | _::xs,k=>by simp[zZ,AU xs]
def mn:List aK->Nat->Nat
 | [],_=>0
 | _::_,0=>0
 | x::xs,i+1=>aK.ct2 x+mn xs i
def Dw:∀(x:List aK)(k:Int)(i:Nat)(y:aK),x[i]? = some y->(zZ x k)[i]? = some (aK.mk2 y (k+(mn x i:Nat)))
 | [],_,i,y,h=>by simp at h
 | x::xs,k,0,y,h=>by simp at h;subst h;simp[zZ,mn]
 | x::xs,k,i+1,y,h=>by
  simp only[zZ,List.getElem?_cons_succ];rw[Dw xs _ i y (by simpa using h)]
  congr 2
  simp only[mn];omega
def vV(x:List aK):mn x 0=0:=by cases x<;>rfl
def vH:∀(x:List aK)(i:Nat)(y:aK),x[i]? = some y->mn x (i+1)=mn x i+aK.ct2 y
 | [],i,y,h=>by simp at h
 | x::xs,0,y,h=>by simp at h;subst h;simp[mn,vV]
 | x::xs,i+1,y,h=>by
  simp only[mn];rw[vH xs i y (by simpa using h)];omega
def yN:∀(x:List aK),mn x x.length=Ao x
 | []=>rfl
 | x::xs=>by simp only[List.length_cons,mn,Ao,yN xs]
def AY:∀(x:List aK)(i:Nat),mn x i<=Ao x
 | [],_=>by simp[mn]
 | x::xs,0=>by simp[mn]
 | x::xs,i+1=>by simp only[mn,Ao];have:=AY xs i;omega
def au.ct2(x:au):Nat:=Ao x.K
def au.mk2(x:au)(k:Int):au:=⟨x.k,zZ x.K k⟩
def aR.ct2(x:aR):Nat:=ac.cnt x.Y+au.ct2 x.c5
def aR.mk2(x:aR)(k:Int):aR:=⟨ac.mark x.Y k,au.mk2 x.c5 (k+(ac.cnt x.Y:Nat))⟩
def BK(x:List aK)(k:Int)(j:pe x)(o:0<=k)(h1:k+(Ao x:Nat)<=1099511627776):zzB 160 false [.mut none (jQ .suf x),.vI k] [.mut none (jQ .suf (zZ x k)),.val none []] .one [I (k+(Ao x:Nat))]:=by
 have q:x.length<=1048576:=j.1;have a:((zZ x k).map (aK.enc .suf)).length=(x.map (aK.enc .suf)).length:=by simp[AU]
 refine fM 27 [(24,[1,0])] [] [(0,0),(0,0)] Tryz.func160 rfl (λu p=>?_)
 refine σP ?_
 refine CV (ι:=Nat) (λi=>[(0,bC [.s (.tagS (u 0 0)) (kZ ((zZ x k).map (aK.enc .suf)) (x.map (aK.enc .suf)) i)]),(1,fI (k+(mn x i:Nat))),(5,fN i)]) (λi=>i<=x.length) (λi=>x.length - i) 0 ?_ (I1 _) λi r=>?_
 ·rw[fR,vV]
  repeat'(first|exact tV1|rfl|exact CK rfl (CK (O1 I ω) tV1)|refine CK ?_ ?_)
 have c:=(i7 a i).trans (show(x.map (aK.enc .suf)).length=x.length by simp);by_cases h:i<x.length
 ·obtain⟨y,g⟩ : ∃y,x[i]? = some y:=⟨_,z4 h⟩
  have b:=gQ a i kd;rw[aa g]at b;have l:=Dw x k i y g;have d:=vH x i y g;have e:=AY x (i+1);rw[d]at e
  repeat'(first|refine gE ?_|with_reducible (first|refine CY c ?_|refine CH b ?_)|refine CR rfl rfl b rfl (O2 rfl) rfl ?_|refine CL rfl (bc b) rfl ?_|refine Cg rfl rfl (bc b) rfl (O2 rfl) rfl rfl ?_|refine CO (jU y.U _ (j.2 y (t4 g)) ω (by simp only[aK.ct2]at e;omega)) (.inl rfl) ?_|refine CR rfl rfl (bc b) rfl (O2 rfl) rfl ?_|refine CR rfl rfl (bc (bc b)) rfl (O2 rfl) rfl ?_|refine CR rfl rfl (bc (bc (bc b))) rfl (O2 rfl) rfl ?_|refine CH (bc b) ?_|refine CP (i+1) ω ω ?_)
  repeat'(first|exact tV1|rfl|exact CK rfl (CK (O1 (C.s _) (by first|exact cH a (aa l)|(simp only[List.set_set];exact cH a (aa l)))) tV1)|exact CK rfl (CK (O1 I (by first|omega|(simp only[aK.ct2]at d;omega))) tV1)|refine CK ?_ ?_)
 repeat'(first|refine gE ?_|with_reducible refine CY c ?_|refine CN rfl ?_ ?_)
 ·have n:i=x.length:=ω
  subst n;exact gm (by rw[yN])
 rw[gN _ a kd]
 repeat'(first|exact tV1|exact rfl|refine CK ?_ ?_)
def Dd(x:au)(k:Int)(a:au.sml x)(c:0<=k)(h1:k+(au.ct2 x:Nat)<=1099511627776):zzB 51 false [.mut (some 2) (au.enc .suf x),.vI k] [.mut (some 2) (au.enc .suf (x.mk2 k)),.val none []] .one [I (k+(au.ct2 x:Nat))]:=by
 have b:=a;unfold au.ct2 at h1;refine fM 10 [(160,[1,0])] [] [(2,0),(0,0)] Tryz.func51 rfl (λu p=>?_)
 repeat'(first|refine gP ?_|refine CO (BK x.K _ b ω ω) (.inl rfl) ?_|refine CN rfl ?_ ?_)
 ·exact gm (by unfold au.ct2;omega)
 repeat'(first|exact tV1|exact rfl|refine CK ?_ ?_)
def Hx(x:aR)(k:Int)(a:aR.sml x)(d:0<=k)(h1:k+(aR.ct2 x:Nat)<=1099511627776):zzB 11 false [.mut (some 26) (aR.enc .suf x),.vI k] [.mut (some 26) (aR.enc .suf (x.mk2 k)),.val none []] .one [I (k+(aR.ct2 x:Nat))]:=by
 obtain⟨b,c⟩:=a;unfold aR.ct2 at h1;refine fM 14 [(50,[1,0]),(51,[1,0])] [] [(2,0),(0,0)] Tryz.func11 rfl (λu p=>?_)
 repeat'(first|refine gP ?_|refine CO (LU x.Y _ b ω ω) (.inl rfl) ?_|refine CO (Dd x.c5 _ c ω ω) (.inl rfl) ?_|refine CN rfl ?_ ?_)
 ·exact gm (by unfold aR.ct2;omega)
 repeat'(first|exact tV1|exact rfl|refine CK ?_ ?_)
def Fs(x:bt)(k:Int)(a:bt.sml x)(c:0<=k)(h1:k+(bt.cnt x:Nat)<=1099511627776):zzB 22 false [.mut (some 5) (bt.enc .suf x),.vI k] [.mut (some 5) (bt.enc .suf (x.mark k)),.val none []] .one [I (k+(bt.cnt x:Nat))]:=by
 have b:=a;unfold bt.cnt at h1;refine fM 10 [(24,[1,0])] [] [(2,0),(0,0)] Tryz.func22 rfl (λu p=>?_)
 repeat'(first|refine gP ?_|refine CO (jU x.a _ b ω ω) (.inl rfl) ?_|refine CN rfl ?_ ?_)
 ·exact gm (by unfold bt.cnt;omega)
 repeat'(first|exact tV1|exact rfl|refine CK ?_ ?_)
def KV(x:List bF)(k:Int)(l:tV x)(o:0<=k)(h1:k+(jz x:Nat)<=1099511627776):zzB 23 false [.mut none (fE .suf x),.vI k] [.mut none (fE .suf (jf x k)),.val none []] .one [I (k+(jz x:Nat))]:=by
 have q:x.length<=1048576:=l.1;have a:((jf x k).map (bF.enc .suf)).length=(x.map (bF.enc .suf)).length:=by simp[vq]
 refine fM 48 [] [] [(0,0),(0,0)] Tryz.func23 rfl (λu p=>?_)
 refine σP ?_
 refine CV (ι:=Nat) (λi=>[(0,bC [.s (.tagS (u 0 0)) (kZ ((jf x k).map (bF.enc .suf)) (x.map (bF.enc .suf)) i)]),(1,fI (k+(fK x i:Nat))),(5,fN i)]) (λi=>i<=x.length) (λi=>x.length - i) 0 ?_ (I1 _) λi r=>?_
 ·rw[fR,uU]
  repeat'(first|exact tV1|rfl|exact CK rfl (CK (O1 I ω) tV1)|refine CK ?_ ?_)
 have c:=(i7 a i).trans (show(x.map (bF.enc .suf)).length=x.length by simp);by_cases g:i<x.length
 ·obtain⟨y,h⟩ : ∃y,x[i]? = some y:=⟨_,z4 g⟩
  have b:=gQ a i kd;rw[aa h]at b;have j:=vz x k i y h;have d:=vm x i y h;have e:=zb x (i+1);rw[d]at e;simp only[bF.cnt]at d e
  repeat'(first|refine gE ?_|with_reducible (first|refine CY c ?_|refine CH b ?_)|refine CR rfl rfl b rfl (O2 rfl) rfl ?_|refine CR rfl rfl (bc b) rfl (O2 rfl) rfl ?_|refine CR rfl rfl (bc (bc b)) rfl (O2 rfl) rfl ?_|refine CR rfl rfl (bc (bc (bc b))) rfl (O2 rfl) rfl ?_|refine CR rfl rfl (bc (bc (bc (bc b)))) rfl (O2 rfl) rfl ?_|refine CH (bc b) ?_|refine CH (bc (bc b)) ?_|refine CH (bc (bc (bc b))) ?_|refine CH (bc (bc (bc (bc b)))) ?_|refine CP (i+1) ω ω ?_)
  repeat'(first|exact tV1|rfl|exact CK rfl (CK (O1 (C.s _) (by first|exact cH a (aa j)|(simp only[List.set_set];exact cH a (aa j)))) tV1)|exact CK rfl (CK (O1 I (by first|omega|(simp only[bF.cnt]at d;omega))) tV1)|refine CK ?_ ?_)
 repeat'(first|refine gE ?_|with_reducible refine CY c ?_|refine CN rfl ?_ ?_)
 ·have n:i=x.length:=ω
  subst n;exact gm (by rw[xk])
 rw[gN _ a kd]
 repeat'(first|exact tV1|exact rfl|refine CK ?_ ?_)
def AN(x:List aK)(k:Int)(e:pe x)(n:0<=k)(h1:k+(Ao x:Nat)<=1099511627776):zzA 170 false [.val none (jQ .O (zZ x k)),.vI k] .one [I (k+(Ao x:Nat))]:=by
 have o:x.length<=1048576:=e.1;have g:=AU x k;refine fO 31 [] Tryz.func170 rfl ?_
 refine σP ?_
 refine CV (ι:=Nat) (λi=>[(0,bC (jQ .O (zZ x k))),(1,fI (k+(mn x i:Nat))),(5,fN i)]) (λi=>i<=x.length) (λi=>x.length - i) 0 ?_ (I1 _) λi p=>?_
 ·rw[vV]
  repeat'(first|exact tV1|rfl|exact CK rfl (CK (O1 I ω) tV1)|refine CK ?_ ?_)
 by_cases c:i<x.length
 ·obtain⟨y,d⟩ : ∃y,x[i]? = some y:=⟨_,z4 c⟩
  have j:=Dw x k i y d;have a:=vH x i y d;have b:=AY x (i+1);rw[a]at b
  repeat'(first|refine gB ?_|refine Bf.N (λh=>absurd rfl h) (λh=>?_)|refine CF (ma y.U _ (e.2 y (t4 d)) ω (by simp only[aK.ct2]at b;omega)) ?_|refine CP (i+1) ω ω ?_)
  repeat'(first|exact tV1|rfl|exact CK rfl (CK (O1 I (by first|omega|(simp only[aK.ct2]at a;omega))) tV1)|refine CK ?_ ?_)
 refine σB ?_
 have l:i=x.length:=ω
 subst l;exact gm (by rw[yN])
def Ey(x:au)(k:Int)(a:au.sml x)(c:0<=k)(h1:k+(au.ct2 x:Nat)<=1099511627776):zzA 53 false [.val (some 2) (au.enc .O (x.mk2 k)),.vI k] .one [I (k+(au.ct2 x:Nat))]:=by
 have b:=a;unfold au.ct2 at h1;refine fO 12 [] Tryz.func53 rfl ?_
 repeat'(first|refine gB ?_|refine CF (AN x.K _ b ω ω) ?_)
 exact gm (by unfold au.ct2;omega)
def HS(x:aR)(k:Int)(a:aR.sml x)(d:0<=k)(h1:k+(aR.ct2 x:Nat)<=1099511627776):zzA 12 false [.val (some 26) (aR.enc .O (x.mk2 k)),.vI k] .one [I (k+(aR.ct2 x:Nat))]:=by
 obtain⟨b,c⟩:=a;unfold aR.ct2 at h1;refine fO 18 [] Tryz.func12 rfl ?_
 repeat'(first|refine gB ?_|refine CF (Mt x.Y _ b ω ω) ?_|refine CF (Ey x.c5 _ c ω ω) ?_)
 exact gm (by unfold aR.ct2;omega)
set_option maxHeartbeats 2000000
def KU(x:bt)(a:bt.sml x):zzA 16 false [.val (some 5) (bt.enc .O x)] .agg (bt.enc .own x):=by
 have b:=a;refine fO 21 [] Tryz.func16 rfl ?_ (.inr (bt.enc_fr x))
 repeat'(first|refine gP ?_|refine CF (Rr x.a b) ?_)
 rfl
def T9(x:bF)(a:bF.sml x):zzA 8 false [.val (some 5) (bF.enc .O x)] .agg (bF.enc .own x):=by
 refine fO 20 [] Tryz.func8 rfl ?_ (.inr (bF.enc_fr x))
 refine σP ?_
 rfl
def Td(x:List bF)(e:tV x):zzA 17 false [.val none (fE .O x)] .one (fE .own x):=by
 refine fO 23 [] Tryz.func17 rfl ?_ (.inr (Rz x));have g:x.length<=1048576:=e.1;have a:(x.map (bF.enc .own)).length=(List.replicate x.length ([I 0,I 0,I 0,I 0,I 0]:List C)).length:=by simp
 repeat'(first|refine gP ?_|refine Mk.mk _ rfl rfl ω (zc g qs) rfl ?_)
 refine CV (ι:=Nat) (λi=>[(0,bC (fE .O x)),(3,bC [.s .own (kZ (x.map (bF.enc .own)) (List.replicate x.length [I 0,I 0,I 0,I 0,I 0]) i)]),(4,fN i)]) (λi=>i<=x.length) (λi=>x.length - i) 0 ?_ (I1 _) λi h=>?_
 ·rw[fR]
  exact wA
 by_cases b:i<x.length
 ·obtain⟨y,d⟩ : ∃y,x[i]? = some y:=⟨_,z4 b⟩
  have c:=gQ a i kd;rw[Qs b]at c
  repeat'(first|refine gE ?_|with_reducible refine CH c ?_|refine CF (T9 y tV1) ?_|refine CR rfl rfl c rfl (z5 _) rfl ?_|refine CP (i+1) ω ω ?_)
  repeat'(first|exact tV1|rfl|exact CK rfl (CK (O1 (C.s eL.own) (cH a (aa d))) tV1)|refine CK ?_ ?_)
 refine σE ?_
 rw[gN _ a kd]
 rfl
def tq(x:bt)(left:Int)(b:0<=left)(h1:left<=1048576)(a:bt.wf x):zzA 13 false [.val (some 5) (bt.enc .O x),.vI left] .one [I (Xj (bt.sz x) left)]:=by
 obtain⟨wPages,wFrames,wThreads,wLimit,wRefuse⟩:=a;refine fO 12 [] Tryz.func13 rfl ?_
 repeat'(first|refine gE ?_|refine gS (λh=>?_) (λh=>?_)|refine Cl.sz (RN x.a _ ω ω wRefuse) (λh=>?_) (λh=>?_))
 all_goals exact gm (by unfold Xj bt.sz;split<;>omega)
def Hb(x:List bF)(left:Int)(b:0<=left)(h1:left<=1048576)(a:HV x):zzA 14 false [.val none (fE .O x),.vI left] .one [I (Xj (uj x) left)]:=by
 refine fO 12 [] Tryz.func14 rfl ?_;have c:=a.1
 repeat'(first|refine gE ?_|refine gS (λh=>?_) (λh=>?_)|fail)
 all_goals exact gm (by unfold Xj uj;split<;>omega)
theorem Ls(a b:bt)(c:bt.sml a):zzA 20 false [.val (some 5) (bt.enc .O a),.val (some 5) (bt.enc .O b)] .one [B (decide (a=b))]:=by
 have d:=c;refine fO 31 [] Tryz.func20 rfl ?_
 repeat'(first|refine gP ?_|refine gS (λh=>?_) (λh=>?_)|refine CF (n9 a.a b.a d) ?_)
 all_goals first|(show [B false]=[B (decide (a=b))];refine bx (C1 λe=>?_).symm;subst e;contradiction)|(show [B true]=[B (decide (a=b))];refine bx (O0 ?_).symm;cases a;cases b;simp_all)
theorem Ub(a b:bF)(c:bF.sml a):zzA 58 false [.val (some 5) (bF.enc .O a),.val (some 5) (bF.enc .O b)] .one [B (decide (a=b))]:=by
 refine fO 30 [] Tryz.func58 rfl ?_
 repeat'(first|refine gP ?_|refine gS (λh=>?_) (λh=>?_)|fail)
 all_goals first|(show [B false]=[B (decide (a=b))];refine bx (C1 λe=>?_).symm;subst e;contradiction)|(show [B true]=[B (decide (a=b))];refine bx (O0 ?_).symm;cases a;cases b;simp_all)
theorem RO(a b:List bF)(p:tV a):zzA 21 false [.val none (fE .O a),.val none (fE .O b)] .one [B (decide (a=b))]:=by
 refine fO 27 [(6,10,[17,18,19,20,21,22,23,24,25,26])] Tryz.func21 rfl ?_;have r:a.length<=1048576:=p.1
 repeat'(first|refine gP ?_|refine gS (λh=>?_) (λh=>?_)|fail)
 ·refine bx (C1 λe=>?_).symm
  subst e;omega
 have k:a.length=b.length:=ω
 (conv=>whnf)
 refine gn a.length (λi=>[(0,bC (fE .O a)),(1,bC (fE .O b)),(5,fN i)]) (λi=>∀j,j<i->a[j]? = b[j]?) (λj q=>ω) λi l=>?_
 obtain⟨l,c⟩:=l;by_cases g:i<a.length
 ·obtain⟨x,n⟩ : ∃x,a[i]? = some x:=⟨_,z4 g⟩
  obtain⟨y,o⟩ : ∃y,b[i]? = some y:=⟨_,z4 ω⟩
  repeat'(first|refine gE ?_|refine gS (λh=>?_) (λh=>?_)|refine CF (Ub x y tV1) ?_)
  all_goals first
   |(show [B false]=[B (decide (a=b))]
     refine bx (C1 λe=>?_).symm;subst e
     simp_all)
   | ((conv=>whnf)
      refine CP (i+1) ⟨ω,λj q=>?_⟩ ω ?_
      · rcases Nat.lt_or_ge j i with d|d
        · exact c j d
        obtain rfl:j=i:=ω
        rw[n,o]
        simp_all
      exact wA)
 refine σE ?_
 refine bx (O0 ?_).symm;refine List.ext_getElem? λj=>?_
 rcases Nat.lt_or_ge j i with d|d
 ·exact c j d
 rw[I4 ω,I4 ω]
def bF.enc_fzS(x:bF):cP (bF.enc .suf x)=bF.enc .O x:=by simp[cP,bF.enc]
def rG(x:List bF):cP (fE .suf x)=fE .O x:=by simp[cP,fE,bF.enc_fzS,<-bX,IB]
def bt.enc_fzS(x:bt):cP (bt.enc .suf x)=bt.enc .O x:=by simp[cP,bt.enc,rI,<-bX,IB]
def Pw(x:bt)(a:bt.sml x):zzA 16 false [.val (some 5) (bt.enc .O x)] .agg (bt.enc .suf x):=
 (KU x a).sf (.cons (.rfl_ _) (.cons (.rfl_ _) (.cons (.rfl_ _) (.cons (.rfl_ _) (.cons (AX _) .nil)))))
def Ui(x:List bF)(a:tV x):zzA 17 false [.val none (fE .O x)] .one (fE .suf x):=
 (Td x a).sf (.cons (fW (λ_=>rfl) _) .nil)
def Xi:∀(x:List (List aX)),(∀y∈x,y.length<=30)->eP x<=240*x.length
 | [],_=>I1 _
 | x::xs,h=>by
  have c:=Xi xs λy a=>h y (CA _ a)
  have d:=h x (O3 ..);have b:=xP x;simp only[eP,tW,List.length_cons]at b |-;omega
def Xv:∀(x:List aK),(∀y∈x,y.U.length<=1000)->Ao x<=1001*x.length
 | [],_=>I1 _
 | x::xs,h=>by
  have b:=Xv xs λy a=>h y (CA _ a)
  have c:=h x (O3 ..);simp only[Ao,aK.ct2,ek,List.length_cons];omega
def qm.cnt{w:aR}{m:Nat}(h:qm w m)(e:m<=1000)(f:im w.Y.G.a):aR.sml w/\aR.ct2 w<=30000000:=by
 obtain⟨c,g⟩:=h.fit f;have a:=jp.of h.inv.mail;have j:=a.b4;have k:=a.i4;have l:=Xi w.Y.e.T λy b=>by obtain⟨i,d,rfl⟩:=bw b;exact a.bl i d
 have n:=VZ (m:=30) w.Y.e.g λy b=>by obtain⟨i,d,rfl⟩:=bw b;exact a.il i ω
 have o:=(show FT w.Y.e w.Y from⟨c,g,h.inv.lens,rfl⟩).cnt (by unfold aI.cnt;omega);have p:=Xv w.c5.K h.ref.cel;have q:=h.ref.len;refine⟨⟨c,h.ref.sml e⟩,?_⟩;unfold aR.ct2 au.ct2;omega
def WU(c:bt)(acts:List bF)(d:im c.a):(aR.sml (DN c acts).1/\aR.ct2 (DN c acts).1<=30000000)/\(DN c acts).2.length<=80:=by
 unfold DN;split
 ·rename_i h
  obtain⟨a,f⟩:=NL h.1;have b:=HH a acts acts.length;unfold rfs at b;exact⟨(Dp a acts acts.length).cnt ω (by rw[b];exact d),by rw[HJ];exact h.2⟩
 refine⟨⟨?_,by decide⟩,by decide⟩
 repeat' first|exact tV1|(show(0:Nat)<=_;exact I1 _)|exact(λy e=>absurd e (by simp[world9]))|refine CK ?_ ?_
def RunActs_law(c:bt)(acts:List bF)(e:bt.wf c)(i:HV acts):zzA 4 false [.val (some 5) (bt.enc .O c),.val none (fE .O acts)] .one [B true]:=by
 have n:0<=bt.sz c:=I1 _;by_cases t:(bt.sz c:Int)<=1048576
 ·have g:=bt.sml_of (x:=c) ω
  by_cases u:(uj acts:Int)<=1048576 - bt.sz c
  ·have b:=Ku (x:=acts) ω
   have o:=bt.cnt_le c;have p:=zi acts;have j:=Vb c acts e.2.2.2.2 g b.1;have k:=V1 c acts e.2.2.2.2 g b.1;obtain⟨⟨ds,r⟩,l⟩:=WU c acts e.2.2.2.2;generalize DN c acts=d at *;obtain⟨d,q⟩:=d;simp only at j k ds r l;have h:jE q:=show q.length<=1048576 by omega
   have qc:ek q<=80:=l;refine fP 135 [(22,[1,0]),(23,[1,0]),(11,[1,0]),(24,[1,0])] [(14,5,[55,56,57,58,59])] Tryz.func4 rfl ?_
   repeat'(first|refine gE ?_|with_reducible (first|refine Bf.D (λa=>?_) (λa=>absurd rfl a)|refine Bf.N (λa=>absurd rfl a) (λa=>?_))|refine Cl.sz (tq c 1048576 ω ω e) (λa=>absurd a ω) (λa=>?_)|refine Cl.sz (Hb acts (1048576 - bt.sz c) ω ω i) (λa=>absurd a ω) (λa=>?_)|refine CF (Pw c g) ?_|refine CF (Ui acts b) ?_|refine CM (j) ⟨⟨rfl,bt.enc_fzS c⟩,⟨rfl,rG acts⟩,tV1⟩ ?_|refine CM (k) ⟨⟨rfl,bt.enc_fzS c⟩,⟨rfl,rG acts⟩,tV1⟩ ?_|refine CM (Px d d ds) ⟨⟨rfl,aR.enc_fzS d⟩,⟨rfl,aR.enc_fzS d⟩,tV1⟩ ?_|refine CM (n9 q q h) ⟨⟨rfl,nA q⟩,⟨rfl,nA q⟩,tV1⟩ ?_|refine CM (Ls c c g) ⟨⟨rfl,bt.enc_fzS c⟩,⟨rfl,bt.enc_fzS c⟩,tV1⟩ ?_|refine CM (RO acts acts b) ⟨⟨rfl,rG acts⟩,⟨rfl,rG acts⟩,tV1⟩ ?_|refine CO (Fs c 1 g ω ω) (.inl rfl) ?_|refine CO (KV acts (1+(bt.cnt c:Nat)) b ω ω) (.inl rfl) ?_|refine CO (Hx d 1 ds ω ω) (.inl rfl) ?_|refine CO (jU q (1+(aR.ct2 d:Nat)) h ω ω) (.inl rfl) ?_|refine CM (HS d 1 ds ω ω) ⟨⟨rfl,aR.enc_fzS (d.mk2 1)⟩,⟨rfl,rfl⟩,tV1⟩ ?_|refine CM (ma q (1+(aR.ct2 d:Nat)) h ω ω) ⟨⟨rfl,nA (markIntS q (1+(aR.ct2 d:Nat)))⟩,⟨rfl,rfl⟩,tV1⟩ ?_)
   all_goals rfl
  refine fO 135 [(14,5,[55,56,57,58,59])] Tryz.func4 rfl ?_
  repeat'(first|refine gE ?_|refine gS (λa=>?_) (λa=>?_)|refine Cl.sz (tq c 1048576 ω ω e) (λa=>absurd a ω) (λa=>?_)|refine Cl.sz (Hb acts (1048576 - bt.sz c) ω ω i) (λa=>?_) (λa=>absurd a ω))
  rfl
 refine fO 135 [(14,5,[55,56,57,58,59])] Tryz.func4 rfl ?_
 repeat'(first|refine gE ?_|refine Cl.sz (tq c 1048576 ω ω e) (λa=>?_) (λa=>absurd a ω))
 rfl
open Go.RowKit Go.ChangeShapes Go.WideShapes Go.Deep
def ALL(w:World):am:=λb _=>b<w.heap.size
def Xe{H:Type}(e:TypeId × Value->H)(P:Program)(w:World)(t n:Nat){α:Type}(enc:α->List C)(c:α->Prop):Prop:=
 ∀(fuel:Nat)(b:List Value)(x:DataW H × List MemPlace),DataW.trod e P w 0 (λ_=>true) true fuel t b=some x->b.length=n/\∃a,c a/\(enc a).length=n/\cz w (ALL w) NO (enc a) (λj=>b.getD j undef)
section
variable{H:Type}{e:TypeId × Value->H}{P:Program}{w:World}
variable{u:Nat->Value}
def J4{S F:am}{c:C}(h:di w S F c (u 0)):cz w S F [c] u:=
 ⟨λ_=>F,λj e a=>by cases j with
   | zero=>simp at a;subst a;exact h
   | succ j=>simp at a,λ_ _ _ _ h=>h,λj f a b d=>by simp at a b;omega⟩
variable{t:Nat}
def X9(b:P.underlying t=some (.int .i64)):Xe e P w t 1 (rI .O) mY:=by
 intro fuel c x h;obtain⟨n,rfl,-,a⟩:=DataW.trod_int b h;refine⟨rfl,n,?_,rfl,J4 (.v _ _ rfl)⟩;unfold mY;simp only[Lit.wf,I0,C0]at a;exact a
variable{α:Type}
def pick{β:Type}(n:Nat){Q:Nat->β->Prop}(h:∀i,i<n->∃b,Q i b):∃l:List β,l.length=n/\∀i b,l[i]? = some b->Q i b:=by
 induction n with
 | zero=>exact⟨[],rfl,λi b h=>by simp at h⟩
 | succ n c=>
  obtain⟨l,d,e⟩:=c λi a=>h i ω
  obtain⟨b,f⟩:=h n ω;refine⟨l++[b],by simp[d],λi g a=>?_⟩;by_cases j:i<n
  ·rw[a9 ω]at a;exact e i g a
  rw[t9 ω]at a;have:i - l.length=0:=by
   have:=(C4.1 a).1;simp at this;omega
  rw[this]at a;simp at a;subst a;rw[show i=n by omega];exact f
variable{n:Nat}
theorem Kw{T:Nat}{enc:α->List C}{U:α->Prop}(V:Xe e P w T n enc U)(ht:P.underlying t=some (.slice T))(hn:P.cellsOf T=n)(p:0<n) :
  Xe e P w t 1 (λxs:List α=>[.s .O (xs.map enc)]) (λxs=>xs.length<=9223372036854775807/\∀y∈xs,U y):=by
 intro fuel cs x h;rcases open_slice ht h with⟨rfl,-⟩|⟨k,len,cap,m,n',D,Pl,rfl,-,hl,hm,K,-,u⟩
 ·exact⟨rfl,[],⟨by simp,by simp⟩,rfl,J4 (.nil _ _ _ tV1)⟩
 simp only[if_true]at K;subst K;have L:0<m->k.spot=none:=λW=>by
  obtain⟨E,M,N⟩:=u 0 W;rw[hn]at M;obtain⟨_,X,F⟩:=World.cells?_some M;have:=F 0 p;rw[z4 ω]at this;have:=World.cell?_spot this;simpa[Addr.add] using this
 have key:∀i,i<len->∃a,U a/\(enc a).length=n/\(∀d,d<n->∃z,cel w k.block (k.off+(i*n+d))=some z)/\k.spot=none/\cz w (ALL w) NO (enc a) (λd=>(cel w k.block (k.off+(i*n+d))).getD undef):=λi hil=>by
  have g:=L ω;obtain⟨E,M,N⟩:=u i ω;rw[hn]at M;obtain⟨h1,a,h3,h4,h5⟩:=V _ _ _ N;obtain⟨_,X,F⟩:=World.cells?_some M;have O:∀d,k.add d = ⟨k.block,k.off+d,none⟩:=λd=>by
   obtain⟨b,o,sp⟩:=k;simp only at g;subst g;unfold Addr.add;split<;>simp_all
  have A:∀d,d<n->cel w k.block (k.off+(i*n+d))=E[d]?:=λd J=>by
   have:=F d J;rw[Go.Deep.add_add,O]at this;exact this
  refine⟨a,h3,h4,λd J=>⟨_,by rw[A d J,z4 ω]⟩,g,h5.congr λd J=>?_⟩;show(cel w k.block (k.off+(i*n+d))).getD undef=E.getD d undef;rw[A d ω,List.getD]
 obtain⟨l,Q,B⟩:=pick len key;refine⟨rfl,l,⟨by simp only[maxLen]at hm;omega,λy R=>?_⟩,rfl,J4 ?_⟩
 ·obtain⟨i,G⟩:=List.mem_iff_getElem?.1 R
  exact(B i y G).1
 show di w (ALL w) NO (.s .O (l.map enc)) (.slice (some k) len m);by_cases h0:len=0
 ·subst h0
  have:l=[]:=SE Q;subst this;by_cases Y:m=0
  ·subst Y;exact .nil _ _ _ tV1
  have g:=L ω;obtain⟨b,o,sp⟩:=k;simp only at g;subst g;exact .O _ b o n 0 m [] (λ_=>undef) rfl (λr Z=>by simp at Z) hl (λq hq=>by simp at hq) (λi j r c u=>by simp at u)
 obtain⟨y0,hy0⟩ : ∃y,l[0]? = some y:=⟨_,z4 ω⟩
 have g:=(B 0 y0 hy0).2.2.2.1;obtain⟨b,o,sp⟩:=k;simp only at g;subst g;refine .O _ b o n len m (l.map enc) (λq=>(cel w b (o+q)).getD undef) (by simpa using Q) (λr Z=>?_) hl (λq hq=>?_) (λi j r c u hj=>?_)
 ·obtain⟨y,R,rfl⟩:=O8.1 Z
  obtain⟨i,G⟩:=List.mem_iff_getElem?.1 R;exact(B i y G).2.1
 ·have hqd:q / n<len:=(Nat.div_lt_iff_lt_mul p).2 hq
  obtain⟨y,R⟩ : ∃y,l[q / n]? = some y:=⟨_,z4 ω⟩
  obtain⟨z,S⟩:=(B _ y R).2.2.1 (q % n) (Nat.mod_lt _ p);have J:q / n*n+q % n=q:=by rw[Nat.mul_comm];exact Nat.div_add_mod q n
  rw[J]at S;exact⟨Yj S,by simp only at S |-;rw[S];rfl⟩
 rw[C5]at u;cases H:l[i]? with
 | none=>rw[H]at u;cases u
 | some y=>
  rw[H]at u;simp only[S9,C2]at u;subst u;obtain⟨f,h1,h2,-⟩:=(B i y H).2.2.2.2;have hjl:=(C4.1 hj).1;exact(h1 j c hj).mono (λ_ _ h=>h) (h2 j hjl)
variable{cs:List Value}
def lE{fs:Array Field}{fuel:Nat}{x:DataW H × List MemPlace}(l:P.underlying t=some (.struct fs))(h:DataW.trod e P w 0 (λ_=>true) true fuel t cs=some x)(i:Nat)(f:Field)(d:fs[i]? = some f){enc:α->List C}{g:α->Prop}(o:Xe e P w f.type n enc g)(p:P.cellsOf f.type=n):∃a,g a/\(enc a).length=n/\cz w (ALL w) NO (enc a) (λj=>cs.getD (f.offset+j) undef):=by
 obtain⟨B,D,q,E,k,r,b⟩:=DataW.trod_struct l h;have c:=b i f d;have F:=(C6.1 d).1;rw[z4 ω]at c;rw[p]at c;obtain⟨G,a,u,y,A⟩:=o _ _ _ c;refine⟨a,u,y,A.congr λj J=>?_⟩;simp only[List.getD];rw[List.getElem?_take_of_lt ω,List.getElem?_drop]
def tK{a b:List C}{o:Nat}(h1:cz w (ALL w) NO a (λj=>cs.getD (o+j) undef))(h2:cz w (ALL w) NO b (λj=>cs.getD (o+a.length+j) undef)):cz w (ALL w) NO (a++b) (λj=>cs.getD (o+j) undef):=by
 refine((E3 h1 h2 λ_ _ h=>h.elim).mono (λ_ _ h=>h) (λ_ _ h=>h.elim id id)).congr λj d=>?_
 by_cases c:j<a.length
 ·rw[CJ c]
 rw[CI c];show cs.getD (o+j) undef=cs.getD (o+a.length+(j - a.length)) undef
 congr 1;omega
def valOk_agg{S:am}{cs:Array Value}{xs:List C}(h1:cs.toList.length=n)(h2:xs.length=n)(a:cz w S NO xs (λj=>cs.toList.getD j undef)):bA w S NO (some n) xs (.agg cs):=by
 refine⟨h2,_,?_,a⟩;have:=re cs;rw[show cs.size=n by simpa using h1]at this;exact this
def row_val{S F:am}{x:Value}(h:cz w S F [.v x] u):u 0=x:=by
 obtain⟨f,a,-⟩:=h;have:=a 0 _ rfl;cases this
 rfl
end
set_option maxHeartbeats 1000000
section
variable{H:Type}{e:TypeId × Value->H}{w:World}
def po:Xe e Tryz.prog w 3 1 (rI .O) mY:=X9 Tryz.underlying3
def Wx:Xe e Tryz.prog w 31 1 (aE .O) im:=Kw po Tryz.underlying31 (by kernel_rfl) qs
def op_DConf:Xe e Tryz.prog w 97 5 (bt.enc .O) bt.wf:=by
 intro fuel c x h;obtain⟨B,C,-,-,a,-⟩:=DataW.trod_struct Tryz.underlying97 h;obtain⟨d,w0,D,f⟩:=lE Tryz.underlying97 h 0 _ rfl po (by kernel_rfl);obtain⟨g,w1,E,i⟩:=lE Tryz.underlying97 h 1 _ rfl po (by kernel_rfl);obtain⟨k,l,F,n⟩:=lE Tryz.underlying97 h 2 _ rfl po (by kernel_rfl);obtain⟨o,p,G,q⟩:=lE Tryz.underlying97 h 3 _ rfl po (by kernel_rfl);obtain⟨r,u,H,y⟩:=lE Tryz.underlying97 h 4 _ rfl Wx (by kernel_rfl);have b:=(tK f (tK i (tK n (tK q y))))
 exact⟨a.trans (by kernel_rfl),⟨d,g,k,o,r⟩,⟨w0,w1,l,p,u⟩,rfl,b.congr λj _=>by show c.getD j undef=c.getD (0+j) undef;rw[SD]⟩
def W2:Xe e Tryz.prog w 57 5 (bF.enc .O) bF.wf:=by
 intro fuel c x h;obtain⟨B,C,-,-,a,-⟩:=DataW.trod_struct Tryz.underlying57 h;obtain⟨d,w0,D,f⟩:=lE Tryz.underlying57 h 0 _ rfl po (by kernel_rfl);obtain⟨g,w1,E,i⟩:=lE Tryz.underlying57 h 1 _ rfl po (by kernel_rfl);obtain⟨k,l,F,n⟩:=lE Tryz.underlying57 h 2 _ rfl po (by kernel_rfl);obtain⟨o,p,G,q⟩:=lE Tryz.underlying57 h 3 _ rfl po (by kernel_rfl);obtain⟨r,u,H,y⟩:=lE Tryz.underlying57 h 4 _ rfl po (by kernel_rfl);have b:=(tK f (tK i (tK n (tK q y))))
 exact⟨a.trans (by kernel_rfl),⟨d,g,k,o,r⟩,⟨w0,w1,l,p,u⟩,rfl,b.congr λj _=>by show c.getD j undef=c.getD (0+j) undef;rw[SD]⟩
def op_DActS:Xe e Tryz.prog w 98 1 (fE .O) HV:=Kw W2 Tryz.underlying98 (by kernel_rfl) qs
end
end Go.Proofs.YtjooeakgbamfnaaGreat.Ab
