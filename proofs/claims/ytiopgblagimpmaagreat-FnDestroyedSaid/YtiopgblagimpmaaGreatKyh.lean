/- What is drawn out of bytes: the data. No condition. -/
import Derived.Test.YtiopgblagimpmaaGreatKyc
import Derived.Test.YtiopgblagimpmaaGreatKyg
import Derived.Test.YtiopgblagimpmaaGreatKyf
import Derived.Test.YtiopgblagimpmaaGreatKye
import Derived.Lib.Overlaps
import Derived.Lib.AppendZerosOnto
import Derived.Laws.NewBlocks
import Derived.Laws.Externs
set_option linter.unusedVariables false
set_option linter.defProp false
set_option linter.unusedSimpArgs false
set_option linter.constructorNameAsVariable false
namespace Go.Proofs.YtiopgblagimpmaaGreat.Ab
structure iQ where
 i:Nat
 h:Int
deriving Inhabited
def w64(x:Int):Int:=IntKind.i64.wrap x
def Ub(h:Int):Int:=w64 (w64 (h*6364136223846793005)+1442695040888963407)
def Tw(a b:Int):Int:=w64 ((BitVec.ofInt IntKind.i64.bits a ^^^ BitVec.ofInt IntKind.i64.bits b).toNat:Nat)
def and255(a:Int):Int:=w64 ((BitVec.ofInt IntKind.i64.bits a &&& BitVec.ofInt IntKind.i64.bits 255).toNat:Nat)
def Q7(h:Int)(n:Nat):Int:=h.fdiv (2 ^ (min n IntKind.i64.bits))
def BD(h:Int):Int:=and255 (Tw (Q7 h 33) (Q7 h 45))
def Bw(a:Int):0<=and255 a/\and255 a<=255:=by
 have b:(BitVec.ofInt IntKind.i64.bits a &&& BitVec.ofInt IntKind.i64.bits 255).toNat<=255:=by
  rw[BitVec.toNat_and];exact I5 Nat.and_le_right (by decide)
 unfold and255 w64;rw[gc ω ω];omega
def dD(zs:List Int)(c:iQ):Int × iQ:=if c.i<zs.length then(and255 (BD (Ub c.h)+nth zs c.i),⟨c.i+1,Ub c.h⟩) else(BD (Ub c.h),⟨c.i,Ub c.h⟩)
def tW(zs:List Int)(c:iQ):0<=(dD zs c).1/\(dD zs c).1<=255:=by
 unfold dD;split<;>exact Bw _
variable{c:iQ}{zs:List Int}
def jh(h:c.i<=zs.length):(dD zs c).2.i<=zs.length:=by
 unfold dD;split
 ·simp only;omega
 exact h
def AP(zs:List Int)(c:iQ):Int × iQ:=
 ((dD zs c).1*16777216+(dD zs (dD zs c).2).1*65536+(dD zs (dD zs (dD zs c).2).2).1*256+(dD zs (dD zs (dD zs (dD zs c).2).2).2).1,(dD zs (dD zs (dD zs (dD zs c).2).2).2).2)
def bB(zs:List Int)(c:iQ)(n:Int):Int × iQ:=if n<=256 then((dD zs c).1 % n,(dD zs c).2) else((AP zs c).1 % n,(AP zs c).2)
def bM(zs:List Int)(c:iQ){n:Int}(h:1<=n):0<=(bB zs c n).1/\(bB zs c n).1<n:=by
 unfold bB;split<;>exact⟨Int.emod_nonneg _ ω,Int.emod_lt_of_pos _ ω⟩
def bZ(h:c.i<=zs.length)(n:Int):(bB zs c n).2.i<=zs.length:=by
 unfold bB;split
 ·exact jh h
 exact jh (jh (jh (jh h)))
def lX(zs:List Int)(c:iQ)(l:List Int):Int × iQ:=(nth l (bB zs c (l.length:Nat)).1.toNat,(bB zs c (l.length:Nat)).2)
def qu(zs:List Int)(c:iQ){l:List Int}(h:1<=l.length):(lX zs c l).1∈l:=by
 have:=bM zs c (n:=(l.length:Nat)) ω;exact ar ω
def pG(zs:List Int):Nat->Nat->List Int->iQ->List Int × iQ
 | 0,_,out,c=>(out,(bB zs c 4).2)
 | f+1,i,out,c=>if(i:Int)<(bB zs c 4).1 then pG zs f (i+1) (out++[(bB zs (bB zs c 4).2 12).1]) (bB zs (bB zs c 4).2 12).2 else(out,(bB zs c 4).2)
def Rz(zs:List Int)(c:iQ):List Int × iQ:=pG zs 4 0 [] c
def Kz(zs:List Int):∀(f i:Nat)(out:List Int)(c:iQ),(∀x∈out,0<=x)->out.length+f<=4->c.i<=zs.length->(∀x∈(pG zs f i out c).1,0<=x)/\(pG zs f i out c).1.length<=4/\(pG zs f i out c).2.i<=zs.length
 | 0,_,out,c,b,e,d=>⟨b,by show out.length<=4;omega,bZ d _⟩
 | f+1,i,out,c,b,e,d=>by
  unfold pG;split
  ·refine Kz zs f (i+1) _ _ (λx a=>?_) (by simp only[Y3,List.length_singleton];omega) (bZ (bZ d _) _)
   rcases V3.1 a with a|a
   ·exact b x a
   rw[V1.1 a];exact(bM zs _ (by decide)).1
  exact⟨b,by show out.length<=4;omega,bZ d _⟩
def Ad(zs:List Int)(c:iQ):Int × iQ:=bB zs c 7
def EN(zs:List Int)(c:iQ):Int × iQ:=bB zs (Ad zs c).2 3
def G2(zs:List Int)(c:iQ):Int × iQ:=bB zs (EN zs c).2 100
def Ec(zs:List Int)(c:iQ):Int × iQ:=bB zs (G2 zs c).2 4
def RX(zs:List Int)(c:iQ):List Int × iQ:=Rz zs (Ec zs c).2
def pF(zs:List Int)(c:iQ):cH:=⟨(6+(Ad zs c).1).toNat,(6+(Ad zs c).1 - (Ec zs c).1).toNat,(1+(EN zs c).1).toNat,40+(G2 zs c).1,(RX zs c).1⟩
def pq(h:c.i<=zs.length):GT (pF zs c)/\(RX zs c).2.i<=zs.length:=by
 have a:=bM zs c (n:=7) (by decide);have b:=bM zs (Ad zs c).2 (n:=3) (by decide);have d:=bM zs (EN zs c).2 (n:=100) (by decide);have e:=bM zs (G2 zs c).2 (n:=4) (by decide);change 0<=(Ad zs c).1/\(Ad zs c).1<7 at a;change 0<=(EN zs c).1/\(EN zs c).1<3 at b;change 0<=(G2 zs c).1/\(G2 zs c).1<100 at d;change 0<=(Ec zs c).1/\(Ec zs c).1<4 at e;obtain⟨f,k,g⟩:=Kz zs 4 0 [] (Ec zs c).2 (λx j=>by cases j) (by simp) (bZ (bZ (bZ (bZ h _) _) _) _);refine⟨⟨?_,?_,?_,?_,?_⟩,g⟩
 ·show 1<=(6+(Ad zs c).1).toNat/\(6+(Ad zs c).1).toNat<=32;omega
 ·show 1<=(6+(Ad zs c).1 - (Ec zs c).1).toNat/\(6+(Ad zs c).1 - (Ec zs c).1).toNat<=32;omega
 ·show 1<=(1+(EN zs c).1).toNat/\(1+(EN zs c).1).toNat<=4;omega
 ·show 0<=40+(G2 zs c).1/\40+(G2 zs c).1<=1000;omega
 exact⟨by show(pG zs 4 0 [] (Ec zs c).2).1.length<=40;omega,f⟩
def BK(zs:List Int)(c:iQ):Int × iQ:=bB zs c 3
def Hp(zs:List Int)(c:iQ)(ids:Int):Int × iQ:=bB zs (BK zs c).2 ids
def lE(zs:List Int)(c:iQ)(ids:Int):Int × iQ:=bB zs (Hp zs c ids).2 20
def szs:List Int:=[1,1,2,2,3,4,4,5,8,9,20]
def tt(zs:List Int)(c:iQ)(ids:Int):eI × iQ:=
 if(lE zs c ids).1<=6 then(⟨1,(BK zs c).1,(lX zs (lE zs c ids).2 szs).1,0,0⟩,(lX zs (lE zs c ids).2 szs).2)
 else if(lE zs c ids).1<=9 then(⟨2,(BK zs c).1,1+(Hp zs c ids).1,0,0⟩,(lE zs c ids).2)
 else if(lE zs c ids).1<=12 then(⟨3,(BK zs c).1,1+(Hp zs c ids).1,(bB zs (lE zs c ids).2 4).1,1+(bB zs (bB zs (lE zs c ids).2 4).2 999).1⟩,(bB zs (bB zs (lE zs c ids).2 4).2 999).2)
 else if(lE zs c ids).1=13 then(⟨4,(BK zs c).1,1+(Hp zs c ids).1,0,9+(bB zs (lE zs c ids).2 10).1⟩,(bB zs (lE zs c ids).2 10).2)
 else if(lE zs c ids).1=14 then(⟨(lX zs (lE zs c ids).2 [5,6]).1,(BK zs c).1,1+(Hp zs c ids).1,0,0⟩,(lX zs (lE zs c ids).2 [5,6]).2)
 else if(lE zs c ids).1=15 then(⟨7,(BK zs c).1,1+(Hp zs c ids).1,0,0⟩,(lE zs c ids).2)
 else if(lE zs c ids).1=16 then(⟨8,(BK zs c).1,(lX zs (lE zs c ids).2 [1,30,60,120]).1,0,0⟩,(lX zs (lE zs c ids).2 [1,30,60,120]).2)
 else if(lE zs c ids).1=17 then(⟨9,(BK zs c).1,1+(Hp zs c ids).1,0,0⟩,(lE zs c ids).2)
 else(⟨10,(BK zs c).1,(lX zs (lE zs c ids).2 [1,2,3,10,30]).1,0,0⟩,(lX zs (lE zs c ids).2 [1,2,3,10,30]).2)
structure PR(a:eI):Prop where
 k:1<=a.b6/\a.b6<=10
 t:0<=a.a5/\a.a5<=1000000
 n:0<=a.N/\a.N<=1000000
 p:0<=a.At/\a.At<=1000000
 v:0<=a.Value/\a.Value<=1000000
def N7{ids:Int}(h:c.i<=zs.length)(b:1<=ids/\ids<=1000):PR (tt zs c ids).1/\(tt zs c ids).2.i<=zs.length:=by
 have d:=bM zs c (n:=3) (by decide);have e:=bM zs (BK zs c).2 (n:=ids) b.1;change 0<=(BK zs c).1/\(BK zs c).1<3 at d;change 0<=(Hp zs c ids).1/\(Hp zs c ids).1<ids at e;have a:(lE zs c ids).2.i<=zs.length:=bZ (bZ (bZ h _) _) _;have f:=qu zs (lE zs c ids).2 (l:=szs) (by decide);have g:=qu zs (lE zs c ids).2 (l:=[5,6]) (by decide);have j:=qu zs (lE zs c ids).2 (l:=[1,30,60,120]) (by decide);have k:=qu zs (lE zs c ids).2 (l:=[1,2,3,10,30]) (by decide);have o:=bM zs (lE zs c ids).2 (n:=4) (by decide);have p:=bM zs (bB zs (lE zs c ids).2 4).2 (n:=999) (by decide);have q:=bM zs (lE zs c ids).2 (n:=10) (by decide);simp only[szs,List.mem_cons,List.not_mem_nil,or_false]at f g j k;unfold tt
 repeat' split
 ·exact⟨⟨by simp only;omega,by simp only;omega,by simp only[szs];omega,by simp only;omega,by simp only;omega⟩,bZ a _⟩
 ·exact⟨⟨by simp only;omega,by simp only;omega,by simp only;omega,by simp only;omega,by simp only;omega⟩,a⟩
 ·exact⟨⟨by simp only;omega,by simp only;omega,by simp only;omega,by simp only;omega,by simp only;omega⟩,bZ (bZ a _) _⟩
 ·exact⟨⟨by simp only;omega,by simp only;omega,by simp only;omega,by simp only;omega,by simp only;omega⟩,bZ a _⟩
 ·exact⟨⟨by simp only;omega,by simp only;omega,by simp only;omega,by simp only;omega,by simp only;omega⟩,bZ a _⟩
 ·exact⟨⟨by simp only;omega,by simp only;omega,by simp only;omega,by simp only;omega,by simp only;omega⟩,a⟩
 ·exact⟨⟨by simp only;omega,by simp only;omega,by simp only;omega,by simp only;omega,by simp only;omega⟩,bZ a _⟩
 ·exact⟨⟨by simp only;omega,by simp only;omega,by simp only;omega,by simp only;omega,by simp only;omega⟩,a⟩
 exact⟨⟨by simp only;omega,by simp only;omega,by simp only;omega,by simp only;omega,by simp only;omega⟩,bZ a _⟩
def lC(zs:List Int)(c:iQ):Nat->List eI × iQ
 | 0=>([],(bB zs c 41).2)
 | i+1=>((lC zs c i).1++[(tt zs (lC zs c i).2 (1+(i:Int) / 2)).1],(tt zs (lC zs c i).2 (1+(i:Int) / 2)).2)
def lV(zs:List Int)(c:iQ):List eI × iQ:=lC zs c (bB zs c 41).1.toNat
def pY{zs:List Int}{c:iQ}(h:c.i<=zs.length):∀{n:Nat},n<=100->(lC zs c n).1.length=n/\(∀a∈(lC zs c n).1,PR a)/\(lC zs c n).2.i<=zs.length
 | 0,_=>⟨rfl,λa b=>(by cases b),bZ h _⟩
 | n+1,k=>by
  obtain⟨d,e,f⟩:=pY h (n:=n) ω;obtain⟨g,j⟩:=N7 (ids:=1+(n:Int) / 2) f ω;refine⟨by simp only[lC,Y3,List.length_singleton,d],λa b=>?_,j⟩;rcases V3.1 b with b|b
  ·exact e a b
  rw[V1.1 b];exact g
def qO(zs:List Int):Nat->Int
 | 0=>w64 (98801+(zs.length:Nat))
 | i+1=>w64 ((BitVec.ofInt IntKind.i64.bits (w64 (w64 (w64 (qO zs i*131)+nth zs i)+7)) &&& BitVec.ofInt IntKind.i64.bits 1073741823).toNat:Nat)
def pm(zs:List Int):iQ:=⟨0,qO zs (min zs.length 4000)⟩
def ed(zs:List Int):iQ:=(RX zs (pm zs)).2
def drawn(zs:List Int):bo:=(xa (pF zs (pm zs)) (lV zs (ed zs)).1 (lV zs (ed zs)).1.length).1
def zp(zs:List Int):sH (drawn zs) 40:=by
 have a:(pm zs).i<=zs.length:=X0 _;obtain⟨b,d⟩:=pq a;have f:=bM zs (ed zs) (n:=41) (by decide);obtain⟨e,-,-⟩:=pY (zs:=zs) (c:=ed zs) d (n:=(bB zs (ed zs) 41).1.toNat) ω;refine(vm b _ _).more ?_;show(lC zs (ed zs) _).1.length<=40;rw[e];omega
open Go.RowKit
set_option maxRecDepth 20000
set_option maxHeartbeats 4000000
def rU(z:Int):List C:=[.v (.int .u8 z)]
def iP(zs:List Int)(c:iQ):List C:=[.s .V (zs.map rU),I (c.i:Nat),I c.h]
def kL(zs:List Int):Prop:=zs.length<=1048576/\∀z∈zs,0<=z/\z<=255
def kY(zs:List Int)(c:iQ)(e:kL zs)(w:c.i<=zs.length):zzB 180 false [.ptr (iP zs c)] [.ptr (iP zs (dD zs c).2)] .one [I (dD zs c).1]:=by
 have g:IntKind.i64.wrap (c.h*6364136223846793005)=w64 (c.h*6364136223846793005):=rfl;have b:IntKind.i64.wrap (w64 (c.h*6364136223846793005)+1442695040888963407)=Ub c.h:=rfl;have o:=e.1;generalize p:Ub c.h=H at b;have j:H.fdiv (2 ^ (min (33:Int).toNat IntKind.i64.bits))=Q7 H 33:=rfl;have k:H.fdiv (2 ^ (min (45:Int).toNat IntKind.i64.bits))=Q7 H 45:=rfl;have l:IntKind.i64.wrap (BitVec.ofInt IntKind.i64.bits (Q7 H 33) ^^^ BitVec.ofInt IntKind.i64.bits (Q7 H 45)).toNat=Tw (Q7 H 33) (Q7 H 45):=rfl;have d:IntKind.i64.wrap (BitVec.ofInt IntKind.i64.bits (Tw (Q7 H 33) (Q7 H 45)) &&& BitVec.ofInt IntKind.i64.bits 255).toNat=BD H:=rfl;have r:0<=BD H/\BD H<=255:=Bw _;unfold dD;rw[p];generalize BD H=y at d r |-;refine fM 58 [] [(2,10,[13,14,15,16,17,18,19,20,21,22]),(3,9,[25,26,27,28,29,30,31,32,33]),(4,12,[35,36,37,38,39,40,41,42,43,44,45,46])] [(0,0)] Tryz.func180 rfl (λu q=>?_);by_cases a:c.i<zs.length
 ·rw[CD a]
  have n:=au a;have B:=e.2 _ (ar a);have t:IntKind.i64.wrap (BitVec.ofInt IntKind.i64.bits (y+nth zs c.i) &&& BitVec.ofInt IntKind.i64.bits 255).toNat=and255 (y+nth zs c.i):=rfl
  repeat'(first|refine gE ?_|(conv=>whnf);first|with_reducible (first|refine CN g ?_|refine CN b ?_|refine CN l ?_|refine CN d ?_|refine CN t ?_|refine CE (aa n) ?_|refine CP (by decide) ?_|refine CV j ?_|refine CV k ?_)|refine CK rfl (aa n) rfl ?_|refine CC ?_)
  refine CH rfl rfl ?_;exact wB
 rw[CB a]
 repeat'(first|refine gE ?_|(conv=>whnf);first|with_reducible (first|refine CN g ?_|refine CN b ?_|refine CN l ?_|refine CN d ?_|refine CP (by decide) ?_|refine CV j ?_|refine CV k ?_)|refine CC ?_)
 refine CH rfl rfl ?_;exact wB
def ce(zs:List Int)(c:iQ)(n:Int)(b:kL zs)(d:c.i<=zs.length)(p:1<=n):zzB 61 false [.ptr (iP zs c),.val none [I n]] [.ptr (iP zs (bB zs c n).2),.val none [I n]] .one [I (bB zs c n).1]:=by
 have j:=tW zs c;have g:=kY zs c b d;unfold bB;refine fM 37 [(180,[2])] [] [(0,0),(0,0)] Tryz.func61 rfl (λu q=>?_);by_cases h:n<=256
 ·rw[CD h]
  have a:(dD zs c).1.tmod n=(dD zs c).1 % n:=Int.tmod_eq_emod_of_nonneg j.1
  repeat'(first|refine gE ?_|(conv=>whnf);first|with_reducible (first|refine CV a ?_|refine Bf.D (λe=>?_) (λe=>?_))|refine CL (g) (.inl rfl) ?_|refine CP ω ?_)
  refine CH rfl rfl ?_;exact wB
 rw[CB h];have r:=tW zs (dD zs c).2;have t:=tW zs (dD zs (dD zs c).2).2;have w:=tW zs (dD zs (dD zs (dD zs c).2).2).2;have k:=kY zs (dD zs c).2 b (jh d);have l:=kY zs (dD zs (dD zs c).2).2 b (jh (jh d));have o:=kY zs (dD zs (dD zs (dD zs c).2).2).2 b (jh (jh (jh d)));have a:(AP zs c).1.tmod n=(AP zs c).1 % n:=Int.tmod_eq_emod_of_nonneg (by unfold AP;simp only;omega);unfold AP at a |-;simp only at a
 repeat'(first|refine gE ?_|(conv=>whnf);first|with_reducible (first|refine CV a ?_|refine Bf.D (λe=>?_) (λe=>?_))|refine CL (g) (.inl rfl) ?_|refine CL (k) (.inl rfl) ?_|refine CL (l) (.inl rfl) ?_|refine CL (o) (.inl rfl) ?_|refine CP ω ?_)
 refine CH rfl rfl ?_;exact wB
def MU(zs:List Int)(c:iQ)(l:List Int)(b:kL zs)(d:c.i<=zs.length)(g:1<=l.length/\l.length<=1000):zzB 402 false [.ptr (iP zs c),.val none (aH .V l)] [.ptr (iP zs (lX zs c l).2),.val none (aH .V l)] .one [I (lX zs c l).1]:=by
 have e:=ce zs c (l.length:Nat) b d ω;have h:=bM zs c (n:=(l.length:Nat)) ω;have a:=au (xs:=l) (i:=(bB zs c (l.length:Nat)).1.toNat) ω;unfold lX;refine fM 12 [(61,[2,0])] [] [(0,0),(0,0)] Tryz.func402 rfl (λu q=>?_)
 repeat'(first|refine gP ?_|(conv=>whnf);first|with_reducible refine CO ω (aa a) ?_|refine CL (e) (.inl rfl) ?_|refine CK rfl (aa a) rfl ?_)
 refine CH rfl rfl ?_;exact wC
def ja(zs:List Int)(c:iQ)(l:List Int)(b:kL zs)(d:c.i<=zs.length)(g:1<=l.length/\l.length<=1000):zzB 402 false [.ptr (iP zs c),.mut none (aH .own l)] [.ptr (iP zs (lX zs c l).2),.mut none (aH .own l)] .one [I (lX zs c l).1]:=by
 have e:=ce zs c (l.length:Nat) b d ω;have h:=bM zs c (n:=(l.length:Nat)) ω;have a:=au (xs:=l) (i:=(bB zs c (l.length:Nat)).1.toNat) ω;unfold lX;refine fM 12 [(61,[2,0])] [] [(0,0),(1,0)] Tryz.func402 rfl (λu q=>?_)
 repeat'(first|refine gP ?_|(conv=>whnf);first|with_reducible refine CO ω (aa a) ?_|refine CL (e) (.inl rfl) ?_|refine CK rfl (aa a) rfl ?_)
 refine CH rfl rfl ?_;exact wC
def Mb(zs:List Int):∀(f i:Nat)(out:List Int)(c:iQ),(bB zs c 4).1<=i->pG zs f i out c=(out,(bB zs c 4).2)
 | 0,_,_,_,_=>rfl
 | f+1,i,out,c,h=>by unfold pG;rw[CB ω]
def RW(zs:List Int)(f i:Nat)(out:List Int)(c:iQ)(h:(i:Int)<(bB zs c 4).1):pG zs (f+1) i out c=pG zs f (i+1) (out++[(bB zs (bB zs c 4).2 12).1]) (bB zs (bB zs c 4).2 12).2:=by
 show(if _ then _ else _)=_;rw[CD h]
structure Rq where
 i:Nat
 out:List Int
 c:iQ
def xe(zs:List Int)(c:iQ)(e:kL zs)(j:c.i<=zs.length):zzB 258 false [.ptr (iP zs c)] [.ptr (iP zs (Rz zs c).2)] .one (aH .own (Rz zs c).1):=by
 refine fM 18 [(61,[2,0])] [] [(0,0)] Tryz.func258 rfl (λu q=>?_) (.inr (bT _))
 repeat'(first|refine gP ?_|fail)
 (conv=>whnf)
 refine CJ (ι:=Rq) (λx=>[(0,.H .box (iP zs x.c)),(3,.H .one (aH .own x.out)),(4,.H .one [I ((x.i:Nat):Int)])]) (λx=>(x.i<=4/\x.out.length<=x.i/\x.c.i<=zs.length)/\pG zs (4 - x.i) x.i x.out x.c=Rz zs c) (λx=>4 - x.i) (⟨0,[],c⟩) ?_ (⟨⟨X0 _,X0 _,j⟩,rfl⟩) λx k=>?_
 ·exact wC
 obtain⟨i,out,d⟩:=x;obtain⟨⟨l,o,b⟩,a⟩:=k;simp only at l o b a |-;have B:=bM zs d (n:=4) (by decide);have g:=ce zs d 4 e b (by decide);have h:=bZ b 4;have p:=ce zs (bB zs d 4).2 12 e h (by decide);have t:=bZ h 12;by_cases w:(i:Int)<(bB zs d 4).1
 ·rw[show 4 - i=(4 - (i+1))+1 by omega,RW zs _ _ _ _ w]at a
  repeat'(first|refine gE ?_|(conv=>whnf);first|refine CL (g) (.inl rfl) ?_|refine CL (p) (.inl rfl) ?_|refine CU cS (λr y=>by rw[V1.1 y];rfl) (by simp[bk,eD]) (by simp;omega) (by simp only[I1];exact y4 (by simp;omega) (by decide)) rfl ?_)
  ((conv=>whnf);refine CF ⟨i+1,out++[(bB zs (bB zs d 4).2 12).1],(bB zs (bB zs d 4).2 12).2⟩ ⟨⟨by simp only;omega,by simp only[Y3,List.length_singleton];omega,t⟩,a⟩ (by simp only;omega) ?_)
  repeat'(first|exact trivial|rfl| exact eK _ |exact CM rfl (CM (Z0 (C.s dY.own) (by simp[rI])) trivial)|refine CM ?_ ?_|(exact EO (by first|omega|(simp only;omega)|(simp;omega))))
 rw[Mb zs _ _ _ _ ω]at a;rw[<-a]
 repeat'(first|refine gE ?_|(conv=>whnf);first|refine CL (g) (.inl rfl) ?_)
 refine CH rfl rfl ?_;exact wC
def cH.enc(o:dY)(c:cH):List C:=[I (c.a3:Nat),I (c.W:Nat),I (c.c3:Nat),I c.b1,.s o (c.w.map (rI o))]
def cH.enc_fz(c:cH):dG (cH.enc .own c)=cH.enc .V c:=by simp[dG,cH.enc,rI,<-ch,W6]
def cH.enc_fr(c:cH):iv (cH.enc .own c):=⟨trivial,trivial,trivial,trivial,⟨.inl λh=>(by cases h),bj _ _ λy _=>r6 y⟩,trivial⟩
def yq(zs:List Int)(c:iQ)(a:kL zs)(h:c.i<=zs.length):zzB 113 false [.ptr (iP zs c)] [.ptr (iP zs (RX zs c).2)] .agg (cH.enc .own (pF zs c)):=by
 have j:=bZ h 7;have k:=bZ j 3;have l:=bZ k 100;have y:=bZ l 4;have b:=ce zs c 7 a h (by decide);have d:=ce zs (Ad zs c).2 3 a j (by decide);have e:=ce zs (EN zs c).2 100 a k (by decide);have g:=ce zs (G2 zs c).2 4 a l (by decide);have o:=xe zs (Ec zs c).2 a y;have p:=bM zs c (n:=7) (by decide);have r:=bM zs (Ad zs c).2 (n:=3) (by decide);have B:=bM zs (EN zs c).2 (n:=100) (by decide);have t:=bM zs (G2 zs c).2 (n:=4) (by decide);have w:=cH.enc_fr (pF zs c);have C:cH.enc .own (pF zs c)=[I (6+(Ad zs c).1),I (6+(Ad zs c).1 - (Ec zs c).1),I (1+(EN zs c).1),I (40+(G2 zs c).1),.s .own ((RX zs c).1.map (rI .own))]:=by
  have D:0<=(Ad zs c).1/\(Ad zs c).1<7:=p;have E:0<=(EN zs c).1/\(EN zs c).1<3:=r;have F:0<=(Ec zs c).1/\(Ec zs c).1<4:=t;unfold cH.enc pF;simp only;rw[Int.toNat_of_nonneg ω,Int.toNat_of_nonneg ω,Int.toNat_of_nonneg ω]
 rw[C]at w |-;change aM _ _ _ _ [.ptr (iP zs (Ad zs c).2),_] _ _ at b;change aM _ _ _ _ [.ptr (iP zs (EN zs c).2),_] _ _ at d;change aM _ _ _ _ [.ptr (iP zs (G2 zs c).2),_] _ _ at e;change aM _ _ _ _ [.ptr (iP zs (Ec zs c).2),_] _ _ at g;change aM _ _ _ _ [.ptr (iP zs (RX zs c).2)] _ (aH .own (RX zs c).1) at o;change aM _ _ _ _ _ _ [I (Ad zs c).1]at b;change aM _ _ _ _ _ _ [I (EN zs c).1]at d;change aM _ _ _ _ _ _ [I (G2 zs c).1]at e;change aM _ _ _ _ _ _ [I (Ec zs c).1]at g;change 0<=(Ad zs c).1/\(Ad zs c).1<7 at p;change 0<=(EN zs c).1/\(EN zs c).1<3 at r;change 0<=(G2 zs c).1/\(G2 zs c).1<100 at B;change 0<=(Ec zs c).1/\(Ec zs c).1<4 at t;generalize RX zs c=r5 at *;generalize Ec zs c=r4 at *;generalize G2 zs c=r3 at *;generalize EN zs c=r2 at *;generalize Ad zs c=r1 at *;refine fM 24 [(61,[2,0]),(258,[2])] [(2,65536,[])] [(0,0)] Tryz.func113 rfl (λu q=>?_) (.inr w)
 repeat'(first|refine gP ?_|(conv=>whnf);first|refine CL (b) (.inl rfl) ?_|refine CL (d) (.inl rfl) ?_|refine CL (e) (.inl rfl) ?_|refine CL (g) (.inl rfl) ?_|refine CL (o) (.inl rfl) ?_|refine CM ?_ ?_)
 all_goals
  refine CH rfl rfl ?_;exact wC
def xp(n:Nat)(e:1<=n/\n<=32):zzA 569 false [.val none [I (n:Nat)]] (.tup [some 2,none]) (aU.enc .own (eE n)++[B true]):=by
 have c:=aK ((n:Nat):Int) 1 32;rw[O0 ω]at c;have a:=aL (b:=[B true]) (aU.enc_fr (eE n)) ⟨trivial,trivial⟩;rw[show aU.enc .own (eE n)=_ from yY n n]at a |-;refine fO 28 [(7,4,[16,17,18,19])] Tryz.func569 rfl ?_ (.inr a)
 repeat'(first|refine gP ?_|(conv=>whnf);first|refine CC ?_|refine C9 (c) ?_)
 (conv=>whnf)
 refine CJ (ι:=Nat) (λk=>[(0,.H .one [I ((n:Nat))]),(2,.H .box [.z,.z]),(4,.H .box [.s .own (List.replicate k [.s .own (List.replicate 16 [I 0])]),.s .own (List.replicate k [B false])]),(5,.H .one [I ((k:Nat):Int)])]) (λk=>k<=n) (λk=>n - k) (0) ?_ (X0 _) λk g=>?_
 ·exact wB
 by_cases h:k<n
 ·repeat'(first|refine gE ?_|(conv=>whnf);first|refine CC ?_|refine Mk.mk 16 rfl rfl (by decide) (by decide) rfl ?_|refine Ap.sn (λr d=>by rw[(List.mem_replicate.1 d).2];rfl) rfl (by simp;omega) (by decide) (yQ _ k) ?_)
  ((conv=>whnf);refine CF (k+1) ω ω ?_;(exact wB))
 obtain rfl:k=n:=ω
 repeat'(first|refine gE ?_|(conv=>whnf);first|refine CC ?_)
 rfl
def zG(n:Nat)(e:1<=n/\n<=32):zzA 570 false [.val none [I (n:Nat)]] (.tup [some 1,none]) (aJ.enc .own (dN n)++[B true]):=by
 have c:=aK ((n:Nat):Int) 1 32;rw[O0 ω]at c;have a:=aL (b:=[B true]) (aJ.enc_fr (dN n)) ⟨trivial,trivial⟩;have d:aJ.enc .own (dN n)=[.s .own (List.replicate n [I 0,I 0])]:=by simp[aJ.enc,dN,bh.enc,List.map_replicate]
 rw[d]at a |-;refine fO 11 [] Tryz.func570 rfl ?_ (.inr a)
 repeat'(first|refine gP ?_|(conv=>whnf);first|refine CC ?_|refine C9 (c) ?_|refine Mk.mk n rfl rfl ω (y4 ω (by decide)) rfl ?_)
 rfl
def wo(p f:Nat)(a:1<=p/\p<=32)(b:1<=f/\f<=32):zzA 508 false [.val none [I (p:Nat)],.val none [I (f:Nat)]] (.tup [some 3,none]) (aY.enc .own ⟨eE f,dN p⟩++[B true]):=by
 refine fO 30 [] Tryz.func508 rfl ?_ (.inr (aL (aY.enc_fr _) ⟨trivial,trivial⟩))
 repeat'(first|refine gP ?_|(conv=>whnf);first|refine CC ?_|refine C9 (xp f b) ?_|refine C9 (zG p a) ?_)
 rfl
def xB(p f:Nat)(a:List Int)(b:1<=p/\p<=32)(c:1<=f/\f<=32)(d:a.length<=40/\∀x∈a,0<=x):zzA 412 false [.val none [I (p:Nat)],.val none [I (f:Nat)],.val none (aH .V a)] (.tup [some 5,none]) (ah.enc .own (bU p f a)++[B true]):=by
 have e:=rp b c d;have h:=d.1;have g:=mJ (bU p f a) (bv e);rw[e]at g;refine fO 31 [(2,260,[17,18,19,10,0,1,2,5,3,1000,1005,4,1005,6])] Tryz.func412 rfl ?_ (.inr (aL (Ce _) ⟨trivial,trivial⟩))
 repeat'(first|refine gP ?_|(conv=>whnf);first|refine CC ?_|refine C9 (wo p f b c) ?_|refine CG (g) ⟨⟨rfl,CR (bU p f a)⟩,trivial⟩ ?_|refine CS (λ_=>rfl) (λ_=>rfl) ω (by decide) ?_|refine CY (λ_=>rfl) (λ_=>rfl) ω (by decide) ?_|refine CC ?_)
 rfl
def Uu(p f t:Nat)(lim:Int)(a:List Int)(k:Nat):ac:={caps (newHeap p f t lim a) k with a7:=⟨0,[]⟩}
def EE(p f t:Nat)(lim:Int)(a:List Int)(c:1<=p/\p<=32)(d:1<=f/\f<=32)(e:1<=t/\t<=4)(g:0<=lim/\lim<=1000)(h:a.length<=40/\∀x∈a,0<=x):zzA 271 false [.val none [I (p:Nat)],.val none [I (f:Nat)],.val none [I (t:Nat)],.val none [I lim],.val none (aH .V a)] (.tup [some 24,none]) (ac.enc .own (newHeap p f t lim a)++[B true]):=by
 have b:=aK lim 0 1000;rw[O0 g]at b;refine fO 66 [(9,4,[54,55,56,57])] Tryz.func271 rfl ?_ (.inr (aL (ac.enc_fr _) ⟨trivial,trivial⟩))
 repeat'(first|refine gP ?_|(conv=>whnf);first|refine CC ?_|refine C9 (xB p f a c d h) ?_|refine C9 (Dv t e) ?_|refine C9 (b) ?_|refine C9 (tL) ?_)
 (conv=>whnf)
 refine CJ (ι:=Nat) (λk=>[(2,.H .one [I ((t:Nat))]),(10,.H .box [.z,.z,.z,I 0,.z,.z,.z,.z,.z,.z,.z,.z,I 0,.z,I 0,I 0,I 0,I 0,B false,I 0,I 0,.z,I 0,I 0]),(16,.H .box (ac.enc .own (Uu p f t lim a k))),(17,.H .one [I ((k:Nat):Int)])]) (λk=>k<=t) (λk=>t - k) (0) ?_ (X0 _) λk i=>?_
 ·exact wB
 by_cases j:k<t
 ·repeat'(first|refine gE ?_|(conv=>whnf);first|refine CC ?_|refine C9 (A4) ?_|refine Ap.sn ES rfl (by rw[I1];show(List.replicate _ fe).length+1<=_;rw[z4];omega) (by decide) (BC k) ?_)
  ((conv=>whnf);refine CF (k+1) ω ω ?_;(exact wB))
 obtain rfl:k=t:=ω
 repeat'(first|refine gE ?_|(conv=>whnf);first|refine CC ?_|refine C9 (tL) ?_)
 rfl
def FA:zzA 272 false [] .agg (aD.enc .own ⟨1,[]⟩):=by
 refine fO 2 [] Tryz.func272 rfl ?_ (.inr (aD.enc_fr _))
 repeat'((conv=>whnf);first|with_reducible (first|refine Lm ?_|refine Wm ω ?_|refine Bn ?_|refine jt.wk rfl ?_)|refine Bt ?_|refine Bu ?_|refine CC ?_)
 exact⟨rfl,rfl,trivial⟩
def zL(c:cH)(h:GT c):zzA 120 false [.val (some 5) (cH.enc .V c)] (.tup [some 26,none]) (bo.enc .own (world0 c)++[B true]):=by
 have a:=EE c.a3 c.W c.c3 c.b1 c.w h.p h.f h.t h.l h.r;refine fO 26 [(4,2,[23,24])] Tryz.func120 rfl ?_ (.inr (aL (bo.enc_fr _) ⟨trivial,trivial⟩))
 repeat'(first|refine gP ?_|(conv=>whnf);first|refine CC ?_|refine C9 (a) ?_|refine C9 (FA) ?_)
 rfl
def pw(o:dY)(l:List eI):List C:=[.s o (l.map (eI.enc o))]
def eI.enc_fr(x:eI):iv (eI.enc .own x):=⟨trivial,trivial,trivial,trivial,trivial,trivial⟩
def Mg(l:List eI):iv (pw .own l):=⟨⟨.inl λh=>(by cases h),bj _ _ λy _=>eI.enc_fr y⟩,trivial⟩
def LE(l:List eI):dG (pw .own l)=pw .V l:=by simp[dG,pw,eI.enc,<-ch,W6]
def GM(zs:List Int)(c:iQ)(ids:Int)(b:kL zs)(p:c.i<=zs.length)(r:1<=ids/\ids<=1000):zzB 259 false [.ptr (iP zs c),.val none [I ids]] [.ptr (iP zs (tt zs c ids).2),.val none [I ids]] .agg (eI.enc .own (tt zs c ids).1):=by
 have w:=bZ p 3;have y:=bZ w ids;have d:(lE zs c ids).2.i<=zs.length:=bZ y 20;have B:=ce zs c 3 b p (by decide);have C:=ce zs (BK zs c).2 ids b w r.1;have j:=ce zs (Hp zs c ids).2 20 b y (by decide);have H:=bM zs c (n:=3) (by decide);have J:=bM zs (BK zs c).2 (n:=ids) r.1;have D:=bM zs (Hp zs c ids).2 (n:=20) (by decide);have e:=ja zs (lE zs c ids).2 szs b d (by decide);have E:=ja zs (lE zs c ids).2 [5,6] b d (by decide);have F:=ja zs (lE zs c ids).2 [1,30,60,120] b d (by decide);have l:=ja zs (lE zs c ids).2 [1,2,3,10,30] b d (by decide);have g:=ce zs (lE zs c ids).2 4 b d (by decide);have h:=ce zs (bB zs (lE zs c ids).2 4).2 999 b (bZ d _) (by decide);have G:=ce zs (lE zs c ids).2 10 b d (by decide);have K:=bM zs (bB zs (lE zs c ids).2 4).2 (n:=999) (by decide);have L:=bM zs (lE zs c ids).2 (n:=10) (by decide);change aM _ _ _ _ [.ptr (iP zs (BK zs c).2),_] _ [I (BK zs c).1]at B;change aM _ _ _ _ [.ptr (iP zs (Hp zs c ids).2),_] _ [I (Hp zs c ids).1]at C;change aM _ _ _ _ [.ptr (iP zs (lE zs c ids).2),_] _ [I (lE zs c ids).1]at j;change 0<=(BK zs c).1/\(BK zs c).1<3 at H;change 0<=(Hp zs c ids).1/\(Hp zs c ids).1<ids at J;change 0<=(lE zs c ids).1/\(lE zs c ids).1<20 at D;have o:=eI.enc_fr (tt zs c ids).1;unfold tt at o |-;generalize lE zs c ids=k at *;generalize Hp zs c ids=n at *;generalize BK zs c=t at *;obtain⟨a,M⟩:=k;dsimp only at d e E F l g h G K L D j o |-;refine fM 77 [(61,[2,0]),(402,[2,1])] [] [(0,0),(0,0)] Tryz.func259 rfl (λu q=>?_) (.inr o)
 repeat'(first|refine gP ?_|(conv=>whnf);first|refine CL (B) (.inl rfl) ?_|refine CL (C) (.inl rfl) ?_|refine CL (j) (.inl rfl) ?_)
 obtain rfl|rfl|rfl|rfl|rfl|rfl|rfl|rfl|rfl|rfl|rfl|rfl|rfl|rfl|rfl|rfl|rfl|rfl|rfl|rfl:=(show a=0\/a=1\/a=2\/a=3\/a=4\/a=5\/a=6\/a=7\/a=8\/a=9\/a=10\/a=11\/a=12\/a=13\/a=14\/a=15\/a=16\/a=17\/a=18\/a=19 by omega)
 ·rw[CD (show((0:Int))<=6 by decide)]
  repeat'(first|refine gP ?_|(conv=>whnf);first|refine CL (e) (.inl rfl) ?_)
  refine CH rfl rfl ?_;exact wC
 ·rw[CD (show((1:Int))<=6 by decide)]
  repeat'(first|refine gP ?_|(conv=>whnf);first|refine CL (e) (.inl rfl) ?_)
  refine CH rfl rfl ?_;exact wC
 ·rw[CD (show((2:Int))<=6 by decide)]
  repeat'(first|refine gP ?_|(conv=>whnf);first|refine CL (e) (.inl rfl) ?_)
  refine CH rfl rfl ?_;exact wC
 ·rw[CD (show((3:Int))<=6 by decide)]
  repeat'(first|refine gP ?_|(conv=>whnf);first|refine CL (e) (.inl rfl) ?_)
  refine CH rfl rfl ?_;exact wC
 ·rw[CD (show((4:Int))<=6 by decide)]
  repeat'(first|refine gP ?_|(conv=>whnf);first|refine CL (e) (.inl rfl) ?_)
  refine CH rfl rfl ?_;exact wC
 ·rw[CD (show((5:Int))<=6 by decide)]
  repeat'(first|refine gP ?_|(conv=>whnf);first|refine CL (e) (.inl rfl) ?_)
  refine CH rfl rfl ?_;exact wC
 ·rw[CD (show((6:Int))<=6 by decide)]
  repeat'(first|refine gP ?_|(conv=>whnf);first|refine CL (e) (.inl rfl) ?_)
  refine CH rfl rfl ?_;exact wC
 ·rw[CB (show ¬((7:Int)<=6) by decide),CD (show((7:Int))<=9 by decide)]
  repeat'(first|refine gP ?_|fail)
  refine CH rfl rfl ?_;exact wC
 ·rw[CB (show ¬((8:Int)<=6) by decide),CD (show((8:Int))<=9 by decide)]
  repeat'(first|refine gP ?_|fail)
  refine CH rfl rfl ?_;exact wC
 ·rw[CB (show ¬((9:Int)<=6) by decide),CD (show((9:Int))<=9 by decide)]
  repeat'(first|refine gP ?_|fail)
  refine CH rfl rfl ?_;exact wC
 ·rw[CB (show ¬((10:Int)<=6) by decide),CB (show ¬((10:Int)<=9) by decide),CD (show((10:Int))<=12 by decide)]
  repeat'(first|refine gP ?_|(conv=>whnf);first|refine CL (g) (.inl rfl) ?_|refine CL (h) (.inl rfl) ?_)
  refine CH rfl rfl ?_;exact wC
 ·rw[CB (show ¬((11:Int)<=6) by decide),CB (show ¬((11:Int)<=9) by decide),CD (show((11:Int))<=12 by decide)]
  repeat'(first|refine gP ?_|(conv=>whnf);first|refine CL (g) (.inl rfl) ?_|refine CL (h) (.inl rfl) ?_)
  refine CH rfl rfl ?_;exact wC
 ·rw[CB (show ¬((12:Int)<=6) by decide),CB (show ¬((12:Int)<=9) by decide),CD (show((12:Int))<=12 by decide)]
  repeat'(first|refine gP ?_|(conv=>whnf);first|refine CL (g) (.inl rfl) ?_|refine CL (h) (.inl rfl) ?_)
  refine CH rfl rfl ?_;exact wC
 ·rw[CB (show ¬((13:Int)<=6) by decide),CB (show ¬((13:Int)<=9) by decide),CB (show ¬((13:Int)<=12) by decide),CD (show((13:Int))=13 by decide)]
  repeat'(first|refine gP ?_|(conv=>whnf);first|refine CL (G) (.inl rfl) ?_)
  refine CH rfl rfl ?_;exact wC
 ·rw[CB (show ¬((14:Int)<=6) by decide),CB (show ¬((14:Int)<=9) by decide),CB (show ¬((14:Int)<=12) by decide),CB (show ¬((14:Int)=13) by decide),CD (show((14:Int))=14 by decide)]
  repeat'(first|refine gP ?_|(conv=>whnf);first|refine CL (E) (.inl rfl) ?_)
  refine CH rfl rfl ?_;exact wC
 ·rw[CB (show ¬((15:Int)<=6) by decide),CB (show ¬((15:Int)<=9) by decide),CB (show ¬((15:Int)<=12) by decide),CB (show ¬((15:Int)=13) by decide),CB (show ¬((15:Int)=14) by decide),CD (show((15:Int))=15 by decide)]
  repeat'(first|refine gP ?_|fail)
  refine CH rfl rfl ?_;exact wC
 ·rw[CB (show ¬((16:Int)<=6) by decide),CB (show ¬((16:Int)<=9) by decide),CB (show ¬((16:Int)<=12) by decide),CB (show ¬((16:Int)=13) by decide),CB (show ¬((16:Int)=14) by decide),CB (show ¬((16:Int)=15) by decide),CD (show((16:Int))=16 by decide)]
  repeat'(first|refine gP ?_|(conv=>whnf);first|refine CL (F) (.inl rfl) ?_)
  refine CH rfl rfl ?_;exact wC
 ·rw[CB (show ¬((17:Int)<=6) by decide),CB (show ¬((17:Int)<=9) by decide),CB (show ¬((17:Int)<=12) by decide),CB (show ¬((17:Int)=13) by decide),CB (show ¬((17:Int)=14) by decide),CB (show ¬((17:Int)=15) by decide),CB (show ¬((17:Int)=16) by decide),CD (show((17:Int))=17 by decide)]
  repeat'(first|refine gP ?_|fail)
  refine CH rfl rfl ?_;exact wC
 ·rw[CB (show ¬((18:Int)<=6) by decide),CB (show ¬((18:Int)<=9) by decide),CB (show ¬((18:Int)<=12) by decide),CB (show ¬((18:Int)=13) by decide),CB (show ¬((18:Int)=14) by decide),CB (show ¬((18:Int)=15) by decide),CB (show ¬((18:Int)=16) by decide),CB (show ¬((18:Int)=17) by decide)]
  repeat'(first|refine gP ?_|(conv=>whnf);first|refine CL (l) (.inl rfl) ?_)
  refine CH rfl rfl ?_;exact wC
 rw[CB (show ¬((19:Int)<=6) by decide),CB (show ¬((19:Int)<=9) by decide),CB (show ¬((19:Int)<=12) by decide),CB (show ¬((19:Int)=13) by decide),CB (show ¬((19:Int)=14) by decide),CB (show ¬((19:Int)=15) by decide),CB (show ¬((19:Int)=16) by decide),CB (show ¬((19:Int)=17) by decide)]
 repeat'(first|refine gP ?_|(conv=>whnf);first|refine CL (l) (.inl rfl) ?_)
 refine CH rfl rfl ?_;exact wC
def Dq(zs:List Int)(c:iQ)(b:kL zs)(d:c.i<=zs.length):zzB 114 false [.ptr (iP zs c),.val none [I 40]] [.ptr (iP zs (lV zs c).2),.val none [I 40]] .one (pw .own (lV zs c).1):=by
 have e:=ce zs c 41 b d (by decide);have g:=bM zs c (n:=41) (by decide);obtain⟨n,h⟩:=O3 g.1;have a:(bB zs c 41).1.toNat=n:=by rw[h];rfl
 unfold lV;rw[a];rw[h]at e g;refine fM 27 [(61,[2,0]),(259,[2,0])] [] [(0,0),(0,0)] Tryz.func114 rfl (λu q=>?_) (.inr (Mg _))
 repeat'(first|refine gP ?_|(conv=>whnf);first|refine CL (e) (.inl rfl) ?_)
 (conv=>whnf)
 refine CJ (ι:=Nat) (λi=>[(0,.H .box (iP zs (lC zs c i).2)),(5,.H .one (pw .own (lC zs c i).1)),(6,.H .one [I ((n:Nat):Int)]),(7,.H .one [I ((i:Nat):Int)])]) (λi=>i<=n) (λi=>n - i) (0) ?_ (X0 _) λi p=>?_
 ·exact wC
 obtain⟨t,-,j⟩:=pY (zs:=zs) (c:=c) d (n:=i) ω;by_cases w:i<n
 ·have k:=GM zs (lC zs c i).2 (1+(i:Int) / 2) b j ω
  have l:((i:Nat):Int).tdiv 2=(i:Int) / 2:=Int.tdiv_eq_ediv_of_nonneg ω
  repeat'(first|refine gE ?_|(conv=>whnf);first|with_reducible (first|refine CV l ?_|refine CP ω ?_)|refine CL (k) (.inl rfl) ?_|refine CU (aX λ_=>rfl) (λr o=>by rw[V1.1 o];rfl) (by simp[bk,eD,eI.enc]) (by simp;omega) (by simp only[I1];exact y4 (by simp;omega) (by decide)) rfl ?_)
  ((conv=>whnf);refine CF (i+1) ω ω ?_)
  repeat'(first|exact trivial|rfl| exact eK _ |exact CM rfl (CM (Z0 (C.s dY.own) (by simp[lC];rfl)) trivial)|refine CM ?_ ?_|(exact EO (by first|omega|(simp only;omega)|(simp;omega))))
 obtain rfl:i=n:=ω
 repeat'(first|refine gE ?_|fail)
 refine CH rfl rfl ?_;exact wC
def rfs(h:ac):List Int:=h.G.w
def El(k:ah)(p:Int):(newK k p).1.w=k.w:=by unfold newK;split<;>rfl
def te(k:ah)(p:Int):∀n,(newsK k p n).1.w=k.w
 | 0=>rfl
 | n+1=>by
  unfold newsK;split
  ·exact(El _ _).trans (te k p n)
  exact te k p n
def N2(h:ac)(i:Nat):rfs (iN h i).1=rfs h:=by unfold iN;split<;>rfl
def BI(h:ac)(t c:Nat):rfs (smallA h t c).1=rfs h:=by
 unfold smallA;split
 ·rfl
 split
 ·rfl
 split
 ·rfl
 split
 ·exact El _ _
 exact(N2 _ _).trans (El _ _)
def uS(h:ac)(t n:Int):rfs (allocH h t n).1=rfs h:=by
 unfold allocH;split
 ·rfl
 split
 ·rfl
 split
 ·rfl
 split
 ·rfl
 split
 ·split
  ·exact BI _ _ _
  exact BI _ _ _
 unfold largeA;split
 ·rfl
 split
 ·exact te _ _ _
 exact((ll _ _ _).2).trans (te _ _ _)
def PI(h:ac)(t i:Nat):rfs (freeT h t i).1=rfs h:=by
 unfold freeT;split
 ·exact(ll _ _ _).2
 split
 ·rfl
 split
 ·exact(f6 t _ _).2.2.2.2.2.2.2
 split<;>rfl
def BL(t:Nat)(h:ac):∀k,rfs (flushN t h k).1=rfs h
 | 0=>rfl
 | k+1=>((fX _ (spilt (flushN t h k).1 t k)).2.2.2.2.2.2.2).trans (BL t h k)
def Ja{h:ac}(a:aZ h [])(b:JI h):∀n,rfs (stN h n).1=rfs h
 | 0=>rfl
 | n+1=>by
  obtain⟨c,d⟩:=uM a b n;unfold stN;split
  ·rename_i e
   unfold td at e;rw[I0]at e;exact((yn c e.1).2.2.1).trans (Ja a b n)
  exact Ja a b n
def PW{w:bo}{m:Nat}(h:sH w m)(a:eI):rfs (kR w a).1.Y=rfs w.Y:=by
 unfold kR;split
 ·exact uS _ _ _
 split
 ·split
  ·rfl
  unfold lZ;split
  ·unfold o7
   split
   ·rfl
   split
   ·exact PI _ _ _
   rfl
  split
  ·unfold lI
   split
   ·rfl
   split
   ·rfl
   split<;>rfl
  unfold o9;split
  ·exact((ll _ _ _).2).trans (ox _ _ _).2.2
  rfl
 split
 ·unfold fo
  split
  ·split<;>rfl
  split
  ·rfl
  split
  ·exact(f6 _ _ _).2.2.2.2.2.2.2
  exact BL _ _ _
 split
 ·unfold mu
  split
  ·exact(fX _ _).2.2.2.2.2.2.2
  rfl
 split
 ·unfold mt
  split
  ·rfl
  show rfs (started w.Y).1=_;unfold rfs;rw[(vZ h.inv).2.1]
 split
 ·exact Ja h.inv h.ji _
 rfl
def J8{c:cH}(h:GT c)(acts:List eI):∀n,rfs (xa c acts n).1.Y=c.w
 | 0=>rfl
 | n+1=>(PW (vm h acts n) _).trans (J8 h acts n)
def se(w:bo):List C:=bF w.Y++aD.enc .V w.b5
def QV(w:bo):dG (se w)=bo.enc .V w:=by
 unfold se;rw[fE,bL,<-Cj,tV,Cj]
 rfl
def Gu(w:bo)(id:Int)(g:w.Y.O.length<=1048576):zzB 274 false [.ptr (se w),.val none [I id]] [.ptr (se w),.val none [I id]] .one [I (rk w.Y id)]:=by
 refine fM 28 [] [] [(0,0),(0,0)] Tryz.func274 rfl (λu q=>?_)
 repeat'(first|refine gP ?_|(conv=>whnf);first|refine CC ?_)
 (conv=>whnf)
 refine CJ (ι:=Nat) (λi=>[(0,.H .box (se w)),(1,.H .one [I (id)]),(5,.H .one [I ((i:Nat):Int)])]) (λi=>i<=w.Y.O.length/\∀(j:Nat)(z:bt),j<i->w.Y.O[j]? = some z->Pi id z=false) (λi=>w.Y.O.length - i) (0) ?_ (⟨X0 _,λj z h=>ω⟩) λi c=>?_
 ·exact wC
 obtain⟨c,b⟩:=c;by_cases d:i<w.Y.O.length
 ·have a:=au d
  by_cases e:(nth w.Y.O i).Id=id
  ·repeat'(first|refine gB ?_|(conv=>whnf);first|with_reducible refine CE (aa a) ?_|refine CC ?_|refine CK rfl (aa a) rfl ?_)
   refine CH rfl (Z0 (λz=>[I z]) (dQ a (O0 e) b).symm) ?_;exact wC
  repeat'(first|refine gB ?_|(conv=>whnf);first|with_reducible refine CE (aa a) ?_|refine CC ?_|refine CK rfl (aa a) rfl ?_)
  ((conv=>whnf);refine CF (i+1) ⟨ω,eg a (W0 e) b⟩ ω ?_;(exact wC))
 repeat'(first|refine gE ?_|(conv=>whnf);first|refine CC ?_)
 refine CH rfl (Z0 (λz=>[I z]) (gq ω b).symm) ?_;exact wC
def de(y:ac):(bF y).length=24:=rfl
def AF(w:bo)(m n:Nat)(h:sH w m)(B:n<=50):zzB 280 false [.ptr (se w),.val none [I (n:Nat)]] [.ptr (se ⟨(stN w.Y n).1,w.b5⟩),.val none [I (n:Nat)]] .one [I ((stN w.Y n).2:Nat)]:=by
 refine fM 35 [(431,[2])] [] [(0,0),(0,0)] Tryz.func280 rfl (λu q=>?_)
 repeat'(first|refine gP ?_|(conv=>whnf);first|refine CC ?_)
 (conv=>whnf)
 refine CJ (ι:=Nat) (λi=>[(0,.H .box (se ⟨(stN w.Y i).1,w.b5⟩)),(1,.H .one [I ((n:Nat):Int)]),(5,.H .one [I (((stN w.Y i).2:Nat):Int)]),(6,.H .one [I ((i:Nat):Int)])]) (λi=>i<=n/\(stN w.Y i).2=i) (λi=>n - i) (0) ?_ (⟨X0 _,rfl⟩) λi l=>?_
 ·exact wC
 obtain⟨l,C⟩:=l;obtain⟨o,D⟩:=uM h.inv h.ji i;have b:stN w.Y (i+1)=if td (stN w.Y i).1=true then(mStep (stN w.Y i).1,(stN w.Y i).2+1) else stN w.Y i:=rfl
 have p:=(aG.1 o.ker).2.2.2.2;by_cases E:i<n
 ·cases c:(stN w.Y i).1.u with
  | true=>
   have y:=(Ew _ o c).frame (r:=aD.enc .V w.b5) ((de _).trans (de _).symm);by_cases g:(stN w.Y i).1.G.Calls<=99000
   ·have d:td (stN w.Y i).1=true:=by unfold td;rw[c,O0 g];rfl
    rw[CD d]at b;generalize stN w.Y i=s at *
    repeat'(first|refine gE ?_|(conv=>whnf);first|refine CC ?_|refine Bf.t (O0 g) ?_|refine Bf.t c ?_|refine CL (y) (.inl rfl) ?_)
    ((conv=>whnf);refine CF (i+1) ⟨ω,by rw[b];simp only;omega⟩ ω ?_)
    rw[b];exact wC
   have d:td (stN w.Y i).1=false:=by unfold td;rw[c,W0 g];rfl
   have a:∀k,stN w.Y (i+k)=stN w.Y i:=λk=>by
    induction k with
    | zero=>rfl
    | succ k j=>show(if td (stN w.Y (i+k)).1=true then _ else stN w.Y (i+k))=_;rw[j,d,CB (by simp)]
   have e:=a (n - i);rw[show i+(n - i)=n by omega]at e;rw[e];generalize stN w.Y i=s at *
   repeat'(first|refine gE ?_|(conv=>whnf);first|refine CC ?_|refine Bf.f (W0 g) ?_|refine Bf.t c ?_)
   refine CH rfl rfl ?_;exact wC
  | false=>
   have d:td (stN w.Y i).1=false:=by unfold td;rw[c];rfl
   have a:∀k,stN w.Y (i+k)=stN w.Y i:=λk=>by
    induction k with
    | zero=>rfl
    | succ k j=>show(if td (stN w.Y (i+k)).1=true then _ else stN w.Y (i+k))=_;rw[j,d,CB (by simp)]
   have e:=a (n - i);rw[show i+(n - i)=n by omega]at e;rw[e];generalize stN w.Y i=s at *
   repeat'(first|refine gE ?_|(conv=>whnf);first|refine CC ?_|refine Bf.f c ?_)
   refine CH rfl rfl ?_;exact wC
 obtain rfl:i=n:=ω
 repeat'(first|refine gE ?_|(conv=>whnf);first|refine CC ?_)
 refine CH rfl rfl ?_;exact wC
def J3{k:ah}(a:aC k=true):(aC k&&decide (k.Calls<100000))=decide (k.Calls≠100000):=by
 have:=(aG.1 a).2.2.2.2;rw[a,Bool.true_and,C5,C0,C0];omega
def zC(w:bo)(a:eI)(m:Nat)(h:sH w m)(B:a.b6=5\/a.b6=6\/a.b6=7):zzB 276 false [.ptr (se w),.val (some 5) (eI.enc .V a)] [.ptr (se ⟨(fo w.Y a).1,w.b5⟩),.val (some 5) (eI.enc .V a)] .one [I (fo w.Y a).2]:=by
 have d:=h.inv;have o:=d.nc;have p:w.Y.S.length<=4:=by have:=(d8.1 d.mail).1.2.1;omega
 have C:=jZ.of d.mail;have i:=my w.Y.G (bv d.ker);rw[J3 d.ker]at i;have j:=aK a.a5 0 (w.Y.S.length - 1:Int);unfold fo;refine fM 59 [(423,[2,0]),(424,[2,0])] [(3,267,[15,16,17,18,19,20,21,14,22,23,6,0,1,2,3,4,5,6,7,8,9,10,11,1009,12]),(8,15,[30,31,32,33,34,35,36,37,38,39,40,41,42,43,44])] [(0,0),(0,0)] Tryz.func276 rfl (λu q=>?_);by_cases l:a.b6=5
 ·rw[CD l]
  by_cases e:0<=a.a5/\a.a5<=w.Y.S.length - 1
  ·have y:oA w.Y a:=e
   obtain⟨t,g⟩:=O3 e.1;have b:=FG w.Y.y t d.mail ω;rw[<-g]at b;rw[g]at e |-;simp only[I3];rw[g]at b;by_cases c:0<(nth w.Y.y.U t).length
   ·rw[CD (show oA w.Y a/\0<(nth w.Y.y.U t).length from⟨y,c⟩)]
    rw[CD c,O0 c]at b;rw[<-g]at b
    repeat'(first|refine gB ?_|(conv=>whnf);first|with_reducible refine Bf.E (λk=>?_) (λk=>?_)|refine CC ?_|refine CG (b) ⟨⟨rfl,aP.enc_fz w.Y.y⟩,⟨rfl,rfl⟩,trivial⟩ ?_|refine CC ?_)
    refine CH rfl rfl ?_;exact wC
   rw[CB (show ¬(oA w.Y a/\0<(nth w.Y.y.U t).length) from λx=>c x.2)];rw[CB c,W0 c]at b;rw[<-g]at b
   repeat'(first|refine gB ?_|(conv=>whnf);first|with_reducible refine Bf.E (λk=>?_) (λk=>?_)|refine CC ?_|refine CG (b) ⟨⟨rfl,aP.enc_fz w.Y.y⟩,⟨rfl,rfl⟩,trivial⟩ ?_|refine CC ?_)
   refine CH rfl rfl ?_;exact wC
  rw[CB (show ¬(oA w.Y a/\0<(nth w.Y.y.U a.a5.toNat).length) from λx=>e x.1)];have b:=HD w.Y.y a.a5 d.mail ω
  repeat'(first|refine gB ?_|(conv=>whnf);first|with_reducible refine Bf.E (λk=>?_) (λk=>?_)|refine CC ?_|refine CG (b) ⟨⟨rfl,aP.enc_fz w.Y.y⟩,⟨rfl,rfl⟩,trivial⟩ ?_|refine CC ?_)
  refine CH rfl rfl ?_;exact wC
 rw[CB l];by_cases e:w.Y.G.Calls≠100000;rotate_left
 ·rw[CD (show ¬(w.Y.G.Calls≠100000/\oA w.Y a) from λx=>e x.1)]
  rw[W0 e]at i
  repeat'(first|refine gB ?_|(conv=>whnf);first|refine CC ?_|refine CG (i) ⟨⟨rfl,CR _⟩,trivial⟩ ?_|refine CC ?_)
  refine CH rfl rfl ?_;exact wC
 rw[O0 e]at i;by_cases c:0<=a.a5/\a.a5<=w.Y.S.length - 1;rotate_left
 ·rw[CD (show ¬(w.Y.G.Calls≠100000/\oA w.Y a) from λx=>c x.2)]
  rw[W0 c]at j
  repeat'(first|refine gB ?_|(conv=>whnf);first|refine CC ?_|refine CG (i) ⟨⟨rfl,CR _⟩,trivial⟩ ?_|refine C9 (j) ?_|refine CC ?_)
  refine CH rfl rfl ?_;exact wC
 rw[CB (show ¬¬(w.Y.G.Calls≠100000/\oA w.Y a) from V4 ⟨e,c⟩)];rw[O0 c]at j;obtain⟨t,g⟩:=O3 c.1;by_cases n:a.b6=6
 ·rw[CD n]
  have b:=(wv w.Y t d ω).frame (r:=aD.enc .V w.b5) ((de _).trans (de _).symm);rw[show a.a5.toNat=t by omega];rw[<-g]at b
  repeat'(first|refine gB ?_|(conv=>whnf);first|refine CC ?_|refine CG (i) ⟨⟨rfl,CR _⟩,trivial⟩ ?_|refine C9 (j) ?_|refine CL (b) (.inl rfl) ?_|refine CC ?_)
  refine CH rfl rfl ?_;exact wC
 rw[CB n];have b:=(zY w.Y t d ω).frame (r:=aD.enc .V w.b5) ((de _).trans (de _).symm);rw[show a.a5.toNat=t by omega];rw[<-g]at b
 repeat'(first|refine gB ?_|(conv=>whnf);first|refine CC ?_|refine CG (i) ⟨⟨rfl,CR _⟩,trivial⟩ ?_|refine C9 (j) ?_|refine CL (b) (.inl rfl) ?_|refine CC ?_)
 refine CH rfl rfl ?_;exact wC
def x9(w:bo)(a:eI)(i m:Nat)(h:sH w m)(X:m<=900)(G:PR a)(t:i<w.Y.O.length):zzB 275 false [.ptr (se w),.val (some 5) (eI.enc .V a),.val none [I (i:Nat)]] [.ptr (se (lZ w a i).1),.val (some 5) (eI.enc .V a),.val none [I (i:Nat)]] .one [I (lZ w a i).2]:=by
 have e:=h.inv;have b:=au t;have M:=uT e (ar t);have N:=cR e (ar t) (k:=0);have O:1<=(nth w.Y.O i).q/\(nth w.Y.O i).q<=1000:=by
  rcases e.oow _ (ar t) with⟨s,P,Y,Z⟩|⟨l,H,d,c⟩
  ·have hc:=aI (e.L.sok s P)
   have:=jI (n:=(nth w.Y.O i).q) ω;omega
  have h8:=cV (e.L.lok l H);omega
 have g:=my w.Y.G (bv e.ker);rw[J3 e.ker]at g;have Q:=G.k;have R:=G.p;have S:=G.v;unfold lZ;refine fM 126 [(416,[2,0,0]),(418,[2,0,0]),(420,[2,0,0])] [(6,7,[29,30,31,32,33,34,35]),(8,269,[40,41,42,43,44,45,46,47,39,48,49,50,51,0,1,2,3,4,5,6,7,8,9,10,11,12,13,1010]),(13,10,[62,63,64,65,66,67,68,69,70,71]),(15,273,[76,77,78,79,80,81,82,83,84,85,86,87,75,88,89,90,91,0,1,2,3,4,5,6,7,8,9,10,11,12,13,14,15,16,17,1014]),(17,15,[93,94,95,96,97,98,99,100,101,102,103,104,105,106,107]),(19,271,[112,113,114,115,116,117,118,119,120,121,111,122,123,124,125,0,1,2,3,4,5,6,7,8,9,10,11,12,13,14,15,1012])] [(0,0),(0,0),(0,0)] Tryz.func275 rfl (λu q=>?_);by_cases J:a.b6=2
 ·rw[CD J]
  unfold o7;by_cases d:w.Y.G.Calls=100000
  ·rw[CD d]
   rw[W0 (V4 d)]at g
   repeat'(first|refine gB ?_|(conv=>whnf);first|with_reducible refine CE (aa b) ?_|refine CC ?_|refine CG (g) ⟨⟨rfl,CR _⟩,trivial⟩ ?_|refine CK rfl (aa b) rfl ?_|refine CC ?_)
   refine CH rfl rfl ?_;exact wC
  rw[CB d];rw[O0 d]at g;have C:=(R7 w.Y i a.a5 e t).frame (r:=aD.enc .V w.b5) ((de _).trans (de _).symm);by_cases c:0<=a.a5/\a.a5<=w.Y.S.length - 1
  ·rw[CD (show oA w.Y a from c)]
   rw[CD c,CD c]at C;have T:=DA w.b5 (nth w.Y.O i).Id m h.ref ω;generalize freeT w.Y a.a5.toNat i=f at C |-;by_cases o:f.2=0
   ·rw[CD o]
    repeat'(first|refine gB ?_|(conv=>whnf);first|with_reducible (first|refine CE (aa b) ?_|refine Bf.E (λj=>?_) (λj=>?_))|refine CC ?_|refine CG (g) ⟨⟨rfl,CR _⟩,trivial⟩ ?_|refine CK rfl (aa b) rfl ?_|refine CL (C) (.inl rfl) ?_|refine Cl.sh T rfl ?_|refine CC ?_)
    refine CH rfl rfl ?_;exact wC
   rw[CB o]
   repeat'(first|refine gB ?_|(conv=>whnf);first|with_reducible (first|refine CE (aa b) ?_|refine Bf.E (λj=>?_) (λj=>?_))|refine CC ?_|refine CG (g) ⟨⟨rfl,CR _⟩,trivial⟩ ?_|refine CK rfl (aa b) rfl ?_|refine CL (C) (.inl rfl) ?_|refine CC ?_)
   refine CH rfl rfl ?_;exact wC
  rw[CB (show ¬oA w.Y a from c)];rw[CB c,CB c]at C
  repeat'(first|refine gB ?_|(conv=>whnf);first|with_reducible (first|refine CE (aa b) ?_|refine Bf.E (λj=>?_) (λj=>?_))|refine CC ?_|refine CG (g) ⟨⟨rfl,CR _⟩,trivial⟩ ?_|refine CK rfl (aa b) rfl ?_|refine CL (C) (.inl rfl) ?_|refine CC ?_)
  refine CH rfl rfl ?_;exact wC
 rw[CB J];by_cases K:a.b6=3
 ·rw[CD K]
  unfold lI;have D:=aK a.At 0 ((nth w.Y.O i).q - 1);by_cases d:0<=a.At/\a.At<=(nth w.Y.O i).q - 1;rotate_left
  ·rw[CD d]
   rw[W0 d]at D
   repeat'(first|refine gB ?_|(conv=>whnf);first|with_reducible (first|refine CE (aa b) ?_|refine Bf.E (λj=>?_) (λj=>?_))|refine CC ?_|refine CK rfl (aa b) rfl ?_|refine C9 (D) ?_|refine CC ?_)
   refine CH rfl rfl ?_;exact wC
  rw[CB (V4 d)];rw[O0 d]at D;have F:=(zI w.Y i a.At a.Value e t d).frame (r:=aD.enc .V w.b5) (by split<;>rfl);have U:=cR e (ar t) d;by_cases c:(af w.Y.G.F.Q (((nth w.Y.O i).Addr+a.At) / 16)).e=1
  ·rw[CD c]
   rw[CD (.inl c),CD c]at F
   repeat'(first|refine gB ?_|(conv=>whnf);first|with_reducible (first|refine CE (aa b) ?_|refine Bf.E (λj=>?_) (λj=>?_))|refine CC ?_|refine CK rfl (aa b) rfl ?_|refine C9 (D) ?_|refine CL (F) (.inl rfl) ?_|refine CC ?_)
   refine CH rfl rfl ?_;exact wC
  rw[CB c];by_cases o:0<=a.Value/\a.Value<=999;rotate_left
  ·rw[CD o]
   rw[CD (.inr o),CB c,CD o]at F
   repeat'(first|refine gB ?_|(conv=>whnf);first|with_reducible (first|refine CE (aa b) ?_|refine Bf.E (λj=>?_) (λj=>?_))|refine CC ?_|refine CK rfl (aa b) rfl ?_|refine C9 (D) ?_|refine CL (F) (.inl rfl) ?_|refine CC ?_)
   refine CH rfl rfl ?_;exact wC
  rw[CB (V4 o)];rw[CB (λx=>x.elim c λy=>y o),CB c,CB (V4 o)]at F;obtain⟨b5,V⟩:=Dk w.b5 (nth w.Y.O i).Id a.At a.Value m h.ref ω o
  repeat'(first|refine gB ?_|(conv=>whnf);first|with_reducible (first|refine CE (aa b) ?_|refine Bf.E (λj=>?_) (λj=>?_))|refine CC ?_|refine CK rfl (aa b) rfl ?_|refine C9 (D) ?_|refine CL (F) (.inl rfl) ?_|refine C9 (V) ?_|refine CC ?_)
  refine CH rfl rfl ?_;exact wC
 rw[CB K];unfold o9;by_cases d:w.Y.G.Calls=100000
 ·rw[CB (λx=>x.1 d)]
  rw[W0 (V4 d)]at g
  repeat'(first|refine gB ?_|(conv=>whnf);first|with_reducible refine CE (aa b) ?_|refine CC ?_|refine CG (g) ⟨⟨rfl,CR _⟩,trivial⟩ ?_|refine CK rfl (aa b) rfl ?_|refine CC ?_)
  refine CH rfl rfl ?_;exact wC
 rw[O0 d]at g;by_cases c:mA w.Y i a.Value
 ·rw[CD ⟨d,c⟩]
  have B:=(tU w.Y i a.Value e t c.1).frame (r:=aD.enc .V w.b5) (by split<;>rfl);rw[CD c,O0 c]at B;obtain⟨b7,W⟩:=ET w.b5 (nth w.Y.O i).Id a.Value m h.ref ω
  repeat'(first|refine gB ?_|(conv=>whnf);first|with_reducible refine CE (aa b) ?_|refine CC ?_|refine CG (g) ⟨⟨rfl,CR _⟩,trivial⟩ ?_|refine CK rfl (aa b) rfl ?_|refine CL (B) (.inl rfl) ?_|refine C9 (W) ?_|refine CC ?_)
  refine CH rfl rfl ?_;exact wC
 rw[CB (λx=>c x.2)];by_cases o:A5 w.Y (nth w.Y.O i).Addr<0
 ·have B:=(Jz w.Y (nth w.Y.O i).Addr a.Value (by have:=e.lens.larges;omega) e.L.lok o).frame (r:=aD.enc .V w.b5) ((de _).trans (de _).symm)
  repeat'(first|refine gB ?_|(conv=>whnf);first|with_reducible refine CE (aa b) ?_|refine CC ?_|refine CG (g) ⟨⟨rfl,CR _⟩,trivial⟩ ?_|refine CK rfl (aa b) rfl ?_|refine CL (B) (.inl rfl) ?_|refine CC ?_)
  refine CH rfl rfl ?_;exact wC
 have B:=(tU w.Y i a.Value e t ω).frame (r:=aD.enc .V w.b5) (by split<;>rfl);rw[CB c,W0 c]at B
 repeat'(first|refine gB ?_|(conv=>whnf);first|with_reducible refine CE (aa b) ?_|refine CC ?_|refine CG (g) ⟨⟨rfl,CR _⟩,trivial⟩ ?_|refine CK rfl (aa b) rfl ?_|refine CL (B) (.inl rfl) ?_|refine CC ?_)
 refine CH rfl rfl ?_;exact wC
def sH.fit{w:bo}{m:Nat}(h:sH w m)(a:iA w.Y.G.w):ac.sml w.Y/\ac.wf w.Y:=
 ⟨(h.inv.fit a (jZ.of h.inv.mail).sml).sml,h.inv.wf a⟩
def HM(w:bo)(a:eI)(m:Nat)(h:sH w m)(K:m<=900)(L:iA w.Y.G.w)(p:PR a):zzB 121 false [.ptr (se w),.val (some 5) (eI.enc .V a)] [.ptr (se (kR w a).1),.val (some 5) (eI.enc .V a)] .one [I (kR w a).2]:=by
 have i:=h.inv;have M:=p.k;have O:=p.n;have j:=i.nums;unfold cq at j;rw[C0]at j;unfold kR;refine fM 123 [(74,[2,0,0]),(274,[2,0]),(275,[2,0,0]),(276,[2,0]),(278,[2,0]),(279,[2]),(280,[2,0])] [(3,265,[13,14,15,16,17,18,19,21,22,0,1,2,3,4,5,6,7,8,9,10,11,1010,12]),(5,269,[26,27,28,29,30,31,32,33,25,34,35,36,37,0,1,2,3,4,5,6,7,8,9,10,11,12,13,1010]),(19,21,[62,63,64,65,66,67,68,69,70,71,72,73,74,75,76,77,78,79,80,81,82]),(21,5,[86,87,88,89,90])] [(0,0),(0,0)] Tryz.func121 rfl (λu q=>?_);by_cases F:a.b6=1
 ·rw[CD F]
  have c:=(re w.Y a.a5 a.N i).frame (r:=aD.enc .V w.b5) ((de _).trans (de _).symm);by_cases e:(allocH w.Y a.a5 a.N).2.2=0
  ·rw[CD e]
   have y:1<=a.N/\a.N<=1000:=by
    refine Classical.byContradiction λB=>?_
    unfold allocH at e;rw[CD B]at e;split at e
    ·exact absurd (show(5:Int)=0 from e) (by decide)
    split at e
    ·exact absurd (show(1:Int)=0 from e) (by decide)
    exact absurd (show(2:Int)=0 from e) (by decide)
   have o:=zS w.b5 a.N m h.ref ω y;generalize allocH w.Y a.a5 a.N=f at c e |-
   repeat'(first|refine gB ?_|(conv=>whnf);first|with_reducible refine Bf.E (λb=>?_) (λb=>?_)|refine CC ?_|refine CL (c) (.inl rfl) ?_|refine C9 (o) ?_|refine CC ?_)
   refine CH rfl rfl ?_;exact wC
  rw[CB e];generalize allocH w.Y a.a5 a.N=f at c e |-
  repeat'(first|refine gB ?_|(conv=>whnf);first|with_reducible refine Bf.E (λb=>?_) (λb=>?_)|refine CC ?_|refine CL (c) (.inl rfl) ?_|refine CC ?_)
  refine CH rfl rfl ?_;exact wC
 rw[CB F];by_cases G:a.b6=2\/a.b6=3\/a.b6=4
 ·rw[CD G]
  have c:=Gu w a.N (by have:=i.lens.objs;omega);by_cases e:rk w.Y a.N<0
  ·rw[CD e]
   repeat'(first|refine gB ?_|(conv=>whnf);first|with_reducible refine Bf.E (λb=>?_) (λb=>?_)|refine CC ?_|refine CL (c) (.inl rfl) ?_)
   all_goals first|omega|skip
   all_goals
    refine CH rfl rfl ?_;exact wC
  rw[CB e];obtain⟨P,S,T⟩:=fN (Pi a.N) w.Y.O (by unfold rk at e;omega);have o:=x9 w a (rk w.Y a.N).toNat m h K p P;rw[show(((rk w.Y a.N).toNat:Nat):Int)=rk w.Y a.N by omega]at o
  repeat'(first|refine gB ?_|(conv=>whnf);first|with_reducible refine Bf.E (λb=>?_) (λb=>?_)|refine CC ?_|refine CL (c) (.inl rfl) ?_|refine CL (o) (.inl rfl) ?_)
  all_goals first|omega|skip
  all_goals
   refine CH rfl rfl ?_;exact wC
 rw[CB G];by_cases C:a.b6=5\/a.b6=6\/a.b6=7
 ·rw[CD C]
  have c:=zC w a m h C
  repeat'(first|refine gB ?_|(conv=>whnf);first|with_reducible refine Bf.E (λb=>?_) (λb=>?_)|refine CC ?_|refine CL (c) (.inl rfl) ?_)
  all_goals first|omega|skip
  all_goals
   refine CH rfl rfl ?_;exact wC
 rw[CB C];by_cases H:a.b6=8
 ·rw[CD H]
  unfold mu;have d:=my w.Y.G (bv i.ker);rw[J3 i.ker]at d;have c:=aK a.N 0 1000;by_cases g:w.Y.G.Calls≠100000;rotate_left
  ·rw[CB (λx=>g x.1)]
   rw[W0 g]at d
   repeat'(first|refine gB ?_|(conv=>whnf);first|with_reducible refine Bf.E (λb=>?_) (λb=>?_)|refine CC ?_|refine CG (d) ⟨⟨rfl,CR _⟩,trivial⟩ ?_|refine CC ?_)
   refine CH rfl rfl ?_;exact wC
  rw[O0 g]at d;by_cases l:0<=a.N/\a.N<=1000;rotate_left
  ·rw[CB (λx=>l x.2.1)]
   rw[W0 l]at c
   repeat'(first|refine gB ?_|(conv=>whnf);first|with_reducible refine Bf.E (λb=>?_) (λb=>?_)|refine CC ?_|refine CG (d) ⟨⟨rfl,CR _⟩,trivial⟩ ?_|refine C9 (c) ?_|refine CC ?_)
   refine CH rfl rfl ?_;exact wC
  rw[O0 l]at c;by_cases D:w.Y.b2+a.N<=1000000
  ·rw[CD ⟨g,l,D⟩]
   have o:=(Dw w.Y a.N i l D).frame (r:=aD.enc .V w.b5) ((de _).trans (de _).symm)
   repeat'(first|refine gB ?_|(conv=>whnf);first|with_reducible refine Bf.E (λb=>?_) (λb=>?_)|refine CC ?_|refine CG (d) ⟨⟨rfl,CR _⟩,trivial⟩ ?_|refine C9 (c) ?_|refine CL (o) (.inl rfl) ?_|refine CC ?_)
   refine CH rfl rfl ?_;exact wC
  rw[CB (λx=>D x.2.2)]
  repeat'(first|refine gB ?_|(conv=>whnf);first|with_reducible refine Bf.E (λb=>?_) (λb=>?_)|refine CC ?_|refine CG (d) ⟨⟨rfl,CR _⟩,trivial⟩ ?_|refine C9 (c) ?_|refine CC ?_)
  refine CH rfl rfl ?_;exact wC
 rw[CB H];by_cases J:a.b6=9
 ·rw[CD J]
  unfold mt;obtain⟨Q,R⟩:=h.fit L;have d:=vW w.Y Q R;rw[show dM w.Y=true from i.to]at d;cases g:w.Y.u with
  | true=>
   rw[CD rfl]
   repeat'(first|refine gB ?_|(conv=>whnf);first|with_reducible refine Bf.E (λb=>?_) (λb=>?_)|refine CC ?_|refine Bf.t g ?_|refine CC ?_)
   refine CH rfl rfl ?_;exact wC
  | false=>
   rw[CB (by simp)];have c:=(Aj w.Y i).frame (r:=aD.enc .V w.b5) ((de _).trans (de _).symm);cases l:(started w.Y).2<;>rw[l]at c
   ·rw[CB (by simp)]
    repeat'(first|refine gB ?_|(conv=>whnf);first|with_reducible refine Bf.E (λb=>?_) (λb=>?_)|refine CC ?_|refine Bf.f g ?_|refine CG (d) ⟨⟨rfl,bL w.Y⟩,trivial⟩ ?_|refine CL (c) (.inl rfl) ?_|refine CC ?_)
    refine CH rfl rfl ?_;exact wC
   rw[CD rfl]
   repeat'(first|refine gB ?_|(conv=>whnf);first|with_reducible refine Bf.E (λb=>?_) (λb=>?_)|refine CC ?_|refine Bf.f g ?_|refine CG (d) ⟨⟨rfl,bL w.Y⟩,trivial⟩ ?_|refine CL (c) (.inl rfl) ?_|refine CC ?_)
   refine CH rfl rfl ?_;exact wC
 rw[CB J];have k10:a.b6=10:=ω
 have d:=aK a.N 0 50;by_cases g:0<=a.N/\a.N<=50
 ·rw[CD ⟨k10,g⟩]
  rw[O0 g]at d;obtain⟨n,B⟩:=O3 g.1;have c:=AF w m n h ω;rw[show a.N.toNat=n by omega];rw[<-B]at c
  repeat'(first|refine gB ?_|(conv=>whnf);first|with_reducible refine Bf.E (λb=>?_) (λb=>?_)|refine CC ?_|refine C9 (d) ?_|refine CL (c) (.inl rfl) ?_|refine CC ?_)
  refine CH rfl rfl ?_;exact wC
 rw[CB (λx=>g x.2)];rw[W0 g]at d
 repeat'(first|refine gB ?_|(conv=>whnf);first|with_reducible refine Bf.E (λb=>?_) (λb=>?_)|refine CC ?_|refine C9 (d) ?_|refine CC ?_)
 refine CH rfl rfl ?_;exact wC
def EC(w:bo)(h1:ac.sml w.Y)(a:aD.sml w.b5):zzA 122 false [.val (some 26) (bo.enc .V w)] .agg (bo.enc .own w):=by
 have b:=nS w.Y h1;have c:=eN w.b5 a;refine fO 10 [(1,5,[3,4,5,6,7])] Tryz.func122 rfl ?_ (.inr (bo.enc_fr _))
 repeat'(first|refine gP ?_|(conv=>whnf);first|refine C9 (b) ?_|refine C9 (c) ?_|refine CC ?_)
 rfl
def Df(c:cH)(acts:List eI)(h:GT c)(d:iA c.w)(n:∀a∈acts,PR a)(D:acts.length<=80):zzA 44 false [.val (some 5) (cH.enc .V c),.val none (pw .V acts)] (.tup [some 26,none]) (bo.enc .own (xa c acts acts.length).1++aH .own (xa c acts acts.length).2):=by
 have o:=zL c h;refine fP 42 [(121,[2,0]),(2000005,[6,21,25])] [] Tryz.func44 rfl ?_ (.inr (aL (bo.enc_fr _) (bT _)))
 repeat'(first|refine gE ?_|(conv=>whnf);first|refine C9 (o) ?_|refine Hq.mk rfl rfl rfl ?_)
 (conv=>whnf)
 refine CJ (ι:=Nat) (λi=>[(1,.H .one (pw .V acts)),(4,.H .box [.z,.z,.z,I 0,.z,.z,.z,.z,.z,.z,.z,.z,I 0,.z,I 0,I 0,I 0,I 0,B false,I 0,I 0,.z,I 0,I 0,I 0,.z]),(6,.H .box (se (xa c acts i).1)),(8,.H .one (aH .own (xa c acts i).2)),(9,.H .one [I ((i:Nat):Int)])]) (λi=>i<=acts.length) (λi=>acts.length - i) (0) ?_ (X0 _) λi p=>?_
 ·repeat'(first|exact trivial|rfl |exact pM q|exact eK _|refine CM ?_ ?_|(exact EO (by first|omega|(simp only;omega)|(simp;omega))))
 have e:=vm h acts i;have b:=J8 h acts i;have g:(xa c acts i).2.length=i:=by
  clear e b p
  induction i with
  | zero=>rfl
  | succ k t=>show((xa c acts k).2++[_]).length=_;rw[Y3,t];rfl
 by_cases j:i<acts.length
 ·have l:=au j
  have u:=HM (xa c acts i).1 (nth acts i) i e ω (by unfold rfs at b;rw[b];exact d) (n _ (ar j))
  repeat'(first|refine gE ?_|(conv=>whnf);first|with_reducible refine CE (aa l) ?_|refine CK rfl (aa l) rfl ?_|refine CL (u) (.inl rfl) ?_|refine CU cS (λr d=>by rw[V1.1 d];rfl) (by simp[bk,eD]) (by simp;omega) (by simp only[I1];exact y4 (by simp;omega) (by decide)) rfl ?_)
  ((conv=>whnf);refine CF (i+1) ω ω ?_)
  repeat'(first|exact trivial|rfl| exact eK _ |exact CM rfl (CM (Z0 (C.s dY.own) (by simp[xa,rI])) trivial)|refine CM ?_ ?_|(exact EO (by first|omega|(simp only;omega)|(simp;omega))))
 obtain rfl:i=acts.length:=ω
 have w:=e.fit (by unfold rfs at b;rw[b];exact d);have y:=EC (xa c acts acts.length).1 w.1 (e.ref.sml ω)
 repeat'(first|refine gE ?_|(conv=>whnf);first|refine CG (y) ⟨⟨rfl,QV _⟩,trivial⟩ ?_)
 rfl
def Fn(zs:List Int)(c:iQ):iA (pF zs c).w:=by
 show iA (pG zs 4 0 [] (Ec zs c).2).1;have key:∀(f i:Nat)(out:List Int)(c:iQ),(∀x∈out,nE x)->∀x∈(pG zs f i out c).1,nE x:=by
  intro f
  induction f with
  | zero=>intro i out c h;exact h
  | succ f b=>
   intro i out c h;unfold pG;split
   ·refine b _ _ _ λx a=>?_
    rcases V3.1 a with a|a
    ·exact h x a
    rw[V1.1 a];have:=bM zs (bB zs c 4).2 (n:=12) (by decide);exact⟨ω,ω⟩
   exact h
 exact⟨by
   have d:∀(f i:Nat)(out:List Int)(c:iQ),out.length+f<=4->(pG zs f i out c).1.length<=4:=by
     intro f
     induction f with
     | zero=>intro i out c h;exact h
     | succ f b=>
       intro i out c h;unfold pG;split
       · exact b _ _ _ (by simp only[Y3,List.length_singleton];omega)
       show out.length<=4;omega
   have:=d 4 0 [] (Ec zs c).2 (W3 _);omega,key 4 0 [] _ (λx a=>by cases a)⟩
def zP(zs:List Int)(a:kL zs):zzB 59 false [.ptr (iP zs (pm zs))] [.ptr (iP zs (lV zs (ed zs)).2)] .agg (bo.enc .own (drawn zs)):=by
 have b:(pm zs).i<=zs.length:=X0 _;obtain⟨g,d⟩:=pq b;have o:=bM zs (ed zs) (n:=41) (by decide);obtain⟨p,h,-⟩:=pY (zs:=zs) (c:=ed zs) d (n:=(bB zs (ed zs) 41).1.toNat) ω;have e:=yq zs (pm zs) a b;have j:=Dq zs (ed zs) a d;have k:=Df (pF zs (pm zs)) (lV zs (ed zs)).1 g (Fn zs _) h (by show(lC zs (ed zs) _).1.length<=80;omega);have l:drawn zs=(xa (pF zs (pm zs)) (lV zs (ed zs)).1 (lV zs (ed zs)).1.length).1:=rfl;rw[l];change aM _ _ _ _ [.ptr (iP zs (ed zs))] _ _ at e;generalize pF zs (pm zs)=cf at *;generalize r:lV zs (ed zs)=A at *;generalize t:xa cf A.1 A.1.length=R at *;refine fM 14 [(113,[2]),(114,[2,0])] [] [(0,0)] Tryz.func59 rfl (λu q=>?_) (.inr (bo.enc_fr _))
 repeat'(first|refine gP ?_|(conv=>whnf);first|refine CL (e) (.inl rfl) ?_|refine CL (j) (.inl rfl) ?_|refine CG (k) ⟨⟨rfl,cH.enc_fz _⟩,⟨rfl,LE _⟩,trivial⟩ ?_)
 refine CH rfl rfl ?_;exact wC
def Ux(z:List Int):List C:=[.s .V (z.map rU)]
def Gj(zs:List Int)(b:kL zs):sf Tryz.prog 60 true [.val none (Ux zs)] .box (iP zs (pm zs)):=by
 have r:=b.1;have e:IntKind.i64.wrap (98801+(zs.length:Nat))=w64 (98801+(zs.length:Nat)):=rfl;have g:qO zs 0=98801+(zs.length:Nat):=by show w64 _=_;rw[<-e];exact gc ω ω
 have a:=Z0 I g;refine Uj (n:=32) (t:=2) (mo:=[]) (tb:=[]) Tryz.func60 (by kernel_rfl) rfl (by kernel_rfl) (by rfl) rfl ?_
 repeat'(first|refine gP ?_|fail)
 (conv=>whnf)
 refine CJ (ι:=Nat) (λi=>[(0,.H .one (Ux zs)),(3,.H .one [I (qO zs i)]),(4,.H .one [I ((i:Nat):Int)])]) (λi=>i<=min zs.length 4000) (λi=>min zs.length 4000 - i) (0) ?_ (X0 _) λi u=>?_
 ·repeat'(first|exact trivial|rfl |exact pM a|exact eK _|refine CM ?_ ?_|(exact EO (by first|omega|(simp only;omega)|(simp;omega))))
 have h:IntKind.i64.wrap (qO zs i*131)=w64 (qO zs i*131):=rfl;have j:IntKind.i64.wrap (w64 (qO zs i*131)+nth zs i)=w64 (w64 (qO zs i*131)+nth zs i):=rfl;have k:IntKind.i64.wrap (w64 (w64 (qO zs i*131)+nth zs i)+7)=w64 (w64 (w64 (qO zs i*131)+nth zs i)+7):=rfl;have l:IntKind.i64.wrap (BitVec.ofInt IntKind.i64.bits (w64 (w64 (w64 (qO zs i*131)+nth zs i)+7)) &&& BitVec.ofInt IntKind.i64.bits 1073741823).toNat=qO zs (i+1):=rfl;by_cases c:i<zs.length/\i<4000
 ·have d:=au c.1
  have w:=b.2 _ (ar c.1);generalize qO zs i=H at *;generalize o:qO zs (i+1)=H2 at *
  repeat'(first|refine gE ?_|(conv=>whnf);first|with_reducible (first|refine CE (aa d) ?_|refine CN h ?_|refine CN j ?_|refine CN k ?_|refine CN l ?_)|refine CK rfl (aa d) rfl ?_)
  ((conv=>whnf);refine CF (i+1) ω ω ?_)
  rw[o];exact wC
 obtain rfl:i=min zs.length 4000:=ω
 have p:pm zs = ⟨0,qO zs (min zs.length 4000)⟩:=rfl;rw[p];generalize qO zs (min zs.length 4000)=H at *
 repeat'(first|refine gE ?_|(conv=>whnf);first|with_reducible refine Bf.D (λq=>?_) (λq=>?_))
 all_goals rfl
def xU(zs:List Int)(a:kL zs):zzA 15 false [.val none (Ux zs)] .agg (bo.enc .own (drawn zs)):=by
 have b:=Gj zs a;have c:=zP zs a;refine fP 6 [(59,[2])] [] Tryz.func15 rfl ?_ (.inr (bo.enc_fr _))
 repeat'(first|refine gP ?_|(conv=>whnf);first|refine Cl.g b (.inr rfl) ?_|refine CL (c) (.inl rfl) ?_)
 rfl
def cls(h:ac):Int:=h.G.Calls
def EF(k:ah)(p:Int):(newK k p).1.Calls=k.Calls+1:=by unfold newK;split<;>rfl
def Gx(k:ah)(p:Int):∀n:Nat,(newsK k p n).1.Calls<=k.Calls+n
 | 0=>by show k.Calls<=k.Calls+0;omega
 | n+1=>by
  have a:=Gx k p n;unfold newsK;split
  ·refine O5 (W5 (EF (newsK k p n).1 (p+(n:Nat)))) ?_
   omega
  omega
def Na(h:ac)(i:Nat):cls (iN h i).1=cls h:=by unfold iN;split<;>rfl
def LG(h:ac)(t c:Nat):cls (smallA h t c).1<=cls h+1:=by
 unfold smallA;split
 ·show cls h<=_;omega
 split
 ·show cls h<=_;omega
 split
 ·show cls h<=_;omega
 split
 ·exact W5 (EF _ _)
 exact W5 ((Na _ _).trans (EF _ _))
def MW(h:ac)(t i:Nat):cls (freeT h t i).1=cls h:=by
 unfold freeT;split
 ·exact(ll _ _ _).1
 split
 ·rfl
 split
 ·exact(f6 t _ _).2.2.1
 split<;>rfl
def Bl(t:Nat)(h:ac):∀k,cls (flushN t h k).1=cls h
 | 0=>rfl
 | k+1=>((fX _ (spilt (flushN t h k).1 t k)).2.2.1).trans (Bl t h k)
set_option maxHeartbeats 2000000
set_option maxHeartbeats 2000000
set_option maxHeartbeats 2000000
set_option maxHeartbeats 2000000
set_option maxHeartbeats 2000000
set_option maxHeartbeats 2000000
def Ak(h:ac):zzA 71 false [.val (some 24) (ac.enc .V h)] .one [I (eU h:Nat)]:=by
 refine fO 9 [] Tryz.func71 rfl ?_
 repeat'(first|refine gP ?_|(conv=>whnf);first|refine CC ?_)
 rfl
variable{h:ac}
def Hh(e:iw h=false):reset h=h:=by unfold reset;rw[e];rfl
def MD(e:iw h=true):reset h=dR h:=by unfold reset;rw[e];rfl
def yk(h:ac)(e:ac.sml h):zzA 21 false [.val (some 24) (ac.enc .V h)] (.tup [some 24,none]) (ac.enc .own (reset h)++[B (iw h)]):=by
 have b:=kn h e;rw[n9]at b;have i:=ry h e;cases c:dM h<;>rw[c]at b
 ·have a:iw h=false:=by unfold iw;rw[c];rfl
  rw[Hh a,a];refine fO 54 [(4,274,[25,26,27,28,29,30,31,32,33,34,35,36,37,38,24,39,40,6,0,1,2,3,4,5,6,7,8,9,10,11,12,13,14,15,16,17,18,1016,19])] Tryz.func21 rfl ?_ (.inr (aL (ac.enc_fr _) ⟨trivial,trivial⟩))
  repeat'(first|refine gP ?_|(conv=>whnf);first|refine CC ?_|refine C9 (b) ?_|refine C9 (i) ?_)
  rfl
 obtain⟨o,p,q,r,t,u,w,y,C,b10⟩:=wh c;by_cases j:h.G.Calls=100000
 ·have a:iw h=false:=by unfold iw;rw[c,W0 (λn=>n j)];rfl
  rw[Hh a,a];refine fO 54 [(4,274,[25,26,27,28,29,30,31,32,33,34,35,36,37,38,24,39,40,6,0,1,2,3,4,5,6,7,8,9,10,11,12,13,14,15,16,17,18,1016,19])] Tryz.func21 rfl ?_ (.inr (aL (ac.enc_fr _) ⟨trivial,trivial⟩))
  repeat'(first|refine gB ?_|(conv=>whnf);first|refine CC ?_|refine C9 (b) ?_|refine C9 (i) ?_)
  rfl
 have a:iw h=true:=by unfold iw;rw[c,O0 j];rfl
 have g:=n8 h e;have l:=DM (eU h) h.G.F.W.a1.length h.S.length h.b1 ω ω ω ω;rw[MD a,a];unfold dR;generalize destroyed h=d at g |-;obtain⟨k,m⟩:=d;simp only at g |-;refine fO 54 [(4,274,[25,26,27,28,29,30,31,32,33,34,35,36,37,38,24,39,40,6,0,1,2,3,4,5,6,7,8,9,10,11,12,13,14,15,16,17,18,1016,19])] Tryz.func21 rfl ?_ (.inr (aL (ac.enc_fr _) ⟨trivial,trivial⟩))
 repeat'(first|refine gB ?_|(conv=>whnf);first|refine CC ?_|refine C9 (b) ?_|refine C9 (g) ?_|refine C9 (Ak h) ?_|refine C9 (l) ?_)
 rfl
def yR(h:ac):Int:=if dM h then 4*gg h.G.F.W / h.G.F.W.a1.length else 0
def mB{k:ah}(a:aC k=true):∀n,n<=k.F.Q.J.length->∀q,q<n->(nth (destr k n).1.F.Q.J q).e=0
 | 0,_,q,c=>by omega
 | n+1,f,q,c=>by
  have b:=(gV k n).1;unfold destr;split
  ·rename_i e
   by_cases d:q=n
   ·subst d
    unfold af at e;rw[CD (by rw[b];omega)]at e;exact e
   exact mB a n ω q ω
  show(nth (cj (destr k n).1 n).F.Q.J q).e=0;rw[lF (fg a n) (by rw[b];omega) q];split
  ·rfl
  exact mB a n ω q ω
def t6{t:aJ}(a:∀q,q<t.J.length->(nth t.J q).e=0)(f:Int):pagesOn t f=[]:=by
 unfold pagesOn j8;rw[List.map_eq_nil_iff,List.filter_eq_nil_iff];intro i b;have c:=a i (List.mem_range.1 b);unfold MS;rw[c];simp
def so{a:List Bool} : ∀n,(∀j,j<n->nth a j=false)->lL a n=0
 | 0,_=>rfl
 | n+1,h=>by rw[Fj (h n ω)];exact so n λj b=>h j ω
def HU(a:aZ h [])(o:h.G.Calls≠100000):aZ (dR h) []/\yR (dR h)=0:=by
 have e:=a.to;have b:(destroyed h).1=(destr h.G h.G.F.Q.J.length).1:=by unfold destroyed;rw[CD ⟨e,o⟩]
 have u:=wh e;have f:=a.nums;unfold cq at f;rw[C0]at f;have g:aC (destroyed h).1=true:=by rw[b];exact fg a.ker _
 have i:(destroyed h).1.F.Q.J.length=eU h:=by rw[b];exact(gV _ _).1
 have k:∀q,q<(destroyed h).1.F.Q.J.length->(nth (destroyed h).1.F.Q.J q).e=0:=by
  intro q l;rw[i]at l;rw[b];exact mB a.ker _ (W3 _) q l
 have c:=aZ.fresh (t:=h.S.length) (lim:=h.b1) (sd:=h.b3) (ck:=h.b2) g k ω ω ω ω;unfold qd at c;rw[i]at c;have d:aZ (dR h) []:=c;refine⟨d,?_⟩;unfold yR;rw[CD d.to];have p:gg (dR h).G.F.W=0:=by
  unfold gg;rw[CD (aG.1 d.ker).2.1];refine so _ λj r=>?_
  have n:=(aG.1 g).2.2.2.1 j r;rw[t6 k]at n;exact n
 rw[p];simp
def G7(zs:List Int):iA (drawn zs).Y.G.w:=by
 have a:(pm zs).i<=zs.length:=X0 _;have:=J8 (pq a).1 (lV zs (ed zs)).1 (lV zs (ed zs)).1.length;unfold rfs at this;show iA (xa _ _ _).1.Y.G.w;rw[this];exact Fn zs _
def Mn(zs:List Int):ac.sml (drawn zs).Y/\ac.wf (drawn zs).Y:=(zp zs).fit (G7 zs)
def T8(zs:List Int)(a:zs.length<=9223372036854775807):zzA 14 false [.val none (Ux zs)] .one [B (decide ((zs.length:Int) > 1048576))]:=by
 refine fO 6 [] Tryz.func14 rfl ?_
 repeat'(first|refine gP ?_|fail)
 rfl
def jw(sp:List aA)(ps:List Int)(b:Int):Nat->Int
 | 0=>b
 | j+1=>if(nth sp j).R∈ps then bor (jw sp ps b j) (nth sp j).a9 else jw sp ps b j
def xO{sp:List aA}(h:∀s∈sp,bi s=true){ps:List Int}{b:Int}(a:0<=b/\b<=65535):∀j,j<=sp.length->0<=jw sp ps b j/\jw sp ps b j<=65535
 | 0,_=>a
 | j+1,d=>by
  have c:=xO h (ps:=ps) a j ω;simp only[jw];split
  ·exact H1 c (mr h ω)
  exact c
def rn(h:ac)(i:Nat)(n:dC h.K)(c:zo h)(a:∀s∈h.K,bi s=true)(t:i<h.K.length):zzA 336 false [.val (some 24) (ac.enc .V h),.val none [I (i:Nat)]] .one [I (jw h.K (aW h (nth h.K i).R) (nth h.K i).a9 h.K.length)]:=by
 have C:=n.1;have u:=au t;have d:=mr a t;have w:=aO ((i:Nat):Int) 0 ((h.K.length:Int) - 1);rw[O0 (show(0:Int)<=(i:Nat)/\((i:Nat):Int)<=(h.K.length:Int) - 1 by omega)]at w;have y:=oT h (nth h.K i).R c;have o:=gv h (nth h.K i).R;have D:eU h<=1048576:=c.1;obtain⟨ps,p⟩ : ∃ps,aW h (nth h.K i).R=ps:=⟨_,rfl⟩
 obtain⟨b,q⟩ : ∃b,(nth h.K i).a9=b:=⟨_,rfl⟩
 rw[p]at y o |-;rw[q]at d |-;have E:jw h.K ps b 0=b:=rfl;refine fO 47 [(4,7,[22,23,24,25,26,27,28])] Tryz.func336 rfl ?_
 repeat'(first|refine gP ?_|(conv=>whnf);first|with_reducible refine CE (aa u) ?_|refine C9 (w) ?_|refine C9 (y) ?_|refine CK rfl (aa u) rfl ?_)
 (conv=>whnf)
 refine CJ (ι:=Nat) (λj=>[(5,.H .one [I (jw h.K ps b j)]),(6,.H .one (aH .own ps)),(31,.H .one (cF .V h.K)),(32,.H .one [I ((h.K.length:Nat))]),(33,.H .one [I ((j:Nat):Int)])]) (λj=>j<=h.K.length) (λj=>h.K.length - j) (0) ?_ (X0 _) λj F=>?_
 ·exact wC
 by_cases B:j<h.K.length
 ·have k:=au B
  have r:=xO a (ps:=ps) d j F;have l:=qW ps (nth h.K j).R ω;by_cases e:(nth h.K j).R∈ps
  ·have g:jw h.K ps b (j+1)=bor (jw h.K ps b j) (nth h.K j).a9:=CD e
   rw[O0 e]at l
   repeat'(first|refine gE ?_|(conv=>whnf);first|with_reducible refine CE (aa k) ?_|refine CK rfl (aa k) rfl ?_|refine CN (or64 r (mr a B)) ?_|refine CG (l) ⟨⟨rfl,dK _⟩,⟨rfl,rfl⟩,trivial⟩ ?_)
   ((conv=>whnf);refine CF (j+1) ω ω ?_;(exact wC))
  have g:jw h.K ps b (j+1)=jw h.K ps b j:=CB e;rw[W0 e]at l
  repeat'(first|refine gE ?_|(conv=>whnf);first|with_reducible refine CE (aa k) ?_|refine CK rfl (aa k) rfl ?_|refine CG (l) ⟨⟨rfl,dK _⟩,⟨rfl,rfl⟩,trivial⟩ ?_)
  ((conv=>whnf);refine CF (j+1) ω ω ?_;(exact wC))
 obtain rfl:j=h.K.length:=ω
 repeat'(first|refine gE ?_|fail)
 rfl
def PA(a b:Int)(k:Nat):(bor a b).toNat.testBit k=true↔a.toNat.testBit k=true\/b.toNat.testBit k=true:=by
 unfold bor;rw[I3,Nat.testBit_or,C7]
def Ka(sp:List aA)(p b:Int)(k:Nat):∀j,(po sp p b j).toNat.testBit k=true↔b.toNat.testBit k=true\/∃i,i<j/\(nth sp i).R=p/\(nth sp i).a9.toNat.testBit k=true
 | 0=>by simp[po]
 | j+1=>by
  have g:=Ka sp p b k j;simp only[po];split
  ·rename_i e
   rw[PA,g];constructor
   ·rintro((h|⟨i,d,a,c⟩)|h)
    ·exact .inl h
    ·exact .inr ⟨i,ω,a,c⟩
    exact .inr ⟨j,ω,e,h⟩
   rintro(h|⟨i,d,a,c⟩)
   ·exact .inl (.inl h)
   by_cases f:i=j
   ·subst f;exact .inr c
   exact .inl (.inr ⟨i,ω,a,c⟩)
  rename_i e;rw[g];constructor
  ·rintro(h|⟨i,d,a,c⟩)
   ·exact .inl h
   exact .inr ⟨i,ω,a,c⟩
  rintro(h|⟨i,d,a,c⟩)
  ·exact .inl h
  by_cases f:i=j
  ·subst f;exact absurd a e
  exact .inr ⟨i,ω,a,c⟩
def Gi(sp:List aA)(ps:List Int)(b:Int)(k:Nat):∀m,(iq sp ps b m).toNat.testBit k=true↔b.toNat.testBit k=true\/∃u,u<m/\∃i,i<sp.length/\(nth sp i).R=nth ps u/\(nth sp i).a9.toNat.testBit k=true
 | 0=>by simp[iq]
 | m+1=>by
  have c:=Gi sp ps b k m;simp only[iq];rw[Ka,c];constructor
  ·rintro((h|⟨u,d,a⟩)|h)
   ·exact .inl h
   ·exact .inr ⟨u,ω,a⟩
   exact .inr ⟨m,ω,h⟩
  rintro(h|⟨u,d,a⟩)
  ·exact .inl (.inl h)
  by_cases e:u=m
  ·subst e;exact .inr a
  exact .inl (.inr ⟨u,ω,a⟩)
def GG(sp:List aA)(ps:List Int)(b:Int)(k:Nat):∀j,(jw sp ps b j).toNat.testBit k=true↔b.toNat.testBit k=true\/∃i,i<j/\(nth sp i).R∈ps/\(nth sp i).a9.toNat.testBit k=true
 | 0=>by simp[jw]
 | j+1=>by
  have g:=GG sp ps b k j;simp only[jw];split
  ·rename_i e
   rw[PA,g];constructor
   ·rintro((h|⟨i,d,a,c⟩)|h)
    ·exact .inl h
    ·exact .inr ⟨i,ω,a,c⟩
    exact .inr ⟨j,ω,e,h⟩
   rintro(h|⟨i,d,a,c⟩)
   ·exact .inl (.inl h)
   by_cases f:i=j
   ·subst f;exact .inr c
   exact .inl (.inr ⟨i,ω,a,c⟩)
  rename_i e;rw[g];constructor
  ·rintro(h|⟨i,d,a,c⟩)
   ·exact .inl h
   exact .inr ⟨i,ω,a,c⟩
  rintro(h|⟨i,d,a,c⟩)
  ·exact .inl h
  by_cases f:i=j
  ·subst f;exact absurd a e
  exact .inr ⟨i,ω,a,c⟩
def Nh{sp:List aA}(h:∀s∈sp,bi s=true){ps:List Int}{b:Int}(f:0<=b/\b<=65535):jw sp ps b sp.length=iq sp ps b ps.length:=by
 have a:=xO h (ps:=ps) f sp.length (W3 _);have c:=lG h (ps:=ps) f ps.length;have e:(jw sp ps b sp.length).toNat=(iq sp ps b ps.length).toNat:=by
  apply Nat.eq_of_testBit_eq;intro k;rw[C5,GG,Gi];constructor
  ·rintro(h|⟨i,a,c,d⟩)
   ·exact .inl h
   obtain⟨u,g⟩:=List.getElem?_of_mem c;exact .inr ⟨u,(Z2.1 g).1,i,a,(bn g).symm,d⟩
  rintro(h|⟨u,a,i,c,d,j⟩)
  ·exact .inl h
  exact .inr ⟨i,c,by rw[d];exact ar a,j⟩
 omega
variable{i:Nat}
def vE(a:∀s∈h.K,bi s=true)(b:i<h.K.length):jw h.K (aW h (nth h.K i).R) (nth h.K i).a9 h.K.length=dL h i:=Nh a (mr a b)
def xn(h:ac)(a:∀o∈h.O,0<=o.q/\o.q<=1000)(e:h.O.length<=1048576):zzA 18 false [.val (some 24) (ac.enc .V h)] .one [I (iS h)]:=by
 refine fO 19 [] Tryz.func18 rfl ?_
 repeat'(first|refine gP ?_|fail)
 (conv=>whnf)
 refine CJ (ι:=Nat) (λk=>[(3,.H .one [I (rE h.O k)]),(7,.H .one (nL .V h.O)),(8,.H .one [I (h.O.length)]),(9,.H .one [I ((k:Nat):Int)])]) (λk=>k<=h.O.length) (λk=>h.O.length - k) (0) ?_ (X0 _) λk d=>?_
 ·exact wC
 have g:=n7 a k d;by_cases b:k<h.O.length
 ·have c:=au b
  have i:=a _ (ar b)
  repeat'(first|refine gE ?_|(conv=>whnf);first|refine CE (aa c) ?_|refine CK rfl (aa c) rfl ?_)
  ((conv=>whnf);refine CF (k+1) ω ω ?_;(exact wC))
 obtain rfl:k=h.O.length:=ω
 repeat'(first|refine gE ?_|fail)
 rfl
def qf(k b:Int)(e:b<=9223372036854775807):zzA 334 false [.val none [I (slots k)],.val none [I b]] .one (aH .own (oI k b)):=by
 have c:=rx k b;have n:0<=slots k/\slots k<=16:=by unfold slots;repeat' split<;>omega
 unfold oI;cases g:L0 k b<;>rw[g]at c
 ·rw[CB (by simp)]
  refine fO 26 [] Tryz.func334 rfl ?_ (.inr (bT _))
  repeat'((conv=>whnf);first|with_reducible (first|refine Lm ?_|refine Wm ω ?_|refine Bn ?_|refine jt.wk rfl ?_)|refine Bt ?_|refine Bu ?_|refine C9 (c) ?_)
  all_goals exact⟨rfl,trivial⟩
 rw[CD rfl];refine fO 26 [] Tryz.func334 rfl ?_ (.inr (bT _))
 repeat'(first|refine gP ?_|(conv=>whnf);first|refine C9 (c) ?_)
 (conv=>whnf)
 refine CJ (ι:=Nat) (λj=>[(0,.H .one [I (slots k)]),(1,.H .one [I (b)]),(5,.H .one (aH .own (lN b j))),(6,.H .one [I ((j:Nat):Int)])]) (λj=>j<=(slots k).toNat) (λj=>(slots k).toNat - j) (0) ?_ (X0 _) λj o=>?_
 ·exact wC
 have h:=qG b j;by_cases p:j<(slots k).toNat
 ·have d:=ov b (j:Nat) e
  have a:lN b (j+1)=if bc b (j:Nat)=true then lN b j else lN b j++[((j:Nat):Int)]:=rfl
  cases i:bc b (j:Nat)<;>rw[i]at d a
  ·rw[CB (by simp)]at a
   repeat'(first|refine gE ?_|(conv=>whnf);first|refine C9 (d) ?_|refine CU cS (λr l=>by rw[V1.1 l];rfl) (by simp[bk,eD]) (by simp;omega) (by simp only[I1];exact y4 (by simp;omega) (by decide)) rfl ?_)
   ((conv=>whnf);refine CF (j+1) ω ω ?_)
   rw[a]
   repeat'(first|exact trivial|rfl| exact eK _ |exact CM rfl (CM (Z0 (C.s dY.own) (by simp[rI])) trivial)|refine CM ?_ ?_|(exact EO (by first|omega|(simp only;omega)|(simp;omega))))
  rw[CD rfl]at a
  repeat'(first|refine gE ?_|(conv=>whnf);first|refine C9 (d) ?_)
  ((conv=>whnf);refine CF (j+1) ω ω ?_)
  rw[a];exact wC
 obtain rfl:j=(slots k).toNat:=ω
 repeat'(first|refine gE ?_|fail)
 rfl
def A3(b i:Int)(d:0<=b/\b<=65535)(a:0<=i/\i<=15):zzA 338 false [.val none [I b],.val none [I i]] .one [I (gx b i)]:=by
 have c:=uK b i;rw[O0 ω]at c;have e:=(or64 (z1:=b) (z2:=2 ^ i.toNat) d (by have:=shl64 a;omega)).trans (BV b i);refine fO 14 [] Tryz.func338 rfl ?_
 repeat'(first|refine gP ?_|(conv=>whnf);first|refine C9 (c) ?_|refine CP ω ?_|refine CN (shl64 a).1 ?_|refine CN e ?_)
 rfl
def BJ(f:aU)(i:Nat):aU.enc .own ⟨f.T,f.a1.set i true⟩ = [.s .own (f.T.map (aH .own)),.s .own ((f.a1.map (rB .own)).set i (rB .own true))]:=by
 simp[aU.enc,Z6]
def vV(f:aU):aU × Int × Bool:=
 if cZ (λu=>!u) f.a1<0 then(f,-1,false) else(⟨f.T,f.a1.set (cZ (λu=>!u) f.a1).toNat true⟩,cZ (λu=>!u) f.a1,true)
def xv(f:aU)(l:db f=true)(b:aU.sml f):zzA 460 false [.val (some 2) (aU.enc .V f)] (.tup [some 2,none,none]) (aU.enc .own (vV f).1++[I (vV f).2.1,B (vV f).2.2]):=by
 have n:=oR f b;have h:=ri f b;rw[l]at h;have p:f.a1.length<=1048576:=b.2;refine fO 30 [] Tryz.func460 rfl ?_ (.inr (aL (aU.enc_fr _) ⟨trivial,trivial,trivial⟩))
 repeat'(first|refine gP ?_|(conv=>whnf);first|refine C9 (n) ?_|refine C9 (h) ?_)
 (conv=>whnf)
 refine CJ (ι:=Nat) (λi=>[(2,.H .box [.z,.z]),(5,.H .box (aU.enc .own f)),(13,.H .one (wV .V f.a1)),(14,.H .one [I (f.a1.length)]),(15,.H .one [I ((i:Nat):Int)])]) (λi=>i<=f.a1.length/\∀(j:Nat)(z:Bool),j<i->f.a1[j]? = some z->(!z)=false) (λi=>f.a1.length - i) (0) ?_ (⟨X0 _,λj z q=>ω⟩) λi k=>?_
 ·exact wC
 obtain⟨k,c⟩:=k;by_cases o:i<f.a1.length
 ·have a:=au o
  cases e:nth f.a1 i<;>rw[e]at a
  ·have d:cZ (λu=>!u) f.a1=(i:Nat):=dQ a rfl c
   have g:vV f=((⟨f.T,f.a1.set i true⟩ : aU),((i:Nat):Int),true):=by unfold vV;rw[d,CB ω];rfl
   rw[g];simp only;rw[BJ]
   repeat'(first|refine gE ?_|(conv=>whnf);first|with_reducible refine CE (aa a) ?_|refine CQ rfl rfl (aa a) rfl (O1 rfl) rfl ?_)
   rfl
  repeat'(first|refine gE ?_|(conv=>whnf);first|with_reducible refine CE (aa a) ?_)
  ((conv=>whnf);refine CF (i+1) ⟨ω,eg a rfl c⟩ ω ?_;(exact wC))
 have d:cZ (λu=>!u) f.a1 = -1:=gq ω c;have g:vV f=(f,-1,false):=by unfold vV;rw[d];rfl
 rw[g]
 repeat'(first|refine gE ?_|fail)
 rfl
variable{r:List C}{k:Nat}{rows:List (List C)}{w:World}
def dJ.fzAt{S F:am}{o:dY}{v:Value}(h:dJ w S F (.s o rows) v)(ho:o≠.V)(D:rows[k]? = some r) :
  ∃V:am,(∀b q,V b q->F b q)/\dJ w (λb q=>S b q\/V b q) (λb q=>F b q/\¬V b q) (.s o (rows.set k (dG r))) v:=by
 cases h with
 | nil=>simp at D
 | V=>exact absurd rfl ho
 | own _ _ g K n O _ u f P Q M E G X hu N Y Z=>
  have A:k<n:=by have:=(Z2.1 D).1;omega
  have hq:∀j,j<K->(k*K+j) / K=k:=λj a=>by
   rw[Nat.mul_comm,Nat.mul_add_div ω,Nat.div_eq_of_lt a,Nat.add_zero]
  refine⟨λb q=>∃j,j<K/\f (k*K+j) b q,λb q ⟨j,a,l⟩=>(N _ (dH A a) b q l).1,?_⟩;refine .own _ o g K n O _ u (λq=>if q / K=k then NO else f q) P (by simpa using Q) (λr' R=>?_) E G (λq d=>⟨⟨(X q d).1,λ⟨j,a,l⟩=>(N _ (dH A a) _ _ l).2 ⟨rfl,d⟩⟩,(X q d).2⟩) hu (λq d b y l=>?_) (λq T h1 h2 h3 b y H J=>?_) (λi j r' c L a=>?_)
  ·rcases O7 R with h|rfl
   ·exact M _ h
   rw[ch,I1];exact M _ (O2 D)
  ·replace l:(if q / K=k then NO else f q) b y:=l
   split at l
   ·exact l.elim
   rename_i B;refine⟨⟨(N q d b y l).1,λ⟨j,a,U⟩=>Y q (k*K+j) d (dH A a) (λe=>B (by rw[e];exact hq j a)) b y l U⟩,(N q d b y l).2⟩
  ·replace H:(if q / K=k then NO else f q) b y:=H
   replace J:(if T / K=k then NO else f T) b y:=J;split at H
   ·exact H.elim
   split at J
   ·exact J.elim
   exact Y q T h1 h2 h3 b y H J
  by_cases e:i=k
  ·subst e
   have W:(rows.set i (dG r))[i]? = some (dG r):=by
    rw[v4 ω]
   rw[W]at L;obtain rfl:=Option.some.inj L;rw[ch,X3]at a;cases p:r[j]? with
   | none=>rw[p]at a;cases a
   | some c'=>
    rw[p]at a;simp only[Y5,C1]at a;subst a;have t:=(su Q M D p).2;show dJ w _ (if(i*K+j) / K=i then NO else f (i*K+j)) _ _;rw[CD (hq j t)];exact(Z i j r c' D p).freeze.mono (λb o h=>h.elim .inl λh=>.inr ⟨j,t,h⟩) (λ_ _ h=>h)
  rw[List.getElem?_set_ne ω]at L;have t:=(su Q M L a).2;have B:¬(i*K+j) / K=k:=by
   rw[Nat.mul_comm,Nat.mul_add_div ω,Nat.div_eq_of_lt t,Nat.add_zero];exact e
  show dJ w _ (if(i*K+j) / K=k then NO else f (i*K+j)) _ _;rw[CB B];exact(Z i j r' c L a).mono (λ_ _ h=>.inl h) (λ_ _ h=>h)
def cP.fzAt{S F:am}{cs:List C}{u:Nat->Value}(h:cP w S F cs u){off:Nat}{o:dY}(B:cs[off]? = some (.s o rows))(G:o≠.V)(H:rows[k]? = some r) :
  ∃V:am,(∀b q,V b q->F b q)/\cP w (λb q=>S b q\/V b q) (λb q=>F b q/\¬V b q) (cs.set off (.s o (rows.set k (dG r)))) u:=by
 obtain⟨f,D,y,t⟩:=h;have i:=(Z2.1 B).1;obtain⟨V,E,J⟩:=(D off _ B).fzAt G H;refine⟨V,λb q A=>y off i b q (E b q A),λj=>if j=off then(λb q=>f off b q/\¬V b q) else f j,λj c g=>?_,λj g b q d=>?_,λj p g l n b q d a=>?_⟩
 ·by_cases e:j=off
  ·subst e
   rw[v4 i]at g;obtain rfl:=Option.some.inj g;simpa using J
  rw[List.getElem?_set_ne ω]at g;show dJ w _ (if j=off then _ else f j) _ _;rw[CB e];exact(D j c g).mono (λ_ _ h=>.inl h) (λ_ _ h=>h)
 ·rw[Z1]at g
  replace d:(if j=off then(λb q=>f off b q/\¬V b q) else f j) b q:=d;split at d
  ·exact⟨y off i b q d.1,d.2⟩
  rename_i e;exact⟨y j g b q d,λA=>t j off g i e b q d (E b q A)⟩
 rw[Z1]at g l;replace d:(if j=off then(λb q=>f off b q/\¬V b q) else f j) b q:=d;replace a:(if p=off then(λb q=>f off b q/\¬V b q) else f p) b q:=a;split at d
 ·rename_i e
  rw[CB ω]at a;exact t j p g l n b q (e ▸ d.1) a
 split at a
 ·rename_i e
  exact t j p g l n b q d (e ▸ a.1)
 exact t j p g l n b q d a
variable{rcs:List C}{f:Nat}{P:Program}
def ay.fzAt{sh:Bool}{A:List RA}{k:Kd}(h:ay P f sh A k rcs){off:Nat}{o:dY}(g:rcs[off]? = some (.s o rows))(i:o≠.V){j:Nat}(l:rows[j]? = some r) :
  ay P f sh A k (rcs.set off (.s o (rows.set j (dG r)))):=by
 obtain⟨n,p⟩:=h;refine⟨n,λw S t u y=>(p w S t u y).mono λe w1 B=>?_⟩;obtain⟨v,D,E,X,M,d,F,G,H,J⟩:=B;obtain⟨V,K,L⟩:=J.fzAt g i l;refine⟨v,D,E,_,_,λb q c=>d b q c.1,λb q c=>?_,λb q c a=>?_,by rw[Z1];exact H,L⟩
 ·rcases c with c|c
  ·exact F b q c
  exact .inr (d b q (K b q c))
 rcases a with a|a
 ·exact G b q c.1 a
 exact c.2 a
def aM.noS{A B:List MA}{k:Kd}(h:aM P f true A B k rcs)(d:∀(w:World)(S:am)(V:Nat->am)(vs:List Value),KP w S V A vs->KP w NO V A vs):aM P f false A B k rcs:=by
 obtain⟨g,j⟩:=h;refine⟨g,λw S V vs M l c n=>(j w NO V vs (λ_ _ h=>h.elim) (λi b o a=>⟨(l i b o a).1,λh=>h.elim⟩) c (d w S V vs n)).mono λe w1 p=>?_⟩;obtain⟨v,q,r,X,t,u,y,D,E,F,G,H,J,K,L,a10⟩:=p;exact⟨v,q,r,X,t,u,y,D,λb o a=>(E b o a).elim (λh=>h.2.elim) .inr,F,G,H,J,K,L,a10.mono λb o a=>a.elim (λh=>h.elim) .inr⟩
def UU(c:aE)(k:Nat):List C:=if 0<(nth c.a k).length then [.s .own ((c.a.map (aH .own)).set k (aH .V ((nth c.a k).take ((nth c.a k).length - 1)))),I (nth (nth c.a k) ((nth c.a k).length - 1)),B true] else aE.enc .own c++[I (-1),B false]
def yj(c:aE)(k:Nat)(r:bx c=true)(P:k<=3):zzB 186 false [.mut (some 1) (aE.enc .own c),.val none [I (k:Nat)]] [.mut (some 1) (aE.enc .own c),.val none [I (k:Nat)]] (.tup [some 1,none,none]) (UU c k):=by
 obtain⟨Q,t⟩:=eQ r;have d:aE.sml c:=⟨ω,λl C=>by have:=t l C;show l.length<=1048576;omega⟩
 have e:=H6 c k d;rw[r,O0 ω]at e;have a:=q7 (c:=c) (k:=k) ω;have D:=t _ (ar (xs:=c.a) (i:=k) ω);refine aM.noS ?_ λw S V E F=>?_
 case refine_2=>
  match E,F with
  | [v,R],⟨⟨G,u,H,J⟩,⟨K,L,M,N⟩,_⟩=>
   exact⟨⟨G,u,H,J.fresh (Ci c)⟩,⟨K,L,M,N.fresh ⟨trivial,trivial⟩⟩,trivial⟩
 unfold UU;by_cases y:0<(nth c.a k).length
 ·rw[CD y]
  have g:zzA 182 false [.val (some 1) (aE.enc .V c)] .agg [.s .own ((c.a.map (aH .own)).set k (aH .V (nth c.a k)))]:=by
   have h:=(lY c d).fzAt (off:=0) (o:=.own) (rows:=c.a.map (aH .own)) rfl (by simp) (j:=k) (aa a);rw[dK]at h;exact h
  have n:((c.a.map (aH .own)).set k (aH .V (nth c.a k)))[k]? = some (aH .V (nth c.a k)):=v4 (by rw[I1];omega);have B:=au (xs:=nth c.a k) (i:=(nth c.a k).length - 1) ω;have b:(nth c.a k)[(((nth c.a k).length:Int) - 1).toNat]? = some (nth (nth c.a k) ((nth c.a k).length - 1)):=by rw[show(((nth c.a k).length:Int) - 1).toNat=(nth c.a k).length - 1 by omega];exact B
  have p:((((nth c.a k).length:Nat):Int) - 1)=(((nth c.a k).length - 1:Nat):Int):=ω
  have O:((c.a.map (aH .own)).set k (aH .V (nth c.a k))).set k (aH .V ((nth c.a k).take ((nth c.a k).length - 1)))=(c.a.map (aH .own)).set k (aH .V ((nth c.a k).take ((nth c.a k).length - 1))):=List.set_set ..;rw[<-O];refine fM 54 [] [(6,10,[41,42,43,44,45,46,47,48,49,50])] [(2,0),(0,0)] Tryz.func186 rfl (λu q=>?_) (.inl rfl)
  repeat'(first|refine gB ?_|(conv=>whnf);first|with_reducible refine CE (aa a) ?_|refine CK rfl (aa a) rfl ?_|refine CK rfl n rfl ?_|refine CG (e) ⟨⟨rfl,Cg c⟩,⟨rfl,rfl⟩,trivial⟩ ?_|refine CG (g) ⟨⟨rfl,Cg c⟩,trivial⟩ ?_|refine CO ω (aa b) ?_|refine CE (aa B) ?_|refine CE n ?_|refine Rw.two rfl (aa a) rfl rfl (aa b) rfl ?_|refine CZ ((nth c.a k).length - 1) p (by rw[I1];omega) (aX λ_=>rfl) (Qq _ _) ?_|refine CC ?_|refine CQ rfl rfl n rfl (O1 rfl) rfl ?_)
  refine CH rfl rfl ?_;exact wC
 rw[CB y];have g:=lY c d;refine fM 54 [] [(6,10,[41,42,43,44,45,46,47,48,49,50])] [(2,0),(0,0)] Tryz.func186 rfl (λu q=>?_) (.inl rfl)
 repeat'(first|refine gB ?_|(conv=>whnf);first|with_reducible refine CE (aa a) ?_|refine CK rfl (aa a) rfl ?_|refine CG (e) ⟨⟨rfl,Cg c⟩,⟨rfl,rfl⟩,trivial⟩ ?_|refine CG (g) ⟨⟨rfl,Cg c⟩,trivial⟩ ?_)
 refine CH rfl rfl ?_;exact wC
set_option maxRecDepth 100000
def J4:∀w,(zeroValue 180).run Tryz.prog w=.ok (.agg #[.int .i64 0,.int .i64 0]) w:=λ_=>by kernel_rfl
def DN:Qd Tryz.prog 458 2:=by
 refine⟨⟨_,Tryz.func458,by kernel_rfl,by kernel_rfl⟩,λw g n c i news r y o B C b=>?_⟩;obtain⟨A,X,a⟩:=QN o y r B;have a:Hid (∀t u,news[t]? = some u->w.drew.cell? (A.add t)=some u):=a;have T:Hid (news.length=(n - (i+1))*2):=o;have Y:Hid (∀u∈news,u.oneCell'=true):=C;have Z:Hid (∀t,t<news.length->(w.drew.cell? ⟨g,0+i*2+t,none⟩).isSome=true/\w.drew.frozen? ⟨g,0+i*2+t,none⟩ = false):=λt ht=>by
  rw[X7];exact b (i*2+t) ω
 obtain⟨p,d⟩ : ∃p,p=w.drew.setCells g (0+i*2) news:=⟨_,rfl⟩
 have K:∀q,q<n*2->(p.cell? ⟨g,q,none⟩).isSome=true/\p.frozen? ⟨g,q,none⟩ = false:=λq U=>by
  have D:∀j,j<news.length->∃z,cel w.drew g (0+i*2+j)=some z:=λj L=>by
   have:=(b (0+i*2+j) ω).1;exact Option.isSome_iff_exists.1 this
  refine⟨?_,by rw[d];exact(Z0 Prod.fst (cx g _ news w.drew g q)).trans (b q U).2⟩;rw[d];by_cases h:0+i*2<=q/\q<0+i*2+news.length
  ·have:=bN D (X2 (show q - (0+i*2)<news.length by omega))
   rw[show 0+i*2+(q - (0+i*2))=q by omega]at this;show(cel _ g q).isSome=true;rw[this];rfl
  show(cel _ g q).isSome=true;rw[bm (λx=>h x.2)];exact(b q U).1
 obtain⟨M,E,F,G⟩:=RJ (P:=Tryz.prog) p 36 180 2 (.agg #[.int .i64 0,.int .i64 0]) Tryz.underlying36 J4 rfl (by intro v V;simp[Value.cells]at V;subst V;rfl) g ((i+(n - (i+1)))*2) (n - (i+(n - (i+1)))) ω (by decide) (λj L=>(K _ ω).1) (λj L=>(K _ ω).2);have k:Hid (M.length=(n - (i+(n - (i+1))))*2):=E;have H:Hid (∀v∈M,v.oneCell'=true):=F;have W:Hid (p=w.drew.setCells g (0+i*2) news):=d;have hic:i<=c:=ω
 have N:i+1<=c:=ω
 have O:¬i=i+1:=ω
 have Q:i+1<=n:=r;have l:n - 1=i+(n - (i+1)):=ω
 clear d K b B C o E F;rw[l];generalize L:i+1=j at X a T G k N O Q l |-;obtain⟨J,R,S⟩ : ∃J,Tryz.prog.info? 180=some J/\J.size=2:=by
  have h:=(qX 180 _ rfl).1;cases e : Tryz.prog.info? 180 with
  | none=>rw[e]at h;cases h
  | some x=>rw[e]at h;simp only[Y5,C1,Prod.mk.injEq]at h;exact⟨x,rfl,h.2.1⟩
 have mixed : Tryz.prog.follows .mixedOrders=true:=by kernel_rfl
 go_enter Tryz.func458,Tryz.ntmps458
 go_wp2_with fail
 go_region_law_o (refine step_append_room rfl (.tmp 22) (.tmp 25) 36 rfl 180 J 2 Tryz.underlying36 R S g 0 i c (by simp[Act.eval,Act.put]) A (n - j) (c - j) news (by simp[Act.eval,Act.put]) T.out a.out Y.out ω Z.out ?_;rw[<-W.out])
 go_wp2
 go_ret
 refine⟨rfl,M,by have:=k.out;omega,H.out,?_⟩;rw[W.out,X7]
def Ef(xs:List aB)(i:Nat)(a:i<xs.length):zzB 458 false [.mut none [.s .own (xs.map (aB.enc .own))],.val none [I (i:Nat)],.val none [I ((i+1:Nat):Int)]] [.mut none [.x],.val none [I (i:Nat)],.val none [I ((i+1:Nat):Int)]] .one [oE ((dele xs i).map (aB.enc .own))]:=by
 have h:=Tl DN (rows:=xs.map (aB.enc .own)) (i:=i) (by rw[I1];exact a) (aX λ_=>rfl) (bj _ _ λx _=>aB.enc_fr x)
 rwa [show dele (xs.map (aB.enc .own)) i=(dele xs i).map (aB.enc .own) by simp[dele,W4,X4]]at h
variable{α:Type}
def PN(xs:List α)(b:Nat)(y:α):dele (xs.set b y) b=dele xs b:=by
 unfold dele;rw[List.take_set_of_le (W3 b),List.drop_set_of_lt (Nat.lt_succ_self b)]
def sW(k:ah)(p:Int)(c:aC k=true)(w:k.Calls≠100000)(n:0<=p/\p<k.F.Q.J.length)(y:(nth k.F.Q.J p.toNat).e=0):zzA 341 false [.val (some 5) (ah.enc .V k),.val none [I p]] (.tup [some 5,none]) (ah.enc .own (newK k p).1++[B (newK k p).2]):=by
 have h:=bv c;have C:=(aG.1 c).2.2.2;have D:=(br.1 (aG.1 c).2.2.1).2.2;have d:=ue k h;rw[c,O0 w]at d;have g:=Ed k h ⟨ω,ω⟩;have a:=xv k.F.W (aG.1 c).2.1 h.1.1;have j:af k.F.Q p=nth k.F.Q.J p.toNat:=by unfold af;exact CD n
 have o:=aO p 0 ((k.F.Q.J.length:Int) - 1);rw[O0 ω]at o;have q:=pp k p h.1.2;rw[j,y,W0 (by decide)]at q;have r:=au (xs:=k.F.Q.J) (i:=p.toNat) ω;unfold vV at a;unfold newK;cases e:refd k<;>rw[e]at g
 ·by_cases b:oY k<0
  ·rw[CD (.inr b)]
   rw[CD (show cZ (λu=>!u) k.F.W.a1<0 from b)]at a;simp only at a;refine fO 64 [] Tryz.func341 rfl ?_ (.inr (aL (Ce _) ⟨trivial,trivial⟩))
   repeat'(first|refine gP ?_|(conv=>whnf);first|refine C9 (d) ?_|refine C9 (g) ?_|refine C9 (a) ?_)
   rfl
  rw[CB (by simp[b])];rw[CB (show ¬cZ (λu=>!u) k.F.W.a1<0 from b)]at a;simp only at a;obtain⟨f,t⟩:=O3 (show 0<=oY k by omega);have l:cZ (λu=>!u) k.F.W.a1=(f:Nat):=t;rw[l]at a;rw[t];simp only[I3]at a |-;rw[BJ]at a;rw[yh];refine fO 64 [] Tryz.func341 rfl ?_ (.inr (aL (by rw[<-yh];exact Ce _) ⟨trivial,trivial⟩))
  repeat'(first|refine gP ?_|(conv=>whnf);first|refine C9 (d) ?_|refine C9 (g) ?_|refine C9 (a) ?_|refine C9 (o) ?_|refine C9 (q) ?_|refine CO n.1 (aa r) ?_|refine CQ rfl rfl (aa r) rfl (O1 rfl) rfl ?_)
  rfl
 rw[CD (.inl rfl)];by_cases b:oY k<0
 ·rw[CD (show cZ (λu=>!u) k.F.W.a1<0 from b)]at a
  simp only at a;refine fO 64 [] Tryz.func341 rfl ?_ (.inr (aL (Ce _) ⟨trivial,trivial⟩))
  repeat'(first|refine gP ?_|(conv=>whnf);first|refine C9 (d) ?_|refine C9 (g) ?_|refine C9 (a) ?_)
  rfl
 rw[CB (show ¬cZ (λu=>!u) k.F.W.a1<0 from b)]at a;simp only at a;refine fO 64 [] Tryz.func341 rfl ?_ (.inr (aL (Ce _) ⟨trivial,trivial⟩))
 repeat'(first|refine gP ?_|(conv=>whnf);first|refine C9 (d) ?_|refine C9 (g) ?_|refine C9 (a) ?_)
 rfl
def U3(xs:List aB)(n:Int):List C:=(if(ax xs n).2.2=true then [oE ((ax xs n).1.map (aB.enc .own))] else bw .own xs)++[I (ax xs n).2.1,B (ax xs n).2.2]
def Tq(xs:List aB)(n:Int):iv (U3 xs n):=by
 unfold U3;split
 ·exact aL ⟨Tm (iM _).1.2,trivial⟩ ⟨trivial,trivial,trivial⟩
 exact aL (iM _) ⟨trivial,trivial,trivial⟩
def BU(xs:List aB)(b:Nat)(y:aB):(xs.set b y).map (aB.enc .own)=(xs.map (aB.enc .own)).set b [I y.At,I y.a8]:=by rw[Z6];rfl
def xj(pages:Int)(xs:List aB)(n:Int)(K:0<=pages/\pages<=1048576)(u:bG pages xs=true)(R:1<=n/\n<=1000)(S:xs.length<=4096):zzA 340 false [.val none [I pages],.val none (bw .V xs),.val none [I n]] (.tup [none,none,none]) (U3 xs n):=by
 have p:gT xs:=⟨ω,λ_ _=>trivial⟩
 have w:=qZ pages xs K p;rw[u]at w;have L:=pb xs p;have B:=(wT u).2;refine fP 91 [(458,[1,0,0])] [(8,15,[32,33,34,35,36,37,38,39,40,41,42,43,44,45,46])] Tryz.func340 rfl ?_ (.inr (Tq xs n))
 repeat'(first|refine gE ?_|(conv=>whnf);first|refine C9 (w) ?_|refine C9 (L) ?_)
 (conv=>whnf)
 refine CJ (ι:=Nat) (λi=>[(1,.H .one (bw .V xs)),(2,.H .one [I (n)]),(9,.H .one (bw .own xs)),(10,.H .one [I (fV xs n i)]),(25,.H .one (bw .V xs)),(26,.H .one [I (xs.length)]),(27,.H .one [I ((i:Nat):Int)])]) (λi=>i<=xs.length) (λi=>xs.length - i) (0) ?_ (X0 _) λi M=>?_
 ·exact wC
 have l:=tw xs n i M;by_cases E:i<xs.length
 ·have k:=au E
  have N:=B _ (ar E);have d:fV xs n (i+1)=if n<=(nth xs i).a8/\(fV xs n i<0\/(nth xs i).a8<(nth xs (fV xs n i).toNat).a8) then((i:Nat):Int) else fV xs n i:=rfl
  by_cases F:n<=(nth xs i).a8
  ·by_cases O:fV xs n i<0
   ·rw[CD ⟨F,.inl O⟩]at d
    repeat'(first|refine gE ?_|(conv=>whnf);first|with_reducible (first|refine CE (aa k) ?_|refine Bf.D (λh=>?_) (λh=>?_))|refine CK rfl (aa k) rfl ?_)
    ((conv=>whnf);refine CF (i+1) ω ω ?_)
    rw[d];exact wC
   have a:=au (xs:=xs) (i:=(fV xs n i).toNat) ω;by_cases P:(nth xs i).a8<(nth xs (fV xs n i).toNat).a8
   ·rw[CD ⟨F,.inr P⟩]at d
    repeat'(first|refine gE ?_|(conv=>whnf);first|with_reducible (first|refine CE (aa k) ?_|refine CO ω (aa a) ?_|refine Bf.D (λh=>?_) (λh=>?_))|refine CK rfl (aa k) rfl ?_)
    ((conv=>whnf);refine CF (i+1) ω ω ?_)
    rw[d];exact wC
   rw[CB ω]at d
   repeat'(first|refine gE ?_|(conv=>whnf);first|with_reducible (first|refine CE (aa k) ?_|refine CO ω (aa a) ?_|refine Bf.D (λh=>?_) (λh=>?_))|refine CK rfl (aa k) rfl ?_)
   ((conv=>whnf);refine CF (i+1) ω ω ?_)
   rw[d];exact wC
  rw[CB ω]at d
  repeat'(first|refine gE ?_|(conv=>whnf);first|with_reducible (first|refine CE (aa k) ?_|refine Bf.D (λh=>?_) (λh=>?_))|refine CK rfl (aa k) rfl ?_)
  ((conv=>whnf);refine CF (i+1) ω ω ?_)
  rw[d];exact wC
 obtain rfl:i=xs.length:=ω
 change f8 xs n = -1\/_ at l;unfold U3 ax;rw[show fV xs n xs.length=f8 xs n from rfl];by_cases e:f8 xs n<0
 ·rw[CD e]
  rw[show f8 xs n = -1 from l.resolve_right λg=>by have T:0<=f8 xs n:=g.1;omega]
  repeat'(first|refine gE ?_|(conv=>whnf);first|with_reducible refine Bf.D (λh=>?_) (λh=>?_))
  rfl
 rw[CB e];obtain⟨Q,G,U⟩:=l.resolve_left ω;change 0<=f8 xs n at Q;change f8 xs n<xs.length at G;obtain⟨b,r⟩:=O3 (show 0<=f8 xs n by omega);rw[r]at G |-;simp only[I3];have a:=au (xs:=xs) (i:=b) ω;have N:=B _ (ar (xs:=xs) (i:=b) ω);have c:((xs.map (aB.enc .own)).set b [I ((nth xs b).At+n),I (nth xs b).a8])[b]? = some [I ((nth xs b).At+n),I (nth xs b).a8]:=kU ω;have j:((xs.set b ⟨(nth xs b).At+n,(nth xs b).a8 - n⟩).map (aB.enc .own))[b]? = some [I ((nth xs b).At+n),I ((nth xs b).a8 - n)]:=by rw[BU];exact kU ω
 have o:∀t:List C,t.set 0 (.s .own (((xs.map (aB.enc .own)).set b [I ((nth xs b).At+n),I (nth xs b).a8]).set b [I ((nth xs b).At+n),I ((nth xs b).a8 - n)]))=t.set 0 (.s .own ((xs.set b ⟨(nth xs b).At+n,(nth xs b).a8 - n⟩).map (aB.enc .own))):=λt=>by rw[BU,List.set_set]
 have q:=Ef (xs.set b ⟨(nth xs b).At+n,(nth xs b).a8 - n⟩) b (by rw[Z1];omega);rw[PN]at q;by_cases H:(nth xs b).a8=n
 ·rw[CD H]
  generalize dele xs b=J at q |-;cases J with
  | nil=>
   repeat'(first|refine gB ?_|(conv=>whnf);first|with_reducible (first|refine CE (aa a) ?_|refine Bf.D (λh=>?_) (λh=>?_))|refine CE c ?_|refine CE j ?_|refine CK rfl (aa a) rfl ?_|refine CK rfl c rfl ?_|refine CK rfl j rfl ?_|refine CQ rfl rfl (aa a) rfl (O1 rfl) rfl ?_|refine CQ rfl rfl c rfl (O1 rfl) (o _).symm ?_|refine CL (q) (.inl rfl) ?_)
   rfl
  | cons y J=>
   repeat'(first|refine gB ?_|(conv=>whnf);first|with_reducible (first|refine CE (aa a) ?_|refine Bf.D (λh=>?_) (λh=>?_))|refine CE c ?_|refine CE j ?_|refine CK rfl (aa a) rfl ?_|refine CK rfl c rfl ?_|refine CK rfl j rfl ?_|refine CQ rfl rfl (aa a) rfl (O1 rfl) rfl ?_|refine CQ rfl rfl c rfl (O1 rfl) (o _).symm ?_|refine CL (q) (.inl rfl) ?_)
   rfl
 rw[CB H]
 repeat'(first|refine gB ?_|(conv=>whnf);first|with_reducible (first|refine CE (aa a) ?_|refine Bf.D (λh=>?_) (λh=>?_))|refine CE c ?_|refine CE j ?_|refine CK rfl (aa a) rfl ?_|refine CK rfl c rfl ?_|refine CK rfl j rfl ?_|refine CQ rfl rfl (aa a) rfl (O1 rfl) rfl ?_|refine CQ rfl rfl c rfl (O1 rfl) (o _).symm ?_)
 rw[CD rfl,Te (by rw[Ne,List.map_eq_nil_iff,<-List.length_eq_zero_iff,Z1];omega)]
 rfl
def eH(w:World)(dT sT ty elem:TypeId)(k b o dLen dCap:Nat)(a:Addr)(sLen sCap n:Nat)(cs:List Value)(h:P.underlying dT=some (.slice elem))(g:(P.info? elem).map (·.size)=some k)(l:Nat.min sLen dLen=n)(p:cs.length=n*k)(c:∀j v,cs[j]? = some v->w.cell? (a.add j)=some v)(q:∀j,j<cs.length->(w.cell? ⟨b,o+j,none⟩).isSome=true)(r:∀j,j<cs.length->w.frozen? ⟨b,o+j,none⟩ = false)(h1:∀v∈cs,v.oneCell'=true) :
  (Builtin.copy_ #[dT,sT] ty #[.slice (some ⟨b,o,none⟩) dLen dCap,.slice (some a) sLen sCap]).run P w=.ok (goInt n) (w.setCells b o cs):=by
 have d:=run_loadCells_list (P:=P) w a cs c;have e:=run_storeCells_cells (P:=P) b o cs 0 w (by simpa using q) (by simpa using r) h1;rw[p]at d;cases f:P.info? elem with
 | none=>simp[f]at g
 | some i=>
  have t:i.size=k:=by simpa[f] using g
  simp[Builtin.copy_,run_underlying h,Builtin.lenOf,Builtin.firstCells,sizeOf,typeInfo,f,t,l,d,e]
variable{Q:Exit->Act->World->Prop}{ops:Array Oper}
def dX(w:World){rest:List Oper}{o:Oper}{a:Act}(b:o.guard=none)(d s:Operand)(t c:TypeId)(g:o.op=.call {callee:=.builtin .copy,args:=#[d,s],argTypes:=#[t,c]})(v u:Value)(i:a.eval d=v)(j:a.eval s=u){e:Value}{f:World}(k:(Builtin.copy_ #[t,c] o.type #[v,u]).run P w=.ok e f)(h:wpList P ops Q rest (a.put o.dst e) f):wpList P ops Q (o::rest) a w:=by
 refine wpList_plain b λ_ l=>?_
 unfold Oper.wp execOp;simp only[g,resolve,invoke,builtin,Sem.run_bind,Sem.run_pure,Result.andThen_ok,List.map_toArray,X6,List.map_nil,i,j,k];exact l _ _ h
def iJ{o:Oper}{a:Act}{K:Act->World->Prop}{E:Prop}(f:o.guard=none)(d x:Operand)(dT sT:TypeId)(b:o.op=Op.call {callee:=Callee.builtin Builtin.copy,args:=#[d,x],argTypes:=#[dT,sT]})(v u:Value)(g:a.eval d=v)(h:a.eval x=u){c:Value}{e:World}(i:(Builtin.copy_ #[dT,sT] o.type #[v,u]).run P w=.ok c e)(j:K (a.put o.dst c) e) :
  if Region.wanted o (yielded ops a.tmps)=true then Oper.wp P o a w K Q else E:=by
 have k:Region.wanted o (yielded ops a.tmps)=true:=by simp[Region.wanted,f]
 rw[CD k];unfold Oper.wp;simp[execOp,b,resolve,invoke,builtin,g,h,i,Result.andThen];exact j
def wN(b:Nat):∀(vs:List Value)(o:Nat)(w:World),(w.setCells b o vs).drew=w.drew.setCells b o vs
 | [],_,_=>rfl
 | v::r,o,w=>by rw[World.setCells,World.setCells,wN b r];rfl
def l7(b:Nat)(vs:List Value)(o:Nat)(w:World)(h:∀j,j<vs.length->(w.cell? ⟨b,o+j,none⟩).isSome=true)(q:Nat)(a:(w.cell? ⟨b,q,none⟩).isSome=true):((w.setCells b o vs).cell? ⟨b,q,none⟩).isSome=true:=by
 by_cases c:o<=q/\q<o+vs.length
 ·have:=World.cell?_setCells_in b vs o w h (q - o) ω
  rw[show o+(q - o)=q by omega]at this;rw[this];rfl
 rw[World.cell?_setCells_out b vs o w ⟨b,q,none⟩ (λ_ _=>by show q<o\/o+vs.length<=q;omega)];exact a
variable{g:Nat}
def Fa{z:Value}(a:cel w g 0=some z)(d:fro w g 0=NF):∃t k,w.shape? g=some (t,k)/\k≠0/\w.frozen? ⟨g,0,none⟩ = false/\w.frozen? ⟨g,k,none⟩ = false:=by
 have f:=Z0 Prod.fst d;have b:=Z0 Prod.snd d;simp only[fro]at f b;unfold mp at b;unfold cel World.cell? at a;unfold World.shape?;simp only at a;cases e:w.heap[g]? with
 | none=>rw[e]at a;cases a
 | some x=>
  rw[e]at a b;cases x with
  | cells c t i=>
   obtain⟨j,l⟩:=i;simp only[Option.isSome_none,Bool.false_eq_true,if_false]at a;have o:0<c.size:=by
    rcases Nat.eq_zero_or_pos c.size with h|h
    ·rw[Array.getElem?_eq_none ω]at a;cases a
    exact h
   refine⟨t,c.size,rfl,ω,f,?_⟩;unfold World.frozen?;simp only[e];simp only at b;split at b
   ·cases b
   rename_i n;have:¬(j<=c.size/\c.size<l):=n;simp only[Bool.and_eq_false_imp,C0,z5];omega
  | _=>cases a
variable{e:Nat}
def qa{tS tR a b:Nat}{z h:Value}(i:P.underlying tS=some (.slice e))(j:∀w,(Go.sizeOf e).run P w=.ok k w)(c:a≠b)(h1:cel w a 0=some z)(l:fro w a 0=NF)(n:cel w b 0=some h)(o:fro w b 0=NF)(x la d f g:Nat) :
  (Extern.SlicesOverlaps.overlaps #[tS,tS] #[tR] #[.slice (some ⟨a,0,none⟩) la d,.slice (some ⟨b,x,none⟩) f g]).run P w=.ok (.bool false) w:=by
 obtain⟨tA,kA,p,y,q,r⟩:=Fa h1 l;obtain⟨tB,kB,t,u,-,-⟩:=Fa n o;exact Lib.run_overlaps_apart w tS tR e i k j ⟨a,0,none⟩ ⟨b,x,none⟩ la d f g c tA tB kA kB p t u q r
structure xV(w w':World)(g G k n c c' i:Nat)(olds vs:List Value):Prop where
 keep:bz (λb o=>b=g/\o<c*k) w w'
 cel:∀q u,(olds.take (i*k)++vs++olds.drop (i*k))[q]? = some u->cel w' G q=some u
 all:∀q,q<c'*k->(∃z,Ab.cel w' G q=some z/\z.oneCell'=true)/\fro w' G q=NF
 at_:(G=g/\c'=c)\/(w.heap.size<=G/\G<w'.heap.size)
variable{n:Nat}{olds vs:List Value}
def FR{q:Nat}{u:Value}(j:i<n)(d:olds.length=n*k)(b:vs.length=k)(h:(olds.take (i*k)++vs++olds.drop (i*k))[q]? = some u) :
  q<(n+1)*k/\((q<i*k/\olds[q]? = some u)\/(i*k<=q/\q<i*k+k/\vs[q - i*k]? = some u)\/(i*k+k<=q/\(olds.drop (i*k))[q - (i*k+k)]? = some u)):=by
 have e:i*k<=n*k:=C8 k ω;have l:(n+1)*k=n*k+k:=by rw[Nat.add_mul,Nat.one_mul]
 have a:(olds.take (i*k)).length=i*k:=by rw[C2];omega
 have f:=(Z2.1 h).1;simp only[Y3,a,b,Z3,d]at f;refine⟨ω,?_⟩;by_cases c:q<i*k
 ·rw[O6,t5 ω,List.getElem?_take,CD c]at h
  exact .inl ⟨c,h⟩
 by_cases g:q<i*k+k
 ·rw[t5 (by rw[Y3];omega),v5 ω,a]at h
  exact .inr (.inl ⟨ω,g,h⟩)
 rw[v5 (by rw[Y3];omega),Y3,a,b]at h;exact .inr (.inr ⟨ω,h⟩)
def pS{c:Nat}(B:i<n)(C:n+1<=c)(y:olds.length=n*k)(D:vs.length=k)(E:∀t u,olds[t]? = some u->cel w g t=some u)(h1:∀u∈olds,u.oneCell'=true)(F:∀u∈vs,u.oneCell'=true)(a:∀q,q<c*k->(∃z,cel w g q=some z/\z.oneCell'=true)/\fro w g q=NF) :
  xV w ((w.drew.setCells g ((i+1)*k) (olds.drop (i*k))).setCells g (i*k) vs) g g k n c c i olds vs:=by
 have G:i*k<=n*k:=C8 k ω;have H:(n+1)*k<=c*k:=C8 k C;have N:(n+1)*k=n*k+k:=by rw[Nat.add_mul,Nat.one_mul]
 have O:(i+1)*k=i*k+k:=by rw[Nat.add_mul,Nat.one_mul]
 have J:(olds.drop (i*k)).length=n*k - i*k:=by rw[Z3,y]
 have P:∀b q,cel w.drew b q=cel w b q:=λ_ _=>rfl
 have in1:∀j,j<(olds.drop (i*k)).length->∃z,cel w.drew g ((i+1)*k+j)=some z:=λj p=>by
  obtain⟨⟨z,r,-⟩,-⟩:=a ((i+1)*k+j) ω;exact⟨z,r⟩
 have all1:∀q,q<c*k->∃z,cel (w.drew.setCells g ((i+1)*k) (olds.drop (i*k))) g q=some z/\z.oneCell'=true:=λq e=>by
  by_cases h:(i+1)*k<=q/\q<(i+1)*k+(olds.drop (i*k)).length
  ·obtain⟨u,f⟩ : ∃u,(olds.drop (i*k))[q - (i+1)*k]? = some u:=⟨_,X2 ω⟩
   have d:=bN in1 f;rw[show(i+1)*k+(q - (i+1)*k)=q by omega]at d;exact⟨u,d,h1 u (List.mem_of_mem_drop (O2 f))⟩
  rw[bm (λx=>h x.2)];exact(a q e).1
 have in2:∀j,j<vs.length->∃z,cel (w.drew.setCells g ((i+1)*k) (olds.drop (i*k))) g (i*k+j)=some z:=λj p=>by
  obtain⟨z,r,-⟩:=all1 (i*k+j) ω;exact⟨z,r⟩
 refine⟨?_,λq u e=>?_,λq e=>⟨?_,by rw[cx,cx];exact(a q e).2⟩,.inl ⟨rfl,rfl⟩⟩
 ·have K:=ef (g:=g) (X:=λb o=>b=g/\o<c*k) (olds.drop (i*k)) ((i+1)*k) w.drew λj p=>⟨rfl,ω⟩
  have L:=ef (g:=g) (X:=λb o=>b=g/\o<c*k) vs (i*k) (w.drew.setCells g ((i+1)*k) (olds.drop (i*k))) λj p=>⟨rfl,ω⟩
  exact((yd w).up λ_ _ h=>h.elim).trans (K.trans L λ_ _ h=>.inr h) λ_ _ h=>.inr h
 ·obtain⟨-,⟨A,l⟩|⟨A,l,M⟩|⟨A,l⟩⟩:=FR B y D e
  ·rw[bm ω,bm ω];exact E q u l
  ·have d:=bN in2 M
   rwa [show i*k+(q - i*k)=q by omega]at d
  rw[bm ω];have d:=bN in1 l;rw[show(i+1)*k+(q - (i*k+k))=q by omega]at d;exact d
 by_cases h:i*k<=q/\q<i*k+vs.length
 ·obtain⟨u,f⟩ : ∃u,vs[q - i*k]? = some u:=⟨_,X2 ω⟩
  have d:=bN in2 f;rw[show i*k+(q - i*k)=q by omega]at d;exact⟨u,d,F u (O2 f)⟩
 rw[bm (λx=>h x.2)];exact all1 q e
def rR{a:World}{c G:Nat}{Z:Array Value}(y:a.heap=(w.alloc (.cells ((olds.take (i*k)).toArray++Builtin.zeroCells Z (n+1 - i)++Builtin.zeroCells Z (G - (n+1))) e)).heap)(Q:a.os=w.os)(R:a.tape=w.tape)(S:a.output=w.output)(hi:i<n)(hG:n+1<=G)(hZ:Z.size=k)(T:∀v∈Z.toList,v.oneCell'=true)(U:olds.length=n*k)(d:vs.length=k)(h1:∀u∈olds,u.oneCell'=true)(h2:∀u∈vs,u.oneCell'=true) :
  xV w ((a.setCells w.heap.size (i*k) vs).setCells w.heap.size ((i+1)*k) (olds.drop (i*k))) g w.heap.size k n c G i olds vs:=by
 have V:i*k<=n*k:=C8 k ω;have hGk:(n+1)*k<=G*k:=C8 k hG;have e1:(n+1)*k=n*k+k:=by rw[Nat.add_mul,Nat.one_mul]
 have e2:(i+1)*k=i*k+k:=by rw[Nat.add_mul,Nat.one_mul]
 have hdl:(olds.drop (i*k)).length=n*k - i*k:=by rw[Z3,U]
 generalize hcells:(olds.take (i*k)).toArray++Builtin.zeroCells Z (n+1 - i)++Builtin.zeroCells Z (G - (n+1))=cells at y;have C:∀b q,cel a b q=cel (w.alloc (.cells cells e)) b q:=λb q=>by unfold cel World.cell?;rw[y]
 have D:∀b q,fro a b q=fro (w.alloc (.cells cells e)) b q:=λb q=>by unfold fro World.frozen? mp;rw[y]
 have hsz:cells.size=G*k:=by
  rw[<-hcells];simp only[Array.size_append,List.size_toArray,C2,size_zeroCells,hZ,U,Nat.min_eq_left V];rw[<-Nat.add_mul,<-Nat.add_mul]
  congr 1;omega
 have E:∀v∈cells.toList,v.oneCell'=true:=by
  have F:∀m,∀v∈(Builtin.zeroCells Z m).toList,v.oneCell'=true:=λm v d=>by
   rw[Array.mem_toList_iff]at d;simp only[Builtin.zeroCells,Array.mem_map,Array.mem_range]at d;obtain⟨j,A,rfl⟩:=d;have B:0<Z.size:=by rcases Nat.eq_zero_or_pos Z.size with h|h;rw[h]at A;simp at A;exact h
   have H:j % Z.size<Z.size:=Nat.mod_lt _ B;rw[getElem!_pos Z (j % Z.size) H];exact T _ (Array.mem_toList_iff.2 (Array.getElem_mem H))
  intro v d;rw[<-hcells]at d;simp only[Array.toList_append,V3]at d;rcases d with(d|d)|d
  ·exact h1 v (List.mem_of_mem_take d)
  ·exact F _ v d
  exact F _ v d
 have l:∀q,cel a w.heap.size q=cells[q]?:=λq=>(C _ _).trans (ip w cells e q)
 have J:∀q,q<G*k->∃z,cel a w.heap.size q=some z/\z.oneCell'=true:=λq p=>by
  have K:q<cells.size:=ω
  exact⟨cells[q],by rw[l,I7 K],E _ (Array.mem_toList_iff.2 (Array.getElem_mem K))⟩
 have r:∀q u,q<i*k->olds[q]? = some u->cells[q]? = some u:=λq u p t=>by
  rw[<-hcells,Array.append_assoc,Array.getElem?_append_left (by simp;omega)];simp[p,t]
 have L:∀q,fro a w.heap.size q=NF:=λq=>(D _ _).trans (ir w cells e q)
 have hK:bz NO w a:=by
  have B:bz NO w (w.alloc (.cells cells e)):=cU w _;exact⟨Q,R,S,by rw[y];exact B.size,λb M N=>by rw[y];exact B.blk b M N,λb o M N=>(C b o).trans (B.cel b o M N),λb o M N=>(D b o).trans (B.fro b o M N)⟩
 have hS:a.heap.size=w.heap.size+1:=by rw[y];exact jA w _
 have k1:=ef (g:=w.heap.size) (X:=λb o=>b=w.heap.size) vs (i*k) a λj A=>rfl
 have k2:=ef (g:=w.heap.size) (X:=λb o=>b=w.heap.size) (olds.drop (i*k)) ((i+1)*k) (a.setCells w.heap.size (i*k) vs) λj A=>rfl
 have in1:∀j,j<vs.length->∃z,cel a w.heap.size (i*k+j)=some z:=λj A=>by
  obtain⟨z,W,-⟩:=J (i*k+j) ω;exact⟨z,W⟩
 have all1:∀q,q<G*k->∃z,cel (a.setCells w.heap.size (i*k) vs) w.heap.size q=some z/\z.oneCell'=true:=λq p=>by
  by_cases h:i*k<=q/\q<i*k+vs.length
  ·obtain⟨u,t⟩ : ∃u,vs[q - i*k]? = some u:=⟨_,X2 ω⟩
   have f:=bN in1 t;rw[show i*k+(q - i*k)=q by omega]at f;exact⟨u,f,h2 u (O2 t)⟩
  rw[bm (λx=>h x.2)];exact J q p
 have in2:∀j,j<(olds.drop (i*k)).length->∃z,cel (a.setCells w.heap.size (i*k) vs) w.heap.size ((i+1)*k+j)=some z:=λj A=>by
  obtain⟨z,W,-⟩:=all1 ((i+1)*k+j) ω;exact⟨z,W⟩
 have O:w.heap.size<((a.setCells w.heap.size (i*k) vs).setCells w.heap.size ((i+1)*k) (olds.drop (i*k))).heap.size:=by
  have:=k1.size;have:=k2.size;omega
 refine⟨?_,λq u p=>?_,λq p=>⟨?_,by rw[cx,cx];exact L q⟩,.inr ⟨W3 _,O⟩⟩
 ·exact(hK.up λ_ _ h=>h.elim).trans (k1.trans k2 λ_ _ h=>.inr h) λ_ _ h=>.inl (by rw[h];exact W3 _)
 ·obtain⟨-,⟨Y,P⟩|⟨Y,P,a3⟩|⟨Y,P⟩⟩:=FR hi U d p
  ·rw[bm ω,bm ω,l];exact r q u Y P
  ·rw[bm ω]
   have f:=bN in1 a3
   rwa [show i*k+(q - i*k)=q by omega]at f
  have f:=bN in2 P;rw[show(i+1)*k+(q - (i*k+k))=q by omega]at f;exact f
 by_cases h:(i+1)*k<=q/\q<(i+1)*k+(olds.drop (i*k)).length
 ·obtain⟨u,t⟩ : ∃u,(olds.drop (i*k))[q - (i+1)*k]? = some u:=⟨_,X2 ω⟩
  have f:=bN in2 t;rw[show(i+1)*k+(q - (i+1)*k)=q by omega]at f;exact⟨u,f,h1 u (List.mem_of_mem_drop (O2 t))⟩
 rw[bm (λx=>h x.2)];exact all1 q p
structure E2(P:Program)(f k T b:Nat):Prop where
 has:K5 P f
 end_:∀(w w1:World)(base:Option Addr)(n c vb m vc:Nat)(r:Value),m=1->n<=c->n<=1073741824->(base=none->n=0/\c=0)->(Builtin.append_ #[T,T] T #[.slice base n c,.slice (some ⟨vb,0,none⟩) m vc]).run P w=.ok r w1->
  Calls P f #[.slice base n c,.int .i64 n,.slice (some ⟨vb,0,none⟩) m vc] w λe w'=>e=.returned r/\w'=w1
 mid:∀(w:World)(g n c i vb m vc:Nat)(olds vs:List Value),m=1->i<n->n<=c->n<=1073741824->b<=1000->olds.length=n*k->vs.length=k->(∀t u,olds[t]? = some u->cel w g t=some u)->(∀t u,vs[t]? = some u->cel w vb t=some u)->
  (∀u∈olds,u.oneCell'=true)->(∀u∈vs,u.oneCell'=true)->(∀q,q<c*k->(∃z,cel w g q=some z/\z.oneCell'=true)/\fro w g q=NF)->fro w vb 0=NF->vb≠g->
  Calls P f #[.slice (some ⟨g,0,none⟩) n c,.int .i64 i,.slice (some ⟨vb,0,none⟩) m vc] w λe w'=>∃G c',e=.returned (.slice (some ⟨G,0,none⟩) (n+1) c')/\n+1<=c'/\xV w w' g G k n c c' i olds vs
def inse(xs:List α)(i:Nat)(y:α):List α:=xs.take i++y::xs.drop i
def Gn(xs:List α)(i:Nat)(y:α):(inse xs i y).length=xs.length+1:=by
 unfold inse;rw[Y3,List.length_cons,C2,Z3];omega
def ye{xs:List α}{y z:α}(h:z∈inse xs i y):z=y\/z∈xs:=by
 unfold inse at h;rcases V3.1 h with h|h
 ·exact .inr (List.mem_of_mem_take h)
 rcases List.mem_cons.1 h with h|h
 ·exact .inl h
 exact .inr (List.mem_of_mem_drop h)
def zl{β:Type}(e:α->β)(xs:List α)(i:Nat)(y:α):inse (xs.map e) i (e y)=(inse xs i y).map e:=by
 unfold inse;simp only[V6,X6,W4,X4]
variable{row:List C}
def NX{a b:Nat}{c:C}(g:i<=rows.length)(A:olds.length=rows.length*k)(n:vs.length=k)(o:b<k)(j:∀(a b:Nat)(r:List C)(c:C),rows[a]? = some r->r[b]? = some c->∃z,c=C.v z/\olds[a*k+b]? = some z)(p:∀(b:Nat)(c:C),row[b]? = some c->∃z,c=C.v z/\vs[b]? = some z)(h1:(inse rows i row)[a]? = some r)(e:r[b]? = some c):∃z,c=.v z/\(olds.take (i*k)++vs++olds.drop (i*k))[a*k+b]? = some z:=by
 have q:i*k<=rows.length*k:=C8 k g;have l:(olds.take (i*k)).length=i*k:=by rw[C2];omega
 unfold inse at h1;by_cases h:a<i
 ·rw[t5 (by rw[C2];omega),List.getElem?_take,CD h]at h1
  obtain⟨z,rfl,d⟩:=j a b r c h1 e;have f:a*k+b<i*k:=dH h o;exact⟨z,rfl,by rw[O6,t5 ω,List.getElem?_take,CD f];exact d⟩
 rw[v5 (by rw[C2];omega),C2,Nat.min_eq_left g]at h1;have t:i*k<=a*k:=C8 k ω;by_cases u:a=i
 ·subst u
  simp only[Nat.sub_self,List.getElem?_cons_zero,C1]at h1;subst h1;obtain⟨z,rfl,d⟩:=p b c e;exact⟨z,rfl,by rw[t5 (by rw[Y3];omega),v5 ω,l,show a*k+b - a*k=b by omega];exact d⟩
 obtain⟨m,rfl⟩ : ∃m,a=i+(m+1):=⟨a - i - 1,ω⟩
 rw[show i+(m+1) - i=m+1 by omega,List.getElem?_cons_succ,List.getElem?_drop]at h1;obtain⟨z,rfl,d⟩:=j (i+m) b r c h1 e;have w:(i+(m+1))*k=i*k+k+m*k:=by rw[<-Nat.add_assoc,Nat.add_mul,Nat.add_mul,Nat.one_mul];omega
 have y:(i+m)*k=i*k+m*k:=Nat.add_mul ..;refine⟨z,rfl,?_⟩;rw[v5 (by rw[Y3];omega),Y3,l,n,List.getElem?_drop,w,show i*k+(i*k+k+m*k+b - (i*k+k))=i*k+m*k+b by omega,<-y];exact d
def Un(h:TL rows):Q5 rows:=by
 have b:∀r:List C,(∀c∈r,∃z,c=C.v z)->iv r:=by
  intro r
  induction r with
  | nil=>exact λ_=>trivial
  | cons c r a=>intro h;obtain⟨z,rfl⟩:=h c (by simp);exact⟨trivial,a λc d=>h c (by simp[d])⟩
 induction rows with
 | nil=>exact trivial
 | cons r f a=>exact⟨b r (h r (by simp)),a λr e=>h r (by simp[e])⟩
def Hw{T:Nat}{d:TypeInfo}{z0:Value}(ht:P.underlying T=some (.slice e))(hi0:P.info? e=some d)(hk0:d.size=k)(hz:d.zero=some z0)(hzs:z0.cells.size=d.size)(hz1:∀x∈z0.cells.toList,x.oneCell'=true)(hby:d.bytes<=1000)(hf:E2 P f k T d.bytes)(hi:i<=rows.length)(hk:∀r∈rows,r.length=k)(hr:row.length=k)(hpk:0<k)(hsc:TL rows)(hsr:TL [row])(hlen:rows.length+1<=1073741824) :
  aM P f false [.mut none [.s .own rows],.val none [I (i:Nat)],.mut none [.s .own [row]]] [.mut none [.x],.val none [I (i:Nat)],.mut none [.x]] .one [.s .own (inse rows i row)]:=by
 subst hk0;refine⟨hf.has,λw S V vs hS hV hVV R=>?_⟩
 match vs,R with
 | [v,v1,v2],⟨R,hA1,hA2,_⟩=>
  have E:=bC.rep1 (show bC w S (V 0) none [C.s .own rows] v from R);have e1:v1=.int .i64 (i:Nat):=by
   have:=bC.rep1 (show bC w S NO none [C.v (.int .i64 (i:Nat))] v1 from hA1);cases this;rfl
  have N:=bC.rep1 (show bC w S (V 2) none [C.s .own [row]] v2 from hA2);subst e1;have hk2:∀r∈[row],r.length=d.size:=λr H=>by simp only[V1]at H;subst H;exact hr
  have hsc':TL (inse rows i row):=λr H=>(ye H).elim (λh=>hsr r (by simp[h])) (hsc r)
  have O:∀(w1:World)(vv:Value)(X:am),bz (λb o=>∃i,V i b o) w w1->(∀b o,X b o->V 0 b o\/V 2 b o\/(w.heap.size<=b/\b<w1.heap.size))->dJ w1 S X (.s .own (inse rows i row)) vv->
    ∃v',Ending.returned vv=Ending.returned v'/\bz (λb o=>∃i,V i b o) w w1/\∃(X:am)(V':Nat->am)(S1:am),
   (∀b o,X b o->(∃i,V i b o)\/(b<w1.heap.size/\w.heap.size<=b))/\(∀i b o,V' i b o->(∃i,V i b o)\/(b<w1.heap.size/\w.heap.size<=b))/\
   (∀b o,S1 b o->(false=true/\S b o)\/(∃i,V i b o)\/(b<w1.heap.size/\w.heap.size<=b))/\
   (∀i i',i≠i'->∀b o,V' i b o->¬V' i' b o)/\(∀i b o,X b o->¬V' i b o)/\(∀b o,X b o->¬S1 b o)/\(∀i b o,V' i b o->¬S1 b o)/\
   fL w1 NO .one 1 v'/\cP w1 S1 X [.s .own (inse rows i row)] (cu w1 .one v')/\DQ w1 (λb o=>S b o\/S1 b o) V' [.mut none [.x],.val none [I (i:Nat)],.mut none [.x]] [v,.int .i64 (i:Nat),v2]:=by
   intro w1 vv X D hX hR;have hfr:QP (.s .own (inse rows i row)):=by simp only[QP];exact⟨.inl (by simp),Un hsc'⟩
   exact⟨_,rfl,D,X,λ_=>NO,NO,λb o h=>by
       rcases hX b o h with h|h|h
       · exact .inl ⟨0,h⟩
       · exact .inl ⟨2,h⟩
       · exact .inr ⟨h.2,h.1⟩,λ_ _ _ h=>h.elim,λ_ _ h=>h.elim,λ_ _ _ _ _ h=>h.elim,λ_ _ _ _ h=>h.elim,λ_ _ _ h=>h.elim,λ_ _ _ h=>h.elim,rfl,row1 (hR.fresh hfr),
       ⟨⟨rfl,λ_=>v,rfl,row1 (.x _ _ E.one)⟩,trivial,⟨rfl,λ_=>v2,rfl,row1 (.x _ _ N.one)⟩,trivial⟩⟩
  rcases N.els (by simp) hk2 with⟨h,-⟩|⟨vb,vc,u2,f2,rfl,-,hvc,hcell2,hu2,J⟩
  ·cases h
  simp only[List.length_singleton,Nat.one_mul]at hvc hu2;by_cases Y:i=rows.length
  ·have hreads:oW w (some ⟨vb,0,none⟩) ([row].length*d.size) ((List.range ([row].length*d.size)).map u2):=by
    refine⟨by simp,λh=>(by cases h),λad j u had l=>?_⟩;cases had;rw[Addr.add_lit,X7];rw[X3]at l;cases L:(List.range ([row].length*d.size))[j]? with
    | none=>rw[L]at l;cases l
    | some j'=>
     obtain⟨U,a2⟩:=Z2.1 L;simp only[List.length_singleton,Nat.one_mul,List.length_range,List.getElem_range]at U a2;subst a2;rw[L]at l;simp only[Y5,C1]at l;subst l;exact hu2 j U
   obtain⟨v',w1,hrun,hk1,hR⟩:=rO (P:=P) (ty:=T) ht hi0 hz hzs hz1 E hk (V:=V 2) (xr:=[row]) (u2:=u2) (f2:=f2) ⟨J.hk,λq L b o h=>(J.hf q L b o h).1,J.hd,J.hc⟩ (b:=some ⟨vb,0,none⟩) (c:=vc)
    hreads
    (λb o h h'=>hVV 0 2 (by decide) b o h h') (λb o h=>(hV 0 b o h).2) (λb o h=>(hV 0 b o h).1) (λb o h=>(hV 2 b o h).1) hS (by simp;omega) (by
      have:(rows.length+[row].length)*d.bytes<=1073741824*1000:=Nat.mul_le_mul (by simpa using hlen) hby;omega)
   have hins:inse rows i row=rows++[row]:=by unfold inse;rw[Y,X5,List.drop_length]
   rw[<-hins]at hR;have hfin:∀(base:Option Addr)(c:Nat),v=.slice base rows.length c->rows.length<=c->(base=none->rows.length=0/\c=0)->Calls P f #[v,.int .i64 (i:Nat),.slice (some ⟨vb,0,none⟩) 1 vc] w λe W=>e=.returned v'/\W=w1:=λbase c hv hc hb=>by
    subst hv;rw[Y];exact hf.end_ w w1 base rows.length c vb 1 vc v' rfl hc ω hb hrun
   have hgo:Calls P f #[v,.int .i64 (i:Nat),.slice (some ⟨vb,0,none⟩) 1 vc] w λe W=>e=.returned v'/\W=w1:=by
    rcases E.els (by simp) hk with⟨h0,a0,hv⟩|⟨g,Z,u,f',hv,hpos,F,-⟩
    ·exact hfin a0 0 (by rw[hv,h0];rfl) (by rw[h0];exact W3 0) λ_=>⟨by rw[h0];rfl,rfl⟩
    exact hfin _ Z hv F λh=>by cases h
   refine hgo.mono λe W ⟨he,hw⟩=>?_
   subst he hw;exact O W v' _ (hk1.up λb o h=>⟨0,h⟩) (λb o h=>h) hR
  rcases E.els (by simp) hk with⟨h0,a0,hv⟩|⟨g,Z,u,f',rfl,hpos,F,p,hu,hE⟩
  ·rw[h0]at hi Y;simp at hi Y;omega
  have hlt:i<rows.length:=ω
  have A:∀(n j:Nat)(y:Value)(uu:Nat->Value),((List.range n).map uu)[j]? = some y->j<n/\y=uu j:=λn j y uu l=>by
   rw[X3]at l;cases hr:(List.range n)[j]? with
   | none=>rw[hr]at l;cases l
   | some j'=>
    obtain⟨h1,M⟩:=Z2.1 hr;simp at h1 M;subst M;rw[hr]at l;simp only[Y5,C1]at l;exact⟨h1,l.symm⟩
  have Q:∀(n j:Nat)(uu:Nat->Value),j<n->((List.range n).map uu)[j]? = some (uu j):=λn j uu l=>by
   rw[X3,W7 l];rfl
  obtain⟨olds,B⟩ : ∃olds,olds=(List.range (rows.length*d.size)).map u:=⟨_,rfl⟩
  obtain⟨vs,hvs⟩ : ∃vs,vs=(List.range d.size).map u2:=⟨_,rfl⟩
  have hol:olds.length=rows.length*d.size:=by rw[B];simp
  have hvl:vs.length=d.size:=by rw[hvs];simp
  have hck:rows.length*d.size<=Z*d.size:=C8 _ F;have hv0:=hcell2 0 (Nat.mul_pos ω hpk);have hg0:=p 0 (Nat.mul_pos ω hpk);have hne:vb≠g:=λh=>by
   subst h;exact hVV 0 2 (by decide) vb 0 hg0.1 hv0.1
  refine(hf.mid w g rows.length Z i vb 1 vc olds vs rfl hlt F ω hby hol hvl (λt y K=>by
      rw[B]at K;obtain⟨U,rfl⟩:=A _ _ _ _ K;exact hu t U) (λt y K=>by
      rw[hvs]at K;obtain⟨U,rfl⟩:=A _ _ _ _ K;exact hu2 t U) (λy K=>by
      rw[B]at K;obtain⟨j,l⟩:=List.getElem?_of_mem K;obtain⟨U,rfl⟩:=A _ _ _ _ l;exact hE.one U) (λy K=>by
      rw[hvs]at K;obtain⟨j,l⟩:=List.getElem?_of_mem K;obtain⟨U,rfl⟩:=A _ _ _ _ l;exact J.one (by simpa using U)) (λq L=>(p q L).2) hv0.2.2 hne).mono λe W ⟨G,c',he,hc',R⟩=>?_
  subst he;have D:bz (λb o=>∃i,V i b o) w W:=R.keep.up λb o ⟨h1,M⟩=>⟨0,by rw[h1];exact(p o M).1⟩
  refine O W _ (λb o=>V 0 b o\/(w.heap.size<=b/\b<W.heap.size)) D (λb o h=>h.elim .inl (λh=>.inr (.inr h))) ?_;refine .own _ .own G d.size (rows.length+1) c' _ (λq=>(cel W G q).getD undef) (λ_=>NO) trivial (Gn ..) (λr H=>(ye H).elim (λh=>by rw[h];exact hr) (hk r)) hc' ω (λq L=>⟨?_,R.all q L⟩) (λq L=>?_) (λ_ _ _ _ h=>h.elim) (λ_ _ _ _ _ _ _ h=>h.elim) (λa b r c ha hb=>?_)
  ·rcases R.at_ with⟨rfl,rfl⟩|h
   ·exact .inl (p q L).1
   exact .inr h
  ·obtain⟨z,hz',-⟩:=(R.all q (C4 L (C8 _ hc'))).1
   rw[hz'];rfl
  have hbk:b<d.size:=by
   have:r.length=d.size:=(ye (O2 ha)).elim (λh=>by rw[h];exact hr) (hk r);rw[<-this];exact(Z2.1 hb).1
  have hal:=(Z2.1 ha).1;rw[Gn]at hal;obtain⟨y,rfl,K⟩:=NX (olds:=olds) (vs:=vs) hi hol hvl hbk (λa b r c h1 M=>by
      obtain⟨y,rfl⟩:=hsc r (O2 h1) c (O2 M);have h3:=hE.hc a b r _ h1 M;have h4:=su rfl hk h1 M;generalize hyy:u (a*d.size+b)=yy at h3;cases h3;exact⟨_,rfl,by rw[B,Q _ _ _ (dH h4.1 h4.2),hyy]⟩) (λb c M=>by
      obtain⟨y,rfl⟩:=hsr row (by simp) c (O2 M);have h3:=J.hc 0 b row _ rfl M;simp only[Nat.zero_mul,X7]at h3;have h4:=(Z2.1 M).1;generalize hyy:u2 b=yy at h3;cases h3;exact⟨_,rfl,by rw[hvs,Q _ _ _ ω,hyy]⟩) ha hb
  have hz':=R.cel _ y K;simp only[hz',Option.getD_some];obtain⟨z,h5,h6⟩:=(R.all (a*d.size+b) (C4 (dH hal hbk) (C8 _ hc'))).1;rw[hz']at h5;cases h5;exact .v _ _ h6
set_option maxRecDepth 100000
def yK:∃(b:TypeInfo)(c:Value),Tryz.prog.info? 74=some b/\b.size=4/\b.zero=some c/\c.cells.size=4/\(∀v∈c.cells.toList,v.oneCell'=true)/\b.bytes=32:=by
 have h:=(qX 74 _ rfl).1;cases e : Tryz.prog.info? 74 with
 | none=>rw[e]at h;cases h
 | some x=>
  rw[e]at h;simp only[Y5,C1,Prod.mk.injEq]at h;obtain⟨a,g,i⟩:=h;cases d:x.zero with
  | none=>rw[d]at a;cases a
  | some z=>
   rw[d]at a;simp only[Y5,C1]at a;refine⟨x,z,rfl,g,d,?_,λv f=>?_,i⟩
   ·rw[<-Array.length_toList,a];rfl
   rw[a]at f;have j:(List.map cval [I 0,I 0,I 0,I 0]).all (λv=>v.oneCell')=true:=rfl;exact O4.1 j v f
def JC:∀w,(Go.sizeOf 74).run Tryz.prog w=.ok 4 w:=λ_=>by kernel_rfl
def Hs(w w1:World)(base:Option Addr)(n c d m g:Nat)(r:Value)(i:m=1)(j:n<=c)(h:n<=1073741824)(k:base=none->n=0/\c=0)(b:(Builtin.append_ #[39,39] 39 #[.slice base n c,.slice (some ⟨d,0,none⟩) m g]).run Tryz.prog w=.ok r w1) :
  Calls Tryz.prog 67 #[.slice base n c,.int .i64 n,.slice (some ⟨d,0,none⟩) m g] w λe l=>e=.returned r/\l=w1:=by
 have mixed : Tryz.prog.follows .mixedOrders=true:=by kernel_rfl
 have o:0<m:=ω
 have p:m<=1:=ω
 clear i;have q:¬((m:Int)=0):=ω
 go_enter Tryz.func67,Tryz.ntmps67
 cases base with
 | none=>
  obtain⟨rfl,rfl⟩:=k rfl
  go_wp2_with (at_builtin;refine Lib.wpList_append_run _ rfl _ _ _ _ rfl _ _ rfl rfl _ _ b ?_)
  go_ret
  exact⟨rfl,rfl⟩
 | some a=>
  obtain⟨u,y,asp⟩:=a
  go_wp2_with (at_builtin;refine Lib.wpList_append_run _ rfl _ _ _ _ rfl _ _ rfl rfl _ _ b ?_)
  all_goals(go_ret;exact⟨rfl,rfl⟩)
def Ex(w:World)(g n c i p m C:Nat)(olds vs:List Value)(Z:m=1)(hi:i<n)(X:n<=1073741824)(M:n+m<=c)(N:olds.length=n*4)(D:vs.length=4)(ho:∀t u,olds[t]? = some u->cel w g t=some u)(L:∀t u,vs[t]? = some u->cel w p t=some u)(h1:∀u∈olds,u.oneCell'=true)(h2:∀u∈vs,u.oneCell'=true)(b:∀q,q<c*4->(∃z,cel w g q=some z/\z.oneCell'=true)/\fro w g q=NF)(O:fro w p 0=NF)(E:p≠g) :
  Calls Tryz.prog 67 #[.slice (some ⟨g,0,none⟩) n c,.int .i64 i,.slice (some ⟨p,0,none⟩) m C] w λe w'=>e=.returned (.slice (some ⟨g,0,none⟩) (n+m) c)/\w'=(w.drew.setCells g ((i+m)*4) (olds.drop (i*4))).setCells g (i*4) vs:=by
 have mixed : Tryz.prog.follows .mixedOrders=true:=by kernel_rfl
 have hm1:0<m:=ω
 have hm2:m<=1:=ω
 clear Z;have hz1:¬((m:Int)=0):=ω
 have hz2:¬((i:Int)=(n:Int)):=ω
 have hz3:¬((c:Int)<(n:Int)+(m:Int)):=ω
 have F:(Tryz.prog.info? 74).map (·.size)=some 4:=by obtain⟨i0,z0,e1,e2,-⟩:=yK;rw[e1];simp[e2]
 have cell:∀q,q<(n+m)*4->(w.cell? ⟨g,q,none⟩).isSome=true/\w.frozen? ⟨g,q,none⟩ = false:=λq Y=>by
  obtain⟨⟨z,hz,-⟩,hf⟩:=b q ω;exact⟨by show(cel w g q).isSome=true;rw[hz];rfl,Z0 Prod.fst hf⟩
 have P:∀Q R,(callFunc 193 #[.slice (some ⟨p,0,none⟩) m C,.slice (some ⟨g,(i+m)*4,none⟩) Q R]).run Tryz.prog w=.ok (.value (.bool false)) w:=λQ R=>by
  obtain⟨y,hy⟩ : ∃y,vs[0]? = some y:=⟨_,X2 ω⟩
  obtain⟨⟨y',S,-⟩,T⟩:=b 0 ω;rw[run_callFunc_extern Tryz.func193 (by kernel_rfl) (by kernel_rfl) (by kernel_rfl) (e:=Extern.SlicesOverlaps.overlaps #[39,39] #[4]) (by kernel_rfl),
    qa (e:=74) (k:=4) Tryz.underlying39 JC E (L 0 y hy) O S T _ m C Q R]
  rfl
 have l:(olds.drop (i*4)).length=(n - i)*4:=by rw[Z3,N];omega
 have hw1:IntKind.i64.wrap ((i:Int)+(m:Int))=(i:Int)+(m:Int):=by rw[IntKind.wrap_i64];omega
 have hw2:IntKind.i64.wrap ((n:Int)+(m:Int))=(n:Int)+(m:Int):=by rw[IntKind.wrap_i64];omega
 have hb1:(0:Int)<=(i:Int)+(m:Int):=ω
 have hin:i<=n:=ω
 have htn:((i:Int)+(m:Int)).toNat=i+m:=ω
 have hb2:¬(c=i+m):=ω
 have hb3:(i:Int)<=(n:Int)+(m:Int):=ω
 have hb4:¬(c=i):=ω
 have o:∀r B U,(Builtin.copy_ #[39,39] r #[.slice (some ⟨g,(i+m)*4,none⟩) (n+m - (i+m)) B,.slice (some ⟨g,i*4,none⟩) (n+m - i) U]).run Tryz.prog w.drew=.ok (goInt ((n - i:Nat):Int)) (w.drew.setCells g ((i+m)*4) (olds.drop (i*4))):=λr B U=>
  eH w.drew _ _ r 74 4 g ((i+m)*4) (n+m - (i+m)) B ⟨g,i*4,none⟩ (n+m - i) U (n - i) (olds.drop (i*4)) Tryz.underlying39 F (by simp only[Nat.min_def];split<;>omega) l
   (λj v a=>by rw[Addr.add_lit];exact ho (i*4+j) v (by rwa [List.getElem?_drop]at a))
   (λj a=>by rw[l]at a;exact(cell _ ω).1) (λj a=>by rw[l]at a;exact(cell _ ω).2) (λv L=>h1 v (List.mem_of_mem_drop L))
 obtain⟨G,d⟩ : ∃G,G=w.drew.setCells g ((i+m)*4) (olds.drop (i*4)):=⟨_,rfl⟩
 have H:∀q,q<(n+m)*4->(G.cell? ⟨g,q,none⟩).isSome=true:=λq Y=>by
  rw[d];exact l7 g _ _ _ (λj a=>by rw[l]at a;exact(cell _ ω).1) _ (cell q Y).1
 have J:∀(W:World),(∀x,W.cell? x=G.cell? x)->(∀x,W.frozen? x=G.frozen? x)->∀r B,(Builtin.copy_ #[39,39] r #[.slice (some ⟨g,i*4,none⟩) (n+m - i) B,.slice (some ⟨p,0,none⟩) m C]).run Tryz.prog W=.ok (goInt ((1:Nat):Int)) (W.setCells g (i*4) vs):=λW K V r B=>
  eH W _ _ r 74 4 g (i*4) (n+m - i) B ⟨p,0,none⟩ m C 1 vs Tryz.underlying39 F (by simp only[Nat.min_def];split<;>omega) ω
   (λj v a=>by
     rw[Addr.add_lit,X7,K,d,World.cell?_setCells_out g _ _ _ _ (λh _=>absurd h E)];exact L j v a)
   (λj a=>by rw[K];rw[D]at a;exact H _ ω) (λj a=>by rw[V,d,World.frozen?_setCells];rw[D]at a;exact(cell _ ω).2) h2
 rw[<-d]at o;clear cell b
 go_enter Tryz.func67,Tryz.ntmps67
 go_wp2_with (simp only[P])
 go_region_law_o (refine iJ rfl _ _ 39 39 rfl _ _ (by simp[Act.eval,Act.put]) (by simp[Act.eval,Act.put]) (o _ _ _) ?_)
 go_wp2_with (at_builtin;refine dX _ rfl _ _ 39 39 rfl _ _ rfl rfl (J _ (λ_=>rfl) (λ_=>rfl) _ _) ?_)
 go_ret
 first|exact⟨rfl,rfl⟩|exact⟨rfl,by rw[d]⟩
variable{q:Value}{H:TypeInfo}
def Fp(J : Tryz.prog.info? 74=some H)(K:H.size=4)(V:H.zero=some q)(X:q.cells.size=4)(L:H.bytes=32)(w:World)(g n c i r m Y:Nat)(olds vs:List Value)(hm:m=1)(hi:i<n)(hn63:n<=1073741824)(hnc:n<=c)(C:c<n+m)(M:olds.length=n*4)(N:vs.length=4)(Z:∀t u,olds[t]? = some u->cel w g t=some u)(T:∀t u,vs[t]? = some u->cel w r t=some u)(h1:∀u∈olds,u.oneCell'=true)(h2:∀u∈vs,u.oneCell'=true) :
  Calls Tryz.prog 67 #[.slice (some ⟨g,0,none⟩) n c,.int .i64 i,.slice (some ⟨r,0,none⟩) m Y] w λe w'=>e=.returned (.slice (some ⟨w.heap.size,0,none⟩) (n+m) (grownCap w (n+m) c 74))/\
   w'=(((w.alloc (.cells ((olds.take (i*4)).toArray++Builtin.zeroCells q.cells (n+m - i)++Builtin.zeroCells q.cells (grownCap w (n+m) c 74 - (n+m))) 74)).drew.setCells w.heap.size (i*4) vs).drew).setCells w.heap.size ((i+m)*4) (olds.drop (i*4)):=by
 have mixed : Tryz.prog.follows .mixedOrders=true:=by kernel_rfl
 have hm1:0<m:=ω
 have hm2:m<=1:=ω
 clear hm;have hz1:¬((m:Int)=0):=ω
 have hz2:¬((i:Int)=(n:Int)):=ω
 have hz3:(c:Int)<(n:Int)+(m:Int):=ω
 have O:(Tryz.prog.info? 74).map (·.size)=some 4:=by rw[J];simp[K]
 have hbw:g<w.heap.size:=block_lt_of_cell (Z 0 _ (X2 ω));have hvw:r<w.heap.size:=block_lt_of_cell (T 0 _ (X2 ω));have P:(n:Int)+(m:Int) - (i:Int)=((n+m - i:Nat):Int):=ω
 have D:i+(n+m - i)=n+m:=ω
 have y:(Builtin.firstCells H.size i (.slice (some ⟨g,0,none⟩) i c)).run Tryz.prog w.drew=.ok (olds.take (i*4)).toArray w.drew:=by
  rw[K];exact run_firstCells_some w.drew 4 i ⟨g,0,none⟩ i c (olds.take (i*4)) (by rw[C2];omega) (λj v a=>by
    rw[Addr.add_lit,X7];rw[List.getElem?_take]at a;split at a
    · exact Z j v a
    cases a)
 have p:∀d,(Builtin.append_ #[39,3] d #[.slice (some ⟨g,0,none⟩) i c,.int .i64 ((n:Int)+(m:Int) - (i:Int))]).run Tryz.prog w =
   .ok (.slice (some ⟨w.heap.size,0,none⟩) (n+m) (grownCap w (n+m) c 74)) (w.drew.alloc (.cells ((olds.take (i*4)).toArray++Builtin.zeroCells q.cells (n+m - i)++Builtin.zeroCells q.cells (grownCap w (n+m) c 74 - (n+m))) 74)):=λd=>by
  have h:=Lib.run_append_grow_zeros w 39 3 d 74 H _ .i64 .i64 Tryz.underlying39 Tryz.underlying3 J V (some ⟨g,0,none⟩) i c (olds.take (i*4)) y (n+m - i) ω ω ω ω (by rw[L];omega) (by rw[L,D];exact growslice_fits C ω);rw[D]at h;rw[P];exact h
 obtain⟨G,U⟩ : ∃G,G=grownCap w (n+m) c 74:=⟨_,rfl⟩
 obtain⟨ROW,k⟩ : ∃ROW:Array Value,ROW=(olds.take (i*4)).toArray++Builtin.zeroCells q.cells (n+m - i)++Builtin.zeroCells q.cells (G - (n+m)):=⟨_,rfl⟩
 rw[<-U]at p |-;rw[<-k]at p |-;have hRl:(n+m)*4<=ROW.size:=by
  rw[k];simp only[Array.size_append,List.size_toArray,C2,size_zeroCells,X,M];omega
 obtain⟨o,b⟩ : ∃o,o=w.drew.alloc (.cells ROW 74):=⟨_,rfl⟩
 rw[<-b]at p;have hN:∀j,j<(n+m)*4->(o.cell? ⟨w.heap.size,j,none⟩).isSome=true:=λj a=>by
  rw[b,World.cell?_alloc_at (w:=w.drew) ROW _ w.heap.size j rfl,I7 ω];rfl
 have Q:∀j,o.frozen? ⟨w.heap.size,j,none⟩ = false:=λj=>by rw[b];exact World.frozen?_alloc_at (w:=w.drew) ROW _ w.heap.size j rfl
 have hOb:∀j v,w.cell? ⟨g,j,none⟩ = some v->o.cell? ⟨g,j,none⟩ = some v:=λj v h=>by rw[b,World.cell?_alloc_past (w:=w.drew) _ g j hbw];exact h
 have hOv:∀j v,w.cell? ⟨r,j,none⟩ = some v->o.cell? ⟨r,j,none⟩ = some v:=λj v h=>by rw[b,World.cell?_alloc_past (w:=w.drew) _ r j hvw];exact h
 have R:∀(W:World),(∀x,W.cell? x=o.cell? x)->(∀x,W.frozen? x=o.frozen? x)->∀d E,(Builtin.copy_ #[39,39] d #[.slice (some ⟨w.heap.size,i*4,none⟩) (n+m - i) E,.slice (some ⟨r,0,none⟩) m Y]).run Tryz.prog W=.ok (goInt ((1:Nat):Int)) (W.setCells w.heap.size (i*4) vs):=λW l F d E=>
  eH W _ _ d 74 4 w.heap.size (i*4) (n+m - i) E ⟨r,0,none⟩ m Y 1 vs Tryz.underlying39 O (by simp only[Nat.min_def];split<;>omega) ω
   (λj v a=>by rw[Addr.add_lit,X7,l];exact hOv _ v (T j v a))
   (λj a=>by rw[l];rw[N]at a;exact hN _ ω) (λj a=>by rw[F];exact Q _) h2
 have hGn:n+m<=G:=by rw[U];exact grownCap_ge w _ _ _
 have hG63:G<=9223372036854775807:=by
  have:=grownCap_le_maxLen w (n+m) c 74 (by unfold maxLen;omega);rw[<-U]at this;unfold maxLen at this;omega
 have hGi:¬(G=i):=ω
 have hGim:¬(G=i+m):=ω
 have hci:¬(c=i):=ω
 have hbN:g≠w.heap.size:=ω
 have S:(olds.drop (i*4)).length=(n - i)*4:=by rw[Z3,M];omega
 have B:∀(W:World),(∀x,W.cell? x=(o.setCells w.heap.size (i*4) vs).cell? x)->(∀x,W.frozen? x=(o.setCells w.heap.size (i*4) vs).frozen? x)->∀d E sc,(Builtin.copy_ #[39,39] d #[.slice (some ⟨w.heap.size,(i+m)*4,none⟩) (n+m - (i+m)) E,.slice (some ⟨g,i*4,none⟩) (n - i) sc]).run Tryz.prog W=.ok (goInt ((n - i:Nat):Int)) (W.setCells w.heap.size ((i+m)*4) (olds.drop (i*4))):=λW l F d E sc=>
  eH W _ _ d 74 4 w.heap.size ((i+m)*4) (n+m - (i+m)) E ⟨g,i*4,none⟩ (n - i) sc (n - i) (olds.drop (i*4)) Tryz.underlying39 O (by simp only[Nat.min_def];split<;>omega) S
   (λj v a=>by
     rw[Addr.add_lit,l,World.cell?_setCells_out _ _ _ _ _ (λh _=>absurd h hbN)];exact hOb _ v (Z (i*4+j) v (by rwa [List.getElem?_drop]at a)))
   (λj a=>by rw[l];rw[S]at a;exact l7 _ _ _ _ (λt ht=>by rw[N]at ht;exact hN _ ω) _ (hN _ ω))
   (λj a=>by rw[F,World.frozen?_setCells];exact Q _) (λv T=>h1 v (List.mem_of_mem_drop T))
 subst b;have hE1:∀x,((w.alloc (.cells ROW 74)).drew).cell? x=(w.drew.alloc (.cells ROW 74)).cell? x:=λx=>rfl
 have hE2:∀x,((w.alloc (.cells ROW 74)).drew).frozen? x=(w.drew.alloc (.cells ROW 74)).frozen? x:=λx=>rfl
 have hF1:∀x,(((w.alloc (.cells ROW 74)).drew.setCells w.heap.size (i*4) vs).drew).cell? x=((w.drew.alloc (.cells ROW 74)).setCells w.heap.size (i*4) vs).cell? x:=λx=>rfl
 have hF2:∀x,(((w.alloc (.cells ROW 74)).drew.setCells w.heap.size (i*4) vs).drew).frozen? x=((w.drew.alloc (.cells ROW 74)).setCells w.heap.size (i*4) vs).frozen? x:=λx=>rfl
 have hw1:IntKind.i64.wrap ((i:Int)+(m:Int))=(i:Int)+(m:Int):=by rw[IntKind.wrap_i64];omega
 have hw2:IntKind.i64.wrap ((n:Int)+(m:Int))=(n:Int)+(m:Int):=by rw[IntKind.wrap_i64];omega
 have hw3:IntKind.i64.wrap ((n:Int)+(m:Int) - (i:Int))=(n:Int)+(m:Int) - (i:Int):=by rw[IntKind.wrap_i64];omega
 have hb1:(0:Int)<=(i:Int)+(m:Int):=ω
 have hin:i<=n:=ω
 have htn:((i:Int)+(m:Int)).toNat=i+m:=ω
 have hb3:(i:Int)<=(n:Int):=ω
 clear P D y k U hRl
 go_enter Tryz.func67,Tryz.ntmps67
 go_wp2_with (first
   | (at_builtin;refine Lib.wpList_append_run _ rfl _ _ _ _ rfl _ _ rfl rfl _ _ (p _) ?_)
   | (at_builtin;refine dX _ rfl _ _ 39 39 rfl _ _ rfl rfl (R _ hE1 hE2 _ _) ?_)
   | (at_builtin;refine dX _ rfl _ _ 39 39 rfl _ _ rfl rfl (B _ (λ_=>rfl) (λ_=>rfl) _ _ _) ?_))
 go_region_law_o (refine iJ rfl _ _ 39 39 rfl (.slice (some ⟨w.heap.size,(i+m)*4,none⟩) (n+m - (i+m)) (G - (i+m))) (.slice (some ⟨g,i*4,none⟩) (n - i) (c - i)) (by simp[Act.eval,Act.put]) (by simp[Act.eval,Act.put]) (B _ hF1 hF2 3 (G - (i+m)) (c - i)) ?_)
 go_wp2
 go_ret
 exact⟨rfl,rfl⟩
def Jk:E2 Tryz.prog 67 4 39 32:=by
 refine⟨⟨_,Tryz.func67,by kernel_rfl,by kernel_rfl⟩,Hs,λw g n c i K m L olds M l o r h P b d u N p q j y B=>?_⟩;obtain⟨Q,R,C,D,E,k,F,G⟩:=yK;by_cases a:n+m<=c
 ·refine(Ex w g n c i K m L olds M l o h a b d u N p q j y B).mono λe O ⟨H,J⟩=>?_
  subst l;rw[J];exact⟨g,c,H,a,pS o a b d u p q j⟩
 refine(Fp C D E k G w g n c i K m L olds M l o h r ω b d u N p q).mono λe O ⟨H,J⟩=>?_
 subst l;rw[J,wN];exact⟨_,_,H,grownCap_ge w _ _ _,rR (e:=74) rfl rfl rfl rfl o (grownCap_ge w _ _ _) k F b d p q⟩
def v6(xs:List bt):TL (xs.map (bt.enc .own)):=λr b c a=>by
 obtain⟨s,-,rfl⟩:=Y4.1 b;simp[bt.enc]at a;rcases a with rfl|rfl|rfl|rfl<;>exact⟨_,rfl⟩
def xJ(xs:List bt)(i:Nat)(x:bt)(j:i<=xs.length)(k:xs.length+1<=1073741824):zzB 67 false [.mut none [.s .own (xs.map (bt.enc .own))],.val none [I (i:Nat)],.mut none [.s .own [bt.enc .own x]]] [.mut none [.x],.val none [I (i:Nat)],.mut none [.x]] .one [.s .own ((inse xs i x).map (bt.enc .own))]:=by
 obtain⟨l,n,c,a,d,e,g,b⟩:=yK;have h:=Hw (row:=bt.enc .own x) Tryz.underlying39 c a d (by rw[a,e]) g (by rw[b];decide) (by rw[b];exact Jk) (rows:=xs.map (bt.enc .own)) (i:=i) (by rw[I1];exact j) (aX λ_=>rfl) rfl (by decide) (v6 xs) (v6 [x]) (by rw[I1];exact k)
 rwa [zl]at h
def rN:∃(b:TypeInfo)(c:Value),Tryz.prog.info? 175=some b/\b.size=3/\b.zero=some c/\c.cells.size=3/\(∀v∈c.cells.toList,v.oneCell'=true)/\b.bytes=24:=by
 have h:=(qX 175 _ rfl).1;cases e : Tryz.prog.info? 175 with
 | none=>rw[e]at h;cases h
 | some x=>
  rw[e]at h;simp only[Y5,C1,Prod.mk.injEq]at h;obtain⟨a,g,i⟩:=h;cases d:x.zero with
  | none=>rw[d]at a;cases a
  | some z=>
   rw[d]at a;simp only[Y5,C1]at a;refine⟨x,z,rfl,g,d,?_,λv f=>?_,i⟩
   ·rw[<-Array.length_toList,a];rfl
   rw[a]at f;have j:(List.map cval [I 0,I 0,I 0]).all (λv=>v.oneCell')=true:=rfl;exact O4.1 j v f
def E3:∀w,(Go.sizeOf 175).run Tryz.prog w=.ok 3 w:=λ_=>by kernel_rfl
def DW(w w1:World)(base:Option Addr)(n c d m g:Nat)(r:Value)(i:m=1)(j:n<=c)(h:n<=1073741824)(k:base=none->n=0/\c=0)(b:(Builtin.append_ #[38,38] 38 #[.slice base n c,.slice (some ⟨d,0,none⟩) m g]).run Tryz.prog w=.ok r w1) :
  Calls Tryz.prog 192 #[.slice base n c,.int .i64 n,.slice (some ⟨d,0,none⟩) m g] w λe l=>e=.returned r/\l=w1:=by
 have mixed : Tryz.prog.follows .mixedOrders=true:=by kernel_rfl
 have o:0<m:=ω
 have p:m<=1:=ω
 clear i;have q:¬((m:Int)=0):=ω
 go_enter Tryz.func192,Tryz.ntmps192
 cases base with
 | none=>
  obtain⟨rfl,rfl⟩:=k rfl
  go_wp2_with (at_builtin;refine Lib.wpList_append_run _ rfl _ _ _ _ rfl _ _ rfl rfl _ _ b ?_)
  go_ret
  exact⟨rfl,rfl⟩
 | some a=>
  obtain⟨u,y,asp⟩:=a
  go_wp2_with (at_builtin;refine Lib.wpList_append_run _ rfl _ _ _ _ rfl _ _ rfl rfl _ _ b ?_)
  all_goals(go_ret;exact⟨rfl,rfl⟩)
def yE(w:World)(g n c i p m C:Nat)(olds vs:List Value)(Z:m=1)(hi:i<n)(X:n<=1073741824)(M:n+m<=c)(N:olds.length=n*3)(D:vs.length=3)(ho:∀t u,olds[t]? = some u->cel w g t=some u)(L:∀t u,vs[t]? = some u->cel w p t=some u)(h1:∀u∈olds,u.oneCell'=true)(h2:∀u∈vs,u.oneCell'=true)(b:∀q,q<c*3->(∃z,cel w g q=some z/\z.oneCell'=true)/\fro w g q=NF)(O:fro w p 0=NF)(E:p≠g) :
  Calls Tryz.prog 192 #[.slice (some ⟨g,0,none⟩) n c,.int .i64 i,.slice (some ⟨p,0,none⟩) m C] w λe w'=>e=.returned (.slice (some ⟨g,0,none⟩) (n+m) c)/\w'=(w.drew.setCells g ((i+m)*3) (olds.drop (i*3))).setCells g (i*3) vs:=by
 have mixed : Tryz.prog.follows .mixedOrders=true:=by kernel_rfl
 have hm1:0<m:=ω
 have hm2:m<=1:=ω
 clear Z;have hz1:¬((m:Int)=0):=ω
 have hz2:¬((i:Int)=(n:Int)):=ω
 have hz3:¬((c:Int)<(n:Int)+(m:Int)):=ω
 have F:(Tryz.prog.info? 175).map (·.size)=some 3:=by obtain⟨i0,z0,e1,e2,-⟩:=rN;rw[e1];simp[e2]
 have cell:∀q,q<(n+m)*3->(w.cell? ⟨g,q,none⟩).isSome=true/\w.frozen? ⟨g,q,none⟩ = false:=λq Y=>by
  obtain⟨⟨z,hz,-⟩,hf⟩:=b q ω;exact⟨by show(cel w g q).isSome=true;rw[hz];rfl,Z0 Prod.fst hf⟩
 have P:∀Q R,(callFunc 343 #[.slice (some ⟨p,0,none⟩) m C,.slice (some ⟨g,(i+m)*3,none⟩) Q R]).run Tryz.prog w=.ok (.value (.bool false)) w:=λQ R=>by
  obtain⟨y,hy⟩ : ∃y,vs[0]? = some y:=⟨_,X2 ω⟩
  obtain⟨⟨y',S,-⟩,T⟩:=b 0 ω;rw[run_callFunc_extern Tryz.func343 (by kernel_rfl) (by kernel_rfl) (by kernel_rfl) (e:=Extern.SlicesOverlaps.overlaps #[38,38] #[4]) (by kernel_rfl),
    qa (e:=175) (k:=3) Tryz.underlying38 E3 E (L 0 y hy) O S T _ m C Q R]
  rfl
 have l:(olds.drop (i*3)).length=(n - i)*3:=by rw[Z3,N];omega
 have hw1:IntKind.i64.wrap ((i:Int)+(m:Int))=(i:Int)+(m:Int):=by rw[IntKind.wrap_i64];omega
 have hw2:IntKind.i64.wrap ((n:Int)+(m:Int))=(n:Int)+(m:Int):=by rw[IntKind.wrap_i64];omega
 have hb1:(0:Int)<=(i:Int)+(m:Int):=ω
 have hin:i<=n:=ω
 have htn:((i:Int)+(m:Int)).toNat=i+m:=ω
 have hb2:¬(c=i+m):=ω
 have hb3:(i:Int)<=(n:Int)+(m:Int):=ω
 have hb4:¬(c=i):=ω
 have o:∀r B U,(Builtin.copy_ #[38,38] r #[.slice (some ⟨g,(i+m)*3,none⟩) (n+m - (i+m)) B,.slice (some ⟨g,i*3,none⟩) (n+m - i) U]).run Tryz.prog w.drew=.ok (goInt ((n - i:Nat):Int)) (w.drew.setCells g ((i+m)*3) (olds.drop (i*3))):=λr B U=>
  eH w.drew _ _ r 175 3 g ((i+m)*3) (n+m - (i+m)) B ⟨g,i*3,none⟩ (n+m - i) U (n - i) (olds.drop (i*3)) Tryz.underlying38 F (by simp only[Nat.min_def];split<;>omega) l
   (λj v a=>by rw[Addr.add_lit];exact ho (i*3+j) v (by rwa [List.getElem?_drop]at a))
   (λj a=>by rw[l]at a;exact(cell _ ω).1) (λj a=>by rw[l]at a;exact(cell _ ω).2) (λv L=>h1 v (List.mem_of_mem_drop L))
 obtain⟨G,d⟩ : ∃G,G=w.drew.setCells g ((i+m)*3) (olds.drop (i*3)):=⟨_,rfl⟩
 have H:∀q,q<(n+m)*3->(G.cell? ⟨g,q,none⟩).isSome=true:=λq Y=>by
  rw[d];exact l7 g _ _ _ (λj a=>by rw[l]at a;exact(cell _ ω).1) _ (cell q Y).1
 have J:∀(W:World),(∀x,W.cell? x=G.cell? x)->(∀x,W.frozen? x=G.frozen? x)->∀r B,(Builtin.copy_ #[38,38] r #[.slice (some ⟨g,i*3,none⟩) (n+m - i) B,.slice (some ⟨p,0,none⟩) m C]).run Tryz.prog W=.ok (goInt ((1:Nat):Int)) (W.setCells g (i*3) vs):=λW K V r B=>
  eH W _ _ r 175 3 g (i*3) (n+m - i) B ⟨p,0,none⟩ m C 1 vs Tryz.underlying38 F (by simp only[Nat.min_def];split<;>omega) ω
   (λj v a=>by
     rw[Addr.add_lit,X7,K,d,World.cell?_setCells_out g _ _ _ _ (λh _=>absurd h E)];exact L j v a)
   (λj a=>by rw[K];rw[D]at a;exact H _ ω) (λj a=>by rw[V,d,World.frozen?_setCells];rw[D]at a;exact(cell _ ω).2) h2
 rw[<-d]at o;clear cell b
 go_enter Tryz.func192,Tryz.ntmps192
 go_wp2_with (simp only[P])
 go_region_law_o (refine iJ rfl _ _ 38 38 rfl _ _ (by simp[Act.eval,Act.put]) (by simp[Act.eval,Act.put]) (o _ _ _) ?_)
 go_wp2_with (at_builtin;refine dX _ rfl _ _ 38 38 rfl _ _ rfl rfl (J _ (λ_=>rfl) (λ_=>rfl) _ _) ?_)
 go_ret
 first|exact⟨rfl,rfl⟩|exact⟨rfl,by rw[d]⟩
def zR(J : Tryz.prog.info? 175=some H)(K:H.size=3)(V:H.zero=some q)(X:q.cells.size=3)(L:H.bytes=24)(w:World)(g n c i r m Y:Nat)(olds vs:List Value)(hm:m=1)(hi:i<n)(hn63:n<=1073741824)(hnc:n<=c)(C:c<n+m)(M:olds.length=n*3)(N:vs.length=3)(Z:∀t u,olds[t]? = some u->cel w g t=some u)(T:∀t u,vs[t]? = some u->cel w r t=some u)(h1:∀u∈olds,u.oneCell'=true)(h2:∀u∈vs,u.oneCell'=true) :
  Calls Tryz.prog 192 #[.slice (some ⟨g,0,none⟩) n c,.int .i64 i,.slice (some ⟨r,0,none⟩) m Y] w λe w'=>e=.returned (.slice (some ⟨w.heap.size,0,none⟩) (n+m) (grownCap w (n+m) c 175))/\
   w'=(((w.alloc (.cells ((olds.take (i*3)).toArray++Builtin.zeroCells q.cells (n+m - i)++Builtin.zeroCells q.cells (grownCap w (n+m) c 175 - (n+m))) 175)).drew.setCells w.heap.size (i*3) vs).drew).setCells w.heap.size ((i+m)*3) (olds.drop (i*3)):=by
 have mixed : Tryz.prog.follows .mixedOrders=true:=by kernel_rfl
 have hm1:0<m:=ω
 have hm2:m<=1:=ω
 clear hm;have hz1:¬((m:Int)=0):=ω
 have hz2:¬((i:Int)=(n:Int)):=ω
 have hz3:(c:Int)<(n:Int)+(m:Int):=ω
 have O:(Tryz.prog.info? 175).map (·.size)=some 3:=by rw[J];simp[K]
 have hbw:g<w.heap.size:=block_lt_of_cell (Z 0 _ (X2 ω));have hvw:r<w.heap.size:=block_lt_of_cell (T 0 _ (X2 ω));have P:(n:Int)+(m:Int) - (i:Int)=((n+m - i:Nat):Int):=ω
 have D:i+(n+m - i)=n+m:=ω
 have y:(Builtin.firstCells H.size i (.slice (some ⟨g,0,none⟩) i c)).run Tryz.prog w.drew=.ok (olds.take (i*3)).toArray w.drew:=by
  rw[K];exact run_firstCells_some w.drew 3 i ⟨g,0,none⟩ i c (olds.take (i*3)) (by rw[C2];omega) (λj v a=>by
    rw[Addr.add_lit,X7];rw[List.getElem?_take]at a;split at a
    · exact Z j v a
    cases a)
 have p:∀d,(Builtin.append_ #[38,3] d #[.slice (some ⟨g,0,none⟩) i c,.int .i64 ((n:Int)+(m:Int) - (i:Int))]).run Tryz.prog w =
   .ok (.slice (some ⟨w.heap.size,0,none⟩) (n+m) (grownCap w (n+m) c 175)) (w.drew.alloc (.cells ((olds.take (i*3)).toArray++Builtin.zeroCells q.cells (n+m - i)++Builtin.zeroCells q.cells (grownCap w (n+m) c 175 - (n+m))) 175)):=λd=>by
  have h:=Lib.run_append_grow_zeros w 38 3 d 175 H _ .i64 .i64 Tryz.underlying38 Tryz.underlying3 J V (some ⟨g,0,none⟩) i c (olds.take (i*3)) y (n+m - i) ω ω ω ω (by rw[L];omega) (by rw[L,D];exact growslice_fits C ω);rw[D]at h;rw[P];exact h
 obtain⟨G,U⟩ : ∃G,G=grownCap w (n+m) c 175:=⟨_,rfl⟩
 obtain⟨ROW,k⟩ : ∃ROW:Array Value,ROW=(olds.take (i*3)).toArray++Builtin.zeroCells q.cells (n+m - i)++Builtin.zeroCells q.cells (G - (n+m)):=⟨_,rfl⟩
 rw[<-U]at p |-;rw[<-k]at p |-;have hRl:(n+m)*3<=ROW.size:=by
  rw[k];simp only[Array.size_append,List.size_toArray,C2,size_zeroCells,X,M];omega
 obtain⟨o,b⟩ : ∃o,o=w.drew.alloc (.cells ROW 175):=⟨_,rfl⟩
 rw[<-b]at p;have hN:∀j,j<(n+m)*3->(o.cell? ⟨w.heap.size,j,none⟩).isSome=true:=λj a=>by
  rw[b,World.cell?_alloc_at (w:=w.drew) ROW _ w.heap.size j rfl,I7 ω];rfl
 have Q:∀j,o.frozen? ⟨w.heap.size,j,none⟩ = false:=λj=>by rw[b];exact World.frozen?_alloc_at (w:=w.drew) ROW _ w.heap.size j rfl
 have hOb:∀j v,w.cell? ⟨g,j,none⟩ = some v->o.cell? ⟨g,j,none⟩ = some v:=λj v h=>by rw[b,World.cell?_alloc_past (w:=w.drew) _ g j hbw];exact h
 have hOv:∀j v,w.cell? ⟨r,j,none⟩ = some v->o.cell? ⟨r,j,none⟩ = some v:=λj v h=>by rw[b,World.cell?_alloc_past (w:=w.drew) _ r j hvw];exact h
 have R:∀(W:World),(∀x,W.cell? x=o.cell? x)->(∀x,W.frozen? x=o.frozen? x)->∀d E,(Builtin.copy_ #[38,38] d #[.slice (some ⟨w.heap.size,i*3,none⟩) (n+m - i) E,.slice (some ⟨r,0,none⟩) m Y]).run Tryz.prog W=.ok (goInt ((1:Nat):Int)) (W.setCells w.heap.size (i*3) vs):=λW l F d E=>
  eH W _ _ d 175 3 w.heap.size (i*3) (n+m - i) E ⟨r,0,none⟩ m Y 1 vs Tryz.underlying38 O (by simp only[Nat.min_def];split<;>omega) ω
   (λj v a=>by rw[Addr.add_lit,X7,l];exact hOv _ v (T j v a))
   (λj a=>by rw[l];rw[N]at a;exact hN _ ω) (λj a=>by rw[F];exact Q _) h2
 have hGn:n+m<=G:=by rw[U];exact grownCap_ge w _ _ _
 have hG63:G<=9223372036854775807:=by
  have:=grownCap_le_maxLen w (n+m) c 175 (by unfold maxLen;omega);rw[<-U]at this;unfold maxLen at this;omega
 have hGi:¬(G=i):=ω
 have hGim:¬(G=i+m):=ω
 have hci:¬(c=i):=ω
 have hbN:g≠w.heap.size:=ω
 have S:(olds.drop (i*3)).length=(n - i)*3:=by rw[Z3,M];omega
 have B:∀(W:World),(∀x,W.cell? x=(o.setCells w.heap.size (i*3) vs).cell? x)->(∀x,W.frozen? x=(o.setCells w.heap.size (i*3) vs).frozen? x)->∀d E sc,(Builtin.copy_ #[38,38] d #[.slice (some ⟨w.heap.size,(i+m)*3,none⟩) (n+m - (i+m)) E,.slice (some ⟨g,i*3,none⟩) (n - i) sc]).run Tryz.prog W=.ok (goInt ((n - i:Nat):Int)) (W.setCells w.heap.size ((i+m)*3) (olds.drop (i*3))):=λW l F d E sc=>
  eH W _ _ d 175 3 w.heap.size ((i+m)*3) (n+m - (i+m)) E ⟨g,i*3,none⟩ (n - i) sc (n - i) (olds.drop (i*3)) Tryz.underlying38 O (by simp only[Nat.min_def];split<;>omega) S
   (λj v a=>by
     rw[Addr.add_lit,l,World.cell?_setCells_out _ _ _ _ _ (λh _=>absurd h hbN)];exact hOb _ v (Z (i*3+j) v (by rwa [List.getElem?_drop]at a)))
   (λj a=>by rw[l];rw[S]at a;exact l7 _ _ _ _ (λt ht=>by rw[N]at ht;exact hN _ ω) _ (hN _ ω))
   (λj a=>by rw[F,World.frozen?_setCells];exact Q _) (λv T=>h1 v (List.mem_of_mem_drop T))
 subst b;have hE1:∀x,((w.alloc (.cells ROW 175)).drew).cell? x=(w.drew.alloc (.cells ROW 175)).cell? x:=λx=>rfl
 have hE2:∀x,((w.alloc (.cells ROW 175)).drew).frozen? x=(w.drew.alloc (.cells ROW 175)).frozen? x:=λx=>rfl
 have hF1:∀x,(((w.alloc (.cells ROW 175)).drew.setCells w.heap.size (i*3) vs).drew).cell? x=((w.drew.alloc (.cells ROW 175)).setCells w.heap.size (i*3) vs).cell? x:=λx=>rfl
 have hF2:∀x,(((w.alloc (.cells ROW 175)).drew.setCells w.heap.size (i*3) vs).drew).frozen? x=((w.drew.alloc (.cells ROW 175)).setCells w.heap.size (i*3) vs).frozen? x:=λx=>rfl
 have hw1:IntKind.i64.wrap ((i:Int)+(m:Int))=(i:Int)+(m:Int):=by rw[IntKind.wrap_i64];omega
 have hw2:IntKind.i64.wrap ((n:Int)+(m:Int))=(n:Int)+(m:Int):=by rw[IntKind.wrap_i64];omega
 have hw3:IntKind.i64.wrap ((n:Int)+(m:Int) - (i:Int))=(n:Int)+(m:Int) - (i:Int):=by rw[IntKind.wrap_i64];omega
 have hb1:(0:Int)<=(i:Int)+(m:Int):=ω
 have hin:i<=n:=ω
 have htn:((i:Int)+(m:Int)).toNat=i+m:=ω
 have hb3:(i:Int)<=(n:Int):=ω
 clear P D y k U hRl
 go_enter Tryz.func192,Tryz.ntmps192
 go_wp2_with (first
   | (at_builtin;refine Lib.wpList_append_run _ rfl _ _ _ _ rfl _ _ rfl rfl _ _ (p _) ?_)
   | (at_builtin;refine dX _ rfl _ _ 38 38 rfl _ _ rfl rfl (R _ hE1 hE2 _ _) ?_)
   | (at_builtin;refine dX _ rfl _ _ 38 38 rfl _ _ rfl rfl (B _ (λ_=>rfl) (λ_=>rfl) _ _ _) ?_))
 go_region_law_o (refine iJ rfl _ _ 38 38 rfl (.slice (some ⟨w.heap.size,(i+m)*3,none⟩) (n+m - (i+m)) (G - (i+m))) (.slice (some ⟨g,i*3,none⟩) (n - i) (c - i)) (by simp[Act.eval,Act.put]) (by simp[Act.eval,Act.put]) (B _ hF1 hF2 3 (G - (i+m)) (c - i)) ?_)
 go_wp2
 go_ret
 exact⟨rfl,rfl⟩
def D6:E2 Tryz.prog 192 3 38 24:=by
 refine⟨⟨_,Tryz.func192,by kernel_rfl,by kernel_rfl⟩,DW,λw g n c i K m L olds M l o r h P b d u N p q j y B=>?_⟩;obtain⟨Q,R,C,D,E,k,F,G⟩:=rN;by_cases a:n+m<=c
 ·refine(yE w g n c i K m L olds M l o h a b d u N p q j y B).mono λe O ⟨H,J⟩=>?_
  subst l;rw[J];exact⟨g,c,H,a,pS o a b d u p q j⟩
 refine(zR C D E k G w g n c i K m L olds M l o h r ω b d u N p q).mono λe O ⟨H,J⟩=>?_
 subst l;rw[J,wN];exact⟨_,_,H,grownCap_ge w _ _ _,rR (e:=175) rfl rfl rfl rfl o (grownCap_ge w _ _ _) k F b d p q⟩
def r7(xs:List aF):TL (xs.map (aF.enc .own)):=λr b c a=>by
 obtain⟨s,-,rfl⟩:=Y4.1 b;simp[aF.enc]at a;rcases a with rfl|rfl|rfl<;>exact⟨_,rfl⟩
def DI(xs:List aF)(i:Nat)(x:aF)(j:i<=xs.length)(k:xs.length+1<=1073741824):zzB 192 false [.mut none [.s .own (xs.map (aF.enc .own))],.val none [I (i:Nat)],.mut none [.s .own [aF.enc .own x]]] [.mut none [.x],.val none [I (i:Nat)],.mut none [.x]] .one [.s .own ((inse xs i x).map (aF.enc .own))]:=by
 obtain⟨l,n,c,a,d,e,g,b⟩:=rN;have h:=Hw (row:=aF.enc .own x) Tryz.underlying38 c a d (by rw[a,e]) g (by rw[b];decide) (by rw[b];exact D6) (rows:=xs.map (aF.enc .own)) (i:=i) (by rw[I1];exact j) (aX λ_=>rfl) rfl (by decide) (r7 xs) (r7 [x]) (by rw[I1];exact k)
 rwa [zl]at h
def vj:∃(b:TypeInfo)(c:Value),Tryz.prog.info? 267=some b/\b.size=3/\b.zero=some c/\c.cells.size=3/\(∀v∈c.cells.toList,v.oneCell'=true)/\b.bytes=24:=by
 have h:=(qX 267 _ rfl).1;cases e : Tryz.prog.info? 267 with
 | none=>rw[e]at h;cases h
 | some x=>
  rw[e]at h;simp only[Y5,C1,Prod.mk.injEq]at h;obtain⟨a,g,i⟩:=h;cases d:x.zero with
  | none=>rw[d]at a;cases a
  | some z=>
   rw[d]at a;simp only[Y5,C1]at a;refine⟨x,z,rfl,g,d,?_,λv f=>?_,i⟩
   ·rw[<-Array.length_toList,a];rfl
   rw[a]at f;have j:(List.map cval [I 0,I 0,I 0]).all (λv=>v.oneCell')=true:=rfl;exact O4.1 j v f
def FK:∀w,(Go.sizeOf 267).run Tryz.prog w=.ok 3 w:=λ_=>by kernel_rfl
def Fu(w w1:World)(base:Option Addr)(n c d m g:Nat)(r:Value)(i:m=1)(j:n<=c)(h:n<=1073741824)(k:base=none->n=0/\c=0)(b:(Builtin.append_ #[37,37] 37 #[.slice base n c,.slice (some ⟨d,0,none⟩) m g]).run Tryz.prog w=.ok r w1) :
  Calls Tryz.prog 342 #[.slice base n c,.int .i64 n,.slice (some ⟨d,0,none⟩) m g] w λe l=>e=.returned r/\l=w1:=by
 have mixed : Tryz.prog.follows .mixedOrders=true:=by kernel_rfl
 have o:0<m:=ω
 have p:m<=1:=ω
 clear i;have q:¬((m:Int)=0):=ω
 go_enter Tryz.func342,Tryz.ntmps342
 cases base with
 | none=>
  obtain⟨rfl,rfl⟩:=k rfl
  go_wp2_with (at_builtin;refine Lib.wpList_append_run _ rfl _ _ _ _ rfl _ _ rfl rfl _ _ b ?_)
  go_ret
  exact⟨rfl,rfl⟩
 | some a=>
  obtain⟨u,y,asp⟩:=a
  go_wp2_with (at_builtin;refine Lib.wpList_append_run _ rfl _ _ _ _ rfl _ _ rfl rfl _ _ b ?_)
  all_goals(go_ret;exact⟨rfl,rfl⟩)
def Ao(w:World)(g n c i p m C:Nat)(olds vs:List Value)(Z:m=1)(hi:i<n)(X:n<=1073741824)(M:n+m<=c)(N:olds.length=n*3)(D:vs.length=3)(ho:∀t u,olds[t]? = some u->cel w g t=some u)(L:∀t u,vs[t]? = some u->cel w p t=some u)(h1:∀u∈olds,u.oneCell'=true)(h2:∀u∈vs,u.oneCell'=true)(b:∀q,q<c*3->(∃z,cel w g q=some z/\z.oneCell'=true)/\fro w g q=NF)(O:fro w p 0=NF)(E:p≠g) :
  Calls Tryz.prog 342 #[.slice (some ⟨g,0,none⟩) n c,.int .i64 i,.slice (some ⟨p,0,none⟩) m C] w λe w'=>e=.returned (.slice (some ⟨g,0,none⟩) (n+m) c)/\w'=(w.drew.setCells g ((i+m)*3) (olds.drop (i*3))).setCells g (i*3) vs:=by
 have mixed : Tryz.prog.follows .mixedOrders=true:=by kernel_rfl
 have hm1:0<m:=ω
 have hm2:m<=1:=ω
 clear Z;have hz1:¬((m:Int)=0):=ω
 have hz2:¬((i:Int)=(n:Int)):=ω
 have hz3:¬((c:Int)<(n:Int)+(m:Int)):=ω
 have F:(Tryz.prog.info? 267).map (·.size)=some 3:=by obtain⟨i0,z0,e1,e2,-⟩:=vj;rw[e1];simp[e2]
 have cell:∀q,q<(n+m)*3->(w.cell? ⟨g,q,none⟩).isSome=true/\w.frozen? ⟨g,q,none⟩ = false:=λq Y=>by
  obtain⟨⟨z,hz,-⟩,hf⟩:=b q ω;exact⟨by show(cel w g q).isSome=true;rw[hz];rfl,Z0 Prod.fst hf⟩
 have P:∀Q R,(callFunc 461 #[.slice (some ⟨p,0,none⟩) m C,.slice (some ⟨g,(i+m)*3,none⟩) Q R]).run Tryz.prog w=.ok (.value (.bool false)) w:=λQ R=>by
  obtain⟨y,hy⟩ : ∃y,vs[0]? = some y:=⟨_,X2 ω⟩
  obtain⟨⟨y',S,-⟩,T⟩:=b 0 ω;rw[run_callFunc_extern Tryz.func461 (by kernel_rfl) (by kernel_rfl) (by kernel_rfl) (e:=Extern.SlicesOverlaps.overlaps #[37,37] #[4]) (by kernel_rfl),
    qa (e:=267) (k:=3) Tryz.underlying37 FK E (L 0 y hy) O S T _ m C Q R]
  rfl
 have l:(olds.drop (i*3)).length=(n - i)*3:=by rw[Z3,N];omega
 have hw1:IntKind.i64.wrap ((i:Int)+(m:Int))=(i:Int)+(m:Int):=by rw[IntKind.wrap_i64];omega
 have hw2:IntKind.i64.wrap ((n:Int)+(m:Int))=(n:Int)+(m:Int):=by rw[IntKind.wrap_i64];omega
 have hb1:(0:Int)<=(i:Int)+(m:Int):=ω
 have hin:i<=n:=ω
 have htn:((i:Int)+(m:Int)).toNat=i+m:=ω
 have hb2:¬(c=i+m):=ω
 have hb3:(i:Int)<=(n:Int)+(m:Int):=ω
 have hb4:¬(c=i):=ω
 have o:∀r B U,(Builtin.copy_ #[37,37] r #[.slice (some ⟨g,(i+m)*3,none⟩) (n+m - (i+m)) B,.slice (some ⟨g,i*3,none⟩) (n+m - i) U]).run Tryz.prog w.drew=.ok (goInt ((n - i:Nat):Int)) (w.drew.setCells g ((i+m)*3) (olds.drop (i*3))):=λr B U=>
  eH w.drew _ _ r 267 3 g ((i+m)*3) (n+m - (i+m)) B ⟨g,i*3,none⟩ (n+m - i) U (n - i) (olds.drop (i*3)) Tryz.underlying37 F (by simp only[Nat.min_def];split<;>omega) l
   (λj v a=>by rw[Addr.add_lit];exact ho (i*3+j) v (by rwa [List.getElem?_drop]at a))
   (λj a=>by rw[l]at a;exact(cell _ ω).1) (λj a=>by rw[l]at a;exact(cell _ ω).2) (λv L=>h1 v (List.mem_of_mem_drop L))
 obtain⟨G,d⟩ : ∃G,G=w.drew.setCells g ((i+m)*3) (olds.drop (i*3)):=⟨_,rfl⟩
 have H:∀q,q<(n+m)*3->(G.cell? ⟨g,q,none⟩).isSome=true:=λq Y=>by
  rw[d];exact l7 g _ _ _ (λj a=>by rw[l]at a;exact(cell _ ω).1) _ (cell q Y).1
 have J:∀(W:World),(∀x,W.cell? x=G.cell? x)->(∀x,W.frozen? x=G.frozen? x)->∀r B,(Builtin.copy_ #[37,37] r #[.slice (some ⟨g,i*3,none⟩) (n+m - i) B,.slice (some ⟨p,0,none⟩) m C]).run Tryz.prog W=.ok (goInt ((1:Nat):Int)) (W.setCells g (i*3) vs):=λW K V r B=>
  eH W _ _ r 267 3 g (i*3) (n+m - i) B ⟨p,0,none⟩ m C 1 vs Tryz.underlying37 F (by simp only[Nat.min_def];split<;>omega) ω
   (λj v a=>by
     rw[Addr.add_lit,X7,K,d,World.cell?_setCells_out g _ _ _ _ (λh _=>absurd h E)];exact L j v a)
   (λj a=>by rw[K];rw[D]at a;exact H _ ω) (λj a=>by rw[V,d,World.frozen?_setCells];rw[D]at a;exact(cell _ ω).2) h2
 rw[<-d]at o;clear cell b
 go_enter Tryz.func342,Tryz.ntmps342
 go_wp2_with (simp only[P])
 go_region_law_o (refine iJ rfl _ _ 37 37 rfl _ _ (by simp[Act.eval,Act.put]) (by simp[Act.eval,Act.put]) (o _ _ _) ?_)
 go_wp2_with (at_builtin;refine dX _ rfl _ _ 37 37 rfl _ _ rfl rfl (J _ (λ_=>rfl) (λ_=>rfl) _ _) ?_)
 go_ret
 first|exact⟨rfl,rfl⟩|exact⟨rfl,by rw[d]⟩
def EB(J : Tryz.prog.info? 267=some H)(K:H.size=3)(V:H.zero=some q)(X:q.cells.size=3)(L:H.bytes=24)(w:World)(g n c i r m Y:Nat)(olds vs:List Value)(hm:m=1)(hi:i<n)(hn63:n<=1073741824)(hnc:n<=c)(C:c<n+m)(M:olds.length=n*3)(N:vs.length=3)(Z:∀t u,olds[t]? = some u->cel w g t=some u)(T:∀t u,vs[t]? = some u->cel w r t=some u)(h1:∀u∈olds,u.oneCell'=true)(h2:∀u∈vs,u.oneCell'=true) :
  Calls Tryz.prog 342 #[.slice (some ⟨g,0,none⟩) n c,.int .i64 i,.slice (some ⟨r,0,none⟩) m Y] w λe w'=>e=.returned (.slice (some ⟨w.heap.size,0,none⟩) (n+m) (grownCap w (n+m) c 267))/\
   w'=(((w.alloc (.cells ((olds.take (i*3)).toArray++Builtin.zeroCells q.cells (n+m - i)++Builtin.zeroCells q.cells (grownCap w (n+m) c 267 - (n+m))) 267)).drew.setCells w.heap.size (i*3) vs).drew).setCells w.heap.size ((i+m)*3) (olds.drop (i*3)):=by
 have mixed : Tryz.prog.follows .mixedOrders=true:=by kernel_rfl
 have hm1:0<m:=ω
 have hm2:m<=1:=ω
 clear hm;have hz1:¬((m:Int)=0):=ω
 have hz2:¬((i:Int)=(n:Int)):=ω
 have hz3:(c:Int)<(n:Int)+(m:Int):=ω
 have O:(Tryz.prog.info? 267).map (·.size)=some 3:=by rw[J];simp[K]
 have hbw:g<w.heap.size:=block_lt_of_cell (Z 0 _ (X2 ω));have hvw:r<w.heap.size:=block_lt_of_cell (T 0 _ (X2 ω));have P:(n:Int)+(m:Int) - (i:Int)=((n+m - i:Nat):Int):=ω
 have D:i+(n+m - i)=n+m:=ω
 have y:(Builtin.firstCells H.size i (.slice (some ⟨g,0,none⟩) i c)).run Tryz.prog w.drew=.ok (olds.take (i*3)).toArray w.drew:=by
  rw[K];exact run_firstCells_some w.drew 3 i ⟨g,0,none⟩ i c (olds.take (i*3)) (by rw[C2];omega) (λj v a=>by
    rw[Addr.add_lit,X7];rw[List.getElem?_take]at a;split at a
    · exact Z j v a
    cases a)
 have p:∀d,(Builtin.append_ #[37,3] d #[.slice (some ⟨g,0,none⟩) i c,.int .i64 ((n:Int)+(m:Int) - (i:Int))]).run Tryz.prog w =
   .ok (.slice (some ⟨w.heap.size,0,none⟩) (n+m) (grownCap w (n+m) c 267)) (w.drew.alloc (.cells ((olds.take (i*3)).toArray++Builtin.zeroCells q.cells (n+m - i)++Builtin.zeroCells q.cells (grownCap w (n+m) c 267 - (n+m))) 267)):=λd=>by
  have h:=Lib.run_append_grow_zeros w 37 3 d 267 H _ .i64 .i64 Tryz.underlying37 Tryz.underlying3 J V (some ⟨g,0,none⟩) i c (olds.take (i*3)) y (n+m - i) ω ω ω ω (by rw[L];omega) (by rw[L,D];exact growslice_fits C ω);rw[D]at h;rw[P];exact h
 obtain⟨G,U⟩ : ∃G,G=grownCap w (n+m) c 267:=⟨_,rfl⟩
 obtain⟨ROW,k⟩ : ∃ROW:Array Value,ROW=(olds.take (i*3)).toArray++Builtin.zeroCells q.cells (n+m - i)++Builtin.zeroCells q.cells (G - (n+m)):=⟨_,rfl⟩
 rw[<-U]at p |-;rw[<-k]at p |-;have hRl:(n+m)*3<=ROW.size:=by
  rw[k];simp only[Array.size_append,List.size_toArray,C2,size_zeroCells,X,M];omega
 obtain⟨o,b⟩ : ∃o,o=w.drew.alloc (.cells ROW 267):=⟨_,rfl⟩
 rw[<-b]at p;have hN:∀j,j<(n+m)*3->(o.cell? ⟨w.heap.size,j,none⟩).isSome=true:=λj a=>by
  rw[b,World.cell?_alloc_at (w:=w.drew) ROW _ w.heap.size j rfl,I7 ω];rfl
 have Q:∀j,o.frozen? ⟨w.heap.size,j,none⟩ = false:=λj=>by rw[b];exact World.frozen?_alloc_at (w:=w.drew) ROW _ w.heap.size j rfl
 have hOb:∀j v,w.cell? ⟨g,j,none⟩ = some v->o.cell? ⟨g,j,none⟩ = some v:=λj v h=>by rw[b,World.cell?_alloc_past (w:=w.drew) _ g j hbw];exact h
 have hOv:∀j v,w.cell? ⟨r,j,none⟩ = some v->o.cell? ⟨r,j,none⟩ = some v:=λj v h=>by rw[b,World.cell?_alloc_past (w:=w.drew) _ r j hvw];exact h
 have R:∀(W:World),(∀x,W.cell? x=o.cell? x)->(∀x,W.frozen? x=o.frozen? x)->∀d E,(Builtin.copy_ #[37,37] d #[.slice (some ⟨w.heap.size,i*3,none⟩) (n+m - i) E,.slice (some ⟨r,0,none⟩) m Y]).run Tryz.prog W=.ok (goInt ((1:Nat):Int)) (W.setCells w.heap.size (i*3) vs):=λW l F d E=>
  eH W _ _ d 267 3 w.heap.size (i*3) (n+m - i) E ⟨r,0,none⟩ m Y 1 vs Tryz.underlying37 O (by simp only[Nat.min_def];split<;>omega) ω
   (λj v a=>by rw[Addr.add_lit,X7,l];exact hOv _ v (T j v a))
   (λj a=>by rw[l];rw[N]at a;exact hN _ ω) (λj a=>by rw[F];exact Q _) h2
 have hGn:n+m<=G:=by rw[U];exact grownCap_ge w _ _ _
 have hG63:G<=9223372036854775807:=by
  have:=grownCap_le_maxLen w (n+m) c 267 (by unfold maxLen;omega);rw[<-U]at this;unfold maxLen at this;omega
 have hGi:¬(G=i):=ω
 have hGim:¬(G=i+m):=ω
 have hci:¬(c=i):=ω
 have hbN:g≠w.heap.size:=ω
 have S:(olds.drop (i*3)).length=(n - i)*3:=by rw[Z3,M];omega
 have B:∀(W:World),(∀x,W.cell? x=(o.setCells w.heap.size (i*3) vs).cell? x)->(∀x,W.frozen? x=(o.setCells w.heap.size (i*3) vs).frozen? x)->∀d E sc,(Builtin.copy_ #[37,37] d #[.slice (some ⟨w.heap.size,(i+m)*3,none⟩) (n+m - (i+m)) E,.slice (some ⟨g,i*3,none⟩) (n - i) sc]).run Tryz.prog W=.ok (goInt ((n - i:Nat):Int)) (W.setCells w.heap.size ((i+m)*3) (olds.drop (i*3))):=λW l F d E sc=>
  eH W _ _ d 267 3 w.heap.size ((i+m)*3) (n+m - (i+m)) E ⟨g,i*3,none⟩ (n - i) sc (n - i) (olds.drop (i*3)) Tryz.underlying37 O (by simp only[Nat.min_def];split<;>omega) S
   (λj v a=>by
     rw[Addr.add_lit,l,World.cell?_setCells_out _ _ _ _ _ (λh _=>absurd h hbN)];exact hOb _ v (Z (i*3+j) v (by rwa [List.getElem?_drop]at a)))
   (λj a=>by rw[l];rw[S]at a;exact l7 _ _ _ _ (λt ht=>by rw[N]at ht;exact hN _ ω) _ (hN _ ω))
   (λj a=>by rw[F,World.frozen?_setCells];exact Q _) (λv T=>h1 v (List.mem_of_mem_drop T))
 subst b;have hE1:∀x,((w.alloc (.cells ROW 267)).drew).cell? x=(w.drew.alloc (.cells ROW 267)).cell? x:=λx=>rfl
 have hE2:∀x,((w.alloc (.cells ROW 267)).drew).frozen? x=(w.drew.alloc (.cells ROW 267)).frozen? x:=λx=>rfl
 have hF1:∀x,(((w.alloc (.cells ROW 267)).drew.setCells w.heap.size (i*3) vs).drew).cell? x=((w.drew.alloc (.cells ROW 267)).setCells w.heap.size (i*3) vs).cell? x:=λx=>rfl
 have hF2:∀x,(((w.alloc (.cells ROW 267)).drew.setCells w.heap.size (i*3) vs).drew).frozen? x=((w.drew.alloc (.cells ROW 267)).setCells w.heap.size (i*3) vs).frozen? x:=λx=>rfl
 have hw1:IntKind.i64.wrap ((i:Int)+(m:Int))=(i:Int)+(m:Int):=by rw[IntKind.wrap_i64];omega
 have hw2:IntKind.i64.wrap ((n:Int)+(m:Int))=(n:Int)+(m:Int):=by rw[IntKind.wrap_i64];omega
 have hw3:IntKind.i64.wrap ((n:Int)+(m:Int) - (i:Int))=(n:Int)+(m:Int) - (i:Int):=by rw[IntKind.wrap_i64];omega
 have hb1:(0:Int)<=(i:Int)+(m:Int):=ω
 have hin:i<=n:=ω
 have htn:((i:Int)+(m:Int)).toNat=i+m:=ω
 have hb3:(i:Int)<=(n:Int):=ω
 clear P D y k U hRl
 go_enter Tryz.func342,Tryz.ntmps342
 go_wp2_with (first
   | (at_builtin;refine Lib.wpList_append_run _ rfl _ _ _ _ rfl _ _ rfl rfl _ _ (p _) ?_)
   | (at_builtin;refine dX _ rfl _ _ 37 37 rfl _ _ rfl rfl (R _ hE1 hE2 _ _) ?_)
   | (at_builtin;refine dX _ rfl _ _ 37 37 rfl _ _ rfl rfl (B _ (λ_=>rfl) (λ_=>rfl) _ _ _) ?_))
 go_region_law_o (refine iJ rfl _ _ 37 37 rfl (.slice (some ⟨w.heap.size,(i+m)*3,none⟩) (n+m - (i+m)) (G - (i+m))) (.slice (some ⟨g,i*3,none⟩) (n - i) (c - i)) (by simp[Act.eval,Act.put]) (by simp[Act.eval,Act.put]) (B _ hF1 hF2 3 (G - (i+m)) (c - i)) ?_)
 go_wp2
 go_ret
 exact⟨rfl,rfl⟩
def Fr:E2 Tryz.prog 342 3 37 24:=by
 refine⟨⟨_,Tryz.func342,by kernel_rfl,by kernel_rfl⟩,Fu,λw g n c i K m L olds M l o r h P b d u N p q j y B=>?_⟩;obtain⟨Q,R,C,D,E,k,F,G⟩:=vj;by_cases a:n+m<=c
 ·refine(Ao w g n c i K m L olds M l o h a b d u N p q j y B).mono λe O ⟨H,J⟩=>?_
  subst l;rw[J];exact⟨g,c,H,a,pS o a b d u p q j⟩
 refine(EB C D E k G w g n c i K m L olds M l o h r ω b d u N p q).mono λe O ⟨H,J⟩=>?_
 subst l;rw[J,wN];exact⟨_,_,H,grownCap_ge w _ _ _,rR (e:=267) rfl rfl rfl rfl o (grownCap_ge w _ _ _) k F b d p q⟩
def tK(xs:List aA):TL (xs.map (aA.enc .own)):=λr b c a=>by
 obtain⟨s,-,rfl⟩:=Y4.1 b;simp[aA.enc]at a;rcases a with rfl|rfl|rfl<;>exact⟨_,rfl⟩
def GD(xs:List aA)(i:Nat)(x:aA)(j:i<=xs.length)(k:xs.length+1<=1073741824):zzB 342 false [.mut none [.s .own (xs.map (aA.enc .own))],.val none [I (i:Nat)],.mut none [.s .own [aA.enc .own x]]] [.mut none [.x],.val none [I (i:Nat)],.mut none [.x]] .one [.s .own ((inse xs i x).map (aA.enc .own))]:=by
 obtain⟨l,n,c,a,d,e,g,b⟩:=vj;have h:=Hw (row:=aA.enc .own x) Tryz.underlying37 c a d (by rw[a,e]) g (by rw[b];decide) (by rw[b];exact Fr) (rows:=xs.map (aA.enc .own)) (i:=i) (by rw[I1];exact j) (aX λ_=>rfl) rfl (by decide) (tK xs) (tK [x]) (by rw[I1];exact k)
 rwa [zl]at h
end Go.Proofs.YtiopgblagimpmaaGreat.Ab
