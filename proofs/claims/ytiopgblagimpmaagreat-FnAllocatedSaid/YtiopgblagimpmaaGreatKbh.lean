/- What is drawn out of bytes: the data. No condition. -/
import Derived.Test.YtiopgblagimpmaaGreatKbc
import Derived.Test.YtiopgblagimpmaaGreatKbg
import Derived.Test.YtiopgblagimpmaaGreatKbf
import Derived.Test.YtiopgblagimpmaaGreatKbe
import Derived.Lib.Overlaps
import Derived.Lib.AppendZerosOnto
import Derived.Laws.NewBlocks
import Derived.Laws.Externs
set_option linter.unusedVariables false
set_option linter.defProp false
set_option linter.unusedSimpArgs false
set_option linter.constructorNameAsVariable false
namespace Go.Proofs.YtiopgblagimpmaaGreat.Ab
structure iD where
 i:Nat
 h:Int
deriving Inhabited
def w64(x:Int):Int:=IntKind.i64.wrap x
def T6(h:Int):Int:=w64 (w64 (h*6364136223846793005)+1442695040888963407)
def Tz(a b:Int):Int:=w64 ((BitVec.ofInt IntKind.i64.bits a ^^^ BitVec.ofInt IntKind.i64.bits b).toNat:Nat)
def and255(a:Int):Int:=w64 ((BitVec.ofInt IntKind.i64.bits a &&& BitVec.ofInt IntKind.i64.bits 255).toNat:Nat)
def PX(h:Int)(n:Nat):Int:=h.fdiv (2 ^ (min n IntKind.i64.bits))
def Bm(h:Int):Int:=and255 (Tz (PX h 33) (PX h 45))
def A9(a:Int):0<=and255 a/\and255 a<=255:=by
 have b:(BitVec.ofInt IntKind.i64.bits a &&& BitVec.ofInt IntKind.i64.bits 255).toNat<=255:=by
  rw[BitVec.toNat_and];exact I5 Nat.and_le_right (by decide)
 unfold and255 w64;rw[fC ω ω];omega
def dG(zs:List Int)(c:iD):Int × iD:=if c.i<zs.length then(and255 (Bm (T6 c.h)+nth zs c.i),⟨c.i+1,T6 c.h⟩) else(Bm (T6 c.h),⟨c.i,T6 c.h⟩)
def sr(zs:List Int)(c:iD):0<=(dG zs c).1/\(dG zs c).1<=255:=by
 unfold dG;split<;>exact A9 _
variable{c:iD}{zs:List Int}
def iU(h:c.i<=zs.length):(dG zs c).2.i<=zs.length:=by
 unfold dG;split
 ·simp only;omega
 exact h
def AX(zs:List Int)(c:iD):Int × iD:=
 ((dG zs c).1*16777216+(dG zs (dG zs c).2).1*65536+(dG zs (dG zs (dG zs c).2).2).1*256+(dG zs (dG zs (dG zs (dG zs c).2).2).2).1,(dG zs (dG zs (dG zs (dG zs c).2).2).2).2)
def bw(zs:List Int)(c:iD)(n:Int):Int × iD:=if n<=256 then((dG zs c).1 % n,(dG zs c).2) else((AX zs c).1 % n,(AX zs c).2)
def bL(zs:List Int)(c:iD){n:Int}(h:1<=n):0<=(bw zs c n).1/\(bw zs c n).1<n:=by
 unfold bw;split<;>exact⟨Int.emod_nonneg _ ω,Int.emod_lt_of_pos _ ω⟩
def bV(h:c.i<=zs.length)(n:Int):(bw zs c n).2.i<=zs.length:=by
 unfold bw;split
 ·exact iU h
 exact iU (iU (iU (iU h)))
def lE(zs:List Int)(c:iD)(l:List Int):Int × iD:=(nth l (bw zs c (l.length:Nat)).1.toNat,(bw zs c (l.length:Nat)).2)
def pS(zs:List Int)(c:iD){l:List Int}(h:1<=l.length):(lE zs c l).1∈l:=by
 have:=bL zs c (n:=(l.length:Nat)) ω;exact ar ω
def p6(zs:List Int):Nat->Nat->List Int->iD->List Int × iD
 | 0,_,out,c=>(out,(bw zs c 4).2)
 | f+1,i,out,c=>if(i:Int)<(bw zs c 4).1 then p6 zs f (i+1) (out++[(bw zs (bw zs c 4).2 12).1]) (bw zs (bw zs c 4).2 12).2 else(out,(bw zs c 4).2)
def Qm(zs:List Int)(c:iD):List Int × iD:=p6 zs 4 0 [] c
def Kh(zs:List Int):∀(f i:Nat)(out:List Int)(c:iD),(∀x∈out,0<=x)->out.length+f<=4->c.i<=zs.length->(∀x∈(p6 zs f i out c).1,0<=x)/\(p6 zs f i out c).1.length<=4/\(p6 zs f i out c).2.i<=zs.length
 | 0,_,out,c,b,e,d=>⟨b,by show out.length<=4;omega,bV d _⟩
 | f+1,i,out,c,b,e,d=>by
  unfold p6;split
  ·refine Kh zs f (i+1) _ _ (λx a=>?_) (by simp only[Y3,List.length_singleton];omega) (bV (bV d _) _)
   rcases V3.1 a with a|a
   ·exact b x a
   rw[V1.1 a];exact(bL zs _ (by decide)).1
  exact⟨b,by show out.length<=4;omega,bV d _⟩
def Al(zs:List Int)(c:iD):Int × iD:=bw zs c 7
def GK(zs:List Int)(c:iD):Int × iD:=bw zs (Al zs c).2 3
def HE(zs:List Int)(c:iD):Int × iD:=bw zs (GK zs c).2 100
def Dy(zs:List Int)(c:iD):Int × iD:=bw zs (HE zs c).2 4
def R2(zs:List Int)(c:iD):List Int × iD:=Qm zs (Dy zs c).2
def qW(zs:List Int)(c:iD):cM:=⟨(6+(Al zs c).1).toNat,(6+(Al zs c).1 - (Dy zs c).1).toNat,(1+(GK zs c).1).toNat,40+(HE zs c).1,(R2 zs c).1⟩
def pM(h:c.i<=zs.length):GM (qW zs c)/\(R2 zs c).2.i<=zs.length:=by
 have a:=bL zs c (n:=7) (by decide);have b:=bL zs (Al zs c).2 (n:=3) (by decide);have d:=bL zs (GK zs c).2 (n:=100) (by decide);have e:=bL zs (HE zs c).2 (n:=4) (by decide);change 0<=(Al zs c).1/\(Al zs c).1<7 at a;change 0<=(GK zs c).1/\(GK zs c).1<3 at b;change 0<=(HE zs c).1/\(HE zs c).1<100 at d;change 0<=(Dy zs c).1/\(Dy zs c).1<4 at e;obtain⟨f,k,g⟩:=Kh zs 4 0 [] (Dy zs c).2 (λx j=>by cases j) (by simp) (bV (bV (bV (bV h _) _) _) _);refine⟨⟨?_,?_,?_,?_,?_⟩,g⟩
 ·show 1<=(6+(Al zs c).1).toNat/\(6+(Al zs c).1).toNat<=32;omega
 ·show 1<=(6+(Al zs c).1 - (Dy zs c).1).toNat/\(6+(Al zs c).1 - (Dy zs c).1).toNat<=32;omega
 ·show 1<=(1+(GK zs c).1).toNat/\(1+(GK zs c).1).toNat<=4;omega
 ·show 0<=40+(HE zs c).1/\40+(HE zs c).1<=1000;omega
 exact⟨by show(p6 zs 4 0 [] (Dy zs c).2).1.length<=40;omega,f⟩
def AW(zs:List Int)(c:iD):Int × iD:=bw zs c 3
def GR(zs:List Int)(c:iD)(ids:Int):Int × iD:=bw zs (AW zs c).2 ids
def l7(zs:List Int)(c:iD)(ids:Int):Int × iD:=bw zs (GR zs c ids).2 20
def szs:List Int:=[1,1,2,2,3,4,4,5,8,9,20]
def tD(zs:List Int)(c:iD)(ids:Int):eL × iD:=
 if(l7 zs c ids).1<=6 then(⟨1,(AW zs c).1,(lE zs (l7 zs c ids).2 szs).1,0,0⟩,(lE zs (l7 zs c ids).2 szs).2)
 else if(l7 zs c ids).1<=9 then(⟨2,(AW zs c).1,1+(GR zs c ids).1,0,0⟩,(l7 zs c ids).2)
 else if(l7 zs c ids).1<=12 then(⟨3,(AW zs c).1,1+(GR zs c ids).1,(bw zs (l7 zs c ids).2 4).1,1+(bw zs (bw zs (l7 zs c ids).2 4).2 999).1⟩,(bw zs (bw zs (l7 zs c ids).2 4).2 999).2)
 else if(l7 zs c ids).1=13 then(⟨4,(AW zs c).1,1+(GR zs c ids).1,0,9+(bw zs (l7 zs c ids).2 10).1⟩,(bw zs (l7 zs c ids).2 10).2)
 else if(l7 zs c ids).1=14 then(⟨(lE zs (l7 zs c ids).2 [5,6]).1,(AW zs c).1,1+(GR zs c ids).1,0,0⟩,(lE zs (l7 zs c ids).2 [5,6]).2)
 else if(l7 zs c ids).1=15 then(⟨7,(AW zs c).1,1+(GR zs c ids).1,0,0⟩,(l7 zs c ids).2)
 else if(l7 zs c ids).1=16 then(⟨8,(AW zs c).1,(lE zs (l7 zs c ids).2 [1,30,60,120]).1,0,0⟩,(lE zs (l7 zs c ids).2 [1,30,60,120]).2)
 else if(l7 zs c ids).1=17 then(⟨9,(AW zs c).1,1+(GR zs c ids).1,0,0⟩,(l7 zs c ids).2)
 else(⟨10,(AW zs c).1,(lE zs (l7 zs c ids).2 [1,2,3,10,30]).1,0,0⟩,(lE zs (l7 zs c ids).2 [1,2,3,10,30]).2)
structure N5(a:eL):Prop where
 k:1<=a.b3/\a.b3<=10
 t:0<=a.a4/\a.a4<=1000000
 n:0<=a.N/\a.N<=1000000
 p:0<=a.At/\a.At<=1000000
 v:0<=a.Value/\a.Value<=1000000
def NZ{ids:Int}(h:c.i<=zs.length)(b:1<=ids/\ids<=1000):N5 (tD zs c ids).1/\(tD zs c ids).2.i<=zs.length:=by
 have d:=bL zs c (n:=3) (by decide);have e:=bL zs (AW zs c).2 (n:=ids) b.1;change 0<=(AW zs c).1/\(AW zs c).1<3 at d;change 0<=(GR zs c ids).1/\(GR zs c ids).1<ids at e;have a:(l7 zs c ids).2.i<=zs.length:=bV (bV (bV h _) _) _;have f:=pS zs (l7 zs c ids).2 (l:=szs) (by decide);have g:=pS zs (l7 zs c ids).2 (l:=[5,6]) (by decide);have j:=pS zs (l7 zs c ids).2 (l:=[1,30,60,120]) (by decide);have k:=pS zs (l7 zs c ids).2 (l:=[1,2,3,10,30]) (by decide);have o:=bL zs (l7 zs c ids).2 (n:=4) (by decide);have p:=bL zs (bw zs (l7 zs c ids).2 4).2 (n:=999) (by decide);have q:=bL zs (l7 zs c ids).2 (n:=10) (by decide);simp only[szs,List.mem_cons,List.not_mem_nil,or_false]at f g j k;unfold tD
 repeat' split
 ·exact⟨⟨by simp only;omega,by simp only;omega,by simp only[szs];omega,by simp only;omega,by simp only;omega⟩,bV a _⟩
 ·exact⟨⟨by simp only;omega,by simp only;omega,by simp only;omega,by simp only;omega,by simp only;omega⟩,a⟩
 ·exact⟨⟨by simp only;omega,by simp only;omega,by simp only;omega,by simp only;omega,by simp only;omega⟩,bV (bV a _) _⟩
 ·exact⟨⟨by simp only;omega,by simp only;omega,by simp only;omega,by simp only;omega,by simp only;omega⟩,bV a _⟩
 ·exact⟨⟨by simp only;omega,by simp only;omega,by simp only;omega,by simp only;omega,by simp only;omega⟩,bV a _⟩
 ·exact⟨⟨by simp only;omega,by simp only;omega,by simp only;omega,by simp only;omega,by simp only;omega⟩,a⟩
 ·exact⟨⟨by simp only;omega,by simp only;omega,by simp only;omega,by simp only;omega,by simp only;omega⟩,bV a _⟩
 ·exact⟨⟨by simp only;omega,by simp only;omega,by simp only;omega,by simp only;omega,by simp only;omega⟩,a⟩
 exact⟨⟨by simp only;omega,by simp only;omega,by simp only;omega,by simp only;omega,by simp only;omega⟩,bV a _⟩
def lL(zs:List Int)(c:iD):Nat->List eL × iD
 | 0=>([],(bw zs c 41).2)
 | i+1=>((lL zs c i).1++[(tD zs (lL zs c i).2 (1+(i:Int) / 2)).1],(tD zs (lL zs c i).2 (1+(i:Int) / 2)).2)
def l8(zs:List Int)(c:iD):List eL × iD:=lL zs c (bw zs c 41).1.toNat
def pD{zs:List Int}{c:iD}(h:c.i<=zs.length):∀{n:Nat},n<=100->(lL zs c n).1.length=n/\(∀a∈(lL zs c n).1,N5 a)/\(lL zs c n).2.i<=zs.length
 | 0,_=>⟨rfl,λa b=>(by cases b),bV h _⟩
 | n+1,k=>by
  obtain⟨d,e,f⟩:=pD h (n:=n) ω;obtain⟨g,j⟩:=NZ (ids:=1+(n:Int) / 2) f ω;refine⟨by simp only[lL,Y3,List.length_singleton,d],λa b=>?_,j⟩;rcases V3.1 b with b|b
  ·exact e a b
  rw[V1.1 b];exact g
def qA(zs:List Int):Nat->Int
 | 0=>w64 (98801+(zs.length:Nat))
 | i+1=>w64 ((BitVec.ofInt IntKind.i64.bits (w64 (w64 (w64 (qA zs i*131)+nth zs i)+7)) &&& BitVec.ofInt IntKind.i64.bits 1073741823).toNat:Nat)
def sI(zs:List Int):iD:=⟨0,qA zs (min zs.length 4000)⟩
def eA(zs:List Int):iD:=(R2 zs (sI zs)).2
def drawn(zs:List Int):bn:=(zi (qW zs (sI zs)) (l8 zs (eA zs)).1 (l8 zs (eA zs)).1.length).1
def xB(zs:List Int):rZ (drawn zs) 40:=by
 have a:(sI zs).i<=zs.length:=X0 _;obtain⟨b,d⟩:=pM a;have f:=bL zs (eA zs) (n:=41) (by decide);obtain⟨e,-,-⟩:=pD (zs:=zs) (c:=eA zs) d (n:=(bw zs (eA zs) 41).1.toNat) ω;refine(uD b _ _).more ?_;show(lL zs (eA zs) _).1.length<=40;rw[e];omega
open Go.RowKit
set_option maxRecDepth 20000
set_option maxHeartbeats 4000000
def rU(z:Int):List C:=[.v (.int .u8 z)]
def i9(zs:List Int)(c:iD):List C:=[.s .V (zs.map rU),I (c.i:Nat),I c.h]
def jz(zs:List Int):Prop:=zs.length<=1048576/\∀z∈zs,0<=z/\z<=255
def kT(zs:List Int)(c:iD)(e:jz zs)(w:c.i<=zs.length):zzB 180 false [.ptr (i9 zs c)] [.ptr (i9 zs (dG zs c).2)] .one [I (dG zs c).1]:=by
 have g:IntKind.i64.wrap (c.h*6364136223846793005)=w64 (c.h*6364136223846793005):=rfl;have b:IntKind.i64.wrap (w64 (c.h*6364136223846793005)+1442695040888963407)=T6 c.h:=rfl;have o:=e.1;generalize p:T6 c.h=H at b;have j:H.fdiv (2 ^ (min (33:Int).toNat IntKind.i64.bits))=PX H 33:=rfl;have k:H.fdiv (2 ^ (min (45:Int).toNat IntKind.i64.bits))=PX H 45:=rfl;have l:IntKind.i64.wrap (BitVec.ofInt IntKind.i64.bits (PX H 33) ^^^ BitVec.ofInt IntKind.i64.bits (PX H 45)).toNat=Tz (PX H 33) (PX H 45):=rfl;have d:IntKind.i64.wrap (BitVec.ofInt IntKind.i64.bits (Tz (PX H 33) (PX H 45)) &&& BitVec.ofInt IntKind.i64.bits 255).toNat=Bm H:=rfl;have r:0<=Bm H/\Bm H<=255:=A9 _;unfold dG;rw[p];generalize Bm H=y at d r |-;refine fM 58 [] [(2,10,[13,14,15,16,17,18,19,20,21,22]),(3,9,[25,26,27,28,29,30,31,32,33]),(4,12,[35,36,37,38,39,40,41,42,43,44,45,46])] [(0,0)] Tryz.func180 rfl (λu q=>?_);by_cases a:c.i<zs.length
 ·rw[CD a]
  have n:=au a;have B:=e.2 _ (ar a);have t:IntKind.i64.wrap (BitVec.ofInt IntKind.i64.bits (y+nth zs c.i) &&& BitVec.ofInt IntKind.i64.bits 255).toNat=and255 (y+nth zs c.i):=rfl
  repeat'(first|refine gE ?_|(conv=>whnf);first|with_reducible (first|refine CN g ?_|refine CN b ?_|refine CN l ?_|refine CN d ?_|refine CN t ?_|refine CE (aa n) ?_|refine CP (by decide) ?_|refine CT j ?_|refine CT k ?_)|refine CG rfl (aa n) rfl ?_|refine CC ?_)
  refine CH rfl rfl ?_;exact wB
 rw[CB a]
 repeat'(first|refine gE ?_|(conv=>whnf);first|with_reducible (first|refine CN g ?_|refine CN b ?_|refine CN l ?_|refine CN d ?_|refine CP (by decide) ?_|refine CT j ?_|refine CT k ?_)|refine CC ?_)
 refine CH rfl rfl ?_;exact wB
def bT(zs:List Int)(c:iD)(n:Int)(b:jz zs)(d:c.i<=zs.length)(p:1<=n):zzB 61 false [.ptr (i9 zs c),.val none [I n]] [.ptr (i9 zs (bw zs c n).2),.val none [I n]] .one [I (bw zs c n).1]:=by
 have j:=sr zs c;have g:=kT zs c b d;unfold bw;refine fM 37 [(180,[2])] [] [(0,0),(0,0)] Tryz.func61 rfl (λu q=>?_);by_cases h:n<=256
 ·rw[CD h]
  have a:(dG zs c).1.tmod n=(dG zs c).1 % n:=Int.tmod_eq_emod_of_nonneg j.1
  repeat'(first|refine gE ?_|(conv=>whnf);first|with_reducible (first|refine CT a ?_|refine Bf.D (λe=>?_) (λe=>?_))|refine CL (g) (.inl rfl) ?_|refine CP ω ?_)
  refine CH rfl rfl ?_;exact wB
 rw[CB h];have r:=sr zs (dG zs c).2;have t:=sr zs (dG zs (dG zs c).2).2;have w:=sr zs (dG zs (dG zs (dG zs c).2).2).2;have k:=kT zs (dG zs c).2 b (iU d);have l:=kT zs (dG zs (dG zs c).2).2 b (iU (iU d));have o:=kT zs (dG zs (dG zs (dG zs c).2).2).2 b (iU (iU (iU d)));have a:(AX zs c).1.tmod n=(AX zs c).1 % n:=Int.tmod_eq_emod_of_nonneg (by unfold AX;simp only;omega);unfold AX at a |-;simp only at a
 repeat'(first|refine gE ?_|(conv=>whnf);first|with_reducible (first|refine CT a ?_|refine Bf.D (λe=>?_) (λe=>?_))|refine CL (g) (.inl rfl) ?_|refine CL (k) (.inl rfl) ?_|refine CL (l) (.inl rfl) ?_|refine CL (o) (.inl rfl) ?_|refine CP ω ?_)
 refine CH rfl rfl ?_;exact wB
def Mo(zs:List Int)(c:iD)(l:List Int)(b:jz zs)(d:c.i<=zs.length)(g:1<=l.length/\l.length<=1000):zzB 402 false [.ptr (i9 zs c),.val none (aH .V l)] [.ptr (i9 zs (lE zs c l).2),.val none (aH .V l)] .one [I (lE zs c l).1]:=by
 have e:=bT zs c (l.length:Nat) b d ω;have h:=bL zs c (n:=(l.length:Nat)) ω;have a:=au (xs:=l) (i:=(bw zs c (l.length:Nat)).1.toNat) ω;unfold lE;refine fM 12 [(61,[2,0])] [] [(0,0),(0,0)] Tryz.func402 rfl (λu q=>?_)
 repeat'(first|refine gP ?_|(conv=>whnf);first|with_reducible refine CO ω (aa a) ?_|refine CL (e) (.inl rfl) ?_|refine CG rfl (aa a) rfl ?_)
 refine CH rfl rfl ?_;exact wC
def jj(zs:List Int)(c:iD)(l:List Int)(b:jz zs)(d:c.i<=zs.length)(g:1<=l.length/\l.length<=1000):zzB 402 false [.ptr (i9 zs c),.mut none (aH .own l)] [.ptr (i9 zs (lE zs c l).2),.mut none (aH .own l)] .one [I (lE zs c l).1]:=by
 have e:=bT zs c (l.length:Nat) b d ω;have h:=bL zs c (n:=(l.length:Nat)) ω;have a:=au (xs:=l) (i:=(bw zs c (l.length:Nat)).1.toNat) ω;unfold lE;refine fM 12 [(61,[2,0])] [] [(0,0),(1,0)] Tryz.func402 rfl (λu q=>?_)
 repeat'(first|refine gP ?_|(conv=>whnf);first|with_reducible refine CO ω (aa a) ?_|refine CL (e) (.inl rfl) ?_|refine CG rfl (aa a) rfl ?_)
 refine CH rfl rfl ?_;exact wC
def KQ(zs:List Int):∀(f i:Nat)(out:List Int)(c:iD),(bw zs c 4).1<=i->p6 zs f i out c=(out,(bw zs c 4).2)
 | 0,_,_,_,_=>rfl
 | f+1,i,out,c,h=>by unfold p6;rw[CB ω]
def Qh(zs:List Int)(f i:Nat)(out:List Int)(c:iD)(h:(i:Int)<(bw zs c 4).1):p6 zs (f+1) i out c=p6 zs f (i+1) (out++[(bw zs (bw zs c 4).2 12).1]) (bw zs (bw zs c 4).2 12).2:=by
 show(if _ then _ else _)=_;rw[CD h]
structure Rq where
 i:Nat
 out:List Int
 c:iD
def wT(zs:List Int)(c:iD)(e:jz zs)(j:c.i<=zs.length):zzB 258 false [.ptr (i9 zs c)] [.ptr (i9 zs (Qm zs c).2)] .one (aH .own (Qm zs c).1):=by
 refine fM 18 [(61,[2,0])] [] [(0,0)] Tryz.func258 rfl (λu q=>?_) (.inr (bO _))
 repeat'(first|refine gP ?_|fail)
 (conv=>whnf)
 refine CJ (ι:=Rq) (λx=>[(0,.H .box (i9 zs x.c)),(3,.H .one (aH .own x.out)),(4,.H .one [I ((x.i:Nat):Int)])]) (λx=>(x.i<=4/\x.out.length<=x.i/\x.c.i<=zs.length)/\p6 zs (4 - x.i) x.i x.out x.c=Qm zs c) (λx=>4 - x.i) (⟨0,[],c⟩) ?_ (⟨⟨X0 _,X0 _,j⟩,rfl⟩) λx k=>?_
 ·exact wC
 obtain⟨i,out,d⟩:=x;obtain⟨⟨l,o,b⟩,a⟩:=k;simp only at l o b a |-;have B:=bL zs d (n:=4) (by decide);have g:=bT zs d 4 e b (by decide);have h:=bV b 4;have p:=bT zs (bw zs d 4).2 12 e h (by decide);have t:=bV h 12;by_cases w:(i:Int)<(bw zs d 4).1
 ·rw[show 4 - i=(4 - (i+1))+1 by omega,Qh zs _ _ _ _ w]at a
  repeat'(first|refine gE ?_|(conv=>whnf);first|refine CL (g) (.inl rfl) ?_|refine CL (p) (.inl rfl) ?_|refine CV cB (λr y=>by rw[V1.1 y];rfl) (by simp[bj,ed]) (by simp;omega) (by simp only[I1];exact zh (by simp;omega) (by decide)) rfl ?_)
  ((conv=>whnf);refine CF ⟨i+1,out++[(bw zs (bw zs d 4).2 12).1],(bw zs (bw zs d 4).2 12).2⟩ ⟨⟨by simp only;omega,by simp only[Y3,List.length_singleton];omega,t⟩,a⟩ (by simp only;omega) ?_)
  repeat'(first|exact trivial|rfl| exact dL _ |exact CM rfl (CM (Z0 (C.s dR.own) (by simp[rI])) trivial)|refine CM ?_ ?_|(exact B9 (by first|omega|(simp only;omega)|(simp;omega))))
 rw[KQ zs _ _ _ _ ω]at a;rw[<-a]
 repeat'(first|refine gE ?_|(conv=>whnf);first|refine CL (g) (.inl rfl) ?_)
 refine CH rfl rfl ?_;exact wC
def cM.enc(o:dR)(c:cM):List C:=[I (c.a2:Nat),I (c.W:Nat),I (c.c5:Nat),I c.c0,.s o (c.a0.map (rI o))]
def cM.enc_fz(c:cM):dE (cM.enc .own c)=cM.enc .V c:=by simp[dE,cM.enc,rI,<-bY,W6]
def cM.enc_fr(c:cM):ij (cM.enc .own c):=⟨trivial,trivial,trivial,trivial,⟨.inl λh=>(by cases h),bh _ _ λy _=>pQ y⟩,trivial⟩
def zb(zs:List Int)(c:iD)(a:jz zs)(h:c.i<=zs.length):zzB 113 false [.ptr (i9 zs c)] [.ptr (i9 zs (R2 zs c).2)] .agg (cM.enc .own (qW zs c)):=by
 have j:=bV h 7;have k:=bV j 3;have l:=bV k 100;have y:=bV l 4;have b:=bT zs c 7 a h (by decide);have d:=bT zs (Al zs c).2 3 a j (by decide);have e:=bT zs (GK zs c).2 100 a k (by decide);have g:=bT zs (HE zs c).2 4 a l (by decide);have o:=wT zs (Dy zs c).2 a y;have p:=bL zs c (n:=7) (by decide);have r:=bL zs (Al zs c).2 (n:=3) (by decide);have B:=bL zs (GK zs c).2 (n:=100) (by decide);have t:=bL zs (HE zs c).2 (n:=4) (by decide);have w:=cM.enc_fr (qW zs c);have C:cM.enc .own (qW zs c)=[I (6+(Al zs c).1),I (6+(Al zs c).1 - (Dy zs c).1),I (1+(GK zs c).1),I (40+(HE zs c).1),.s .own ((R2 zs c).1.map (rI .own))]:=by
  have D:0<=(Al zs c).1/\(Al zs c).1<7:=p;have E:0<=(GK zs c).1/\(GK zs c).1<3:=r;have F:0<=(Dy zs c).1/\(Dy zs c).1<4:=t;unfold cM.enc qW;simp only;rw[Int.toNat_of_nonneg ω,Int.toNat_of_nonneg ω,Int.toNat_of_nonneg ω]
 rw[C]at w |-;change aP _ _ _ _ [.ptr (i9 zs (Al zs c).2),_] _ _ at b;change aP _ _ _ _ [.ptr (i9 zs (GK zs c).2),_] _ _ at d;change aP _ _ _ _ [.ptr (i9 zs (HE zs c).2),_] _ _ at e;change aP _ _ _ _ [.ptr (i9 zs (Dy zs c).2),_] _ _ at g;change aP _ _ _ _ [.ptr (i9 zs (R2 zs c).2)] _ (aH .own (R2 zs c).1) at o;change aP _ _ _ _ _ _ [I (Al zs c).1]at b;change aP _ _ _ _ _ _ [I (GK zs c).1]at d;change aP _ _ _ _ _ _ [I (HE zs c).1]at e;change aP _ _ _ _ _ _ [I (Dy zs c).1]at g;change 0<=(Al zs c).1/\(Al zs c).1<7 at p;change 0<=(GK zs c).1/\(GK zs c).1<3 at r;change 0<=(HE zs c).1/\(HE zs c).1<100 at B;change 0<=(Dy zs c).1/\(Dy zs c).1<4 at t;generalize R2 zs c=r5 at *;generalize Dy zs c=r4 at *;generalize HE zs c=r3 at *;generalize GK zs c=r2 at *;generalize Al zs c=r1 at *;refine fM 24 [(61,[2,0]),(258,[2])] [(2,65536,[])] [(0,0)] Tryz.func113 rfl (λu q=>?_) (.inr w)
 repeat'(first|refine gP ?_|(conv=>whnf);first|refine CL (b) (.inl rfl) ?_|refine CL (d) (.inl rfl) ?_|refine CL (e) (.inl rfl) ?_|refine CL (g) (.inl rfl) ?_|refine CL (o) (.inl rfl) ?_|refine CM ?_ ?_)
 all_goals
  refine CH rfl rfl ?_;exact wC
def xh(n:Nat)(e:1<=n/\n<=32):zzA 569 false [.val none [I (n:Nat)]] (.tup [some 2,none]) (aX.enc .own (gl n)++[B true]):=by
 have c:=aJ ((n:Nat):Int) 1 32;rw[O0 ω]at c;have a:=aU (b:=[B true]) (aX.enc_fr (gl n)) ⟨trivial,trivial⟩;rw[show aX.enc .own (gl n)=_ from HY n n]at a |-;refine fO 28 [(7,4,[16,17,18,19])] Tryz.func569 rfl ?_ (.inr a)
 repeat'(first|refine gP ?_|(conv=>whnf);first|refine CC ?_|refine C9 (c) ?_)
 (conv=>whnf)
 refine CJ (ι:=Nat) (λk=>[(0,.H .one [I ((n:Nat))]),(2,.H .box [.z,.z]),(4,.H .box [.s .own (List.replicate k [.s .own (List.replicate 16 [I 0])]),.s .own (List.replicate k [B false])]),(5,.H .one [I ((k:Nat):Int)])]) (λk=>k<=n) (λk=>n - k) (0) ?_ (X0 _) λk g=>?_
 ·exact wB
 by_cases h:k<n
 ·repeat'(first|refine gE ?_|(conv=>whnf);first|refine CC ?_|refine Mk.mk 16 rfl rfl (by decide) (by decide) rfl ?_|refine Ap.sn (λr d=>by rw[(List.mem_replicate.1 d).2];rfl) rfl (by simp;omega) (by decide) (EJ _ k) ?_)
  ((conv=>whnf);refine CF (k+1) ω ω ?_;(exact wB))
 obtain rfl:k=n:=ω
 repeat'(first|refine gE ?_|(conv=>whnf);first|refine CC ?_)
 rfl
def zW(n:Nat)(e:1<=n/\n<=32):zzA 570 false [.val none [I (n:Nat)]] (.tup [some 1,none]) (aL.enc .own (fQ n)++[B true]):=by
 have c:=aJ ((n:Nat):Int) 1 32;rw[O0 ω]at c;have a:=aU (b:=[B true]) (aL.enc_fr (fQ n)) ⟨trivial,trivial⟩;have d:aL.enc .own (fQ n)=[.s .own (List.replicate n [I 0,I 0])]:=by simp[aL.enc,fQ,bm.enc,List.map_replicate]
 rw[d]at a |-;refine fO 11 [] Tryz.func570 rfl ?_ (.inr a)
 repeat'(first|refine gP ?_|(conv=>whnf);first|refine CC ?_|refine C9 (c) ?_|refine Mk.mk n rfl rfl ω (zh ω (by decide)) rfl ?_)
 rfl
def vY(p f:Nat)(a:1<=p/\p<=32)(b:1<=f/\f<=32):zzA 508 false [.val none [I (p:Nat)],.val none [I (f:Nat)]] (.tup [some 3,none]) (aY.enc .own ⟨gl f,fQ p⟩++[B true]):=by
 refine fO 30 [] Tryz.func508 rfl ?_ (.inr (aU (aY.enc_fr _) ⟨trivial,trivial⟩))
 repeat'(first|refine gP ?_|(conv=>whnf);first|refine CC ?_|refine C9 (xh f b) ?_|refine C9 (zW p a) ?_)
 rfl
def yZ(p f:Nat)(a:List Int)(b:1<=p/\p<=32)(c:1<=f/\f<=32)(d:a.length<=40/\∀x∈a,0<=x):zzA 412 false [.val none [I (p:Nat)],.val none [I (f:Nat)],.val none (aH .V a)] (.tup [some 5,none]) (ah.enc .own (bZ p f a)++[B true]):=by
 have e:=qB b c d;have h:=d.1;have g:=mB (bZ p f a) (b8 e);rw[e]at g;refine fO 31 [(2,260,[17,18,19,10,0,1,2,5,3,1000,1005,4,1005,6])] Tryz.func412 rfl ?_ (.inr (aU (Cf _) ⟨trivial,trivial⟩))
 repeat'(first|refine gP ?_|(conv=>whnf);first|refine CC ?_|refine C9 (vY p f b c) ?_|refine CK (g) ⟨⟨rfl,CR (bZ p f a)⟩,trivial⟩ ?_|refine CS (λ_=>rfl) (λ_=>rfl) ω (by decide) ?_|refine CX (λ_=>rfl) (λ_=>rfl) ω (by decide) ?_|refine CC ?_)
 rfl
def Uf(p f t:Nat)(lim:Int)(a:List Int)(k:Nat):ac:={caps (newHeap p f t lim a) k with a7:=⟨0,[]⟩}
def BP(p f t:Nat)(lim:Int)(a:List Int)(c:1<=p/\p<=32)(d:1<=f/\f<=32)(e:1<=t/\t<=4)(g:0<=lim/\lim<=1000)(h:a.length<=40/\∀x∈a,0<=x):zzA 271 false [.val none [I (p:Nat)],.val none [I (f:Nat)],.val none [I (t:Nat)],.val none [I lim],.val none (aH .V a)] (.tup [some 24,none]) (ac.enc .own (newHeap p f t lim a)++[B true]):=by
 have b:=aJ lim 0 1000;rw[O0 g]at b;refine fO 66 [(9,4,[54,55,56,57])] Tryz.func271 rfl ?_ (.inr (aU (ac.enc_fr _) ⟨trivial,trivial⟩))
 repeat'(first|refine gP ?_|(conv=>whnf);first|refine CC ?_|refine C9 (yZ p f a c d h) ?_|refine C9 (D4 t e) ?_|refine C9 (b) ?_|refine C9 (tl) ?_)
 (conv=>whnf)
 refine CJ (ι:=Nat) (λk=>[(2,.H .one [I ((t:Nat))]),(10,.H .box [.z,.z,.z,I 0,.z,.z,.z,.z,.z,.z,.z,.z,I 0,.z,I 0,I 0,I 0,I 0,B false,I 0,I 0,.z,I 0,I 0]),(16,.H .box (ac.enc .own (Uf p f t lim a k))),(17,.H .one [I ((k:Nat):Int)])]) (λk=>k<=t) (λk=>t - k) (0) ?_ (X0 _) λk i=>?_
 ·exact wB
 by_cases j:k<t
 ·repeat'(first|refine gE ?_|(conv=>whnf);first|refine CC ?_|refine C9 (Ae) ?_|refine Ap.sn MP rfl (by rw[I1];show(List.replicate _ fF).length+1<=_;rw[z4];omega) (by decide) (Lj k) ?_)
  ((conv=>whnf);refine CF (k+1) ω ω ?_;(exact wB))
 obtain rfl:k=t:=ω
 repeat'(first|refine gE ?_|(conv=>whnf);first|refine CC ?_|refine C9 (tl) ?_)
 rfl
def FR:zzA 272 false [] .agg (aD.enc .own ⟨1,[]⟩):=by
 refine fO 2 [] Tryz.func272 rfl ?_ (.inr (aD.enc_fr _))
 repeat'((conv=>whnf);first|with_reducible (first|refine Lm ?_|refine Wm ω ?_|refine Bn ?_|refine jX.wk rfl ?_)|refine Bt ?_|refine Bu ?_|refine CC ?_)
 exact⟨rfl,rfl,trivial⟩
def zJ(c:cM)(h:GM c):zzA 120 false [.val (some 5) (cM.enc .V c)] (.tup [some 26,none]) (bn.enc .own (world0 c)++[B true]):=by
 have a:=BP c.a2 c.W c.c5 c.c0 c.a0 h.p h.f h.t h.l h.r;refine fO 26 [(4,2,[23,24])] Tryz.func120 rfl ?_ (.inr (aU (bn.enc_fr _) ⟨trivial,trivial⟩))
 repeat'(first|refine gP ?_|(conv=>whnf);first|refine CC ?_|refine C9 (a) ?_|refine C9 (FR) ?_)
 rfl
def pd(o:dR)(l:List eL):List C:=[.s o (l.map (eL.enc o))]
def eL.enc_fr(x:eL):ij (eL.enc .own x):=⟨trivial,trivial,trivial,trivial,trivial,trivial⟩
def Lo(l:List eL):ij (pd .own l):=⟨⟨.inl λh=>(by cases h),bh _ _ λy _=>eL.enc_fr y⟩,trivial⟩
def KO(l:List eL):dE (pd .own l)=pd .V l:=by simp[dE,pd,eL.enc,<-bY,W6]
def F7(zs:List Int)(c:iD)(ids:Int)(b:jz zs)(p:c.i<=zs.length)(r:1<=ids/\ids<=1000):zzB 259 false [.ptr (i9 zs c),.val none [I ids]] [.ptr (i9 zs (tD zs c ids).2),.val none [I ids]] .agg (eL.enc .own (tD zs c ids).1):=by
 have w:=bV p 3;have y:=bV w ids;have d:(l7 zs c ids).2.i<=zs.length:=bV y 20;have B:=bT zs c 3 b p (by decide);have C:=bT zs (AW zs c).2 ids b w r.1;have j:=bT zs (GR zs c ids).2 20 b y (by decide);have H:=bL zs c (n:=3) (by decide);have J:=bL zs (AW zs c).2 (n:=ids) r.1;have D:=bL zs (GR zs c ids).2 (n:=20) (by decide);have e:=jj zs (l7 zs c ids).2 szs b d (by decide);have E:=jj zs (l7 zs c ids).2 [5,6] b d (by decide);have F:=jj zs (l7 zs c ids).2 [1,30,60,120] b d (by decide);have l:=jj zs (l7 zs c ids).2 [1,2,3,10,30] b d (by decide);have g:=bT zs (l7 zs c ids).2 4 b d (by decide);have h:=bT zs (bw zs (l7 zs c ids).2 4).2 999 b (bV d _) (by decide);have G:=bT zs (l7 zs c ids).2 10 b d (by decide);have K:=bL zs (bw zs (l7 zs c ids).2 4).2 (n:=999) (by decide);have L:=bL zs (l7 zs c ids).2 (n:=10) (by decide);change aP _ _ _ _ [.ptr (i9 zs (AW zs c).2),_] _ [I (AW zs c).1]at B;change aP _ _ _ _ [.ptr (i9 zs (GR zs c ids).2),_] _ [I (GR zs c ids).1]at C;change aP _ _ _ _ [.ptr (i9 zs (l7 zs c ids).2),_] _ [I (l7 zs c ids).1]at j;change 0<=(AW zs c).1/\(AW zs c).1<3 at H;change 0<=(GR zs c ids).1/\(GR zs c ids).1<ids at J;change 0<=(l7 zs c ids).1/\(l7 zs c ids).1<20 at D;have o:=eL.enc_fr (tD zs c ids).1;unfold tD at o |-;generalize l7 zs c ids=k at *;generalize GR zs c ids=n at *;generalize AW zs c=t at *;obtain⟨a,M⟩:=k;dsimp only at d e E F l g h G K L D j o |-;refine fM 77 [(61,[2,0]),(402,[2,1])] [] [(0,0),(0,0)] Tryz.func259 rfl (λu q=>?_) (.inr o)
 repeat'(first|refine gP ?_|(conv=>whnf);first|refine CL (B) (.inl rfl) ?_|refine CL (C) (.inl rfl) ?_|refine CL (j) (.inl rfl) ?_)
 obtain rfl|rfl|rfl|rfl|rfl|rfl|rfl|rfl|rfl|rfl|rfl|rfl|rfl|rfl|rfl|rfl|rfl|rfl|rfl|rfl:=(show a=0\/a=1\/a=2\/a=3\/a=4\/a=5\/a=6\/a=7\/a=8\/a=9\/a=10\/a=11\/a=12\/a=13\/a=14\/a=15\/a=16\/a=17\/a=18\/a=19 by omega)
 ·rw[CD (show((0:Int))<=6 by decide)]
  repeat'(first|refine gP ?_|(conv=>whnf);first|refine CL (e) (.inl rfl) ?_)
  refine CH rfl rfl ?_;exact wC
 ·rw[CD (show((1:Int))<=6 by decide)]
  repeat'(first|refine gP ?_|(conv=>whnf);first|refine CL (e) (.inl rfl) ?_)
  refine CH rfl rfl ?_;exact wC
 ·rw[CD (show((2:Int))<=6 by decide)]
  repeat'(first|refine gP ?_|(conv=>whnf);first|refine CL (e) (.inl rfl) ?_)
  refine CH rfl rfl ?_;exact wC
 ·rw[CD (show((3:Int))<=6 by decide)]
  repeat'(first|refine gP ?_|(conv=>whnf);first|refine CL (e) (.inl rfl) ?_)
  refine CH rfl rfl ?_;exact wC
 ·rw[CD (show((4:Int))<=6 by decide)]
  repeat'(first|refine gP ?_|(conv=>whnf);first|refine CL (e) (.inl rfl) ?_)
  refine CH rfl rfl ?_;exact wC
 ·rw[CD (show((5:Int))<=6 by decide)]
  repeat'(first|refine gP ?_|(conv=>whnf);first|refine CL (e) (.inl rfl) ?_)
  refine CH rfl rfl ?_;exact wC
 ·rw[CD (show((6:Int))<=6 by decide)]
  repeat'(first|refine gP ?_|(conv=>whnf);first|refine CL (e) (.inl rfl) ?_)
  refine CH rfl rfl ?_;exact wC
 ·rw[CB (show ¬((7:Int)<=6) by decide),CD (show((7:Int))<=9 by decide)]
  repeat'(first|refine gP ?_|fail)
  refine CH rfl rfl ?_;exact wC
 ·rw[CB (show ¬((8:Int)<=6) by decide),CD (show((8:Int))<=9 by decide)]
  repeat'(first|refine gP ?_|fail)
  refine CH rfl rfl ?_;exact wC
 ·rw[CB (show ¬((9:Int)<=6) by decide),CD (show((9:Int))<=9 by decide)]
  repeat'(first|refine gP ?_|fail)
  refine CH rfl rfl ?_;exact wC
 ·rw[CB (show ¬((10:Int)<=6) by decide),CB (show ¬((10:Int)<=9) by decide),CD (show((10:Int))<=12 by decide)]
  repeat'(first|refine gP ?_|(conv=>whnf);first|refine CL (g) (.inl rfl) ?_|refine CL (h) (.inl rfl) ?_)
  refine CH rfl rfl ?_;exact wC
 ·rw[CB (show ¬((11:Int)<=6) by decide),CB (show ¬((11:Int)<=9) by decide),CD (show((11:Int))<=12 by decide)]
  repeat'(first|refine gP ?_|(conv=>whnf);first|refine CL (g) (.inl rfl) ?_|refine CL (h) (.inl rfl) ?_)
  refine CH rfl rfl ?_;exact wC
 ·rw[CB (show ¬((12:Int)<=6) by decide),CB (show ¬((12:Int)<=9) by decide),CD (show((12:Int))<=12 by decide)]
  repeat'(first|refine gP ?_|(conv=>whnf);first|refine CL (g) (.inl rfl) ?_|refine CL (h) (.inl rfl) ?_)
  refine CH rfl rfl ?_;exact wC
 ·rw[CB (show ¬((13:Int)<=6) by decide),CB (show ¬((13:Int)<=9) by decide),CB (show ¬((13:Int)<=12) by decide),CD (show((13:Int))=13 by decide)]
  repeat'(first|refine gP ?_|(conv=>whnf);first|refine CL (G) (.inl rfl) ?_)
  refine CH rfl rfl ?_;exact wC
 ·rw[CB (show ¬((14:Int)<=6) by decide),CB (show ¬((14:Int)<=9) by decide),CB (show ¬((14:Int)<=12) by decide),CB (show ¬((14:Int)=13) by decide),CD (show((14:Int))=14 by decide)]
  repeat'(first|refine gP ?_|(conv=>whnf);first|refine CL (E) (.inl rfl) ?_)
  refine CH rfl rfl ?_;exact wC
 ·rw[CB (show ¬((15:Int)<=6) by decide),CB (show ¬((15:Int)<=9) by decide),CB (show ¬((15:Int)<=12) by decide),CB (show ¬((15:Int)=13) by decide),CB (show ¬((15:Int)=14) by decide),CD (show((15:Int))=15 by decide)]
  repeat'(first|refine gP ?_|fail)
  refine CH rfl rfl ?_;exact wC
 ·rw[CB (show ¬((16:Int)<=6) by decide),CB (show ¬((16:Int)<=9) by decide),CB (show ¬((16:Int)<=12) by decide),CB (show ¬((16:Int)=13) by decide),CB (show ¬((16:Int)=14) by decide),CB (show ¬((16:Int)=15) by decide),CD (show((16:Int))=16 by decide)]
  repeat'(first|refine gP ?_|(conv=>whnf);first|refine CL (F) (.inl rfl) ?_)
  refine CH rfl rfl ?_;exact wC
 ·rw[CB (show ¬((17:Int)<=6) by decide),CB (show ¬((17:Int)<=9) by decide),CB (show ¬((17:Int)<=12) by decide),CB (show ¬((17:Int)=13) by decide),CB (show ¬((17:Int)=14) by decide),CB (show ¬((17:Int)=15) by decide),CB (show ¬((17:Int)=16) by decide),CD (show((17:Int))=17 by decide)]
  repeat'(first|refine gP ?_|fail)
  refine CH rfl rfl ?_;exact wC
 ·rw[CB (show ¬((18:Int)<=6) by decide),CB (show ¬((18:Int)<=9) by decide),CB (show ¬((18:Int)<=12) by decide),CB (show ¬((18:Int)=13) by decide),CB (show ¬((18:Int)=14) by decide),CB (show ¬((18:Int)=15) by decide),CB (show ¬((18:Int)=16) by decide),CB (show ¬((18:Int)=17) by decide)]
  repeat'(first|refine gP ?_|(conv=>whnf);first|refine CL (l) (.inl rfl) ?_)
  refine CH rfl rfl ?_;exact wC
 rw[CB (show ¬((19:Int)<=6) by decide),CB (show ¬((19:Int)<=9) by decide),CB (show ¬((19:Int)<=12) by decide),CB (show ¬((19:Int)=13) by decide),CB (show ¬((19:Int)=14) by decide),CB (show ¬((19:Int)=15) by decide),CB (show ¬((19:Int)=16) by decide),CB (show ¬((19:Int)=17) by decide)]
 repeat'(first|refine gP ?_|(conv=>whnf);first|refine CL (l) (.inl rfl) ?_)
 refine CH rfl rfl ?_;exact wC
def DZ(zs:List Int)(c:iD)(b:jz zs)(d:c.i<=zs.length):zzB 114 false [.ptr (i9 zs c),.val none [I 40]] [.ptr (i9 zs (l8 zs c).2),.val none [I 40]] .one (pd .own (l8 zs c).1):=by
 have e:=bT zs c 41 b d (by decide);have g:=bL zs c (n:=41) (by decide);obtain⟨n,h⟩:=O3 g.1;have a:(bw zs c 41).1.toNat=n:=by rw[h];rfl
 unfold l8;rw[a];rw[h]at e g;refine fM 27 [(61,[2,0]),(259,[2,0])] [] [(0,0),(0,0)] Tryz.func114 rfl (λu q=>?_) (.inr (Lo _))
 repeat'(first|refine gP ?_|(conv=>whnf);first|refine CL (e) (.inl rfl) ?_)
 (conv=>whnf)
 refine CJ (ι:=Nat) (λi=>[(0,.H .box (i9 zs (lL zs c i).2)),(5,.H .one (pd .own (lL zs c i).1)),(6,.H .one [I ((n:Nat):Int)]),(7,.H .one [I ((i:Nat):Int)])]) (λi=>i<=n) (λi=>n - i) (0) ?_ (X0 _) λi p=>?_
 ·exact wC
 obtain⟨t,-,j⟩:=pD (zs:=zs) (c:=c) d (n:=i) ω;by_cases w:i<n
 ·have k:=F7 zs (lL zs c i).2 (1+(i:Int) / 2) b j ω
  have l:((i:Nat):Int).tdiv 2=(i:Int) / 2:=Int.tdiv_eq_ediv_of_nonneg ω
  repeat'(first|refine gE ?_|(conv=>whnf);first|with_reducible (first|refine CT l ?_|refine CP ω ?_)|refine CL (k) (.inl rfl) ?_|refine CV (aV λ_=>rfl) (λr o=>by rw[V1.1 o];rfl) (by simp[bj,ed,eL.enc]) (by simp;omega) (by simp only[I1];exact zh (by simp;omega) (by decide)) rfl ?_)
  ((conv=>whnf);refine CF (i+1) ω ω ?_)
  repeat'(first|exact trivial|rfl| exact dL _ |exact CM rfl (CM (Z0 (C.s dR.own) (by simp[lL];rfl)) trivial)|refine CM ?_ ?_|(exact B9 (by first|omega|(simp only;omega)|(simp;omega))))
 obtain rfl:i=n:=ω
 repeat'(first|refine gE ?_|fail)
 refine CH rfl rfl ?_;exact wC
def rfs(h:ac):List Int:=h.G.a0
def E0(k:ah)(p:Int):(newK k p).1.a0=k.a0:=by unfold newK;split<;>rfl
def sj(k:ah)(p:Int):∀n,(newsK k p n).1.a0=k.a0
 | 0=>rfl
 | n+1=>by
  unfold newsK;split
  ·exact(E0 _ _).trans (sj k p n)
  exact sj k p n
def NW(h:ac)(i:Nat):rfs (iS h i).1=rfs h:=by unfold iS;split<;>rfl
def AA(h:ac)(t c:Nat):rfs (smallA h t c).1=rfs h:=by
 unfold smallA;split
 ·rfl
 split
 ·rfl
 split
 ·rfl
 split
 ·exact E0 _ _
 exact(NW _ _).trans (E0 _ _)
def tY(h:ac)(t n:Int):rfs (allocH h t n).1=rfs h:=by
 unfold allocH;split
 ·rfl
 split
 ·rfl
 split
 ·rfl
 split
 ·rfl
 split
 ·split
  ·exact AA _ _ _
  exact AA _ _ _
 unfold largeA;split
 ·rfl
 split
 ·exact sj _ _ _
 exact((lc _ _ _).2).trans (sj _ _ _)
def M6(h:ac)(t i:Nat):rfs (freeT h t i).1=rfs h:=by
 unfold freeT;split
 ·exact(lc _ _ _).2
 split
 ·rfl
 split
 ·exact(fw t _ _).2.2.2.2.2.2.2
 split<;>rfl
def Ba(t:Nat)(h:ac):∀k,rfs (flushN t h k).1=rfs h
 | 0=>rfl
 | k+1=>((fS _ (spilt (flushN t h k).1 t k)).2.2.2.2.2.2.2).trans (Ba t h k)
def Hr{h:ac}(a:bc h [])(b:JI h):∀n,rfs (stN h n).1=rfs h
 | 0=>rfl
 | n+1=>by
  obtain⟨c,d⟩:=uj a b n;unfold stN;split
  ·rename_i e
   unfold sL at e;rw[I0]at e;exact((x6 c e.1).2.2.1).trans (Hr a b n)
  exact Hr a b n
def Po{w:bn}{m:Nat}(h:rZ w m)(a:eL):rfs (ma w a).1.Z=rfs w.Z:=by
 unfold ma;split
 ·exact tY _ _ _
 split
 ·split
  ·rfl
  unfold m9;split
  ·unfold qq
   split
   ·rfl
   split
   ·exact M6 _ _ _
   rfl
  split
  ·unfold mV
   split
   ·rfl
   split
   ·rfl
   split<;>rfl
  unfold pY;split
  ·exact((lc _ _ _).2).trans (nr _ _ _).2.2
  rfl
 split
 ·unfold fK
  split
  ·split<;>rfl
  split
  ·rfl
  split
  ·exact(fw _ _ _).2.2.2.2.2.2.2
  exact Ba _ _ _
 split
 ·unfold ov
  split
  ·exact(fS _ _).2.2.2.2.2.2.2
  rfl
 split
 ·unfold oe
  split
  ·rfl
  show rfs (started w.Z).1=_;unfold rfs;rw[(vf h.inv).2.1]
 split
 ·exact Hr h.inv h.ji _
 rfl
def HD{c:cM}(h:GM c)(acts:List eL):∀n,rfs (zi c acts n).1.Z=c.a0
 | 0=>rfl
 | n+1=>(Po (uD h acts n) _).trans (HD h acts n)
def rJ(w:bn):List C:=bE w.Z++aD.enc .V w.b2
def QV(w:bn):dE (rJ w)=bn.enc .V w:=by
 unfold rJ;rw[f6,bK,<-Cg,sw,Cg]
 rfl
def EB(w:bn)(id:Int)(g:w.Z.O.length<=1048576):zzB 274 false [.ptr (rJ w),.val none [I id]] [.ptr (rJ w),.val none [I id]] .one [I (qJ w.Z id)]:=by
 refine fM 28 [] [] [(0,0),(0,0)] Tryz.func274 rfl (λu q=>?_)
 repeat'(first|refine gP ?_|(conv=>whnf);first|refine CC ?_)
 (conv=>whnf)
 refine CJ (ι:=Nat) (λi=>[(0,.H .box (rJ w)),(1,.H .one [I (id)]),(5,.H .one [I ((i:Nat):Int)])]) (λi=>i<=w.Z.O.length/\∀(j:Nat)(z:bo),j<i->w.Z.O[j]? = some z->M3 id z=false) (λi=>w.Z.O.length - i) (0) ?_ (⟨X0 _,λj z h=>ω⟩) λi c=>?_
 ·exact wC
 obtain⟨c,b⟩:=c;by_cases d:i<w.Z.O.length
 ·have a:=au d
  by_cases e:(nth w.Z.O i).Id=id
  ·repeat'(first|refine gB ?_|(conv=>whnf);first|with_reducible refine CE (aa a) ?_|refine CC ?_|refine CG rfl (aa a) rfl ?_)
   refine CH rfl (Z0 (λz=>[I z]) (dD a (O0 e) b).symm) ?_;exact wC
  repeat'(first|refine gB ?_|(conv=>whnf);first|with_reducible refine CE (aa a) ?_|refine CC ?_|refine CG rfl (aa a) rfl ?_)
  ((conv=>whnf);refine CF (i+1) ⟨ω,dY a (W0 e) b⟩ ω ?_;(exact wC))
 repeat'(first|refine gE ?_|(conv=>whnf);first|refine CC ?_)
 refine CH rfl (Z0 (λz=>[I z]) (gh ω b).symm) ?_;exact wC
def cZ(y:ac):(bE y).length=24:=rfl
def zk(w:bn)(m n:Nat)(h:rZ w m)(B:n<=50):zzB 280 false [.ptr (rJ w),.val none [I (n:Nat)]] [.ptr (rJ ⟨(stN w.Z n).1,w.b2⟩),.val none [I (n:Nat)]] .one [I ((stN w.Z n).2:Nat)]:=by
 refine fM 35 [(431,[2])] [] [(0,0),(0,0)] Tryz.func280 rfl (λu q=>?_)
 repeat'(first|refine gP ?_|(conv=>whnf);first|refine CC ?_)
 (conv=>whnf)
 refine CJ (ι:=Nat) (λi=>[(0,.H .box (rJ ⟨(stN w.Z i).1,w.b2⟩)),(1,.H .one [I ((n:Nat):Int)]),(5,.H .one [I (((stN w.Z i).2:Nat):Int)]),(6,.H .one [I ((i:Nat):Int)])]) (λi=>i<=n/\(stN w.Z i).2=i) (λi=>n - i) (0) ?_ (⟨X0 _,rfl⟩) λi l=>?_
 ·exact wC
 obtain⟨l,C⟩:=l;obtain⟨o,D⟩:=uj h.inv h.ji i;have b:stN w.Z (i+1)=if sL (stN w.Z i).1=true then(mStep (stN w.Z i).1,(stN w.Z i).2+1) else stN w.Z i:=rfl
 have p:=(aG.1 o.ker).2.2.2.2;by_cases E:i<n
 ·cases c:(stN w.Z i).1.u with
  | true=>
   have y:=(Er _ o c).frame (r:=aD.enc .V w.b2) ((cZ _).trans (cZ _).symm);by_cases g:(stN w.Z i).1.G.Calls<=99000
   ·have d:sL (stN w.Z i).1=true:=by unfold sL;rw[c,O0 g];rfl
    rw[CD d]at b;generalize stN w.Z i=s at *
    repeat'(first|refine gE ?_|(conv=>whnf);first|refine CC ?_|refine Bf.t (O0 g) ?_|refine Bf.t c ?_|refine CL (y) (.inl rfl) ?_)
    ((conv=>whnf);refine CF (i+1) ⟨ω,by rw[b];simp only;omega⟩ ω ?_)
    rw[b];exact wC
   have d:sL (stN w.Z i).1=false:=by unfold sL;rw[c,W0 g];rfl
   have a:∀k,stN w.Z (i+k)=stN w.Z i:=λk=>by
    induction k with
    | zero=>rfl
    | succ k j=>show(if sL (stN w.Z (i+k)).1=true then _ else stN w.Z (i+k))=_;rw[j,d,CB (by simp)]
   have e:=a (n - i);rw[show i+(n - i)=n by omega]at e;rw[e];generalize stN w.Z i=s at *
   repeat'(first|refine gE ?_|(conv=>whnf);first|refine CC ?_|refine Bf.f (W0 g) ?_|refine Bf.t c ?_)
   refine CH rfl rfl ?_;exact wC
  | false=>
   have d:sL (stN w.Z i).1=false:=by unfold sL;rw[c];rfl
   have a:∀k,stN w.Z (i+k)=stN w.Z i:=λk=>by
    induction k with
    | zero=>rfl
    | succ k j=>show(if sL (stN w.Z (i+k)).1=true then _ else stN w.Z (i+k))=_;rw[j,d,CB (by simp)]
   have e:=a (n - i);rw[show i+(n - i)=n by omega]at e;rw[e];generalize stN w.Z i=s at *
   repeat'(first|refine gE ?_|(conv=>whnf);first|refine CC ?_|refine Bf.f c ?_)
   refine CH rfl rfl ?_;exact wC
 obtain rfl:i=n:=ω
 repeat'(first|refine gE ?_|(conv=>whnf);first|refine CC ?_)
 refine CH rfl rfl ?_;exact wC
def Hh{k:ah}(a:aF k=true):(aF k&&decide (k.Calls<100000))=decide (k.Calls≠100000):=by
 have:=(aG.1 a).2.2.2.2;rw[a,Bool.true_and,C5,C0,C0];omega
def yt(w:bn)(a:eL)(m:Nat)(h:rZ w m)(B:a.b3=5\/a.b3=6\/a.b3=7):zzB 276 false [.ptr (rJ w),.val (some 5) (eL.enc .V a)] [.ptr (rJ ⟨(fK w.Z a).1,w.b2⟩),.val (some 5) (eL.enc .V a)] .one [I (fK w.Z a).2]:=by
 have d:=h.inv;have o:=d.nc;have p:w.Z.S.length<=4:=by have:=(d8.1 d.mail).1.2.1;omega
 have C:=kG.of d.mail;have i:=lU w.Z.G (b8 d.ker);rw[Hh d.ker]at i;have j:=aJ a.a4 0 (w.Z.S.length - 1:Int);unfold fK;refine fM 59 [(423,[2,0]),(424,[2,0])] [(3,267,[15,16,17,18,19,20,21,14,22,23,6,0,1,2,3,4,5,6,7,8,9,10,11,1009,12]),(8,15,[30,31,32,33,34,35,36,37,38,39,40,41,42,43,44])] [(0,0),(0,0)] Tryz.func276 rfl (λu q=>?_);by_cases l:a.b3=5
 ·rw[CD l]
  by_cases e:0<=a.a4/\a.a4<=w.Z.S.length - 1
  ·have y:nX w.Z a:=e
   obtain⟨t,g⟩:=O3 e.1;have b:=E1 w.Z.w t d.mail ω;rw[<-g]at b;rw[g]at e |-;simp only[I3];rw[g]at b;by_cases c:0<(nth w.Z.w.U t).length
   ·rw[CD (show nX w.Z a/\0<(nth w.Z.w.U t).length from⟨y,c⟩)]
    rw[CD c,O0 c]at b;rw[<-g]at b
    repeat'(first|refine gB ?_|(conv=>whnf);first|with_reducible refine Bf.E (λk=>?_) (λk=>?_)|refine CC ?_|refine CK (b) ⟨⟨rfl,aM.enc_fz w.Z.w⟩,⟨rfl,rfl⟩,trivial⟩ ?_|refine CC ?_)
    refine CH rfl rfl ?_;exact wC
   rw[CB (show ¬(nX w.Z a/\0<(nth w.Z.w.U t).length) from λx=>c x.2)];rw[CB c,W0 c]at b;rw[<-g]at b
   repeat'(first|refine gB ?_|(conv=>whnf);first|with_reducible refine Bf.E (λk=>?_) (λk=>?_)|refine CC ?_|refine CK (b) ⟨⟨rfl,aM.enc_fz w.Z.w⟩,⟨rfl,rfl⟩,trivial⟩ ?_|refine CC ?_)
   refine CH rfl rfl ?_;exact wC
  rw[CB (show ¬(nX w.Z a/\0<(nth w.Z.w.U a.a4.toNat).length) from λx=>e x.1)];have b:=HO w.Z.w a.a4 d.mail ω
  repeat'(first|refine gB ?_|(conv=>whnf);first|with_reducible refine Bf.E (λk=>?_) (λk=>?_)|refine CC ?_|refine CK (b) ⟨⟨rfl,aM.enc_fz w.Z.w⟩,⟨rfl,rfl⟩,trivial⟩ ?_|refine CC ?_)
  refine CH rfl rfl ?_;exact wC
 rw[CB l];by_cases e:w.Z.G.Calls≠100000;rotate_left
 ·rw[CD (show ¬(w.Z.G.Calls≠100000/\nX w.Z a) from λx=>e x.1)]
  rw[W0 e]at i
  repeat'(first|refine gB ?_|(conv=>whnf);first|refine CC ?_|refine CK (i) ⟨⟨rfl,CR _⟩,trivial⟩ ?_|refine CC ?_)
  refine CH rfl rfl ?_;exact wC
 rw[O0 e]at i;by_cases c:0<=a.a4/\a.a4<=w.Z.S.length - 1;rotate_left
 ·rw[CD (show ¬(w.Z.G.Calls≠100000/\nX w.Z a) from λx=>c x.2)]
  rw[W0 c]at j
  repeat'(first|refine gB ?_|(conv=>whnf);first|refine CC ?_|refine CK (i) ⟨⟨rfl,CR _⟩,trivial⟩ ?_|refine C9 (j) ?_|refine CC ?_)
  refine CH rfl rfl ?_;exact wC
 rw[CB (show ¬¬(w.Z.G.Calls≠100000/\nX w.Z a) from V4 ⟨e,c⟩)];rw[O0 c]at j;obtain⟨t,g⟩:=O3 c.1;by_cases n:a.b3=6
 ·rw[CD n]
  have b:=(vT w.Z t d ω).frame (r:=aD.enc .V w.b2) ((cZ _).trans (cZ _).symm);rw[show a.a4.toNat=t by omega];rw[<-g]at b
  repeat'(first|refine gB ?_|(conv=>whnf);first|refine CC ?_|refine CK (i) ⟨⟨rfl,CR _⟩,trivial⟩ ?_|refine C9 (j) ?_|refine CL (b) (.inl rfl) ?_|refine CC ?_)
  refine CH rfl rfl ?_;exact wC
 rw[CB n];have b:=(Ao w.Z t d ω).frame (r:=aD.enc .V w.b2) ((cZ _).trans (cZ _).symm);rw[show a.a4.toNat=t by omega];rw[<-g]at b
 repeat'(first|refine gB ?_|(conv=>whnf);first|refine CC ?_|refine CK (i) ⟨⟨rfl,CR _⟩,trivial⟩ ?_|refine C9 (j) ?_|refine CL (b) (.inl rfl) ?_|refine CC ?_)
 refine CH rfl rfl ?_;exact wC
def yO(w:bn)(a:eL)(i m:Nat)(h:rZ w m)(X:m<=900)(G:N5 a)(t:i<w.Z.O.length):zzB 275 false [.ptr (rJ w),.val (some 5) (eL.enc .V a),.val none [I (i:Nat)]] [.ptr (rJ (m9 w a i).1),.val (some 5) (eL.enc .V a),.val none [I (i:Nat)]] .one [I (m9 w a i).2]:=by
 have e:=h.inv;have b:=au t;have M:=pH e (ar t);have N:=cI e (ar t) (k:=0);have O:1<=(nth w.Z.O i).q/\(nth w.Z.O i).q<=1000:=by
  rcases e.oow _ (ar t) with⟨s,P,Y,Z⟩|⟨l,H,d,c⟩
  ·have hc:=aI (e.L.sok s P)
   have:=gK (n:=(nth w.Z.O i).q) ω;omega
  have h8:=cF (e.L.lok l H);omega
 have g:=lU w.Z.G (b8 e.ker);rw[Hh e.ker]at g;have Q:=G.k;have R:=G.p;have S:=G.v;unfold m9;refine fM 126 [(416,[2,0,0]),(418,[2,0,0]),(420,[2,0,0])] [(6,7,[29,30,31,32,33,34,35]),(8,269,[40,41,42,43,44,45,46,47,39,48,49,50,51,0,1,2,3,4,5,6,7,8,9,10,11,12,13,1010]),(13,10,[62,63,64,65,66,67,68,69,70,71]),(15,273,[76,77,78,79,80,81,82,83,84,85,86,87,75,88,89,90,91,0,1,2,3,4,5,6,7,8,9,10,11,12,13,14,15,16,17,1014]),(17,15,[93,94,95,96,97,98,99,100,101,102,103,104,105,106,107]),(19,271,[112,113,114,115,116,117,118,119,120,121,111,122,123,124,125,0,1,2,3,4,5,6,7,8,9,10,11,12,13,14,15,1012])] [(0,0),(0,0),(0,0)] Tryz.func275 rfl (λu q=>?_);by_cases J:a.b3=2
 ·rw[CD J]
  unfold qq;by_cases d:w.Z.G.Calls=100000
  ·rw[CD d]
   rw[W0 (V4 d)]at g
   repeat'(first|refine gB ?_|(conv=>whnf);first|with_reducible refine CE (aa b) ?_|refine CC ?_|refine CK (g) ⟨⟨rfl,CR _⟩,trivial⟩ ?_|refine CG rfl (aa b) rfl ?_|refine CC ?_)
   refine CH rfl rfl ?_;exact wC
  rw[CB d];rw[O0 d]at g;have C:=(QG w.Z i a.a4 e t).frame (r:=aD.enc .V w.b2) ((cZ _).trans (cZ _).symm);by_cases c:0<=a.a4/\a.a4<=w.Z.S.length - 1
  ·rw[CD (show nX w.Z a from c)]
   rw[CD c,CD c]at C;have T:=Dn w.b2 (nth w.Z.O i).Id m h.ref ω;generalize freeT w.Z a.a4.toNat i=f at C |-;by_cases o:f.2=0
   ·rw[CD o]
    repeat'(first|refine gB ?_|(conv=>whnf);first|with_reducible (first|refine CE (aa b) ?_|refine Bf.E (λj=>?_) (λj=>?_))|refine CC ?_|refine CK (g) ⟨⟨rfl,CR _⟩,trivial⟩ ?_|refine CG rfl (aa b) rfl ?_|refine CL (C) (.inl rfl) ?_|refine Cl.sh T rfl ?_|refine CC ?_)
    refine CH rfl rfl ?_;exact wC
   rw[CB o]
   repeat'(first|refine gB ?_|(conv=>whnf);first|with_reducible (first|refine CE (aa b) ?_|refine Bf.E (λj=>?_) (λj=>?_))|refine CC ?_|refine CK (g) ⟨⟨rfl,CR _⟩,trivial⟩ ?_|refine CG rfl (aa b) rfl ?_|refine CL (C) (.inl rfl) ?_|refine CC ?_)
   refine CH rfl rfl ?_;exact wC
  rw[CB (show ¬nX w.Z a from c)];rw[CB c,CB c]at C
  repeat'(first|refine gB ?_|(conv=>whnf);first|with_reducible (first|refine CE (aa b) ?_|refine Bf.E (λj=>?_) (λj=>?_))|refine CC ?_|refine CK (g) ⟨⟨rfl,CR _⟩,trivial⟩ ?_|refine CG rfl (aa b) rfl ?_|refine CL (C) (.inl rfl) ?_|refine CC ?_)
  refine CH rfl rfl ?_;exact wC
 rw[CB J];by_cases K:a.b3=3
 ·rw[CD K]
  unfold mV;have D:=aJ a.At 0 ((nth w.Z.O i).q - 1);by_cases d:0<=a.At/\a.At<=(nth w.Z.O i).q - 1;rotate_left
  ·rw[CD d]
   rw[W0 d]at D
   repeat'(first|refine gB ?_|(conv=>whnf);first|with_reducible (first|refine CE (aa b) ?_|refine Bf.E (λj=>?_) (λj=>?_))|refine CC ?_|refine CG rfl (aa b) rfl ?_|refine C9 (D) ?_|refine CC ?_)
   refine CH rfl rfl ?_;exact wC
  rw[CB (V4 d)];rw[O0 d]at D;have F:=(zT w.Z i a.At a.Value e t d).frame (r:=aD.enc .V w.b2) (by split<;>rfl);have U:=cI e (ar t) d;by_cases c:(af w.Z.G.F.R (((nth w.Z.O i).Addr+a.At) / 16)).e=1
  ·rw[CD c]
   rw[CD (.inl c),CD c]at F
   repeat'(first|refine gB ?_|(conv=>whnf);first|with_reducible (first|refine CE (aa b) ?_|refine Bf.E (λj=>?_) (λj=>?_))|refine CC ?_|refine CG rfl (aa b) rfl ?_|refine C9 (D) ?_|refine CL (F) (.inl rfl) ?_|refine CC ?_)
   refine CH rfl rfl ?_;exact wC
  rw[CB c];by_cases o:0<=a.Value/\a.Value<=999;rotate_left
  ·rw[CD o]
   rw[CD (.inr o),CB c,CD o]at F
   repeat'(first|refine gB ?_|(conv=>whnf);first|with_reducible (first|refine CE (aa b) ?_|refine Bf.E (λj=>?_) (λj=>?_))|refine CC ?_|refine CG rfl (aa b) rfl ?_|refine C9 (D) ?_|refine CL (F) (.inl rfl) ?_|refine CC ?_)
   refine CH rfl rfl ?_;exact wC
  rw[CB (V4 o)];rw[CB (λx=>x.elim c λy=>y o),CB c,CB (V4 o)]at F;obtain⟨b5,V⟩:=Dx w.b2 (nth w.Z.O i).Id a.At a.Value m h.ref ω o
  repeat'(first|refine gB ?_|(conv=>whnf);first|with_reducible (first|refine CE (aa b) ?_|refine Bf.E (λj=>?_) (λj=>?_))|refine CC ?_|refine CG rfl (aa b) rfl ?_|refine C9 (D) ?_|refine CL (F) (.inl rfl) ?_|refine C9 (V) ?_|refine CC ?_)
  refine CH rfl rfl ?_;exact wC
 rw[CB K];unfold pY;by_cases d:w.Z.G.Calls=100000
 ·rw[CB (λx=>x.1 d)]
  rw[W0 (V4 d)]at g
  repeat'(first|refine gB ?_|(conv=>whnf);first|with_reducible refine CE (aa b) ?_|refine CC ?_|refine CK (g) ⟨⟨rfl,CR _⟩,trivial⟩ ?_|refine CG rfl (aa b) rfl ?_|refine CC ?_)
  refine CH rfl rfl ?_;exact wC
 rw[O0 d]at g;by_cases c:mc w.Z i a.Value
 ·rw[CD ⟨d,c⟩]
  have B:=(tI w.Z i a.Value e t c.1).frame (r:=aD.enc .V w.b2) (by split<;>rfl);rw[CD c,O0 c]at B;obtain⟨b7,W⟩:=GA w.b2 (nth w.Z.O i).Id a.Value m h.ref ω
  repeat'(first|refine gB ?_|(conv=>whnf);first|with_reducible refine CE (aa b) ?_|refine CC ?_|refine CK (g) ⟨⟨rfl,CR _⟩,trivial⟩ ?_|refine CG rfl (aa b) rfl ?_|refine CL (B) (.inl rfl) ?_|refine C9 (W) ?_|refine CC ?_)
  refine CH rfl rfl ?_;exact wC
 rw[CB (λx=>c x.2)];by_cases o:zu w.Z (nth w.Z.O i).Addr<0
 ·have B:=(HX w.Z (nth w.Z.O i).Addr a.Value (by have:=e.lens.larges;omega) e.L.lok o).frame (r:=aD.enc .V w.b2) ((cZ _).trans (cZ _).symm)
  repeat'(first|refine gB ?_|(conv=>whnf);first|with_reducible refine CE (aa b) ?_|refine CC ?_|refine CK (g) ⟨⟨rfl,CR _⟩,trivial⟩ ?_|refine CG rfl (aa b) rfl ?_|refine CL (B) (.inl rfl) ?_|refine CC ?_)
  refine CH rfl rfl ?_;exact wC
 have B:=(tI w.Z i a.Value e t ω).frame (r:=aD.enc .V w.b2) (by split<;>rfl);rw[CB c,W0 c]at B
 repeat'(first|refine gB ?_|(conv=>whnf);first|with_reducible refine CE (aa b) ?_|refine CC ?_|refine CK (g) ⟨⟨rfl,CR _⟩,trivial⟩ ?_|refine CG rfl (aa b) rfl ?_|refine CL (B) (.inl rfl) ?_|refine CC ?_)
 refine CH rfl rfl ?_;exact wC
def rZ.fit{w:bn}{m:Nat}(h:rZ w m)(a:jh w.Z.G.a0):ac.sml w.Z/\ac.wf w.Z:=
 ⟨(h.inv.fit a (kG.of h.inv.mail).sml).sml,h.inv.wf a⟩
def HH(w:bn)(a:eL)(m:Nat)(h:rZ w m)(K:m<=900)(L:jh w.Z.G.a0)(p:N5 a):zzB 121 false [.ptr (rJ w),.val (some 5) (eL.enc .V a)] [.ptr (rJ (ma w a).1),.val (some 5) (eL.enc .V a)] .one [I (ma w a).2]:=by
 have i:=h.inv;have M:=p.k;have O:=p.n;have j:=i.nums;unfold cn at j;rw[C0]at j;unfold ma;refine fM 123 [(74,[2,0,0]),(274,[2,0]),(275,[2,0,0]),(276,[2,0]),(278,[2,0]),(279,[2]),(280,[2,0])] [(3,265,[13,14,15,16,17,18,19,21,22,0,1,2,3,4,5,6,7,8,9,10,11,1010,12]),(5,269,[26,27,28,29,30,31,32,33,25,34,35,36,37,0,1,2,3,4,5,6,7,8,9,10,11,12,13,1010]),(19,21,[62,63,64,65,66,67,68,69,70,71,72,73,74,75,76,77,78,79,80,81,82]),(21,5,[86,87,88,89,90])] [(0,0),(0,0)] Tryz.func121 rfl (λu q=>?_);by_cases F:a.b3=1
 ·rw[CD F]
  have c:=(qC w.Z a.a4 a.N i).frame (r:=aD.enc .V w.b2) ((cZ _).trans (cZ _).symm);by_cases e:(allocH w.Z a.a4 a.N).2.2=0
  ·rw[CD e]
   have y:1<=a.N/\a.N<=1000:=by
    refine Classical.byContradiction λB=>?_
    unfold allocH at e;rw[CD B]at e;split at e
    ·exact absurd (show(5:Int)=0 from e) (by decide)
    split at e
    ·exact absurd (show(1:Int)=0 from e) (by decide)
    exact absurd (show(2:Int)=0 from e) (by decide)
   have o:=zR w.b2 a.N m h.ref ω y;generalize allocH w.Z a.a4 a.N=f at c e |-
   repeat'(first|refine gB ?_|(conv=>whnf);first|with_reducible refine Bf.E (λb=>?_) (λb=>?_)|refine CC ?_|refine CL (c) (.inl rfl) ?_|refine C9 (o) ?_|refine CC ?_)
   refine CH rfl rfl ?_;exact wC
  rw[CB e];generalize allocH w.Z a.a4 a.N=f at c e |-
  repeat'(first|refine gB ?_|(conv=>whnf);first|with_reducible refine Bf.E (λb=>?_) (λb=>?_)|refine CC ?_|refine CL (c) (.inl rfl) ?_|refine CC ?_)
  refine CH rfl rfl ?_;exact wC
 rw[CB F];by_cases G:a.b3=2\/a.b3=3\/a.b3=4
 ·rw[CD G]
  have c:=EB w a.N (by have:=i.lens.objs;omega);by_cases e:qJ w.Z a.N<0
  ·rw[CD e]
   repeat'(first|refine gB ?_|(conv=>whnf);first|with_reducible refine Bf.E (λb=>?_) (λb=>?_)|refine CC ?_|refine CL (c) (.inl rfl) ?_)
   all_goals first|omega|skip
   all_goals
    refine CH rfl rfl ?_;exact wC
  rw[CB e];obtain⟨P,S,T⟩:=fR (M3 a.N) w.Z.O (by unfold qJ at e;omega);have o:=yO w a (qJ w.Z a.N).toNat m h K p P;rw[show(((qJ w.Z a.N).toNat:Nat):Int)=qJ w.Z a.N by omega]at o
  repeat'(first|refine gB ?_|(conv=>whnf);first|with_reducible refine Bf.E (λb=>?_) (λb=>?_)|refine CC ?_|refine CL (c) (.inl rfl) ?_|refine CL (o) (.inl rfl) ?_)
  all_goals first|omega|skip
  all_goals
   refine CH rfl rfl ?_;exact wC
 rw[CB G];by_cases C:a.b3=5\/a.b3=6\/a.b3=7
 ·rw[CD C]
  have c:=yt w a m h C
  repeat'(first|refine gB ?_|(conv=>whnf);first|with_reducible refine Bf.E (λb=>?_) (λb=>?_)|refine CC ?_|refine CL (c) (.inl rfl) ?_)
  all_goals first|omega|skip
  all_goals
   refine CH rfl rfl ?_;exact wC
 rw[CB C];by_cases H:a.b3=8
 ·rw[CD H]
  unfold ov;have d:=lU w.Z.G (b8 i.ker);rw[Hh i.ker]at d;have c:=aJ a.N 0 1000;by_cases g:w.Z.G.Calls≠100000;rotate_left
  ·rw[CB (λx=>g x.1)]
   rw[W0 g]at d
   repeat'(first|refine gB ?_|(conv=>whnf);first|with_reducible refine Bf.E (λb=>?_) (λb=>?_)|refine CC ?_|refine CK (d) ⟨⟨rfl,CR _⟩,trivial⟩ ?_|refine CC ?_)
   refine CH rfl rfl ?_;exact wC
  rw[O0 g]at d;by_cases l:0<=a.N/\a.N<=1000;rotate_left
  ·rw[CB (λx=>l x.2.1)]
   rw[W0 l]at c
   repeat'(first|refine gB ?_|(conv=>whnf);first|with_reducible refine Bf.E (λb=>?_) (λb=>?_)|refine CC ?_|refine CK (d) ⟨⟨rfl,CR _⟩,trivial⟩ ?_|refine C9 (c) ?_|refine CC ?_)
   refine CH rfl rfl ?_;exact wC
  rw[O0 l]at c;by_cases D:w.Z.b1+a.N<=1000000
  ·rw[CD ⟨g,l,D⟩]
   have o:=(BU w.Z a.N i l D).frame (r:=aD.enc .V w.b2) ((cZ _).trans (cZ _).symm)
   repeat'(first|refine gB ?_|(conv=>whnf);first|with_reducible refine Bf.E (λb=>?_) (λb=>?_)|refine CC ?_|refine CK (d) ⟨⟨rfl,CR _⟩,trivial⟩ ?_|refine C9 (c) ?_|refine CL (o) (.inl rfl) ?_|refine CC ?_)
   refine CH rfl rfl ?_;exact wC
  rw[CB (λx=>D x.2.2)]
  repeat'(first|refine gB ?_|(conv=>whnf);first|with_reducible refine Bf.E (λb=>?_) (λb=>?_)|refine CC ?_|refine CK (d) ⟨⟨rfl,CR _⟩,trivial⟩ ?_|refine C9 (c) ?_|refine CC ?_)
  refine CH rfl rfl ?_;exact wC
 rw[CB H];by_cases J:a.b3=9
 ·rw[CD J]
  unfold oe;obtain⟨Q,R⟩:=h.fit L;have d:=v7 w.Z Q R;rw[show dU w.Z=true from i.to]at d;cases g:w.Z.u with
  | true=>
   rw[CD rfl]
   repeat'(first|refine gB ?_|(conv=>whnf);first|with_reducible refine Bf.E (λb=>?_) (λb=>?_)|refine CC ?_|refine Bf.t g ?_|refine CC ?_)
   refine CH rfl rfl ?_;exact wC
  | false=>
   rw[CB (by simp)];have c:=(Aa w.Z i).frame (r:=aD.enc .V w.b2) ((cZ _).trans (cZ _).symm);cases l:(started w.Z).2<;>rw[l]at c
   ·rw[CB (by simp)]
    repeat'(first|refine gB ?_|(conv=>whnf);first|with_reducible refine Bf.E (λb=>?_) (λb=>?_)|refine CC ?_|refine Bf.f g ?_|refine CK (d) ⟨⟨rfl,bK w.Z⟩,trivial⟩ ?_|refine CL (c) (.inl rfl) ?_|refine CC ?_)
    refine CH rfl rfl ?_;exact wC
   rw[CD rfl]
   repeat'(first|refine gB ?_|(conv=>whnf);first|with_reducible refine Bf.E (λb=>?_) (λb=>?_)|refine CC ?_|refine Bf.f g ?_|refine CK (d) ⟨⟨rfl,bK w.Z⟩,trivial⟩ ?_|refine CL (c) (.inl rfl) ?_|refine CC ?_)
   refine CH rfl rfl ?_;exact wC
 rw[CB J];have k10:a.b3=10:=ω
 have d:=aJ a.N 0 50;by_cases g:0<=a.N/\a.N<=50
 ·rw[CD ⟨k10,g⟩]
  rw[O0 g]at d;obtain⟨n,B⟩:=O3 g.1;have c:=zk w m n h ω;rw[show a.N.toNat=n by omega];rw[<-B]at c
  repeat'(first|refine gB ?_|(conv=>whnf);first|with_reducible refine Bf.E (λb=>?_) (λb=>?_)|refine CC ?_|refine C9 (d) ?_|refine CL (c) (.inl rfl) ?_|refine CC ?_)
  refine CH rfl rfl ?_;exact wC
 rw[CB (λx=>g x.2)];rw[W0 g]at d
 repeat'(first|refine gB ?_|(conv=>whnf);first|with_reducible refine Bf.E (λb=>?_) (λb=>?_)|refine CC ?_|refine C9 (d) ?_|refine CC ?_)
 refine CH rfl rfl ?_;exact wC
def BK(w:bn)(h1:ac.sml w.Z)(a:aD.sml w.b2):zzA 122 false [.val (some 26) (bn.enc .V w)] .agg (bn.enc .own w):=by
 have b:=oy w.Z h1;have c:=eM w.b2 a;refine fO 10 [(1,5,[3,4,5,6,7])] Tryz.func122 rfl ?_ (.inr (bn.enc_fr _))
 repeat'(first|refine gP ?_|(conv=>whnf);first|refine C9 (b) ?_|refine C9 (c) ?_|refine CC ?_)
 rfl
def BC(c:cM)(acts:List eL)(h:GM c)(d:jh c.a0)(n:∀a∈acts,N5 a)(D:acts.length<=80):zzA 44 false [.val (some 5) (cM.enc .V c),.val none (pd .V acts)] (.tup [some 26,none]) (bn.enc .own (zi c acts acts.length).1++aH .own (zi c acts acts.length).2):=by
 have o:=zJ c h;refine fP 42 [(121,[2,0]),(2000005,[6,21,25])] [] Tryz.func44 rfl ?_ (.inr (aU (bn.enc_fr _) (bO _)))
 repeat'(first|refine gE ?_|(conv=>whnf);first|refine C9 (o) ?_|refine GQ.mk rfl rfl rfl ?_)
 (conv=>whnf)
 refine CJ (ι:=Nat) (λi=>[(1,.H .one (pd .V acts)),(4,.H .box [.z,.z,.z,I 0,.z,.z,.z,.z,.z,.z,.z,.z,I 0,.z,I 0,I 0,I 0,I 0,B false,I 0,I 0,.z,I 0,I 0,I 0,.z]),(6,.H .box (rJ (zi c acts i).1)),(8,.H .one (aH .own (zi c acts i).2)),(9,.H .one [I ((i:Nat):Int)])]) (λi=>i<=acts.length) (λi=>acts.length - i) (0) ?_ (X0 _) λi p=>?_
 ·repeat'(first|exact trivial|rfl |exact o6 q|exact dL _|refine CM ?_ ?_|(exact B9 (by first|omega|(simp only;omega)|(simp;omega))))
 have e:=uD h acts i;have b:=HD h acts i;have g:(zi c acts i).2.length=i:=by
  clear e b p
  induction i with
  | zero=>rfl
  | succ k t=>show((zi c acts k).2++[_]).length=_;rw[Y3,t];rfl
 by_cases j:i<acts.length
 ·have l:=au j
  have u:=HH (zi c acts i).1 (nth acts i) i e ω (by unfold rfs at b;rw[b];exact d) (n _ (ar j))
  repeat'(first|refine gE ?_|(conv=>whnf);first|with_reducible refine CE (aa l) ?_|refine CG rfl (aa l) rfl ?_|refine CL (u) (.inl rfl) ?_|refine CV cB (λr d=>by rw[V1.1 d];rfl) (by simp[bj,ed]) (by simp;omega) (by simp only[I1];exact zh (by simp;omega) (by decide)) rfl ?_)
  ((conv=>whnf);refine CF (i+1) ω ω ?_)
  repeat'(first|exact trivial|rfl| exact dL _ |exact CM rfl (CM (Z0 (C.s dR.own) (by simp[zi,rI])) trivial)|refine CM ?_ ?_|(exact B9 (by first|omega|(simp only;omega)|(simp;omega))))
 obtain rfl:i=acts.length:=ω
 have w:=e.fit (by unfold rfs at b;rw[b];exact d);have y:=BK (zi c acts acts.length).1 w.1 (e.ref.sml ω)
 repeat'(first|refine gE ?_|(conv=>whnf);first|refine CK (y) ⟨⟨rfl,QV _⟩,trivial⟩ ?_)
 rfl
def G9(zs:List Int)(c:iD):jh (qW zs c).a0:=by
 show jh (p6 zs 4 0 [] (Dy zs c).2).1;have key:∀(f i:Nat)(out:List Int)(c:iD),(∀x∈out,np x)->∀x∈(p6 zs f i out c).1,np x:=by
  intro f
  induction f with
  | zero=>intro i out c h;exact h
  | succ f b=>
   intro i out c h;unfold p6;split
   ·refine b _ _ _ λx a=>?_
    rcases V3.1 a with a|a
    ·exact h x a
    rw[V1.1 a];have:=bL zs (bw zs c 4).2 (n:=12) (by decide);exact⟨ω,ω⟩
   exact h
 exact⟨by
   have d:∀(f i:Nat)(out:List Int)(c:iD),out.length+f<=4->(p6 zs f i out c).1.length<=4:=by
     intro f
     induction f with
     | zero=>intro i out c h;exact h
     | succ f b=>
       intro i out c h;unfold p6;split
       · exact b _ _ _ (by simp only[Y3,List.length_singleton];omega)
       show out.length<=4;omega
   have:=d 4 0 [] (Dy zs c).2 (W3 _);omega,key 4 0 [] _ (λx a=>by cases a)⟩
def zF(zs:List Int)(a:jz zs):zzB 59 false [.ptr (i9 zs (sI zs))] [.ptr (i9 zs (l8 zs (eA zs)).2)] .agg (bn.enc .own (drawn zs)):=by
 have b:(sI zs).i<=zs.length:=X0 _;obtain⟨g,d⟩:=pM b;have o:=bL zs (eA zs) (n:=41) (by decide);obtain⟨p,h,-⟩:=pD (zs:=zs) (c:=eA zs) d (n:=(bw zs (eA zs) 41).1.toNat) ω;have e:=zb zs (sI zs) a b;have j:=DZ zs (eA zs) a d;have k:=BC (qW zs (sI zs)) (l8 zs (eA zs)).1 g (G9 zs _) h (by show(lL zs (eA zs) _).1.length<=80;omega);have l:drawn zs=(zi (qW zs (sI zs)) (l8 zs (eA zs)).1 (l8 zs (eA zs)).1.length).1:=rfl;rw[l];change aP _ _ _ _ [.ptr (i9 zs (eA zs))] _ _ at e;generalize qW zs (sI zs)=cf at *;generalize r:l8 zs (eA zs)=A at *;generalize t:zi cf A.1 A.1.length=R at *;refine fM 14 [(113,[2]),(114,[2,0])] [] [(0,0)] Tryz.func59 rfl (λu q=>?_) (.inr (bn.enc_fr _))
 repeat'(first|refine gP ?_|(conv=>whnf);first|refine CL (e) (.inl rfl) ?_|refine CL (j) (.inl rfl) ?_|refine CK (k) ⟨⟨rfl,cM.enc_fz _⟩,⟨rfl,KO _⟩,trivial⟩ ?_)
 refine CH rfl rfl ?_;exact wC
def RQ(z:List Int):List C:=[.s .V (z.map rU)]
def vF(zs:List Int)(b:jz zs):ru Tryz.prog 60 true [.val none (RQ zs)] .box (i9 zs (sI zs)):=by
 have r:=b.1;have e:IntKind.i64.wrap (98801+(zs.length:Nat))=w64 (98801+(zs.length:Nat)):=rfl;have g:qA zs 0=98801+(zs.length:Nat):=by show w64 _=_;rw[<-e];exact fC ω ω
 have a:=Z0 I g;refine TM (n:=32) (t:=2) (mo:=[]) (tb:=[]) Tryz.func60 (by kernel_rfl) rfl (by kernel_rfl) (by rfl) rfl ?_
 repeat'(first|refine gP ?_|fail)
 (conv=>whnf)
 refine CJ (ι:=Nat) (λi=>[(0,.H .one (RQ zs)),(3,.H .one [I (qA zs i)]),(4,.H .one [I ((i:Nat):Int)])]) (λi=>i<=min zs.length 4000) (λi=>min zs.length 4000 - i) (0) ?_ (X0 _) λi u=>?_
 ·repeat'(first|exact trivial|rfl |exact o6 a|exact dL _|refine CM ?_ ?_|(exact B9 (by first|omega|(simp only;omega)|(simp;omega))))
 have h:IntKind.i64.wrap (qA zs i*131)=w64 (qA zs i*131):=rfl;have j:IntKind.i64.wrap (w64 (qA zs i*131)+nth zs i)=w64 (w64 (qA zs i*131)+nth zs i):=rfl;have k:IntKind.i64.wrap (w64 (w64 (qA zs i*131)+nth zs i)+7)=w64 (w64 (w64 (qA zs i*131)+nth zs i)+7):=rfl;have l:IntKind.i64.wrap (BitVec.ofInt IntKind.i64.bits (w64 (w64 (w64 (qA zs i*131)+nth zs i)+7)) &&& BitVec.ofInt IntKind.i64.bits 1073741823).toNat=qA zs (i+1):=rfl;by_cases c:i<zs.length/\i<4000
 ·have d:=au c.1
  have w:=b.2 _ (ar c.1);generalize qA zs i=H at *;generalize o:qA zs (i+1)=H2 at *
  repeat'(first|refine gE ?_|(conv=>whnf);first|with_reducible (first|refine CE (aa d) ?_|refine CN h ?_|refine CN j ?_|refine CN k ?_|refine CN l ?_)|refine CG rfl (aa d) rfl ?_)
  ((conv=>whnf);refine CF (i+1) ω ω ?_)
  rw[o];exact wC
 obtain rfl:i=min zs.length 4000:=ω
 have p:sI zs = ⟨0,qA zs (min zs.length 4000)⟩:=rfl;rw[p];generalize qA zs (min zs.length 4000)=H at *
 repeat'(first|refine gE ?_|(conv=>whnf);first|with_reducible refine Bf.D (λq=>?_) (λq=>?_))
 all_goals rfl
def xO(zs:List Int)(a:jz zs):zzA 15 false [.val none (RQ zs)] .agg (bn.enc .own (drawn zs)):=by
 have b:=vF zs a;have c:=zF zs a;refine fP 6 [(59,[2])] [] Tryz.func15 rfl ?_ (.inr (bn.enc_fr _))
 repeat'(first|refine gP ?_|(conv=>whnf);first|refine Cl.g b (.inr rfl) ?_|refine CL (c) (.inl rfl) ?_)
 rfl
def cls(h:ac):Int:=h.G.Calls
def DV(k:ah)(p:Int):(newK k p).1.Calls=k.Calls+1:=by unfold newK;split<;>rfl
def GG(k:ah)(p:Int):∀n:Nat,(newsK k p n).1.Calls<=k.Calls+n
 | 0=>by show k.Calls<=k.Calls+0;omega
 | n+1=>by
  have a:=GG k p n;unfold newsK;split
  ·refine O5 (W5 (DV (newsK k p n).1 (p+(n:Nat)))) ?_
   omega
  omega
def Nv(h:ac)(i:Nat):cls (iS h i).1=cls h:=by unfold iS;split<;>rfl
def L0(h:ac)(t c:Nat):cls (smallA h t c).1<=cls h+1:=by
 unfold smallA;split
 ·show cls h<=_;omega
 split
 ·show cls h<=_;omega
 split
 ·show cls h<=_;omega
 split
 ·exact W5 (DV _ _)
 exact W5 ((Nv _ _).trans (DV _ _))
def MO(h:ac)(t i:Nat):cls (freeT h t i).1=cls h:=by
 unfold freeT;split
 ·exact(lc _ _ _).1
 split
 ·rfl
 split
 ·exact(fw t _ _).2.2.1
 split<;>rfl
def AS(t:Nat)(h:ac):∀k,cls (flushN t h k).1=cls h
 | 0=>rfl
 | k+1=>((fS _ (spilt (flushN t h k).1 t k)).2.2.1).trans (AS t h k)
set_option maxHeartbeats 2000000
set_option maxHeartbeats 2000000
set_option maxHeartbeats 2000000
set_option maxHeartbeats 2000000
set_option maxHeartbeats 2000000
set_option maxHeartbeats 2000000
def Gs(zs:List Int):jh (drawn zs).Z.G.a0:=by
 have a:(sI zs).i<=zs.length:=X0 _;have:=HD (pM a).1 (l8 zs (eA zs)).1 (l8 zs (eA zs)).1.length;unfold rfs at this;show jh (zi _ _ _).1.Z.G.a0;rw[this];exact G9 zs _
def LP(zs:List Int):ac.sml (drawn zs).Z/\ac.wf (drawn zs).Z:=(xB zs).fit (Gs zs)
def Tq(zs:List Int)(a:zs.length<=9223372036854775807):zzA 14 false [.val none (RQ zs)] .one [B (decide ((zs.length:Int) > 1048576))]:=by
 refine fO 6 [] Tryz.func14 rfl ?_
 repeat'(first|refine gP ?_|fail)
 rfl
def js(sp:List aA)(ps:List Int)(b:Int):Nat->Int
 | 0=>b
 | j+1=>if(nth sp j).Q∈ps then bor (js sp ps b j) (nth sp j).a9 else js sp ps b j
def yn{sp:List aA}(h:∀s∈sp,bi s=true){ps:List Int}{b:Int}(a:0<=b/\b<=65535):∀j,j<=sp.length->0<=js sp ps b j/\js sp ps b j<=65535
 | 0,_=>a
 | j+1,d=>by
  have c:=yn h (ps:=ps) a j ω;simp only[js];split
  ·exact HG c (lX h ω)
  exact c
def qY(h:ac)(i:Nat)(n:dB h.J)(c:yw h)(a:∀s∈h.J,bi s=true)(t:i<h.J.length):zzA 336 false [.val (some 24) (ac.enc .V h),.val none [I (i:Nat)]] .one [I (js h.J (aT h (nth h.J i).Q) (nth h.J i).a9 h.J.length)]:=by
 have C:=n.1;have u:=au t;have d:=lX a t;have w:=aN ((i:Nat):Int) 0 ((h.J.length:Int) - 1);rw[O0 (show(0:Int)<=(i:Nat)/\((i:Nat):Int)<=(h.J.length:Int) - 1 by omega)]at w;have y:=o8 h (nth h.J i).Q c;have o:=gk h (nth h.J i).Q;have D:fk h<=1048576:=c.1;obtain⟨ps,p⟩ : ∃ps,aT h (nth h.J i).Q=ps:=⟨_,rfl⟩
 obtain⟨b,q⟩ : ∃b,(nth h.J i).a9=b:=⟨_,rfl⟩
 rw[p]at y o |-;rw[q]at d |-;have E:js h.J ps b 0=b:=rfl;refine fO 47 [(4,7,[22,23,24,25,26,27,28])] Tryz.func336 rfl ?_
 repeat'(first|refine gP ?_|(conv=>whnf);first|with_reducible refine CE (aa u) ?_|refine C9 (w) ?_|refine C9 (y) ?_|refine CG rfl (aa u) rfl ?_)
 (conv=>whnf)
 refine CJ (ι:=Nat) (λj=>[(5,.H .one [I (js h.J ps b j)]),(6,.H .one (aH .own ps)),(31,.H .one (cE .V h.J)),(32,.H .one [I ((h.J.length:Nat))]),(33,.H .one [I ((j:Nat):Int)])]) (λj=>j<=h.J.length) (λj=>h.J.length - j) (0) ?_ (X0 _) λj F=>?_
 ·exact wC
 by_cases B:j<h.J.length
 ·have k:=au B
  have r:=yn a (ps:=ps) d j F;have l:=qF ps (nth h.J j).Q ω;by_cases e:(nth h.J j).Q∈ps
  ·have g:js h.J ps b (j+1)=bor (js h.J ps b j) (nth h.J j).a9:=CD e
   rw[O0 e]at l
   repeat'(first|refine gE ?_|(conv=>whnf);first|with_reducible refine CE (aa k) ?_|refine CG rfl (aa k) rfl ?_|refine CN (or64 r (lX a B)) ?_|refine CK (l) ⟨⟨rfl,dA _⟩,⟨rfl,rfl⟩,trivial⟩ ?_)
   ((conv=>whnf);refine CF (j+1) ω ω ?_;(exact wC))
  have g:js h.J ps b (j+1)=js h.J ps b j:=CB e;rw[W0 e]at l
  repeat'(first|refine gE ?_|(conv=>whnf);first|with_reducible refine CE (aa k) ?_|refine CG rfl (aa k) rfl ?_|refine CK (l) ⟨⟨rfl,dA _⟩,⟨rfl,rfl⟩,trivial⟩ ?_)
  ((conv=>whnf);refine CF (j+1) ω ω ?_;(exact wC))
 obtain rfl:j=h.J.length:=ω
 repeat'(first|refine gE ?_|fail)
 rfl
def Pp(a b:Int)(k:Nat):(bor a b).toNat.testBit k=true↔a.toNat.testBit k=true\/b.toNat.testBit k=true:=by
 unfold bor;rw[I3,Nat.testBit_or,C7]
def K6(sp:List aA)(p b:Int)(k:Nat):∀j,(oZ sp p b j).toNat.testBit k=true↔b.toNat.testBit k=true\/∃i,i<j/\(nth sp i).Q=p/\(nth sp i).a9.toNat.testBit k=true
 | 0=>by simp[oZ]
 | j+1=>by
  have g:=K6 sp p b k j;simp only[oZ];split
  ·rename_i e
   rw[Pp,g];constructor
   ·rintro((h|⟨i,d,a,c⟩)|h)
    ·exact .inl h
    ·exact .inr ⟨i,ω,a,c⟩
    exact .inr ⟨j,ω,e,h⟩
   rintro(h|⟨i,d,a,c⟩)
   ·exact .inl (.inl h)
   by_cases f:i=j
   ·subst f;exact .inr c
   exact .inl (.inr ⟨i,ω,a,c⟩)
  rename_i e;rw[g];constructor
  ·rintro(h|⟨i,d,a,c⟩)
   ·exact .inl h
   exact .inr ⟨i,ω,a,c⟩
  rintro(h|⟨i,d,a,c⟩)
  ·exact .inl h
  by_cases f:i=j
  ·subst f;exact absurd a e
  exact .inr ⟨i,ω,a,c⟩
def EQ(sp:List aA)(ps:List Int)(b:Int)(k:Nat):∀m,(ip sp ps b m).toNat.testBit k=true↔b.toNat.testBit k=true\/∃u,u<m/\∃i,i<sp.length/\(nth sp i).Q=nth ps u/\(nth sp i).a9.toNat.testBit k=true
 | 0=>by simp[ip]
 | m+1=>by
  have c:=EQ sp ps b k m;simp only[ip];rw[K6,c];constructor
  ·rintro((h|⟨u,d,a⟩)|h)
   ·exact .inl h
   ·exact .inr ⟨u,ω,a⟩
   exact .inr ⟨m,ω,h⟩
  rintro(h|⟨u,d,a⟩)
  ·exact .inl (.inl h)
  by_cases e:u=m
  ·subst e;exact .inr a
  exact .inl (.inr ⟨u,ω,a⟩)
def G2(sp:List aA)(ps:List Int)(b:Int)(k:Nat):∀j,(js sp ps b j).toNat.testBit k=true↔b.toNat.testBit k=true\/∃i,i<j/\(nth sp i).Q∈ps/\(nth sp i).a9.toNat.testBit k=true
 | 0=>by simp[js]
 | j+1=>by
  have g:=G2 sp ps b k j;simp only[js];split
  ·rename_i e
   rw[Pp,g];constructor
   ·rintro((h|⟨i,d,a,c⟩)|h)
    ·exact .inl h
    ·exact .inr ⟨i,ω,a,c⟩
    exact .inr ⟨j,ω,e,h⟩
   rintro(h|⟨i,d,a,c⟩)
   ·exact .inl (.inl h)
   by_cases f:i=j
   ·subst f;exact .inr c
   exact .inl (.inr ⟨i,ω,a,c⟩)
  rename_i e;rw[g];constructor
  ·rintro(h|⟨i,d,a,c⟩)
   ·exact .inl h
   exact .inr ⟨i,ω,a,c⟩
  rintro(h|⟨i,d,a,c⟩)
  ·exact .inl h
  by_cases f:i=j
  ·subst f;exact absurd a e
  exact .inr ⟨i,ω,a,c⟩
def PP{sp:List aA}(h:∀s∈sp,bi s=true){ps:List Int}{b:Int}(f:0<=b/\b<=65535):js sp ps b sp.length=ip sp ps b ps.length:=by
 have a:=yn h (ps:=ps) f sp.length (W3 _);have c:=lH h (ps:=ps) f ps.length;have e:(js sp ps b sp.length).toNat=(ip sp ps b ps.length).toNat:=by
  apply Nat.eq_of_testBit_eq;intro k;rw[C5,G2,EQ];constructor
  ·rintro(h|⟨i,a,c,d⟩)
   ·exact .inl h
   obtain⟨u,g⟩:=List.getElem?_of_mem c;exact .inr ⟨u,(Z2.1 g).1,i,a,(bk g).symm,d⟩
  rintro(h|⟨u,a,i,c,d,j⟩)
  ·exact .inl h
  exact .inr ⟨i,c,by rw[d];exact ar a,j⟩
 omega
variable{i:Nat}
def vP{h:ac}(a:∀s∈h.J,bi s=true)(b:i<h.J.length):js h.J (aT h (nth h.J i).Q) (nth h.J i).a9 h.J.length=dK h i:=PP a (lX a b)
def lG(h:ac)(a:∀o∈h.O,0<=o.q/\o.q<=1000)(e:h.O.length<=1048576):zzA 18 false [.val (some 24) (ac.enc .V h)] .one [I (fy h)]:=by
 refine fO 19 [] Tryz.func18 rfl ?_
 repeat'(first|refine gP ?_|fail)
 (conv=>whnf)
 refine CJ (ι:=Nat) (λk=>[(3,.H .one [I (nt h.O k)]),(7,.H .one (nA .V h.O)),(8,.H .one [I (h.O.length)]),(9,.H .one [I ((k:Nat):Int)])]) (λk=>k<=h.O.length) (λk=>h.O.length - k) (0) ?_ (X0 _) λk d=>?_
 ·exact wC
 have g:=kZ a k d;by_cases b:k<h.O.length
 ·have c:=au b
  have i:=a _ (ar b)
  repeat'(first|refine gE ?_|(conv=>whnf);first|refine CE (aa c) ?_|refine CG rfl (aa c) rfl ?_)
  ((conv=>whnf);refine CF (k+1) ω ω ?_;(exact wC))
 obtain rfl:k=h.O.length:=ω
 repeat'(first|refine gE ?_|fail)
 rfl
def p8(k b:Int)(e:b<=9223372036854775807):zzA 334 false [.val none [I (slots k)],.val none [I b]] .one (aH .own (oc k b)):=by
 have c:=qV k b;have n:0<=slots k/\slots k<=16:=by unfold slots;repeat' split<;>omega
 unfold oc;cases g:LC k b<;>rw[g]at c
 ·rw[CB (by simp)]
  refine fO 26 [] Tryz.func334 rfl ?_ (.inr (bO _))
  repeat'((conv=>whnf);first|with_reducible (first|refine Lm ?_|refine Wm ω ?_|refine Bn ?_|refine jX.wk rfl ?_)|refine Bt ?_|refine Bu ?_|refine C9 (c) ?_)
  all_goals exact⟨rfl,trivial⟩
 rw[CD rfl];refine fO 26 [] Tryz.func334 rfl ?_ (.inr (bO _))
 repeat'(first|refine gP ?_|(conv=>whnf);first|refine C9 (c) ?_)
 (conv=>whnf)
 refine CJ (ι:=Nat) (λj=>[(0,.H .one [I (slots k)]),(1,.H .one [I (b)]),(5,.H .one (aH .own (lJ b j))),(6,.H .one [I ((j:Nat):Int)])]) (λj=>j<=(slots k).toNat) (λj=>(slots k).toNat - j) (0) ?_ (X0 _) λj o=>?_
 ·exact wC
 have h:=qm b j;by_cases p:j<(slots k).toNat
 ·have d:=nB b (j:Nat) e
  have a:lJ b (j+1)=if aZ b (j:Nat)=true then lJ b j else lJ b j++[((j:Nat):Int)]:=rfl
  cases i:aZ b (j:Nat)<;>rw[i]at d a
  ·rw[CB (by simp)]at a
   repeat'(first|refine gE ?_|(conv=>whnf);first|refine C9 (d) ?_|refine CV cB (λr l=>by rw[V1.1 l];rfl) (by simp[bj,ed]) (by simp;omega) (by simp only[I1];exact zh (by simp;omega) (by decide)) rfl ?_)
   ((conv=>whnf);refine CF (j+1) ω ω ?_)
   rw[a]
   repeat'(first|exact trivial|rfl| exact dL _ |exact CM rfl (CM (Z0 (C.s dR.own) (by simp[rI])) trivial)|refine CM ?_ ?_|(exact B9 (by first|omega|(simp only;omega)|(simp;omega))))
  rw[CD rfl]at a
  repeat'(first|refine gE ?_|(conv=>whnf);first|refine C9 (d) ?_)
  ((conv=>whnf);refine CF (j+1) ω ω ?_)
  rw[a];exact wC
 obtain rfl:j=(slots k).toNat:=ω
 repeat'(first|refine gE ?_|fail)
 rfl
def zU(b i:Int)(d:0<=b/\b<=65535)(a:0<=i/\i<=15):zzA 338 false [.val none [I b],.val none [I i]] .one [I (gp b i)]:=by
 have c:=tT b i;rw[O0 ω]at c;have e:=(or64 (z1:=b) (z2:=2 ^ i.toNat) d (by have:=shl64 a;omega)).trans (AI b i);refine fO 14 [] Tryz.func338 rfl ?_
 repeat'(first|refine gP ?_|(conv=>whnf);first|refine C9 (c) ?_|refine CP ω ?_|refine CN (shl64 a).1 ?_|refine CN e ?_)
 rfl
def Av(f:aX)(i:Nat):aX.enc .own ⟨f.T,f.a5.set i true⟩ = [.s .own (f.T.map (aH .own)),.s .own ((f.a5.map (rB .own)).set i (rB .own true))]:=by
 simp[aX.enc,Z6]
def vd(f:aX):aX × Int × Bool:=
 if cU (λu=>!u) f.a5<0 then(f,-1,false) else(⟨f.T,f.a5.set (cU (λu=>!u) f.a5).toNat true⟩,cU (λu=>!u) f.a5,true)
def xK(f:aX)(l:d3 f=true)(b:aX.sml f):zzA 460 false [.val (some 2) (aX.enc .V f)] (.tup [some 2,none,none]) (aX.enc .own (vd f).1++[I (vd f).2.1,B (vd f).2.2]):=by
 have n:=oG f b;have h:=qS f b;rw[l]at h;have p:f.a5.length<=1048576:=b.2;refine fO 30 [] Tryz.func460 rfl ?_ (.inr (aU (aX.enc_fr _) ⟨trivial,trivial,trivial⟩))
 repeat'(first|refine gP ?_|(conv=>whnf);first|refine C9 (n) ?_|refine C9 (h) ?_)
 (conv=>whnf)
 refine CJ (ι:=Nat) (λi=>[(2,.H .box [.z,.z]),(5,.H .box (aX.enc .own f)),(13,.H .one (wP .V f.a5)),(14,.H .one [I (f.a5.length)]),(15,.H .one [I ((i:Nat):Int)])]) (λi=>i<=f.a5.length/\∀(j:Nat)(z:Bool),j<i->f.a5[j]? = some z->(!z)=false) (λi=>f.a5.length - i) (0) ?_ (⟨X0 _,λj z q=>ω⟩) λi k=>?_
 ·exact wC
 obtain⟨k,c⟩:=k;by_cases o:i<f.a5.length
 ·have a:=au o
  cases e:nth f.a5 i<;>rw[e]at a
  ·have d:cU (λu=>!u) f.a5=(i:Nat):=dD a rfl c
   have g:vd f=((⟨f.T,f.a5.set i true⟩ : aX),((i:Nat):Int),true):=by unfold vd;rw[d,CB ω];rfl
   rw[g];simp only;rw[Av]
   repeat'(first|refine gE ?_|(conv=>whnf);first|with_reducible refine CE (aa a) ?_|refine CQ rfl rfl (aa a) rfl (O1 rfl) rfl ?_)
   rfl
  repeat'(first|refine gE ?_|(conv=>whnf);first|with_reducible refine CE (aa a) ?_)
  ((conv=>whnf);refine CF (i+1) ⟨ω,dY a rfl c⟩ ω ?_;(exact wC))
 have d:cU (λu=>!u) f.a5 = -1:=gh ω c;have g:vd f=(f,-1,false):=by unfold vd;rw[d];rfl
 rw[g]
 repeat'(first|refine gE ?_|fail)
 rfl
variable{r:List C}{k:Nat}{rows:List (List C)}{w:World}
def dM.fzAt{S F:am}{o:dR}{v:Value}(h:dM w S F (.s o rows) v)(ho:o≠.V)(D:rows[k]? = some r) :
  ∃V:am,(∀b q,V b q->F b q)/\dM w (λb q=>S b q\/V b q) (λb q=>F b q/\¬V b q) (.s o (rows.set k (dE r))) v:=by
 cases h with
 | nil=>simp at D
 | V=>exact absurd rfl ho
 | own _ _ g K n O _ u f P Q M E G X hu N Y Z=>
  have A:k<n:=by have:=(Z2.1 D).1;omega
  have hq:∀j,j<K->(k*K+j) / K=k:=λj a=>by
   rw[Nat.mul_comm,Nat.mul_add_div ω,Nat.div_eq_of_lt a,Nat.add_zero]
  refine⟨λb q=>∃j,j<K/\f (k*K+j) b q,λb q ⟨j,a,l⟩=>(N _ (dI A a) b q l).1,?_⟩;refine .own _ o g K n O _ u (λq=>if q / K=k then NO else f q) P (by simpa using Q) (λr' R=>?_) E G (λq d=>⟨⟨(X q d).1,λ⟨j,a,l⟩=>(N _ (dI A a) _ _ l).2 ⟨rfl,d⟩⟩,(X q d).2⟩) hu (λq d b y l=>?_) (λq T h1 h2 h3 b y H J=>?_) (λi j r' c L a=>?_)
  ·rcases O7 R with h|rfl
   ·exact M _ h
   rw[bY,I1];exact M _ (O2 D)
  ·replace l:(if q / K=k then NO else f q) b y:=l
   split at l
   ·exact l.elim
   rename_i B;refine⟨⟨(N q d b y l).1,λ⟨j,a,U⟩=>Y q (k*K+j) d (dI A a) (λe=>B (by rw[e];exact hq j a)) b y l U⟩,(N q d b y l).2⟩
  ·replace H:(if q / K=k then NO else f q) b y:=H
   replace J:(if T / K=k then NO else f T) b y:=J;split at H
   ·exact H.elim
   split at J
   ·exact J.elim
   exact Y q T h1 h2 h3 b y H J
  by_cases e:i=k
  ·subst e
   have W:(rows.set i (dE r))[i]? = some (dE r):=by
    rw[v4 ω]
   rw[W]at L;obtain rfl:=Option.some.inj L;rw[bY,X3]at a;cases p:r[j]? with
   | none=>rw[p]at a;cases a
   | some c'=>
    rw[p]at a;simp only[Y5,C1]at a;subst a;have t:=(rT Q M D p).2;show dM w _ (if(i*K+j) / K=i then NO else f (i*K+j)) _ _;rw[CD (hq j t)];exact(Z i j r c' D p).freeze.mono (λb o h=>h.elim .inl λh=>.inr ⟨j,t,h⟩) (λ_ _ h=>h)
  rw[List.getElem?_set_ne ω]at L;have t:=(rT Q M L a).2;have B:¬(i*K+j) / K=k:=by
   rw[Nat.mul_comm,Nat.mul_add_div ω,Nat.div_eq_of_lt t,Nat.add_zero];exact e
  show dM w _ (if(i*K+j) / K=k then NO else f (i*K+j)) _ _;rw[CB B];exact(Z i j r' c L a).mono (λ_ _ h=>.inl h) (λ_ _ h=>h)
variable{u:Nat->Value}
def cR.fzAt{S F:am}{cs:List C}(h:cR w S F cs u){off:Nat}{o:dR}(B:cs[off]? = some (.s o rows))(G:o≠.V)(H:rows[k]? = some r) :
  ∃V:am,(∀b q,V b q->F b q)/\cR w (λb q=>S b q\/V b q) (λb q=>F b q/\¬V b q) (cs.set off (.s o (rows.set k (dE r)))) u:=by
 obtain⟨f,D,y,t⟩:=h;have i:=(Z2.1 B).1;obtain⟨V,E,J⟩:=(D off _ B).fzAt G H;refine⟨V,λb q A=>y off i b q (E b q A),λj=>if j=off then(λb q=>f off b q/\¬V b q) else f j,λj c g=>?_,λj g b q d=>?_,λj p g l n b q d a=>?_⟩
 ·by_cases e:j=off
  ·subst e
   rw[v4 i]at g;obtain rfl:=Option.some.inj g;simpa using J
  rw[List.getElem?_set_ne ω]at g;show dM w _ (if j=off then _ else f j) _ _;rw[CB e];exact(D j c g).mono (λ_ _ h=>.inl h) (λ_ _ h=>h)
 ·rw[Z1]at g
  replace d:(if j=off then(λb q=>f off b q/\¬V b q) else f j) b q:=d;split at d
  ·exact⟨y off i b q d.1,d.2⟩
  rename_i e;exact⟨y j g b q d,λA=>t j off g i e b q d (E b q A)⟩
 rw[Z1]at g l;replace d:(if j=off then(λb q=>f off b q/\¬V b q) else f j) b q:=d;replace a:(if p=off then(λb q=>f off b q/\¬V b q) else f p) b q:=a;split at d
 ·rename_i e
  rw[CB ω]at a;exact t j p g l n b q (e ▸ d.1) a
 split at a
 ·rename_i e
  exact t j p g l n b q d (e ▸ a.1)
 exact t j p g l n b q d a
variable{rcs:List C}{f:Nat}{P:Program}
def ay.fzAt{sh:Bool}{A:List RA}{k:Kd}(h:ay P f sh A k rcs){off:Nat}{o:dR}(g:rcs[off]? = some (.s o rows))(i:o≠.V){j:Nat}(l:rows[j]? = some r) :
  ay P f sh A k (rcs.set off (.s o (rows.set j (dE r)))):=by
 obtain⟨n,p⟩:=h;refine⟨n,λw S t u y=>(p w S t u y).mono λe w1 B=>?_⟩;obtain⟨v,D,E,X,M,d,F,G,H,J⟩:=B;obtain⟨V,K,L⟩:=J.fzAt g i l;refine⟨v,D,E,_,_,λb q c=>d b q c.1,λb q c=>?_,λb q c a=>?_,by rw[Z1];exact H,L⟩
 ·rcases c with c|c
  ·exact F b q c
  exact .inr (d b q (K b q c))
 rcases a with a|a
 ·exact G b q c.1 a
 exact c.2 a
def aP.noS{A B:List MA}{k:Kd}(h:aP P f true A B k rcs)(d:∀(w:World)(S:am)(V:Nat->am)(vs:List Value),Mq w S V A vs->Mq w NO V A vs):aP P f false A B k rcs:=by
 obtain⟨g,j⟩:=h;refine⟨g,λw S V vs M l c n=>(j w NO V vs (λ_ _ h=>h.elim) (λi b o a=>⟨(l i b o a).1,λh=>h.elim⟩) c (d w S V vs n)).mono λe w1 p=>?_⟩;obtain⟨v,q,r,X,t,u,y,D,E,F,G,H,J,K,L,a10⟩:=p;exact⟨v,q,r,X,t,u,y,D,λb o a=>(E b o a).elim (λh=>h.2.elim) .inr,F,G,H,J,K,L,a10.mono λb o a=>a.elim (λh=>h.elim) .inr⟩
def Uv(c:aE)(k:Nat):List C:=if 0<(nth c.a k).length then [.s .own ((c.a.map (aH .own)).set k (aH .V ((nth c.a k).take ((nth c.a k).length - 1)))),I (nth (nth c.a k) ((nth c.a k).length - 1)),B true] else aE.enc .own c++[I (-1),B false]
def wM(c:aE)(k:Nat)(r:b9 c=true)(P:k<=3):zzB 186 false [.mut (some 1) (aE.enc .own c),.val none [I (k:Nat)]] [.mut (some 1) (aE.enc .own c),.val none [I (k:Nat)]] (.tup [some 1,none,none]) (Uv c k):=by
 obtain⟨Q,t⟩:=eI r;have d:aE.sml c:=⟨ω,λl C=>by have:=t l C;show l.length<=1048576;omega⟩
 have e:=Ht c k d;rw[r,O0 ω]at e;have a:=pX (c:=c) (k:=k) ω;have D:=t _ (ar (xs:=c.a) (i:=k) ω);refine aP.noS ?_ λw S V E F=>?_
 case refine_2=>
  match E,F with
  | [v,R],⟨⟨G,u,H,J⟩,⟨K,L,M,N⟩,_⟩=>
   exact⟨⟨G,u,H,J.fresh (aE.enc_fr c)⟩,⟨K,L,M,N.fresh ⟨trivial,trivial⟩⟩,trivial⟩
 unfold Uv;by_cases y:0<(nth c.a k).length
 ·rw[CD y]
  have g:zzA 182 false [.val (some 1) (aE.enc .V c)] .agg [.s .own ((c.a.map (aH .own)).set k (aH .V (nth c.a k)))]:=by
   have h:=(lv c d).fzAt (off:=0) (o:=.own) (rows:=c.a.map (aH .own)) rfl (by simp) (j:=k) (aa a);rw[dA]at h;exact h
  have n:((c.a.map (aH .own)).set k (aH .V (nth c.a k)))[k]? = some (aH .V (nth c.a k)):=v4 (by rw[I1];omega);have B:=au (xs:=nth c.a k) (i:=(nth c.a k).length - 1) ω;have b:(nth c.a k)[(((nth c.a k).length:Int) - 1).toNat]? = some (nth (nth c.a k) ((nth c.a k).length - 1)):=by rw[show(((nth c.a k).length:Int) - 1).toNat=(nth c.a k).length - 1 by omega];exact B
  have p:((((nth c.a k).length:Nat):Int) - 1)=(((nth c.a k).length - 1:Nat):Int):=ω
  have O:((c.a.map (aH .own)).set k (aH .V (nth c.a k))).set k (aH .V ((nth c.a k).take ((nth c.a k).length - 1)))=(c.a.map (aH .own)).set k (aH .V ((nth c.a k).take ((nth c.a k).length - 1))):=List.set_set ..;rw[<-O];refine fM 54 [] [(6,10,[41,42,43,44,45,46,47,48,49,50])] [(2,0),(0,0)] Tryz.func186 rfl (λu q=>?_) (.inl rfl)
  repeat'(first|refine gB ?_|(conv=>whnf);first|with_reducible refine CE (aa a) ?_|refine CG rfl (aa a) rfl ?_|refine CG rfl n rfl ?_|refine CK (e) ⟨⟨rfl,Ce c⟩,⟨rfl,rfl⟩,trivial⟩ ?_|refine CK (g) ⟨⟨rfl,Ce c⟩,trivial⟩ ?_|refine CO ω (aa b) ?_|refine CE (aa B) ?_|refine CE n ?_|refine Rw.two rfl (aa a) rfl rfl (aa b) rfl ?_|refine CY ((nth c.a k).length - 1) p (by rw[I1];omega) (aV λ_=>rfl) (Mv _ _) ?_|refine CC ?_|refine CQ rfl rfl n rfl (O1 rfl) rfl ?_)
  refine CH rfl rfl ?_;exact wC
 rw[CB y];have g:=lv c d;refine fM 54 [] [(6,10,[41,42,43,44,45,46,47,48,49,50])] [(2,0),(0,0)] Tryz.func186 rfl (λu q=>?_) (.inl rfl)
 repeat'(first|refine gB ?_|(conv=>whnf);first|with_reducible refine CE (aa a) ?_|refine CG rfl (aa a) rfl ?_|refine CK (e) ⟨⟨rfl,Ce c⟩,⟨rfl,rfl⟩,trivial⟩ ?_|refine CK (g) ⟨⟨rfl,Ce c⟩,trivial⟩ ?_)
 refine CH rfl rfl ?_;exact wC
set_option maxRecDepth 100000
def Ha:∀w,(zeroValue 180).run Tryz.prog w=.ok (.agg #[.int .i64 0,.int .i64 0]) w:=λ_=>by kernel_rfl
def D1:Ny Tryz.prog 458 2:=by
 refine⟨⟨_,Tryz.func458,by kernel_rfl,by kernel_rfl⟩,λw g n c i news r y o B C b=>?_⟩;obtain⟨A,X,a⟩:=QN o y r B;have a:Hid (∀t u,news[t]? = some u->w.drew.cell? (A.add t)=some u):=a;have T:Hid (news.length=(n - (i+1))*2):=o;have Y:Hid (∀u∈news,u.oneCell'=true):=C;have Z:Hid (∀t,t<news.length->(w.drew.cell? ⟨g,0+i*2+t,none⟩).isSome=true/\w.drew.frozen? ⟨g,0+i*2+t,none⟩ = false):=λt ht=>by
  rw[X7];exact b (i*2+t) ω
 obtain⟨p,d⟩ : ∃p,p=w.drew.setCells g (0+i*2) news:=⟨_,rfl⟩
 have K:∀q,q<n*2->(p.cell? ⟨g,q,none⟩).isSome=true/\p.frozen? ⟨g,q,none⟩ = false:=λq U=>by
  have D:∀j,j<news.length->∃z,cel w.drew g (0+i*2+j)=some z:=λj L=>by
   have:=(b (0+i*2+j) ω).1;exact Option.isSome_iff_exists.1 this
  refine⟨?_,by rw[d];exact(Z0 Prod.fst (cr g _ news w.drew g q)).trans (b q U).2⟩;rw[d];by_cases h:0+i*2<=q/\q<0+i*2+news.length
  ·have:=bM D (X2 (show q - (0+i*2)<news.length by omega))
   rw[show 0+i*2+(q - (0+i*2))=q by omega]at this;show(cel _ g q).isSome=true;rw[this];rfl
  show(cel _ g q).isSome=true;rw[bp (λx=>h x.2)];exact(b q U).1
 obtain⟨M,E,F,G⟩:=QO (P:=Tryz.prog) p 36 180 2 (.agg #[.int .i64 0,.int .i64 0]) Tryz.underlying36 Ha rfl (by intro v V;simp[Value.cells]at V;subst V;rfl) g ((i+(n - (i+1)))*2) (n - (i+(n - (i+1)))) ω (by decide) (λj L=>(K _ ω).1) (λj L=>(K _ ω).2);have k:Hid (M.length=(n - (i+(n - (i+1))))*2):=E;have H:Hid (∀v∈M,v.oneCell'=true):=F;have W:Hid (p=w.drew.setCells g (0+i*2) news):=d;have hic:i<=c:=ω
 have N:i+1<=c:=ω
 have O:¬i=i+1:=ω
 have Q:i+1<=n:=r;have l:n - 1=i+(n - (i+1)):=ω
 clear d K b B C o E F;rw[l];generalize L:i+1=j at X a T G k N O Q l |-;obtain⟨J,R,S⟩ : ∃J,Tryz.prog.info? 180=some J/\J.size=2:=by
  have h:=(qN 180 _ rfl).1;cases e : Tryz.prog.info? 180 with
  | none=>rw[e]at h;cases h
  | some x=>rw[e]at h;simp only[Y5,C1,Prod.mk.injEq]at h;exact⟨x,rfl,h.2.1⟩
 have mixed : Tryz.prog.follows .mixedOrders=true:=by kernel_rfl
 go_enter Tryz.func458,Tryz.ntmps458
 go_wp2_with fail
 go_region_law_o (refine step_append_room rfl (.tmp 22) (.tmp 25) 36 rfl 180 J 2 Tryz.underlying36 R S g 0 i c (by simp[Act.eval,Act.put]) A (n - j) (c - j) news (by simp[Act.eval,Act.put]) T.out a.out Y.out ω Z.out ?_;rw[<-W.out])
 go_wp2
 go_ret
 refine⟨rfl,M,by have:=k.out;omega,H.out,?_⟩;rw[W.out,X7]
def Da(xs:List aB)(i:Nat)(a:i<xs.length):zzB 458 false [.mut none [.s .own (xs.map (aB.enc .own))],.val none [I (i:Nat)],.val none [I ((i+1:Nat):Int)]] [.mut none [.x],.val none [I (i:Nat)],.val none [I ((i+1:Nat):Int)]] .one [oE ((dele xs i).map (aB.enc .own))]:=by
 have h:=RV D1 (rows:=xs.map (aB.enc .own)) (i:=i) (by rw[I1];exact a) (aV λ_=>rfl) (bh _ _ λx _=>aB.enc_fr x)
 rwa [show dele (xs.map (aB.enc .own)) i=(dele xs i).map (aB.enc .own) by simp[dele,W4,X4]]at h
variable{α:Type}
def PD(xs:List α)(b:Nat)(y:α):dele (xs.set b y) b=dele xs b:=by
 unfold dele;rw[List.take_set_of_le (W3 b),List.drop_set_of_lt (Nat.lt_succ_self b)]
def ss(k:ah)(p:Int)(c:aF k=true)(w:k.Calls≠100000)(n:0<=p/\p<k.F.R.K.length)(y:(nth k.F.R.K p.toNat).e=0):zzA 341 false [.val (some 5) (ah.enc .V k),.val none [I p]] (.tup [some 5,none]) (ah.enc .own (newK k p).1++[B (newK k p).2]):=by
 have h:=b8 c;have C:=(aG.1 c).2.2.2;have D:=(br.1 (aG.1 c).2.2.1).2.2;have d:=sB k h;rw[c,O0 w]at d;have g:=BF k h ⟨ω,ω⟩;have a:=xK k.F.W (aG.1 c).2.1 h.1.1;have j:af k.F.R p=nth k.F.R.K p.toNat:=by unfold af;exact CD n
 have o:=aN p 0 ((k.F.R.K.length:Int) - 1);rw[O0 ω]at o;have q:=pj k p h.1.2;rw[j,y,W0 (by decide)]at q;have r:=au (xs:=k.F.R.K) (i:=p.toNat) ω;unfold vd at a;unfold newK;cases e:refd k<;>rw[e]at g
 ·by_cases b:oB k<0
  ·rw[CD (.inr b)]
   rw[CD (show cU (λu=>!u) k.F.W.a5<0 from b)]at a;simp only at a;refine fO 64 [] Tryz.func341 rfl ?_ (.inr (aU (Cf _) ⟨trivial,trivial⟩))
   repeat'(first|refine gP ?_|(conv=>whnf);first|refine C9 (d) ?_|refine C9 (g) ?_|refine C9 (a) ?_)
   rfl
  rw[CB (by simp[b])];rw[CB (show ¬cU (λu=>!u) k.F.W.a5<0 from b)]at a;simp only at a;obtain⟨f,t⟩:=O3 (show 0<=oB k by omega);have l:cU (λu=>!u) k.F.W.a5=(f:Nat):=t;rw[l]at a;rw[t];simp only[I3]at a |-;rw[Av]at a;rw[x9];refine fO 64 [] Tryz.func341 rfl ?_ (.inr (aU (by rw[<-x9];exact Cf _) ⟨trivial,trivial⟩))
  repeat'(first|refine gP ?_|(conv=>whnf);first|refine C9 (d) ?_|refine C9 (g) ?_|refine C9 (a) ?_|refine C9 (o) ?_|refine C9 (q) ?_|refine CO n.1 (aa r) ?_|refine CQ rfl rfl (aa r) rfl (O1 rfl) rfl ?_)
  rfl
 rw[CD (.inl rfl)];by_cases b:oB k<0
 ·rw[CD (show cU (λu=>!u) k.F.W.a5<0 from b)]at a
  simp only at a;refine fO 64 [] Tryz.func341 rfl ?_ (.inr (aU (Cf _) ⟨trivial,trivial⟩))
  repeat'(first|refine gP ?_|(conv=>whnf);first|refine C9 (d) ?_|refine C9 (g) ?_|refine C9 (a) ?_)
  rfl
 rw[CB (show ¬cU (λu=>!u) k.F.W.a5<0 from b)]at a;simp only at a;refine fO 64 [] Tryz.func341 rfl ?_ (.inr (aU (Cf _) ⟨trivial,trivial⟩))
 repeat'(first|refine gP ?_|(conv=>whnf);first|refine C9 (d) ?_|refine C9 (g) ?_|refine C9 (a) ?_)
 rfl
def TL(xs:List aB)(n:Int):List C:=(if(ax xs n).2.2=true then [oE ((ax xs n).1.map (aB.enc .own))] else bv .own xs)++[I (ax xs n).2.1,B (ax xs n).2.2]
def RN(xs:List aB)(n:Int):ij (TL xs n):=by
 unfold TL;split
 ·exact aU ⟨Tn (iG _).1.2,trivial⟩ ⟨trivial,trivial,trivial⟩
 exact aU (iG _) ⟨trivial,trivial,trivial⟩
def Bo(xs:List aB)(b:Nat)(y:aB):(xs.set b y).map (aB.enc .own)=(xs.map (aB.enc .own)).set b [I y.At,I y.a8]:=by rw[Z6];rfl
def yF(pages:Int)(xs:List aB)(n:Int)(K:0<=pages/\pages<=1048576)(u:bF pages xs=true)(R:1<=n/\n<=1000)(S:xs.length<=4096):zzA 340 false [.val none [I pages],.val none (bv .V xs),.val none [I n]] (.tup [none,none,none]) (TL xs n):=by
 have p:gG xs:=⟨ω,λ_ _=>trivial⟩
 have w:=qL pages xs K p;rw[u]at w;have L:=oH xs p;have B:=(wu u).2;refine fP 91 [(458,[1,0,0])] [(8,15,[32,33,34,35,36,37,38,39,40,41,42,43,44,45,46])] Tryz.func340 rfl ?_ (.inr (RN xs n))
 repeat'(first|refine gE ?_|(conv=>whnf);first|refine C9 (w) ?_|refine C9 (L) ?_)
 (conv=>whnf)
 refine CJ (ι:=Nat) (λi=>[(1,.H .one (bv .V xs)),(2,.H .one [I (n)]),(9,.H .one (bv .own xs)),(10,.H .one [I (fH xs n i)]),(25,.H .one (bv .V xs)),(26,.H .one [I (xs.length)]),(27,.H .one [I ((i:Nat):Int)])]) (λi=>i<=xs.length) (λi=>xs.length - i) (0) ?_ (X0 _) λi M=>?_
 ·exact wC
 have l:=sA xs n i M;by_cases E:i<xs.length
 ·have k:=au E
  have N:=B _ (ar E);have d:fH xs n (i+1)=if n<=(nth xs i).a8/\(fH xs n i<0\/(nth xs i).a8<(nth xs (fH xs n i).toNat).a8) then((i:Nat):Int) else fH xs n i:=rfl
  by_cases F:n<=(nth xs i).a8
  ·by_cases O:fH xs n i<0
   ·rw[CD ⟨F,.inl O⟩]at d
    repeat'(first|refine gE ?_|(conv=>whnf);first|with_reducible (first|refine CE (aa k) ?_|refine Bf.D (λh=>?_) (λh=>?_))|refine CG rfl (aa k) rfl ?_)
    ((conv=>whnf);refine CF (i+1) ω ω ?_)
    rw[d];exact wC
   have a:=au (xs:=xs) (i:=(fH xs n i).toNat) ω;by_cases P:(nth xs i).a8<(nth xs (fH xs n i).toNat).a8
   ·rw[CD ⟨F,.inr P⟩]at d
    repeat'(first|refine gE ?_|(conv=>whnf);first|with_reducible (first|refine CE (aa k) ?_|refine CO ω (aa a) ?_|refine Bf.D (λh=>?_) (λh=>?_))|refine CG rfl (aa k) rfl ?_)
    ((conv=>whnf);refine CF (i+1) ω ω ?_)
    rw[d];exact wC
   rw[CB ω]at d
   repeat'(first|refine gE ?_|(conv=>whnf);first|with_reducible (first|refine CE (aa k) ?_|refine CO ω (aa a) ?_|refine Bf.D (λh=>?_) (λh=>?_))|refine CG rfl (aa k) rfl ?_)
   ((conv=>whnf);refine CF (i+1) ω ω ?_)
   rw[d];exact wC
  rw[CB ω]at d
  repeat'(first|refine gE ?_|(conv=>whnf);first|with_reducible (first|refine CE (aa k) ?_|refine Bf.D (λh=>?_) (λh=>?_))|refine CG rfl (aa k) rfl ?_)
  ((conv=>whnf);refine CF (i+1) ω ω ?_)
  rw[d];exact wC
 obtain rfl:i=xs.length:=ω
 change fx xs n = -1\/_ at l;unfold TL ax;rw[show fH xs n xs.length=fx xs n from rfl];by_cases e:fx xs n<0
 ·rw[CD e]
  rw[show fx xs n = -1 from l.resolve_right λg=>by have T:0<=fx xs n:=g.1;omega]
  repeat'(first|refine gE ?_|(conv=>whnf);first|with_reducible refine Bf.D (λh=>?_) (λh=>?_))
  rfl
 rw[CB e];obtain⟨Q,G,U⟩:=l.resolve_left ω;change 0<=fx xs n at Q;change fx xs n<xs.length at G;obtain⟨b,r⟩:=O3 (show 0<=fx xs n by omega);rw[r]at G |-;simp only[I3];have a:=au (xs:=xs) (i:=b) ω;have N:=B _ (ar (xs:=xs) (i:=b) ω);have c:((xs.map (aB.enc .own)).set b [I ((nth xs b).At+n),I (nth xs b).a8])[b]? = some [I ((nth xs b).At+n),I (nth xs b).a8]:=kP ω;have j:((xs.set b ⟨(nth xs b).At+n,(nth xs b).a8 - n⟩).map (aB.enc .own))[b]? = some [I ((nth xs b).At+n),I ((nth xs b).a8 - n)]:=by rw[Bo];exact kP ω
 have o:∀t:List C,t.set 0 (.s .own (((xs.map (aB.enc .own)).set b [I ((nth xs b).At+n),I (nth xs b).a8]).set b [I ((nth xs b).At+n),I ((nth xs b).a8 - n)]))=t.set 0 (.s .own ((xs.set b ⟨(nth xs b).At+n,(nth xs b).a8 - n⟩).map (aB.enc .own))):=λt=>by rw[Bo,List.set_set]
 have q:=Da (xs.set b ⟨(nth xs b).At+n,(nth xs b).a8 - n⟩) b (by rw[Z1];omega);rw[PD]at q;by_cases H:(nth xs b).a8=n
 ·rw[CD H]
  generalize dele xs b=J at q |-;cases J with
  | nil=>
   repeat'(first|refine gB ?_|(conv=>whnf);first|with_reducible (first|refine CE (aa a) ?_|refine Bf.D (λh=>?_) (λh=>?_))|refine CE c ?_|refine CE j ?_|refine CG rfl (aa a) rfl ?_|refine CG rfl c rfl ?_|refine CG rfl j rfl ?_|refine CQ rfl rfl (aa a) rfl (O1 rfl) rfl ?_|refine CQ rfl rfl c rfl (O1 rfl) (o _).symm ?_|refine CL (q) (.inl rfl) ?_)
   rfl
  | cons y J=>
   repeat'(first|refine gB ?_|(conv=>whnf);first|with_reducible (first|refine CE (aa a) ?_|refine Bf.D (λh=>?_) (λh=>?_))|refine CE c ?_|refine CE j ?_|refine CG rfl (aa a) rfl ?_|refine CG rfl c rfl ?_|refine CG rfl j rfl ?_|refine CQ rfl rfl (aa a) rfl (O1 rfl) rfl ?_|refine CQ rfl rfl c rfl (O1 rfl) (o _).symm ?_|refine CL (q) (.inl rfl) ?_)
   rfl
 rw[CB H]
 repeat'(first|refine gB ?_|(conv=>whnf);first|with_reducible (first|refine CE (aa a) ?_|refine Bf.D (λh=>?_) (λh=>?_))|refine CE c ?_|refine CE j ?_|refine CG rfl (aa a) rfl ?_|refine CG rfl c rfl ?_|refine CG rfl j rfl ?_|refine CQ rfl rfl (aa a) rfl (O1 rfl) rfl ?_|refine CQ rfl rfl c rfl (O1 rfl) (o _).symm ?_)
 rw[CD rfl,Ry (by rw[Ne,List.map_eq_nil_iff,<-List.length_eq_zero_iff,Z1];omega)]
 rfl
def eD(w:World)(dT sT ty elem:TypeId)(k b o dLen dCap:Nat)(a:Addr)(sLen sCap n:Nat)(cs:List Value)(h:P.underlying dT=some (.slice elem))(g:(P.info? elem).map (·.size)=some k)(l:Nat.min sLen dLen=n)(p:cs.length=n*k)(c:∀j v,cs[j]? = some v->w.cell? (a.add j)=some v)(q:∀j,j<cs.length->(w.cell? ⟨b,o+j,none⟩).isSome=true)(r:∀j,j<cs.length->w.frozen? ⟨b,o+j,none⟩ = false)(h1:∀v∈cs,v.oneCell'=true) :
  (Builtin.copy_ #[dT,sT] ty #[.slice (some ⟨b,o,none⟩) dLen dCap,.slice (some a) sLen sCap]).run P w=.ok (goInt n) (w.setCells b o cs):=by
 have d:=run_loadCells_list (P:=P) w a cs c;have e:=run_storeCells_cells (P:=P) b o cs 0 w (by simpa using q) (by simpa using r) h1;rw[p]at d;cases f:P.info? elem with
 | none=>simp[f]at g
 | some i=>
  have t:i.size=k:=by simpa[f] using g
  simp[Builtin.copy_,run_underlying h,Builtin.lenOf,Builtin.firstCells,sizeOf,typeInfo,f,t,l,d,e]
variable{Q:Exit->Act->World->Prop}{ops:Array Oper}
def dQ(w:World){rest:List Oper}{o:Oper}{a:Act}(b:o.guard=none)(d s:Operand)(t c:TypeId)(g:o.op=.call {callee:=.builtin .copy,args:=#[d,s],argTypes:=#[t,c]})(v u:Value)(i:a.eval d=v)(j:a.eval s=u){e:Value}{f:World}(k:(Builtin.copy_ #[t,c] o.type #[v,u]).run P w=.ok e f)(h:wpList P ops Q rest (a.put o.dst e) f):wpList P ops Q (o::rest) a w:=by
 refine wpList_plain b λ_ l=>?_
 unfold Oper.wp execOp;simp only[g,resolve,invoke,builtin,Sem.run_bind,Sem.run_pure,Result.andThen_ok,List.map_toArray,X6,List.map_nil,i,j,k];exact l _ _ h
def iK{o:Oper}{a:Act}{K:Act->World->Prop}{E:Prop}(f:o.guard=none)(d x:Operand)(dT sT:TypeId)(b:o.op=Op.call {callee:=Callee.builtin Builtin.copy,args:=#[d,x],argTypes:=#[dT,sT]})(v u:Value)(g:a.eval d=v)(h:a.eval x=u){c:Value}{e:World}(i:(Builtin.copy_ #[dT,sT] o.type #[v,u]).run P w=.ok c e)(j:K (a.put o.dst c) e) :
  if Region.wanted o (yielded ops a.tmps)=true then Oper.wp P o a w K Q else E:=by
 have k:Region.wanted o (yielded ops a.tmps)=true:=by simp[Region.wanted,f]
 rw[CD k];unfold Oper.wp;simp[execOp,b,resolve,invoke,builtin,g,h,i,Result.andThen];exact j
def wo(b:Nat):∀(vs:List Value)(o:Nat)(w:World),(w.setCells b o vs).drew=w.drew.setCells b o vs
 | [],_,_=>rfl
 | v::r,o,w=>by rw[World.setCells,World.setCells,wo b r];rfl
def lf(b:Nat)(vs:List Value)(o:Nat)(w:World)(h:∀j,j<vs.length->(w.cell? ⟨b,o+j,none⟩).isSome=true)(q:Nat)(a:(w.cell? ⟨b,q,none⟩).isSome=true):((w.setCells b o vs).cell? ⟨b,q,none⟩).isSome=true:=by
 by_cases c:o<=q/\q<o+vs.length
 ·have:=World.cell?_setCells_in b vs o w h (q - o) ω
  rw[show o+(q - o)=q by omega]at this;rw[this];rfl
 rw[World.cell?_setCells_out b vs o w ⟨b,q,none⟩ (λ_ _=>by show q<o\/o+vs.length<=q;omega)];exact a
variable{g:Nat}
def EL{z:Value}(a:cel w g 0=some z)(d:fro w g 0=NF):∃t k,w.shape? g=some (t,k)/\k≠0/\w.frozen? ⟨g,0,none⟩ = false/\w.frozen? ⟨g,k,none⟩ = false:=by
 have f:=Z0 Prod.fst d;have b:=Z0 Prod.snd d;simp only[fro]at f b;unfold mp at b;unfold cel World.cell? at a;unfold World.shape?;simp only at a;cases e:w.heap[g]? with
 | none=>rw[e]at a;cases a
 | some x=>
  rw[e]at a b;cases x with
  | cells c t i=>
   obtain⟨j,l⟩:=i;simp only[Option.isSome_none,Bool.false_eq_true,if_false]at a;have o:0<c.size:=by
    rcases Nat.eq_zero_or_pos c.size with h|h
    ·rw[Array.getElem?_eq_none ω]at a;cases a
    exact h
   refine⟨t,c.size,rfl,ω,f,?_⟩;unfold World.frozen?;simp only[e];simp only at b;split at b
   ·cases b
   rename_i n;have:¬(j<=c.size/\c.size<l):=n;simp only[Bool.and_eq_false_imp,C0,z5];omega
  | _=>cases a
variable{e:Nat}
def po{tS tR a b:Nat}{z h:Value}(i:P.underlying tS=some (.slice e))(j:∀w,(Go.sizeOf e).run P w=.ok k w)(c:a≠b)(h1:cel w a 0=some z)(l:fro w a 0=NF)(n:cel w b 0=some h)(o:fro w b 0=NF)(x la d f g:Nat) :
  (Extern.SlicesOverlaps.overlaps #[tS,tS] #[tR] #[.slice (some ⟨a,0,none⟩) la d,.slice (some ⟨b,x,none⟩) f g]).run P w=.ok (.bool false) w:=by
 obtain⟨tA,kA,p,y,q,r⟩:=EL h1 l;obtain⟨tB,kB,t,u,-,-⟩:=EL n o;exact Lib.run_overlaps_apart w tS tR e i k j ⟨a,0,none⟩ ⟨b,x,none⟩ la d f g c tA tB kA kB p t u q r
structure xI(w w':World)(g G k n c c' i:Nat)(olds vs:List Value):Prop where
 keep:bx (λb o=>b=g/\o<c*k) w w'
 cel:∀q u,(olds.take (i*k)++vs++olds.drop (i*k))[q]? = some u->cel w' G q=some u
 all:∀q,q<c'*k->(∃z,Ab.cel w' G q=some z/\z.oneCell'=true)/\fro w' G q=NF
 at_:(G=g/\c'=c)\/(w.heap.size<=G/\G<w'.heap.size)
variable{n:Nat}{olds vs:List Value}
def FM{q:Nat}{u:Value}(j:i<n)(d:olds.length=n*k)(b:vs.length=k)(h:(olds.take (i*k)++vs++olds.drop (i*k))[q]? = some u) :
  q<(n+1)*k/\((q<i*k/\olds[q]? = some u)\/(i*k<=q/\q<i*k+k/\vs[q - i*k]? = some u)\/(i*k+k<=q/\(olds.drop (i*k))[q - (i*k+k)]? = some u)):=by
 have e:i*k<=n*k:=C8 k ω;have l:(n+1)*k=n*k+k:=by rw[Nat.add_mul,Nat.one_mul]
 have a:(olds.take (i*k)).length=i*k:=by rw[C2];omega
 have f:=(Z2.1 h).1;simp only[Y3,a,b,Z3,d]at f;refine⟨ω,?_⟩;by_cases c:q<i*k
 ·rw[O6,t5 ω,List.getElem?_take,CD c]at h
  exact .inl ⟨c,h⟩
 by_cases g:q<i*k+k
 ·rw[t5 (by rw[Y3];omega),v5 ω,a]at h
  exact .inr (.inl ⟨ω,g,h⟩)
 rw[v5 (by rw[Y3];omega),Y3,a,b]at h;exact .inr (.inr ⟨ω,h⟩)
def pB{c:Nat}(B:i<n)(C:n+1<=c)(y:olds.length=n*k)(D:vs.length=k)(E:∀t u,olds[t]? = some u->cel w g t=some u)(h1:∀u∈olds,u.oneCell'=true)(F:∀u∈vs,u.oneCell'=true)(a:∀q,q<c*k->(∃z,cel w g q=some z/\z.oneCell'=true)/\fro w g q=NF) :
  xI w ((w.drew.setCells g ((i+1)*k) (olds.drop (i*k))).setCells g (i*k) vs) g g k n c c i olds vs:=by
 have G:i*k<=n*k:=C8 k ω;have H:(n+1)*k<=c*k:=C8 k C;have N:(n+1)*k=n*k+k:=by rw[Nat.add_mul,Nat.one_mul]
 have O:(i+1)*k=i*k+k:=by rw[Nat.add_mul,Nat.one_mul]
 have J:(olds.drop (i*k)).length=n*k - i*k:=by rw[Z3,y]
 have P:∀b q,cel w.drew b q=cel w b q:=λ_ _=>rfl
 have in1:∀j,j<(olds.drop (i*k)).length->∃z,cel w.drew g ((i+1)*k+j)=some z:=λj p=>by
  obtain⟨⟨z,r,-⟩,-⟩:=a ((i+1)*k+j) ω;exact⟨z,r⟩
 have all1:∀q,q<c*k->∃z,cel (w.drew.setCells g ((i+1)*k) (olds.drop (i*k))) g q=some z/\z.oneCell'=true:=λq e=>by
  by_cases h:(i+1)*k<=q/\q<(i+1)*k+(olds.drop (i*k)).length
  ·obtain⟨u,f⟩ : ∃u,(olds.drop (i*k))[q - (i+1)*k]? = some u:=⟨_,X2 ω⟩
   have d:=bM in1 f;rw[show(i+1)*k+(q - (i+1)*k)=q by omega]at d;exact⟨u,d,h1 u (List.mem_of_mem_drop (O2 f))⟩
  rw[bp (λx=>h x.2)];exact(a q e).1
 have in2:∀j,j<vs.length->∃z,cel (w.drew.setCells g ((i+1)*k) (olds.drop (i*k))) g (i*k+j)=some z:=λj p=>by
  obtain⟨z,r,-⟩:=all1 (i*k+j) ω;exact⟨z,r⟩
 refine⟨?_,λq u e=>?_,λq e=>⟨?_,by rw[cr,cr];exact(a q e).2⟩,.inl ⟨rfl,rfl⟩⟩
 ·have K:=eg (g:=g) (X:=λb o=>b=g/\o<c*k) (olds.drop (i*k)) ((i+1)*k) w.drew λj p=>⟨rfl,ω⟩
  have L:=eg (g:=g) (X:=λb o=>b=g/\o<c*k) vs (i*k) (w.drew.setCells g ((i+1)*k) (olds.drop (i*k))) λj p=>⟨rfl,ω⟩
  exact((xQ w).up λ_ _ h=>h.elim).trans (K.trans L λ_ _ h=>.inr h) λ_ _ h=>.inr h
 ·obtain⟨-,⟨A,l⟩|⟨A,l,M⟩|⟨A,l⟩⟩:=FM B y D e
  ·rw[bp ω,bp ω];exact E q u l
  ·have d:=bM in2 M
   rwa [show i*k+(q - i*k)=q by omega]at d
  rw[bp ω];have d:=bM in1 l;rw[show(i+1)*k+(q - (i*k+k))=q by omega]at d;exact d
 by_cases h:i*k<=q/\q<i*k+vs.length
 ·obtain⟨u,f⟩ : ∃u,vs[q - i*k]? = some u:=⟨_,X2 ω⟩
  have d:=bM in2 f;rw[show i*k+(q - i*k)=q by omega]at d;exact⟨u,d,F u (O2 f)⟩
 rw[bp (λx=>h x.2)];exact all1 q e
def rG{a:World}{c G:Nat}{Z:Array Value}(y:a.heap=(w.alloc (.cells ((olds.take (i*k)).toArray++Builtin.zeroCells Z (n+1 - i)++Builtin.zeroCells Z (G - (n+1))) e)).heap)(Q:a.os=w.os)(R:a.tape=w.tape)(S:a.output=w.output)(hi:i<n)(hG:n+1<=G)(hZ:Z.size=k)(T:∀v∈Z.toList,v.oneCell'=true)(U:olds.length=n*k)(d:vs.length=k)(h1:∀u∈olds,u.oneCell'=true)(h2:∀u∈vs,u.oneCell'=true) :
  xI w ((a.setCells w.heap.size (i*k) vs).setCells w.heap.size ((i+1)*k) (olds.drop (i*k))) g w.heap.size k n c G i olds vs:=by
 have V:i*k<=n*k:=C8 k ω;have hGk:(n+1)*k<=G*k:=C8 k hG;have e1:(n+1)*k=n*k+k:=by rw[Nat.add_mul,Nat.one_mul]
 have e2:(i+1)*k=i*k+k:=by rw[Nat.add_mul,Nat.one_mul]
 have hdl:(olds.drop (i*k)).length=n*k - i*k:=by rw[Z3,U]
 generalize hcells:(olds.take (i*k)).toArray++Builtin.zeroCells Z (n+1 - i)++Builtin.zeroCells Z (G - (n+1))=cells at y;have C:∀b q,cel a b q=cel (w.alloc (.cells cells e)) b q:=λb q=>by unfold cel World.cell?;rw[y]
 have D:∀b q,fro a b q=fro (w.alloc (.cells cells e)) b q:=λb q=>by unfold fro World.frozen? mp;rw[y]
 have hsz:cells.size=G*k:=by
  rw[<-hcells];simp only[Array.size_append,List.size_toArray,C2,size_zeroCells,hZ,U,Nat.min_eq_left V];rw[<-Nat.add_mul,<-Nat.add_mul]
  congr 1;omega
 have E:∀v∈cells.toList,v.oneCell'=true:=by
  have F:∀m,∀v∈(Builtin.zeroCells Z m).toList,v.oneCell'=true:=λm v d=>by
   rw[Array.mem_toList_iff]at d;simp only[Builtin.zeroCells,Array.mem_map,Array.mem_range]at d;obtain⟨j,A,rfl⟩:=d;have B:0<Z.size:=by rcases Nat.eq_zero_or_pos Z.size with h|h;rw[h]at A;simp at A;exact h
   have H:j % Z.size<Z.size:=Nat.mod_lt _ B;rw[getElem!_pos Z (j % Z.size) H];exact T _ (Array.mem_toList_iff.2 (Array.getElem_mem H))
  intro v d;rw[<-hcells]at d;simp only[Array.toList_append,V3]at d;rcases d with(d|d)|d
  ·exact h1 v (List.mem_of_mem_take d)
  ·exact F _ v d
  exact F _ v d
 have l:∀q,cel a w.heap.size q=cells[q]?:=λq=>(C _ _).trans (iq w cells e q)
 have J:∀q,q<G*k->∃z,cel a w.heap.size q=some z/\z.oneCell'=true:=λq p=>by
  have K:q<cells.size:=ω
  exact⟨cells[q],by rw[l,I7 K],E _ (Array.mem_toList_iff.2 (Array.getElem_mem K))⟩
 have r:∀q u,q<i*k->olds[q]? = some u->cells[q]? = some u:=λq u p t=>by
  rw[<-hcells,Array.append_assoc,Array.getElem?_append_left (by simp;omega)];simp[p,t]
 have L:∀q,fro a w.heap.size q=NF:=λq=>(D _ _).trans (ig w cells e q)
 have hK:bx NO w a:=by
  have B:bx NO w (w.alloc (.cells cells e)):=cV w _;exact⟨Q,R,S,by rw[y];exact B.size,λb M N=>by rw[y];exact B.blk b M N,λb o M N=>(C b o).trans (B.cel b o M N),λb o M N=>(D b o).trans (B.fro b o M N)⟩
 have hS:a.heap.size=w.heap.size+1:=by rw[y];exact jx w _
 have k1:=eg (g:=w.heap.size) (X:=λb o=>b=w.heap.size) vs (i*k) a λj A=>rfl
 have k2:=eg (g:=w.heap.size) (X:=λb o=>b=w.heap.size) (olds.drop (i*k)) ((i+1)*k) (a.setCells w.heap.size (i*k) vs) λj A=>rfl
 have in1:∀j,j<vs.length->∃z,cel a w.heap.size (i*k+j)=some z:=λj A=>by
  obtain⟨z,W,-⟩:=J (i*k+j) ω;exact⟨z,W⟩
 have all1:∀q,q<G*k->∃z,cel (a.setCells w.heap.size (i*k) vs) w.heap.size q=some z/\z.oneCell'=true:=λq p=>by
  by_cases h:i*k<=q/\q<i*k+vs.length
  ·obtain⟨u,t⟩ : ∃u,vs[q - i*k]? = some u:=⟨_,X2 ω⟩
   have f:=bM in1 t;rw[show i*k+(q - i*k)=q by omega]at f;exact⟨u,f,h2 u (O2 t)⟩
  rw[bp (λx=>h x.2)];exact J q p
 have in2:∀j,j<(olds.drop (i*k)).length->∃z,cel (a.setCells w.heap.size (i*k) vs) w.heap.size ((i+1)*k+j)=some z:=λj A=>by
  obtain⟨z,W,-⟩:=all1 ((i+1)*k+j) ω;exact⟨z,W⟩
 have O:w.heap.size<((a.setCells w.heap.size (i*k) vs).setCells w.heap.size ((i+1)*k) (olds.drop (i*k))).heap.size:=by
  have:=k1.size;have:=k2.size;omega
 refine⟨?_,λq u p=>?_,λq p=>⟨?_,by rw[cr,cr];exact L q⟩,.inr ⟨W3 _,O⟩⟩
 ·exact(hK.up λ_ _ h=>h.elim).trans (k1.trans k2 λ_ _ h=>.inr h) λ_ _ h=>.inl (by rw[h];exact W3 _)
 ·obtain⟨-,⟨Y,P⟩|⟨Y,P,a3⟩|⟨Y,P⟩⟩:=FM hi U d p
  ·rw[bp ω,bp ω,l];exact r q u Y P
  ·rw[bp ω]
   have f:=bM in1 a3
   rwa [show i*k+(q - i*k)=q by omega]at f
  have f:=bM in2 P;rw[show(i+1)*k+(q - (i*k+k))=q by omega]at f;exact f
 by_cases h:(i+1)*k<=q/\q<(i+1)*k+(olds.drop (i*k)).length
 ·obtain⟨u,t⟩ : ∃u,(olds.drop (i*k))[q - (i+1)*k]? = some u:=⟨_,X2 ω⟩
  have f:=bM in2 t;rw[show(i+1)*k+(q - (i+1)*k)=q by omega]at f;exact⟨u,f,h1 u (List.mem_of_mem_drop (O2 t))⟩
 rw[bp (λx=>h x.2)];exact all1 q p
structure Et(P:Program)(f k T b:Nat):Prop where
 has:K5 P f
 end_:∀(w w1:World)(base:Option Addr)(n c vb m vc:Nat)(r:Value),m=1->n<=c->n<=1073741824->(base=none->n=0/\c=0)->(Builtin.append_ #[T,T] T #[.slice base n c,.slice (some ⟨vb,0,none⟩) m vc]).run P w=.ok r w1->
  Calls P f #[.slice base n c,.int .i64 n,.slice (some ⟨vb,0,none⟩) m vc] w λe w'=>e=.returned r/\w'=w1
 mid:∀(w:World)(g n c i vb m vc:Nat)(olds vs:List Value),m=1->i<n->n<=c->n<=1073741824->b<=1000->olds.length=n*k->vs.length=k->(∀t u,olds[t]? = some u->cel w g t=some u)->(∀t u,vs[t]? = some u->cel w vb t=some u)->
  (∀u∈olds,u.oneCell'=true)->(∀u∈vs,u.oneCell'=true)->(∀q,q<c*k->(∃z,cel w g q=some z/\z.oneCell'=true)/\fro w g q=NF)->fro w vb 0=NF->vb≠g->
  Calls P f #[.slice (some ⟨g,0,none⟩) n c,.int .i64 i,.slice (some ⟨vb,0,none⟩) m vc] w λe w'=>∃G c',e=.returned (.slice (some ⟨G,0,none⟩) (n+1) c')/\n+1<=c'/\xI w w' g G k n c c' i olds vs
def inse(xs:List α)(i:Nat)(y:α):List α:=xs.take i++y::xs.drop i
def Gw(xs:List α)(i:Nat)(y:α):(inse xs i y).length=xs.length+1:=by
 unfold inse;rw[Y3,List.length_cons,C2,Z3];omega
def xY{xs:List α}{y z:α}(h:z∈inse xs i y):z=y\/z∈xs:=by
 unfold inse at h;rcases V3.1 h with h|h
 ·exact .inr (List.mem_of_mem_take h)
 rcases List.mem_cons.1 h with h|h
 ·exact .inl h
 exact .inr (List.mem_of_mem_drop h)
def xy{β:Type}(e:α->β)(xs:List α)(i:Nat)(y:α):inse (xs.map e) i (e y)=(inse xs i y).map e:=by
 unfold inse;simp only[V6,X6,W4,X4]
variable{row:List C}
def M1{a b:Nat}{c:C}(g:i<=rows.length)(A:olds.length=rows.length*k)(n:vs.length=k)(o:b<k)(j:∀(a b:Nat)(r:List C)(c:C),rows[a]? = some r->r[b]? = some c->∃z,c=C.v z/\olds[a*k+b]? = some z)(p:∀(b:Nat)(c:C),row[b]? = some c->∃z,c=C.v z/\vs[b]? = some z)(h1:(inse rows i row)[a]? = some r)(e:r[b]? = some c):∃z,c=.v z/\(olds.take (i*k)++vs++olds.drop (i*k))[a*k+b]? = some z:=by
 have q:i*k<=rows.length*k:=C8 k g;have l:(olds.take (i*k)).length=i*k:=by rw[C2];omega
 unfold inse at h1;by_cases h:a<i
 ·rw[t5 (by rw[C2];omega),List.getElem?_take,CD h]at h1
  obtain⟨z,rfl,d⟩:=j a b r c h1 e;have f:a*k+b<i*k:=dI h o;exact⟨z,rfl,by rw[O6,t5 ω,List.getElem?_take,CD f];exact d⟩
 rw[v5 (by rw[C2];omega),C2,Nat.min_eq_left g]at h1;have t:i*k<=a*k:=C8 k ω;by_cases u:a=i
 ·subst u
  simp only[Nat.sub_self,List.getElem?_cons_zero,C1]at h1;subst h1;obtain⟨z,rfl,d⟩:=p b c e;exact⟨z,rfl,by rw[t5 (by rw[Y3];omega),v5 ω,l,show a*k+b - a*k=b by omega];exact d⟩
 obtain⟨m,rfl⟩ : ∃m,a=i+(m+1):=⟨a - i - 1,ω⟩
 rw[show i+(m+1) - i=m+1 by omega,List.getElem?_cons_succ,List.getElem?_drop]at h1;obtain⟨z,rfl,d⟩:=j (i+m) b r c h1 e;have w:(i+(m+1))*k=i*k+k+m*k:=by rw[<-Nat.add_assoc,Nat.add_mul,Nat.add_mul,Nat.one_mul];omega
 have y:(i+m)*k=i*k+m*k:=Nat.add_mul ..;refine⟨z,rfl,?_⟩;rw[v5 (by rw[Y3];omega),Y3,l,n,List.getElem?_drop,w,show i*k+(i*k+k+m*k+b - (i*k+k))=i*k+m*k+b by omega,<-y];exact d
def Ud(h:RG rows):PT rows:=by
 have b:∀r:List C,(∀c∈r,∃z,c=C.v z)->ij r:=by
  intro r
  induction r with
  | nil=>exact λ_=>trivial
  | cons c r a=>intro h;obtain⟨z,rfl⟩:=h c (by simp);exact⟨trivial,a λc d=>h c (by simp[d])⟩
 induction rows with
 | nil=>exact trivial
 | cons r f a=>exact⟨b r (h r (by simp)),a λr e=>h r (by simp[e])⟩
def Hb{T:Nat}{d:TypeInfo}{z0:Value}(ht:P.underlying T=some (.slice e))(hi0:P.info? e=some d)(hk0:d.size=k)(hz:d.zero=some z0)(hzs:z0.cells.size=d.size)(hz1:∀x∈z0.cells.toList,x.oneCell'=true)(hby:d.bytes<=1000)(hf:Et P f k T d.bytes)(hi:i<=rows.length)(hk:∀r∈rows,r.length=k)(hr:row.length=k)(hpk:0<k)(hsc:RG rows)(hsr:RG [row])(hlen:rows.length+1<=1073741824) :
  aP P f false [.mut none [.s .own rows],.val none [I (i:Nat)],.mut none [.s .own [row]]] [.mut none [.x],.val none [I (i:Nat)],.mut none [.x]] .one [.s .own (inse rows i row)]:=by
 subst hk0;refine⟨hf.has,λw S V vs hS hV hVV R=>?_⟩
 match vs,R with
 | [v,v1,v2],⟨R,hA1,hA2,_⟩=>
  have E:=bB.rep1 (show bB w S (V 0) none [C.s .own rows] v from R);have e1:v1=.int .i64 (i:Nat):=by
   have:=bB.rep1 (show bB w S NO none [C.v (.int .i64 (i:Nat))] v1 from hA1);cases this;rfl
  have N:=bB.rep1 (show bB w S (V 2) none [C.s .own [row]] v2 from hA2);subst e1;have hk2:∀r∈[row],r.length=d.size:=λr H=>by simp only[V1]at H;subst H;exact hr
  have hsc':RG (inse rows i row):=λr H=>(xY H).elim (λh=>hsr r (by simp[h])) (hsc r)
  have O:∀(w1:World)(vv:Value)(X:am),bx (λb o=>∃i,V i b o) w w1->(∀b o,X b o->V 0 b o\/V 2 b o\/(w.heap.size<=b/\b<w1.heap.size))->dM w1 S X (.s .own (inse rows i row)) vv->
    ∃v',Ending.returned vv=Ending.returned v'/\bx (λb o=>∃i,V i b o) w w1/\∃(X:am)(V':Nat->am)(S1:am),
   (∀b o,X b o->(∃i,V i b o)\/(b<w1.heap.size/\w.heap.size<=b))/\(∀i b o,V' i b o->(∃i,V i b o)\/(b<w1.heap.size/\w.heap.size<=b))/\
   (∀b o,S1 b o->(false=true/\S b o)\/(∃i,V i b o)\/(b<w1.heap.size/\w.heap.size<=b))/\
   (∀i i',i≠i'->∀b o,V' i b o->¬V' i' b o)/\(∀i b o,X b o->¬V' i b o)/\(∀b o,X b o->¬S1 b o)/\(∀i b o,V' i b o->¬S1 b o)/\
   fL w1 NO .one 1 v'/\cR w1 S1 X [.s .own (inse rows i row)] (co w1 .one v')/\DK w1 (λb o=>S b o\/S1 b o) V' [.mut none [.x],.val none [I (i:Nat)],.mut none [.x]] [v,.int .i64 (i:Nat),v2]:=by
   intro w1 vv X D hX hR;have hfr:Q6 (.s .own (inse rows i row)):=by simp only[Q6];exact⟨.inl (by simp),Ud hsc'⟩
   exact⟨_,rfl,D,X,λ_=>NO,NO,λb o h=>by
       rcases hX b o h with h|h|h
       · exact .inl ⟨0,h⟩
       · exact .inl ⟨2,h⟩
       · exact .inr ⟨h.2,h.1⟩,λ_ _ _ h=>h.elim,λ_ _ h=>h.elim,λ_ _ _ _ _ h=>h.elim,λ_ _ _ _ h=>h.elim,λ_ _ _ h=>h.elim,λ_ _ _ h=>h.elim,rfl,row1 (hR.fresh hfr),
       ⟨⟨rfl,λ_=>v,rfl,row1 (.x _ _ E.one)⟩,trivial,⟨rfl,λ_=>v2,rfl,row1 (.x _ _ N.one)⟩,trivial⟩⟩
  rcases N.els (by simp) hk2 with⟨h,-⟩|⟨vb,vc,u2,f2,rfl,-,hvc,hcell2,hu2,J⟩
  ·cases h
  simp only[List.length_singleton,Nat.one_mul]at hvc hu2;by_cases Y:i=rows.length
  ·have hreads:o9 w (some ⟨vb,0,none⟩) ([row].length*d.size) ((List.range ([row].length*d.size)).map u2):=by
    refine⟨by simp,λh=>(by cases h),λad j u had l=>?_⟩;cases had;rw[Addr.add_lit,X7];rw[X3]at l;cases L:(List.range ([row].length*d.size))[j]? with
    | none=>rw[L]at l;cases l
    | some j'=>
     obtain⟨U,a2⟩:=Z2.1 L;simp only[List.length_singleton,Nat.one_mul,List.length_range,List.getElem_range]at U a2;subst a2;rw[L]at l;simp only[Y5,C1]at l;subst l;exact hu2 j U
   obtain⟨v',w1,hrun,hk1,hR⟩:=r7 (P:=P) (ty:=T) ht hi0 hz hzs hz1 E hk (V:=V 2) (xr:=[row]) (u2:=u2) (f2:=f2) ⟨J.hk,λq L b o h=>(J.hf q L b o h).1,J.hd,J.hc⟩ (b:=some ⟨vb,0,none⟩) (c:=vc)
    hreads
    (λb o h h'=>hVV 0 2 (by decide) b o h h') (λb o h=>(hV 0 b o h).2) (λb o h=>(hV 0 b o h).1) (λb o h=>(hV 2 b o h).1) hS (by simp;omega) (by
      have:(rows.length+[row].length)*d.bytes<=1073741824*1000:=Nat.mul_le_mul (by simpa using hlen) hby;omega)
   have hins:inse rows i row=rows++[row]:=by unfold inse;rw[Y,X5,List.drop_length]
   rw[<-hins]at hR;have hfin:∀(base:Option Addr)(c:Nat),v=.slice base rows.length c->rows.length<=c->(base=none->rows.length=0/\c=0)->Calls P f #[v,.int .i64 (i:Nat),.slice (some ⟨vb,0,none⟩) 1 vc] w λe W=>e=.returned v'/\W=w1:=λbase c hv hc hb=>by
    subst hv;rw[Y];exact hf.end_ w w1 base rows.length c vb 1 vc v' rfl hc ω hb hrun
   have hgo:Calls P f #[v,.int .i64 (i:Nat),.slice (some ⟨vb,0,none⟩) 1 vc] w λe W=>e=.returned v'/\W=w1:=by
    rcases E.els (by simp) hk with⟨h0,a0,hv⟩|⟨g,Z,u,f',hv,hpos,F,-⟩
    ·exact hfin a0 0 (by rw[hv,h0];rfl) (by rw[h0];exact W3 0) λ_=>⟨by rw[h0];rfl,rfl⟩
    exact hfin _ Z hv F λh=>by cases h
   refine hgo.mono λe W ⟨he,hw⟩=>?_
   subst he hw;exact O W v' _ (hk1.up λb o h=>⟨0,h⟩) (λb o h=>h) hR
  rcases E.els (by simp) hk with⟨h0,a0,hv⟩|⟨g,Z,u,f',rfl,hpos,F,p,hu,hE⟩
  ·rw[h0]at hi Y;simp at hi Y;omega
  have hlt:i<rows.length:=ω
  have A:∀(n j:Nat)(y:Value)(uu:Nat->Value),((List.range n).map uu)[j]? = some y->j<n/\y=uu j:=λn j y uu l=>by
   rw[X3]at l;cases hr:(List.range n)[j]? with
   | none=>rw[hr]at l;cases l
   | some j'=>
    obtain⟨h1,M⟩:=Z2.1 hr;simp at h1 M;subst M;rw[hr]at l;simp only[Y5,C1]at l;exact⟨h1,l.symm⟩
  have Q:∀(n j:Nat)(uu:Nat->Value),j<n->((List.range n).map uu)[j]? = some (uu j):=λn j uu l=>by
   rw[X3,W7 l];rfl
  obtain⟨olds,B⟩ : ∃olds,olds=(List.range (rows.length*d.size)).map u:=⟨_,rfl⟩
  obtain⟨vs,hvs⟩ : ∃vs,vs=(List.range d.size).map u2:=⟨_,rfl⟩
  have hol:olds.length=rows.length*d.size:=by rw[B];simp
  have hvl:vs.length=d.size:=by rw[hvs];simp
  have hck:rows.length*d.size<=Z*d.size:=C8 _ F;have hv0:=hcell2 0 (Nat.mul_pos ω hpk);have hg0:=p 0 (Nat.mul_pos ω hpk);have hne:vb≠g:=λh=>by
   subst h;exact hVV 0 2 (by decide) vb 0 hg0.1 hv0.1
  refine(hf.mid w g rows.length Z i vb 1 vc olds vs rfl hlt F ω hby hol hvl (λt y K=>by
      rw[B]at K;obtain⟨U,rfl⟩:=A _ _ _ _ K;exact hu t U) (λt y K=>by
      rw[hvs]at K;obtain⟨U,rfl⟩:=A _ _ _ _ K;exact hu2 t U) (λy K=>by
      rw[B]at K;obtain⟨j,l⟩:=List.getElem?_of_mem K;obtain⟨U,rfl⟩:=A _ _ _ _ l;exact hE.one U) (λy K=>by
      rw[hvs]at K;obtain⟨j,l⟩:=List.getElem?_of_mem K;obtain⟨U,rfl⟩:=A _ _ _ _ l;exact J.one (by simpa using U)) (λq L=>(p q L).2) hv0.2.2 hne).mono λe W ⟨G,c',he,hc',R⟩=>?_
  subst he;have D:bx (λb o=>∃i,V i b o) w W:=R.keep.up λb o ⟨h1,M⟩=>⟨0,by rw[h1];exact(p o M).1⟩
  refine O W _ (λb o=>V 0 b o\/(w.heap.size<=b/\b<W.heap.size)) D (λb o h=>h.elim .inl (λh=>.inr (.inr h))) ?_;refine .own _ .own G d.size (rows.length+1) c' _ (λq=>(cel W G q).getD undef) (λ_=>NO) trivial (Gw ..) (λr H=>(xY H).elim (λh=>by rw[h];exact hr) (hk r)) hc' ω (λq L=>⟨?_,R.all q L⟩) (λq L=>?_) (λ_ _ _ _ h=>h.elim) (λ_ _ _ _ _ _ _ h=>h.elim) (λa b r c ha hb=>?_)
  ·rcases R.at_ with⟨rfl,rfl⟩|h
   ·exact .inl (p q L).1
   exact .inr h
  ·obtain⟨z,hz',-⟩:=(R.all q (C4 L (C8 _ hc'))).1
   rw[hz'];rfl
  have hbk:b<d.size:=by
   have:r.length=d.size:=(xY (O2 ha)).elim (λh=>by rw[h];exact hr) (hk r);rw[<-this];exact(Z2.1 hb).1
  have hal:=(Z2.1 ha).1;rw[Gw]at hal;obtain⟨y,rfl,K⟩:=M1 (olds:=olds) (vs:=vs) hi hol hvl hbk (λa b r c h1 M=>by
      obtain⟨y,rfl⟩:=hsc r (O2 h1) c (O2 M);have h3:=hE.hc a b r _ h1 M;have h4:=rT rfl hk h1 M;generalize hyy:u (a*d.size+b)=yy at h3;cases h3;exact⟨_,rfl,by rw[B,Q _ _ _ (dI h4.1 h4.2),hyy]⟩) (λb c M=>by
      obtain⟨y,rfl⟩:=hsr row (by simp) c (O2 M);have h3:=J.hc 0 b row _ rfl M;simp only[Nat.zero_mul,X7]at h3;have h4:=(Z2.1 M).1;generalize hyy:u2 b=yy at h3;cases h3;exact⟨_,rfl,by rw[hvs,Q _ _ _ ω,hyy]⟩) ha hb
  have hz':=R.cel _ y K;simp only[hz',Option.getD_some];obtain⟨z,h5,h6⟩:=(R.all (a*d.size+b) (C4 (dI hal hbk) (C8 _ hc'))).1;rw[hz']at h5;cases h5;exact .v _ _ h6
set_option maxRecDepth 100000
def yg:∃(b:TypeInfo)(c:Value),Tryz.prog.info? 74=some b/\b.size=4/\b.zero=some c/\c.cells.size=4/\(∀v∈c.cells.toList,v.oneCell'=true)/\b.bytes=32:=by
 have h:=(qN 74 _ rfl).1;cases e : Tryz.prog.info? 74 with
 | none=>rw[e]at h;cases h
 | some x=>
  rw[e]at h;simp only[Y5,C1,Prod.mk.injEq]at h;obtain⟨a,g,i⟩:=h;cases d:x.zero with
  | none=>rw[d]at a;cases a
  | some z=>
   rw[d]at a;simp only[Y5,C1]at a;refine⟨x,z,rfl,g,d,?_,λv f=>?_,i⟩
   ·rw[<-Array.length_toList,a];rfl
   rw[a]at f;have j:(List.map cval [I 0,I 0,I 0,I 0]).all (λv=>v.oneCell')=true:=rfl;exact O4.1 j v f
def H5:∀w,(Go.sizeOf 74).run Tryz.prog w=.ok 4 w:=λ_=>by kernel_rfl
def GU(w w1:World)(base:Option Addr)(n c d m g:Nat)(r:Value)(i:m=1)(j:n<=c)(h:n<=1073741824)(k:base=none->n=0/\c=0)(b:(Builtin.append_ #[39,39] 39 #[.slice base n c,.slice (some ⟨d,0,none⟩) m g]).run Tryz.prog w=.ok r w1) :
  Calls Tryz.prog 67 #[.slice base n c,.int .i64 n,.slice (some ⟨d,0,none⟩) m g] w λe l=>e=.returned r/\l=w1:=by
 have mixed : Tryz.prog.follows .mixedOrders=true:=by kernel_rfl
 have o:0<m:=ω
 have p:m<=1:=ω
 clear i;have q:¬((m:Int)=0):=ω
 go_enter Tryz.func67,Tryz.ntmps67
 cases base with
 | none=>
  obtain⟨rfl,rfl⟩:=k rfl
  go_wp2_with (at_builtin;refine Lib.wpList_append_run _ rfl _ _ _ _ rfl _ _ rfl rfl _ _ b ?_)
  go_ret
  exact⟨rfl,rfl⟩
 | some a=>
  obtain⟨u,y,asp⟩:=a
  go_wp2_with (at_builtin;refine Lib.wpList_append_run _ rfl _ _ _ _ rfl _ _ rfl rfl _ _ b ?_)
  all_goals(go_ret;exact⟨rfl,rfl⟩)
def Dd(w:World)(g n c i p m C:Nat)(olds vs:List Value)(Z:m=1)(hi:i<n)(X:n<=1073741824)(M:n+m<=c)(N:olds.length=n*4)(D:vs.length=4)(ho:∀t u,olds[t]? = some u->cel w g t=some u)(L:∀t u,vs[t]? = some u->cel w p t=some u)(h1:∀u∈olds,u.oneCell'=true)(h2:∀u∈vs,u.oneCell'=true)(b:∀q,q<c*4->(∃z,cel w g q=some z/\z.oneCell'=true)/\fro w g q=NF)(O:fro w p 0=NF)(E:p≠g) :
  Calls Tryz.prog 67 #[.slice (some ⟨g,0,none⟩) n c,.int .i64 i,.slice (some ⟨p,0,none⟩) m C] w λe w'=>e=.returned (.slice (some ⟨g,0,none⟩) (n+m) c)/\w'=(w.drew.setCells g ((i+m)*4) (olds.drop (i*4))).setCells g (i*4) vs:=by
 have mixed : Tryz.prog.follows .mixedOrders=true:=by kernel_rfl
 have hm1:0<m:=ω
 have hm2:m<=1:=ω
 clear Z;have hz1:¬((m:Int)=0):=ω
 have hz2:¬((i:Int)=(n:Int)):=ω
 have hz3:¬((c:Int)<(n:Int)+(m:Int)):=ω
 have F:(Tryz.prog.info? 74).map (·.size)=some 4:=by obtain⟨i0,z0,e1,e2,-⟩:=yg;rw[e1];simp[e2]
 have cell:∀q,q<(n+m)*4->(w.cell? ⟨g,q,none⟩).isSome=true/\w.frozen? ⟨g,q,none⟩ = false:=λq Y=>by
  obtain⟨⟨z,hz,-⟩,hf⟩:=b q ω;exact⟨by show(cel w g q).isSome=true;rw[hz];rfl,Z0 Prod.fst hf⟩
 have P:∀Q R,(callFunc 193 #[.slice (some ⟨p,0,none⟩) m C,.slice (some ⟨g,(i+m)*4,none⟩) Q R]).run Tryz.prog w=.ok (.value (.bool false)) w:=λQ R=>by
  obtain⟨y,hy⟩ : ∃y,vs[0]? = some y:=⟨_,X2 ω⟩
  obtain⟨⟨y',S,-⟩,T⟩:=b 0 ω;rw[run_callFunc_extern Tryz.func193 (by kernel_rfl) (by kernel_rfl) (by kernel_rfl) (e:=Extern.SlicesOverlaps.overlaps #[39,39] #[4]) (by kernel_rfl),
    po (e:=74) (k:=4) Tryz.underlying39 H5 E (L 0 y hy) O S T _ m C Q R]
  rfl
 have l:(olds.drop (i*4)).length=(n - i)*4:=by rw[Z3,N];omega
 have hw1:IntKind.i64.wrap ((i:Int)+(m:Int))=(i:Int)+(m:Int):=by rw[IntKind.wrap_i64];omega
 have hw2:IntKind.i64.wrap ((n:Int)+(m:Int))=(n:Int)+(m:Int):=by rw[IntKind.wrap_i64];omega
 have hb1:(0:Int)<=(i:Int)+(m:Int):=ω
 have hin:i<=n:=ω
 have htn:((i:Int)+(m:Int)).toNat=i+m:=ω
 have hb2:¬(c=i+m):=ω
 have hb3:(i:Int)<=(n:Int)+(m:Int):=ω
 have hb4:¬(c=i):=ω
 have o:∀r B U,(Builtin.copy_ #[39,39] r #[.slice (some ⟨g,(i+m)*4,none⟩) (n+m - (i+m)) B,.slice (some ⟨g,i*4,none⟩) (n+m - i) U]).run Tryz.prog w.drew=.ok (goInt ((n - i:Nat):Int)) (w.drew.setCells g ((i+m)*4) (olds.drop (i*4))):=λr B U=>
  eD w.drew _ _ r 74 4 g ((i+m)*4) (n+m - (i+m)) B ⟨g,i*4,none⟩ (n+m - i) U (n - i) (olds.drop (i*4)) Tryz.underlying39 F (by simp only[Nat.min_def];split<;>omega) l
   (λj v a=>by rw[Addr.add_lit];exact ho (i*4+j) v (by rwa [List.getElem?_drop]at a))
   (λj a=>by rw[l]at a;exact(cell _ ω).1) (λj a=>by rw[l]at a;exact(cell _ ω).2) (λv L=>h1 v (List.mem_of_mem_drop L))
 obtain⟨G,d⟩ : ∃G,G=w.drew.setCells g ((i+m)*4) (olds.drop (i*4)):=⟨_,rfl⟩
 have H:∀q,q<(n+m)*4->(G.cell? ⟨g,q,none⟩).isSome=true:=λq Y=>by
  rw[d];exact lf g _ _ _ (λj a=>by rw[l]at a;exact(cell _ ω).1) _ (cell q Y).1
 have J:∀(W:World),(∀x,W.cell? x=G.cell? x)->(∀x,W.frozen? x=G.frozen? x)->∀r B,(Builtin.copy_ #[39,39] r #[.slice (some ⟨g,i*4,none⟩) (n+m - i) B,.slice (some ⟨p,0,none⟩) m C]).run Tryz.prog W=.ok (goInt ((1:Nat):Int)) (W.setCells g (i*4) vs):=λW K V r B=>
  eD W _ _ r 74 4 g (i*4) (n+m - i) B ⟨p,0,none⟩ m C 1 vs Tryz.underlying39 F (by simp only[Nat.min_def];split<;>omega) ω
   (λj v a=>by
     rw[Addr.add_lit,X7,K,d,World.cell?_setCells_out g _ _ _ _ (λh _=>absurd h E)];exact L j v a)
   (λj a=>by rw[K];rw[D]at a;exact H _ ω) (λj a=>by rw[V,d,World.frozen?_setCells];rw[D]at a;exact(cell _ ω).2) h2
 rw[<-d]at o;clear cell b
 go_enter Tryz.func67,Tryz.ntmps67
 go_wp2_with (simp only[P])
 go_region_law_o (refine iK rfl _ _ 39 39 rfl _ _ (by simp[Act.eval,Act.put]) (by simp[Act.eval,Act.put]) (o _ _ _) ?_)
 go_wp2_with (at_builtin;refine dQ _ rfl _ _ 39 39 rfl _ _ rfl rfl (J _ (λ_=>rfl) (λ_=>rfl) _ _) ?_)
 go_ret
 first|exact⟨rfl,rfl⟩|exact⟨rfl,by rw[d]⟩
variable{q:Value}{H:TypeInfo}
def Fa(J : Tryz.prog.info? 74=some H)(K:H.size=4)(V:H.zero=some q)(X:q.cells.size=4)(L:H.bytes=32)(w:World)(g n c i r m Y:Nat)(olds vs:List Value)(hm:m=1)(hi:i<n)(hn63:n<=1073741824)(hnc:n<=c)(C:c<n+m)(M:olds.length=n*4)(N:vs.length=4)(Z:∀t u,olds[t]? = some u->cel w g t=some u)(T:∀t u,vs[t]? = some u->cel w r t=some u)(h1:∀u∈olds,u.oneCell'=true)(h2:∀u∈vs,u.oneCell'=true) :
  Calls Tryz.prog 67 #[.slice (some ⟨g,0,none⟩) n c,.int .i64 i,.slice (some ⟨r,0,none⟩) m Y] w λe w'=>e=.returned (.slice (some ⟨w.heap.size,0,none⟩) (n+m) (grownCap w (n+m) c 74))/\
   w'=(((w.alloc (.cells ((olds.take (i*4)).toArray++Builtin.zeroCells q.cells (n+m - i)++Builtin.zeroCells q.cells (grownCap w (n+m) c 74 - (n+m))) 74)).drew.setCells w.heap.size (i*4) vs).drew).setCells w.heap.size ((i+m)*4) (olds.drop (i*4)):=by
 have mixed : Tryz.prog.follows .mixedOrders=true:=by kernel_rfl
 have hm1:0<m:=ω
 have hm2:m<=1:=ω
 clear hm;have hz1:¬((m:Int)=0):=ω
 have hz2:¬((i:Int)=(n:Int)):=ω
 have hz3:(c:Int)<(n:Int)+(m:Int):=ω
 have O:(Tryz.prog.info? 74).map (·.size)=some 4:=by rw[J];simp[K]
 have hbw:g<w.heap.size:=block_lt_of_cell (Z 0 _ (X2 ω));have hvw:r<w.heap.size:=block_lt_of_cell (T 0 _ (X2 ω));have P:(n:Int)+(m:Int) - (i:Int)=((n+m - i:Nat):Int):=ω
 have D:i+(n+m - i)=n+m:=ω
 have y:(Builtin.firstCells H.size i (.slice (some ⟨g,0,none⟩) i c)).run Tryz.prog w.drew=.ok (olds.take (i*4)).toArray w.drew:=by
  rw[K];exact run_firstCells_some w.drew 4 i ⟨g,0,none⟩ i c (olds.take (i*4)) (by rw[C2];omega) (λj v a=>by
    rw[Addr.add_lit,X7];rw[List.getElem?_take]at a;split at a
    · exact Z j v a
    cases a)
 have p:∀d,(Builtin.append_ #[39,3] d #[.slice (some ⟨g,0,none⟩) i c,.int .i64 ((n:Int)+(m:Int) - (i:Int))]).run Tryz.prog w =
   .ok (.slice (some ⟨w.heap.size,0,none⟩) (n+m) (grownCap w (n+m) c 74)) (w.drew.alloc (.cells ((olds.take (i*4)).toArray++Builtin.zeroCells q.cells (n+m - i)++Builtin.zeroCells q.cells (grownCap w (n+m) c 74 - (n+m))) 74)):=λd=>by
  have h:=Lib.run_append_grow_zeros w 39 3 d 74 H _ .i64 .i64 Tryz.underlying39 Tryz.underlying3 J V (some ⟨g,0,none⟩) i c (olds.take (i*4)) y (n+m - i) ω ω ω ω (by rw[L];omega) (by rw[L,D];exact growslice_fits C ω);rw[D]at h;rw[P];exact h
 obtain⟨G,U⟩ : ∃G,G=grownCap w (n+m) c 74:=⟨_,rfl⟩
 obtain⟨ROW,k⟩ : ∃ROW:Array Value,ROW=(olds.take (i*4)).toArray++Builtin.zeroCells q.cells (n+m - i)++Builtin.zeroCells q.cells (G - (n+m)):=⟨_,rfl⟩
 rw[<-U]at p |-;rw[<-k]at p |-;have hRl:(n+m)*4<=ROW.size:=by
  rw[k];simp only[Array.size_append,List.size_toArray,C2,size_zeroCells,X,M];omega
 obtain⟨o,b⟩ : ∃o,o=w.drew.alloc (.cells ROW 74):=⟨_,rfl⟩
 rw[<-b]at p;have hN:∀j,j<(n+m)*4->(o.cell? ⟨w.heap.size,j,none⟩).isSome=true:=λj a=>by
  rw[b,World.cell?_alloc_at (w:=w.drew) ROW _ w.heap.size j rfl,I7 ω];rfl
 have Q:∀j,o.frozen? ⟨w.heap.size,j,none⟩ = false:=λj=>by rw[b];exact World.frozen?_alloc_at (w:=w.drew) ROW _ w.heap.size j rfl
 have hOb:∀j v,w.cell? ⟨g,j,none⟩ = some v->o.cell? ⟨g,j,none⟩ = some v:=λj v h=>by rw[b,World.cell?_alloc_past (w:=w.drew) _ g j hbw];exact h
 have hOv:∀j v,w.cell? ⟨r,j,none⟩ = some v->o.cell? ⟨r,j,none⟩ = some v:=λj v h=>by rw[b,World.cell?_alloc_past (w:=w.drew) _ r j hvw];exact h
 have R:∀(W:World),(∀x,W.cell? x=o.cell? x)->(∀x,W.frozen? x=o.frozen? x)->∀d E,(Builtin.copy_ #[39,39] d #[.slice (some ⟨w.heap.size,i*4,none⟩) (n+m - i) E,.slice (some ⟨r,0,none⟩) m Y]).run Tryz.prog W=.ok (goInt ((1:Nat):Int)) (W.setCells w.heap.size (i*4) vs):=λW l F d E=>
  eD W _ _ d 74 4 w.heap.size (i*4) (n+m - i) E ⟨r,0,none⟩ m Y 1 vs Tryz.underlying39 O (by simp only[Nat.min_def];split<;>omega) ω
   (λj v a=>by rw[Addr.add_lit,X7,l];exact hOv _ v (T j v a))
   (λj a=>by rw[l];rw[N]at a;exact hN _ ω) (λj a=>by rw[F];exact Q _) h2
 have hGn:n+m<=G:=by rw[U];exact grownCap_ge w _ _ _
 have hG63:G<=9223372036854775807:=by
  have:=grownCap_le_maxLen w (n+m) c 74 (by unfold maxLen;omega);rw[<-U]at this;unfold maxLen at this;omega
 have hGi:¬(G=i):=ω
 have hGim:¬(G=i+m):=ω
 have hci:¬(c=i):=ω
 have hbN:g≠w.heap.size:=ω
 have S:(olds.drop (i*4)).length=(n - i)*4:=by rw[Z3,M];omega
 have B:∀(W:World),(∀x,W.cell? x=(o.setCells w.heap.size (i*4) vs).cell? x)->(∀x,W.frozen? x=(o.setCells w.heap.size (i*4) vs).frozen? x)->∀d E sc,(Builtin.copy_ #[39,39] d #[.slice (some ⟨w.heap.size,(i+m)*4,none⟩) (n+m - (i+m)) E,.slice (some ⟨g,i*4,none⟩) (n - i) sc]).run Tryz.prog W=.ok (goInt ((n - i:Nat):Int)) (W.setCells w.heap.size ((i+m)*4) (olds.drop (i*4))):=λW l F d E sc=>
  eD W _ _ d 74 4 w.heap.size ((i+m)*4) (n+m - (i+m)) E ⟨g,i*4,none⟩ (n - i) sc (n - i) (olds.drop (i*4)) Tryz.underlying39 O (by simp only[Nat.min_def];split<;>omega) S
   (λj v a=>by
     rw[Addr.add_lit,l,World.cell?_setCells_out _ _ _ _ _ (λh _=>absurd h hbN)];exact hOb _ v (Z (i*4+j) v (by rwa [List.getElem?_drop]at a)))
   (λj a=>by rw[l];rw[S]at a;exact lf _ _ _ _ (λt ht=>by rw[N]at ht;exact hN _ ω) _ (hN _ ω))
   (λj a=>by rw[F,World.frozen?_setCells];exact Q _) (λv T=>h1 v (List.mem_of_mem_drop T))
 subst b;have hE1:∀x,((w.alloc (.cells ROW 74)).drew).cell? x=(w.drew.alloc (.cells ROW 74)).cell? x:=λx=>rfl
 have hE2:∀x,((w.alloc (.cells ROW 74)).drew).frozen? x=(w.drew.alloc (.cells ROW 74)).frozen? x:=λx=>rfl
 have hF1:∀x,(((w.alloc (.cells ROW 74)).drew.setCells w.heap.size (i*4) vs).drew).cell? x=((w.drew.alloc (.cells ROW 74)).setCells w.heap.size (i*4) vs).cell? x:=λx=>rfl
 have hF2:∀x,(((w.alloc (.cells ROW 74)).drew.setCells w.heap.size (i*4) vs).drew).frozen? x=((w.drew.alloc (.cells ROW 74)).setCells w.heap.size (i*4) vs).frozen? x:=λx=>rfl
 have hw1:IntKind.i64.wrap ((i:Int)+(m:Int))=(i:Int)+(m:Int):=by rw[IntKind.wrap_i64];omega
 have hw2:IntKind.i64.wrap ((n:Int)+(m:Int))=(n:Int)+(m:Int):=by rw[IntKind.wrap_i64];omega
 have hw3:IntKind.i64.wrap ((n:Int)+(m:Int) - (i:Int))=(n:Int)+(m:Int) - (i:Int):=by rw[IntKind.wrap_i64];omega
 have hb1:(0:Int)<=(i:Int)+(m:Int):=ω
 have hin:i<=n:=ω
 have htn:((i:Int)+(m:Int)).toNat=i+m:=ω
 have hb3:(i:Int)<=(n:Int):=ω
 clear P D y k U hRl
 go_enter Tryz.func67,Tryz.ntmps67
 go_wp2_with (first
   | (at_builtin;refine Lib.wpList_append_run _ rfl _ _ _ _ rfl _ _ rfl rfl _ _ (p _) ?_)
   | (at_builtin;refine dQ _ rfl _ _ 39 39 rfl _ _ rfl rfl (R _ hE1 hE2 _ _) ?_)
   | (at_builtin;refine dQ _ rfl _ _ 39 39 rfl _ _ rfl rfl (B _ (λ_=>rfl) (λ_=>rfl) _ _ _) ?_))
 go_region_law_o (refine iK rfl _ _ 39 39 rfl (.slice (some ⟨w.heap.size,(i+m)*4,none⟩) (n+m - (i+m)) (G - (i+m))) (.slice (some ⟨g,i*4,none⟩) (n - i) (c - i)) (by simp[Act.eval,Act.put]) (by simp[Act.eval,Act.put]) (B _ hF1 hF2 3 (G - (i+m)) (c - i)) ?_)
 go_wp2
 go_ret
 exact⟨rfl,rfl⟩
def Hl:Et Tryz.prog 67 4 39 32:=by
 refine⟨⟨_,Tryz.func67,by kernel_rfl,by kernel_rfl⟩,GU,λw g n c i K m L olds M l o r h P b d u N p q j y B=>?_⟩;obtain⟨Q,R,C,D,E,k,F,G⟩:=yg;by_cases a:n+m<=c
 ·refine(Dd w g n c i K m L olds M l o h a b d u N p q j y B).mono λe O ⟨H,J⟩=>?_
  subst l;rw[J];exact⟨g,c,H,a,pB o a b d u p q j⟩
 refine(Fa C D E k G w g n c i K m L olds M l o h r ω b d u N p q).mono λe O ⟨H,J⟩=>?_
 subst l;rw[J,wo];exact⟨_,_,H,grownCap_ge w _ _ _,rG (e:=74) rfl rfl rfl rfl o (grownCap_ge w _ _ _) k F b d p q⟩
def vj(xs:List bo):RG (xs.map (bo.enc .own)):=λr b c a=>by
 obtain⟨s,-,rfl⟩:=Y4.1 b;simp[bo.enc]at a;rcases a with rfl|rfl|rfl|rfl<;>exact⟨_,rfl⟩
def xR(xs:List bo)(i:Nat)(x:bo)(j:i<=xs.length)(k:xs.length+1<=1073741824):zzB 67 false [.mut none [.s .own (xs.map (bo.enc .own))],.val none [I (i:Nat)],.mut none [.s .own [bo.enc .own x]]] [.mut none [.x],.val none [I (i:Nat)],.mut none [.x]] .one [.s .own ((inse xs i x).map (bo.enc .own))]:=by
 obtain⟨l,n,c,a,d,e,g,b⟩:=yg;have h:=Hb (row:=bo.enc .own x) Tryz.underlying39 c a d (by rw[a,e]) g (by rw[b];decide) (by rw[b];exact Hl) (rows:=xs.map (bo.enc .own)) (i:=i) (by rw[I1];exact j) (aV λ_=>rfl) rfl (by decide) (vj xs) (vj [x]) (by rw[I1];exact k)
 rwa [xy]at h
def ry:∃(b:TypeInfo)(c:Value),Tryz.prog.info? 175=some b/\b.size=3/\b.zero=some c/\c.cells.size=3/\(∀v∈c.cells.toList,v.oneCell'=true)/\b.bytes=24:=by
 have h:=(qN 175 _ rfl).1;cases e : Tryz.prog.info? 175 with
 | none=>rw[e]at h;cases h
 | some x=>
  rw[e]at h;simp only[Y5,C1,Prod.mk.injEq]at h;obtain⟨a,g,i⟩:=h;cases d:x.zero with
  | none=>rw[d]at a;cases a
  | some z=>
   rw[d]at a;simp only[Y5,C1]at a;refine⟨x,z,rfl,g,d,?_,λv f=>?_,i⟩
   ·rw[<-Array.length_toList,a];rfl
   rw[a]at f;have j:(List.map cval [I 0,I 0,I 0]).all (λv=>v.oneCell')=true:=rfl;exact O4.1 j v f
def Dj:∀w,(Go.sizeOf 175).run Tryz.prog w=.ok 3 w:=λ_=>by kernel_rfl
def Dz(w w1:World)(base:Option Addr)(n c d m g:Nat)(r:Value)(i:m=1)(j:n<=c)(h:n<=1073741824)(k:base=none->n=0/\c=0)(b:(Builtin.append_ #[38,38] 38 #[.slice base n c,.slice (some ⟨d,0,none⟩) m g]).run Tryz.prog w=.ok r w1) :
  Calls Tryz.prog 192 #[.slice base n c,.int .i64 n,.slice (some ⟨d,0,none⟩) m g] w λe l=>e=.returned r/\l=w1:=by
 have mixed : Tryz.prog.follows .mixedOrders=true:=by kernel_rfl
 have o:0<m:=ω
 have p:m<=1:=ω
 clear i;have q:¬((m:Int)=0):=ω
 go_enter Tryz.func192,Tryz.ntmps192
 cases base with
 | none=>
  obtain⟨rfl,rfl⟩:=k rfl
  go_wp2_with (at_builtin;refine Lib.wpList_append_run _ rfl _ _ _ _ rfl _ _ rfl rfl _ _ b ?_)
  go_ret
  exact⟨rfl,rfl⟩
 | some a=>
  obtain⟨u,y,asp⟩:=a
  go_wp2_with (at_builtin;refine Lib.wpList_append_run _ rfl _ _ _ _ rfl _ _ rfl rfl _ _ b ?_)
  all_goals(go_ret;exact⟨rfl,rfl⟩)
def yR(w:World)(g n c i p m C:Nat)(olds vs:List Value)(Z:m=1)(hi:i<n)(X:n<=1073741824)(M:n+m<=c)(N:olds.length=n*3)(D:vs.length=3)(ho:∀t u,olds[t]? = some u->cel w g t=some u)(L:∀t u,vs[t]? = some u->cel w p t=some u)(h1:∀u∈olds,u.oneCell'=true)(h2:∀u∈vs,u.oneCell'=true)(b:∀q,q<c*3->(∃z,cel w g q=some z/\z.oneCell'=true)/\fro w g q=NF)(O:fro w p 0=NF)(E:p≠g) :
  Calls Tryz.prog 192 #[.slice (some ⟨g,0,none⟩) n c,.int .i64 i,.slice (some ⟨p,0,none⟩) m C] w λe w'=>e=.returned (.slice (some ⟨g,0,none⟩) (n+m) c)/\w'=(w.drew.setCells g ((i+m)*3) (olds.drop (i*3))).setCells g (i*3) vs:=by
 have mixed : Tryz.prog.follows .mixedOrders=true:=by kernel_rfl
 have hm1:0<m:=ω
 have hm2:m<=1:=ω
 clear Z;have hz1:¬((m:Int)=0):=ω
 have hz2:¬((i:Int)=(n:Int)):=ω
 have hz3:¬((c:Int)<(n:Int)+(m:Int)):=ω
 have F:(Tryz.prog.info? 175).map (·.size)=some 3:=by obtain⟨i0,z0,e1,e2,-⟩:=ry;rw[e1];simp[e2]
 have cell:∀q,q<(n+m)*3->(w.cell? ⟨g,q,none⟩).isSome=true/\w.frozen? ⟨g,q,none⟩ = false:=λq Y=>by
  obtain⟨⟨z,hz,-⟩,hf⟩:=b q ω;exact⟨by show(cel w g q).isSome=true;rw[hz];rfl,Z0 Prod.fst hf⟩
 have P:∀Q R,(callFunc 343 #[.slice (some ⟨p,0,none⟩) m C,.slice (some ⟨g,(i+m)*3,none⟩) Q R]).run Tryz.prog w=.ok (.value (.bool false)) w:=λQ R=>by
  obtain⟨y,hy⟩ : ∃y,vs[0]? = some y:=⟨_,X2 ω⟩
  obtain⟨⟨y',S,-⟩,T⟩:=b 0 ω;rw[run_callFunc_extern Tryz.func343 (by kernel_rfl) (by kernel_rfl) (by kernel_rfl) (e:=Extern.SlicesOverlaps.overlaps #[38,38] #[4]) (by kernel_rfl),
    po (e:=175) (k:=3) Tryz.underlying38 Dj E (L 0 y hy) O S T _ m C Q R]
  rfl
 have l:(olds.drop (i*3)).length=(n - i)*3:=by rw[Z3,N];omega
 have hw1:IntKind.i64.wrap ((i:Int)+(m:Int))=(i:Int)+(m:Int):=by rw[IntKind.wrap_i64];omega
 have hw2:IntKind.i64.wrap ((n:Int)+(m:Int))=(n:Int)+(m:Int):=by rw[IntKind.wrap_i64];omega
 have hb1:(0:Int)<=(i:Int)+(m:Int):=ω
 have hin:i<=n:=ω
 have htn:((i:Int)+(m:Int)).toNat=i+m:=ω
 have hb2:¬(c=i+m):=ω
 have hb3:(i:Int)<=(n:Int)+(m:Int):=ω
 have hb4:¬(c=i):=ω
 have o:∀r B U,(Builtin.copy_ #[38,38] r #[.slice (some ⟨g,(i+m)*3,none⟩) (n+m - (i+m)) B,.slice (some ⟨g,i*3,none⟩) (n+m - i) U]).run Tryz.prog w.drew=.ok (goInt ((n - i:Nat):Int)) (w.drew.setCells g ((i+m)*3) (olds.drop (i*3))):=λr B U=>
  eD w.drew _ _ r 175 3 g ((i+m)*3) (n+m - (i+m)) B ⟨g,i*3,none⟩ (n+m - i) U (n - i) (olds.drop (i*3)) Tryz.underlying38 F (by simp only[Nat.min_def];split<;>omega) l
   (λj v a=>by rw[Addr.add_lit];exact ho (i*3+j) v (by rwa [List.getElem?_drop]at a))
   (λj a=>by rw[l]at a;exact(cell _ ω).1) (λj a=>by rw[l]at a;exact(cell _ ω).2) (λv L=>h1 v (List.mem_of_mem_drop L))
 obtain⟨G,d⟩ : ∃G,G=w.drew.setCells g ((i+m)*3) (olds.drop (i*3)):=⟨_,rfl⟩
 have H:∀q,q<(n+m)*3->(G.cell? ⟨g,q,none⟩).isSome=true:=λq Y=>by
  rw[d];exact lf g _ _ _ (λj a=>by rw[l]at a;exact(cell _ ω).1) _ (cell q Y).1
 have J:∀(W:World),(∀x,W.cell? x=G.cell? x)->(∀x,W.frozen? x=G.frozen? x)->∀r B,(Builtin.copy_ #[38,38] r #[.slice (some ⟨g,i*3,none⟩) (n+m - i) B,.slice (some ⟨p,0,none⟩) m C]).run Tryz.prog W=.ok (goInt ((1:Nat):Int)) (W.setCells g (i*3) vs):=λW K V r B=>
  eD W _ _ r 175 3 g (i*3) (n+m - i) B ⟨p,0,none⟩ m C 1 vs Tryz.underlying38 F (by simp only[Nat.min_def];split<;>omega) ω
   (λj v a=>by
     rw[Addr.add_lit,X7,K,d,World.cell?_setCells_out g _ _ _ _ (λh _=>absurd h E)];exact L j v a)
   (λj a=>by rw[K];rw[D]at a;exact H _ ω) (λj a=>by rw[V,d,World.frozen?_setCells];rw[D]at a;exact(cell _ ω).2) h2
 rw[<-d]at o;clear cell b
 go_enter Tryz.func192,Tryz.ntmps192
 go_wp2_with (simp only[P])
 go_region_law_o (refine iK rfl _ _ 38 38 rfl _ _ (by simp[Act.eval,Act.put]) (by simp[Act.eval,Act.put]) (o _ _ _) ?_)
 go_wp2_with (at_builtin;refine dQ _ rfl _ _ 38 38 rfl _ _ rfl rfl (J _ (λ_=>rfl) (λ_=>rfl) _ _) ?_)
 go_ret
 first|exact⟨rfl,rfl⟩|exact⟨rfl,by rw[d]⟩
def zE(J : Tryz.prog.info? 175=some H)(K:H.size=3)(V:H.zero=some q)(X:q.cells.size=3)(L:H.bytes=24)(w:World)(g n c i r m Y:Nat)(olds vs:List Value)(hm:m=1)(hi:i<n)(hn63:n<=1073741824)(hnc:n<=c)(C:c<n+m)(M:olds.length=n*3)(N:vs.length=3)(Z:∀t u,olds[t]? = some u->cel w g t=some u)(T:∀t u,vs[t]? = some u->cel w r t=some u)(h1:∀u∈olds,u.oneCell'=true)(h2:∀u∈vs,u.oneCell'=true) :
  Calls Tryz.prog 192 #[.slice (some ⟨g,0,none⟩) n c,.int .i64 i,.slice (some ⟨r,0,none⟩) m Y] w λe w'=>e=.returned (.slice (some ⟨w.heap.size,0,none⟩) (n+m) (grownCap w (n+m) c 175))/\
   w'=(((w.alloc (.cells ((olds.take (i*3)).toArray++Builtin.zeroCells q.cells (n+m - i)++Builtin.zeroCells q.cells (grownCap w (n+m) c 175 - (n+m))) 175)).drew.setCells w.heap.size (i*3) vs).drew).setCells w.heap.size ((i+m)*3) (olds.drop (i*3)):=by
 have mixed : Tryz.prog.follows .mixedOrders=true:=by kernel_rfl
 have hm1:0<m:=ω
 have hm2:m<=1:=ω
 clear hm;have hz1:¬((m:Int)=0):=ω
 have hz2:¬((i:Int)=(n:Int)):=ω
 have hz3:(c:Int)<(n:Int)+(m:Int):=ω
 have O:(Tryz.prog.info? 175).map (·.size)=some 3:=by rw[J];simp[K]
 have hbw:g<w.heap.size:=block_lt_of_cell (Z 0 _ (X2 ω));have hvw:r<w.heap.size:=block_lt_of_cell (T 0 _ (X2 ω));have P:(n:Int)+(m:Int) - (i:Int)=((n+m - i:Nat):Int):=ω
 have D:i+(n+m - i)=n+m:=ω
 have y:(Builtin.firstCells H.size i (.slice (some ⟨g,0,none⟩) i c)).run Tryz.prog w.drew=.ok (olds.take (i*3)).toArray w.drew:=by
  rw[K];exact run_firstCells_some w.drew 3 i ⟨g,0,none⟩ i c (olds.take (i*3)) (by rw[C2];omega) (λj v a=>by
    rw[Addr.add_lit,X7];rw[List.getElem?_take]at a;split at a
    · exact Z j v a
    cases a)
 have p:∀d,(Builtin.append_ #[38,3] d #[.slice (some ⟨g,0,none⟩) i c,.int .i64 ((n:Int)+(m:Int) - (i:Int))]).run Tryz.prog w =
   .ok (.slice (some ⟨w.heap.size,0,none⟩) (n+m) (grownCap w (n+m) c 175)) (w.drew.alloc (.cells ((olds.take (i*3)).toArray++Builtin.zeroCells q.cells (n+m - i)++Builtin.zeroCells q.cells (grownCap w (n+m) c 175 - (n+m))) 175)):=λd=>by
  have h:=Lib.run_append_grow_zeros w 38 3 d 175 H _ .i64 .i64 Tryz.underlying38 Tryz.underlying3 J V (some ⟨g,0,none⟩) i c (olds.take (i*3)) y (n+m - i) ω ω ω ω (by rw[L];omega) (by rw[L,D];exact growslice_fits C ω);rw[D]at h;rw[P];exact h
 obtain⟨G,U⟩ : ∃G,G=grownCap w (n+m) c 175:=⟨_,rfl⟩
 obtain⟨ROW,k⟩ : ∃ROW:Array Value,ROW=(olds.take (i*3)).toArray++Builtin.zeroCells q.cells (n+m - i)++Builtin.zeroCells q.cells (G - (n+m)):=⟨_,rfl⟩
 rw[<-U]at p |-;rw[<-k]at p |-;have hRl:(n+m)*3<=ROW.size:=by
  rw[k];simp only[Array.size_append,List.size_toArray,C2,size_zeroCells,X,M];omega
 obtain⟨o,b⟩ : ∃o,o=w.drew.alloc (.cells ROW 175):=⟨_,rfl⟩
 rw[<-b]at p;have hN:∀j,j<(n+m)*3->(o.cell? ⟨w.heap.size,j,none⟩).isSome=true:=λj a=>by
  rw[b,World.cell?_alloc_at (w:=w.drew) ROW _ w.heap.size j rfl,I7 ω];rfl
 have Q:∀j,o.frozen? ⟨w.heap.size,j,none⟩ = false:=λj=>by rw[b];exact World.frozen?_alloc_at (w:=w.drew) ROW _ w.heap.size j rfl
 have hOb:∀j v,w.cell? ⟨g,j,none⟩ = some v->o.cell? ⟨g,j,none⟩ = some v:=λj v h=>by rw[b,World.cell?_alloc_past (w:=w.drew) _ g j hbw];exact h
 have hOv:∀j v,w.cell? ⟨r,j,none⟩ = some v->o.cell? ⟨r,j,none⟩ = some v:=λj v h=>by rw[b,World.cell?_alloc_past (w:=w.drew) _ r j hvw];exact h
 have R:∀(W:World),(∀x,W.cell? x=o.cell? x)->(∀x,W.frozen? x=o.frozen? x)->∀d E,(Builtin.copy_ #[38,38] d #[.slice (some ⟨w.heap.size,i*3,none⟩) (n+m - i) E,.slice (some ⟨r,0,none⟩) m Y]).run Tryz.prog W=.ok (goInt ((1:Nat):Int)) (W.setCells w.heap.size (i*3) vs):=λW l F d E=>
  eD W _ _ d 175 3 w.heap.size (i*3) (n+m - i) E ⟨r,0,none⟩ m Y 1 vs Tryz.underlying38 O (by simp only[Nat.min_def];split<;>omega) ω
   (λj v a=>by rw[Addr.add_lit,X7,l];exact hOv _ v (T j v a))
   (λj a=>by rw[l];rw[N]at a;exact hN _ ω) (λj a=>by rw[F];exact Q _) h2
 have hGn:n+m<=G:=by rw[U];exact grownCap_ge w _ _ _
 have hG63:G<=9223372036854775807:=by
  have:=grownCap_le_maxLen w (n+m) c 175 (by unfold maxLen;omega);rw[<-U]at this;unfold maxLen at this;omega
 have hGi:¬(G=i):=ω
 have hGim:¬(G=i+m):=ω
 have hci:¬(c=i):=ω
 have hbN:g≠w.heap.size:=ω
 have S:(olds.drop (i*3)).length=(n - i)*3:=by rw[Z3,M];omega
 have B:∀(W:World),(∀x,W.cell? x=(o.setCells w.heap.size (i*3) vs).cell? x)->(∀x,W.frozen? x=(o.setCells w.heap.size (i*3) vs).frozen? x)->∀d E sc,(Builtin.copy_ #[38,38] d #[.slice (some ⟨w.heap.size,(i+m)*3,none⟩) (n+m - (i+m)) E,.slice (some ⟨g,i*3,none⟩) (n - i) sc]).run Tryz.prog W=.ok (goInt ((n - i:Nat):Int)) (W.setCells w.heap.size ((i+m)*3) (olds.drop (i*3))):=λW l F d E sc=>
  eD W _ _ d 175 3 w.heap.size ((i+m)*3) (n+m - (i+m)) E ⟨g,i*3,none⟩ (n - i) sc (n - i) (olds.drop (i*3)) Tryz.underlying38 O (by simp only[Nat.min_def];split<;>omega) S
   (λj v a=>by
     rw[Addr.add_lit,l,World.cell?_setCells_out _ _ _ _ _ (λh _=>absurd h hbN)];exact hOb _ v (Z (i*3+j) v (by rwa [List.getElem?_drop]at a)))
   (λj a=>by rw[l];rw[S]at a;exact lf _ _ _ _ (λt ht=>by rw[N]at ht;exact hN _ ω) _ (hN _ ω))
   (λj a=>by rw[F,World.frozen?_setCells];exact Q _) (λv T=>h1 v (List.mem_of_mem_drop T))
 subst b;have hE1:∀x,((w.alloc (.cells ROW 175)).drew).cell? x=(w.drew.alloc (.cells ROW 175)).cell? x:=λx=>rfl
 have hE2:∀x,((w.alloc (.cells ROW 175)).drew).frozen? x=(w.drew.alloc (.cells ROW 175)).frozen? x:=λx=>rfl
 have hF1:∀x,(((w.alloc (.cells ROW 175)).drew.setCells w.heap.size (i*3) vs).drew).cell? x=((w.drew.alloc (.cells ROW 175)).setCells w.heap.size (i*3) vs).cell? x:=λx=>rfl
 have hF2:∀x,(((w.alloc (.cells ROW 175)).drew.setCells w.heap.size (i*3) vs).drew).frozen? x=((w.drew.alloc (.cells ROW 175)).setCells w.heap.size (i*3) vs).frozen? x:=λx=>rfl
 have hw1:IntKind.i64.wrap ((i:Int)+(m:Int))=(i:Int)+(m:Int):=by rw[IntKind.wrap_i64];omega
 have hw2:IntKind.i64.wrap ((n:Int)+(m:Int))=(n:Int)+(m:Int):=by rw[IntKind.wrap_i64];omega
 have hw3:IntKind.i64.wrap ((n:Int)+(m:Int) - (i:Int))=(n:Int)+(m:Int) - (i:Int):=by rw[IntKind.wrap_i64];omega
 have hb1:(0:Int)<=(i:Int)+(m:Int):=ω
 have hin:i<=n:=ω
 have htn:((i:Int)+(m:Int)).toNat=i+m:=ω
 have hb3:(i:Int)<=(n:Int):=ω
 clear P D y k U hRl
 go_enter Tryz.func192,Tryz.ntmps192
 go_wp2_with (first
   | (at_builtin;refine Lib.wpList_append_run _ rfl _ _ _ _ rfl _ _ rfl rfl _ _ (p _) ?_)
   | (at_builtin;refine dQ _ rfl _ _ 38 38 rfl _ _ rfl rfl (R _ hE1 hE2 _ _) ?_)
   | (at_builtin;refine dQ _ rfl _ _ 38 38 rfl _ _ rfl rfl (B _ (λ_=>rfl) (λ_=>rfl) _ _ _) ?_))
 go_region_law_o (refine iK rfl _ _ 38 38 rfl (.slice (some ⟨w.heap.size,(i+m)*3,none⟩) (n+m - (i+m)) (G - (i+m))) (.slice (some ⟨g,i*3,none⟩) (n - i) (c - i)) (by simp[Act.eval,Act.put]) (by simp[Act.eval,Act.put]) (B _ hF1 hF2 3 (G - (i+m)) (c - i)) ?_)
 go_wp2
 go_ret
 exact⟨rfl,rfl⟩
def DR:Et Tryz.prog 192 3 38 24:=by
 refine⟨⟨_,Tryz.func192,by kernel_rfl,by kernel_rfl⟩,Dz,λw g n c i K m L olds M l o r h P b d u N p q j y B=>?_⟩;obtain⟨Q,R,C,D,E,k,F,G⟩:=ry;by_cases a:n+m<=c
 ·refine(yR w g n c i K m L olds M l o h a b d u N p q j y B).mono λe O ⟨H,J⟩=>?_
  subst l;rw[J];exact⟨g,c,H,a,pB o a b d u p q j⟩
 refine(zE C D E k G w g n c i K m L olds M l o h r ω b d u N p q).mono λe O ⟨H,J⟩=>?_
 subst l;rw[J,wo];exact⟨_,_,H,grownCap_ge w _ _ _,rG (e:=175) rfl rfl rfl rfl o (grownCap_ge w _ _ _) k F b d p q⟩
def qP(xs:List aC):RG (xs.map (aC.enc .own)):=λr b c a=>by
 obtain⟨s,-,rfl⟩:=Y4.1 b;simp[aC.enc]at a;rcases a with rfl|rfl|rfl<;>exact⟨_,rfl⟩
def DN(xs:List aC)(i:Nat)(x:aC)(j:i<=xs.length)(k:xs.length+1<=1073741824):zzB 192 false [.mut none [.s .own (xs.map (aC.enc .own))],.val none [I (i:Nat)],.mut none [.s .own [aC.enc .own x]]] [.mut none [.x],.val none [I (i:Nat)],.mut none [.x]] .one [.s .own ((inse xs i x).map (aC.enc .own))]:=by
 obtain⟨l,n,c,a,d,e,g,b⟩:=ry;have h:=Hb (row:=aC.enc .own x) Tryz.underlying38 c a d (by rw[a,e]) g (by rw[b];decide) (by rw[b];exact DR) (rows:=xs.map (aC.enc .own)) (i:=i) (by rw[I1];exact j) (aV λ_=>rfl) rfl (by decide) (qP xs) (qP [x]) (by rw[I1];exact k)
 rwa [xy]at h
def tO:∃(b:TypeInfo)(c:Value),Tryz.prog.info? 267=some b/\b.size=3/\b.zero=some c/\c.cells.size=3/\(∀v∈c.cells.toList,v.oneCell'=true)/\b.bytes=24:=by
 have h:=(qN 267 _ rfl).1;cases e : Tryz.prog.info? 267 with
 | none=>rw[e]at h;cases h
 | some x=>
  rw[e]at h;simp only[Y5,C1,Prod.mk.injEq]at h;obtain⟨a,g,i⟩:=h;cases d:x.zero with
  | none=>rw[d]at a;cases a
  | some z=>
   rw[d]at a;simp only[Y5,C1]at a;refine⟨x,z,rfl,g,d,?_,λv f=>?_,i⟩
   ·rw[<-Array.length_toList,a];rfl
   rw[a]at f;have j:(List.map cval [I 0,I 0,I 0]).all (λv=>v.oneCell')=true:=rfl;exact O4.1 j v f
def Gi:∀w,(Go.sizeOf 267).run Tryz.prog w=.ok 3 w:=λ_=>by kernel_rfl
def EI(w w1:World)(base:Option Addr)(n c d m g:Nat)(r:Value)(i:m=1)(j:n<=c)(h:n<=1073741824)(k:base=none->n=0/\c=0)(b:(Builtin.append_ #[37,37] 37 #[.slice base n c,.slice (some ⟨d,0,none⟩) m g]).run Tryz.prog w=.ok r w1) :
  Calls Tryz.prog 342 #[.slice base n c,.int .i64 n,.slice (some ⟨d,0,none⟩) m g] w λe l=>e=.returned r/\l=w1:=by
 have mixed : Tryz.prog.follows .mixedOrders=true:=by kernel_rfl
 have o:0<m:=ω
 have p:m<=1:=ω
 clear i;have q:¬((m:Int)=0):=ω
 go_enter Tryz.func342,Tryz.ntmps342
 cases base with
 | none=>
  obtain⟨rfl,rfl⟩:=k rfl
  go_wp2_with (at_builtin;refine Lib.wpList_append_run _ rfl _ _ _ _ rfl _ _ rfl rfl _ _ b ?_)
  go_ret
  exact⟨rfl,rfl⟩
 | some a=>
  obtain⟨u,y,asp⟩:=a
  go_wp2_with (at_builtin;refine Lib.wpList_append_run _ rfl _ _ _ _ rfl _ _ rfl rfl _ _ b ?_)
  all_goals(go_ret;exact⟨rfl,rfl⟩)
def zQ(w:World)(g n c i p m C:Nat)(olds vs:List Value)(Z:m=1)(hi:i<n)(X:n<=1073741824)(M:n+m<=c)(N:olds.length=n*3)(D:vs.length=3)(ho:∀t u,olds[t]? = some u->cel w g t=some u)(L:∀t u,vs[t]? = some u->cel w p t=some u)(h1:∀u∈olds,u.oneCell'=true)(h2:∀u∈vs,u.oneCell'=true)(b:∀q,q<c*3->(∃z,cel w g q=some z/\z.oneCell'=true)/\fro w g q=NF)(O:fro w p 0=NF)(E:p≠g) :
  Calls Tryz.prog 342 #[.slice (some ⟨g,0,none⟩) n c,.int .i64 i,.slice (some ⟨p,0,none⟩) m C] w λe w'=>e=.returned (.slice (some ⟨g,0,none⟩) (n+m) c)/\w'=(w.drew.setCells g ((i+m)*3) (olds.drop (i*3))).setCells g (i*3) vs:=by
 have mixed : Tryz.prog.follows .mixedOrders=true:=by kernel_rfl
 have hm1:0<m:=ω
 have hm2:m<=1:=ω
 clear Z;have hz1:¬((m:Int)=0):=ω
 have hz2:¬((i:Int)=(n:Int)):=ω
 have hz3:¬((c:Int)<(n:Int)+(m:Int)):=ω
 have F:(Tryz.prog.info? 267).map (·.size)=some 3:=by obtain⟨i0,z0,e1,e2,-⟩:=tO;rw[e1];simp[e2]
 have cell:∀q,q<(n+m)*3->(w.cell? ⟨g,q,none⟩).isSome=true/\w.frozen? ⟨g,q,none⟩ = false:=λq Y=>by
  obtain⟨⟨z,hz,-⟩,hf⟩:=b q ω;exact⟨by show(cel w g q).isSome=true;rw[hz];rfl,Z0 Prod.fst hf⟩
 have P:∀Q R,(callFunc 461 #[.slice (some ⟨p,0,none⟩) m C,.slice (some ⟨g,(i+m)*3,none⟩) Q R]).run Tryz.prog w=.ok (.value (.bool false)) w:=λQ R=>by
  obtain⟨y,hy⟩ : ∃y,vs[0]? = some y:=⟨_,X2 ω⟩
  obtain⟨⟨y',S,-⟩,T⟩:=b 0 ω;rw[run_callFunc_extern Tryz.func461 (by kernel_rfl) (by kernel_rfl) (by kernel_rfl) (e:=Extern.SlicesOverlaps.overlaps #[37,37] #[4]) (by kernel_rfl),
    po (e:=267) (k:=3) Tryz.underlying37 Gi E (L 0 y hy) O S T _ m C Q R]
  rfl
 have l:(olds.drop (i*3)).length=(n - i)*3:=by rw[Z3,N];omega
 have hw1:IntKind.i64.wrap ((i:Int)+(m:Int))=(i:Int)+(m:Int):=by rw[IntKind.wrap_i64];omega
 have hw2:IntKind.i64.wrap ((n:Int)+(m:Int))=(n:Int)+(m:Int):=by rw[IntKind.wrap_i64];omega
 have hb1:(0:Int)<=(i:Int)+(m:Int):=ω
 have hin:i<=n:=ω
 have htn:((i:Int)+(m:Int)).toNat=i+m:=ω
 have hb2:¬(c=i+m):=ω
 have hb3:(i:Int)<=(n:Int)+(m:Int):=ω
 have hb4:¬(c=i):=ω
 have o:∀r B U,(Builtin.copy_ #[37,37] r #[.slice (some ⟨g,(i+m)*3,none⟩) (n+m - (i+m)) B,.slice (some ⟨g,i*3,none⟩) (n+m - i) U]).run Tryz.prog w.drew=.ok (goInt ((n - i:Nat):Int)) (w.drew.setCells g ((i+m)*3) (olds.drop (i*3))):=λr B U=>
  eD w.drew _ _ r 267 3 g ((i+m)*3) (n+m - (i+m)) B ⟨g,i*3,none⟩ (n+m - i) U (n - i) (olds.drop (i*3)) Tryz.underlying37 F (by simp only[Nat.min_def];split<;>omega) l
   (λj v a=>by rw[Addr.add_lit];exact ho (i*3+j) v (by rwa [List.getElem?_drop]at a))
   (λj a=>by rw[l]at a;exact(cell _ ω).1) (λj a=>by rw[l]at a;exact(cell _ ω).2) (λv L=>h1 v (List.mem_of_mem_drop L))
 obtain⟨G,d⟩ : ∃G,G=w.drew.setCells g ((i+m)*3) (olds.drop (i*3)):=⟨_,rfl⟩
 have H:∀q,q<(n+m)*3->(G.cell? ⟨g,q,none⟩).isSome=true:=λq Y=>by
  rw[d];exact lf g _ _ _ (λj a=>by rw[l]at a;exact(cell _ ω).1) _ (cell q Y).1
 have J:∀(W:World),(∀x,W.cell? x=G.cell? x)->(∀x,W.frozen? x=G.frozen? x)->∀r B,(Builtin.copy_ #[37,37] r #[.slice (some ⟨g,i*3,none⟩) (n+m - i) B,.slice (some ⟨p,0,none⟩) m C]).run Tryz.prog W=.ok (goInt ((1:Nat):Int)) (W.setCells g (i*3) vs):=λW K V r B=>
  eD W _ _ r 267 3 g (i*3) (n+m - i) B ⟨p,0,none⟩ m C 1 vs Tryz.underlying37 F (by simp only[Nat.min_def];split<;>omega) ω
   (λj v a=>by
     rw[Addr.add_lit,X7,K,d,World.cell?_setCells_out g _ _ _ _ (λh _=>absurd h E)];exact L j v a)
   (λj a=>by rw[K];rw[D]at a;exact H _ ω) (λj a=>by rw[V,d,World.frozen?_setCells];rw[D]at a;exact(cell _ ω).2) h2
 rw[<-d]at o;clear cell b
 go_enter Tryz.func342,Tryz.ntmps342
 go_wp2_with (simp only[P])
 go_region_law_o (refine iK rfl _ _ 37 37 rfl _ _ (by simp[Act.eval,Act.put]) (by simp[Act.eval,Act.put]) (o _ _ _) ?_)
 go_wp2_with (at_builtin;refine dQ _ rfl _ _ 37 37 rfl _ _ rfl rfl (J _ (λ_=>rfl) (λ_=>rfl) _ _) ?_)
 go_ret
 first|exact⟨rfl,rfl⟩|exact⟨rfl,by rw[d]⟩
def BM(J : Tryz.prog.info? 267=some H)(K:H.size=3)(V:H.zero=some q)(X:q.cells.size=3)(L:H.bytes=24)(w:World)(g n c i r m Y:Nat)(olds vs:List Value)(hm:m=1)(hi:i<n)(hn63:n<=1073741824)(hnc:n<=c)(C:c<n+m)(M:olds.length=n*3)(N:vs.length=3)(Z:∀t u,olds[t]? = some u->cel w g t=some u)(T:∀t u,vs[t]? = some u->cel w r t=some u)(h1:∀u∈olds,u.oneCell'=true)(h2:∀u∈vs,u.oneCell'=true) :
  Calls Tryz.prog 342 #[.slice (some ⟨g,0,none⟩) n c,.int .i64 i,.slice (some ⟨r,0,none⟩) m Y] w λe w'=>e=.returned (.slice (some ⟨w.heap.size,0,none⟩) (n+m) (grownCap w (n+m) c 267))/\
   w'=(((w.alloc (.cells ((olds.take (i*3)).toArray++Builtin.zeroCells q.cells (n+m - i)++Builtin.zeroCells q.cells (grownCap w (n+m) c 267 - (n+m))) 267)).drew.setCells w.heap.size (i*3) vs).drew).setCells w.heap.size ((i+m)*3) (olds.drop (i*3)):=by
 have mixed : Tryz.prog.follows .mixedOrders=true:=by kernel_rfl
 have hm1:0<m:=ω
 have hm2:m<=1:=ω
 clear hm;have hz1:¬((m:Int)=0):=ω
 have hz2:¬((i:Int)=(n:Int)):=ω
 have hz3:(c:Int)<(n:Int)+(m:Int):=ω
 have O:(Tryz.prog.info? 267).map (·.size)=some 3:=by rw[J];simp[K]
 have hbw:g<w.heap.size:=block_lt_of_cell (Z 0 _ (X2 ω));have hvw:r<w.heap.size:=block_lt_of_cell (T 0 _ (X2 ω));have P:(n:Int)+(m:Int) - (i:Int)=((n+m - i:Nat):Int):=ω
 have D:i+(n+m - i)=n+m:=ω
 have y:(Builtin.firstCells H.size i (.slice (some ⟨g,0,none⟩) i c)).run Tryz.prog w.drew=.ok (olds.take (i*3)).toArray w.drew:=by
  rw[K];exact run_firstCells_some w.drew 3 i ⟨g,0,none⟩ i c (olds.take (i*3)) (by rw[C2];omega) (λj v a=>by
    rw[Addr.add_lit,X7];rw[List.getElem?_take]at a;split at a
    · exact Z j v a
    cases a)
 have p:∀d,(Builtin.append_ #[37,3] d #[.slice (some ⟨g,0,none⟩) i c,.int .i64 ((n:Int)+(m:Int) - (i:Int))]).run Tryz.prog w =
   .ok (.slice (some ⟨w.heap.size,0,none⟩) (n+m) (grownCap w (n+m) c 267)) (w.drew.alloc (.cells ((olds.take (i*3)).toArray++Builtin.zeroCells q.cells (n+m - i)++Builtin.zeroCells q.cells (grownCap w (n+m) c 267 - (n+m))) 267)):=λd=>by
  have h:=Lib.run_append_grow_zeros w 37 3 d 267 H _ .i64 .i64 Tryz.underlying37 Tryz.underlying3 J V (some ⟨g,0,none⟩) i c (olds.take (i*3)) y (n+m - i) ω ω ω ω (by rw[L];omega) (by rw[L,D];exact growslice_fits C ω);rw[D]at h;rw[P];exact h
 obtain⟨G,U⟩ : ∃G,G=grownCap w (n+m) c 267:=⟨_,rfl⟩
 obtain⟨ROW,k⟩ : ∃ROW:Array Value,ROW=(olds.take (i*3)).toArray++Builtin.zeroCells q.cells (n+m - i)++Builtin.zeroCells q.cells (G - (n+m)):=⟨_,rfl⟩
 rw[<-U]at p |-;rw[<-k]at p |-;have hRl:(n+m)*3<=ROW.size:=by
  rw[k];simp only[Array.size_append,List.size_toArray,C2,size_zeroCells,X,M];omega
 obtain⟨o,b⟩ : ∃o,o=w.drew.alloc (.cells ROW 267):=⟨_,rfl⟩
 rw[<-b]at p;have hN:∀j,j<(n+m)*3->(o.cell? ⟨w.heap.size,j,none⟩).isSome=true:=λj a=>by
  rw[b,World.cell?_alloc_at (w:=w.drew) ROW _ w.heap.size j rfl,I7 ω];rfl
 have Q:∀j,o.frozen? ⟨w.heap.size,j,none⟩ = false:=λj=>by rw[b];exact World.frozen?_alloc_at (w:=w.drew) ROW _ w.heap.size j rfl
 have hOb:∀j v,w.cell? ⟨g,j,none⟩ = some v->o.cell? ⟨g,j,none⟩ = some v:=λj v h=>by rw[b,World.cell?_alloc_past (w:=w.drew) _ g j hbw];exact h
 have hOv:∀j v,w.cell? ⟨r,j,none⟩ = some v->o.cell? ⟨r,j,none⟩ = some v:=λj v h=>by rw[b,World.cell?_alloc_past (w:=w.drew) _ r j hvw];exact h
 have R:∀(W:World),(∀x,W.cell? x=o.cell? x)->(∀x,W.frozen? x=o.frozen? x)->∀d E,(Builtin.copy_ #[37,37] d #[.slice (some ⟨w.heap.size,i*3,none⟩) (n+m - i) E,.slice (some ⟨r,0,none⟩) m Y]).run Tryz.prog W=.ok (goInt ((1:Nat):Int)) (W.setCells w.heap.size (i*3) vs):=λW l F d E=>
  eD W _ _ d 267 3 w.heap.size (i*3) (n+m - i) E ⟨r,0,none⟩ m Y 1 vs Tryz.underlying37 O (by simp only[Nat.min_def];split<;>omega) ω
   (λj v a=>by rw[Addr.add_lit,X7,l];exact hOv _ v (T j v a))
   (λj a=>by rw[l];rw[N]at a;exact hN _ ω) (λj a=>by rw[F];exact Q _) h2
 have hGn:n+m<=G:=by rw[U];exact grownCap_ge w _ _ _
 have hG63:G<=9223372036854775807:=by
  have:=grownCap_le_maxLen w (n+m) c 267 (by unfold maxLen;omega);rw[<-U]at this;unfold maxLen at this;omega
 have hGi:¬(G=i):=ω
 have hGim:¬(G=i+m):=ω
 have hci:¬(c=i):=ω
 have hbN:g≠w.heap.size:=ω
 have S:(olds.drop (i*3)).length=(n - i)*3:=by rw[Z3,M];omega
 have B:∀(W:World),(∀x,W.cell? x=(o.setCells w.heap.size (i*3) vs).cell? x)->(∀x,W.frozen? x=(o.setCells w.heap.size (i*3) vs).frozen? x)->∀d E sc,(Builtin.copy_ #[37,37] d #[.slice (some ⟨w.heap.size,(i+m)*3,none⟩) (n+m - (i+m)) E,.slice (some ⟨g,i*3,none⟩) (n - i) sc]).run Tryz.prog W=.ok (goInt ((n - i:Nat):Int)) (W.setCells w.heap.size ((i+m)*3) (olds.drop (i*3))):=λW l F d E sc=>
  eD W _ _ d 267 3 w.heap.size ((i+m)*3) (n+m - (i+m)) E ⟨g,i*3,none⟩ (n - i) sc (n - i) (olds.drop (i*3)) Tryz.underlying37 O (by simp only[Nat.min_def];split<;>omega) S
   (λj v a=>by
     rw[Addr.add_lit,l,World.cell?_setCells_out _ _ _ _ _ (λh _=>absurd h hbN)];exact hOb _ v (Z (i*3+j) v (by rwa [List.getElem?_drop]at a)))
   (λj a=>by rw[l];rw[S]at a;exact lf _ _ _ _ (λt ht=>by rw[N]at ht;exact hN _ ω) _ (hN _ ω))
   (λj a=>by rw[F,World.frozen?_setCells];exact Q _) (λv T=>h1 v (List.mem_of_mem_drop T))
 subst b;have hE1:∀x,((w.alloc (.cells ROW 267)).drew).cell? x=(w.drew.alloc (.cells ROW 267)).cell? x:=λx=>rfl
 have hE2:∀x,((w.alloc (.cells ROW 267)).drew).frozen? x=(w.drew.alloc (.cells ROW 267)).frozen? x:=λx=>rfl
 have hF1:∀x,(((w.alloc (.cells ROW 267)).drew.setCells w.heap.size (i*3) vs).drew).cell? x=((w.drew.alloc (.cells ROW 267)).setCells w.heap.size (i*3) vs).cell? x:=λx=>rfl
 have hF2:∀x,(((w.alloc (.cells ROW 267)).drew.setCells w.heap.size (i*3) vs).drew).frozen? x=((w.drew.alloc (.cells ROW 267)).setCells w.heap.size (i*3) vs).frozen? x:=λx=>rfl
 have hw1:IntKind.i64.wrap ((i:Int)+(m:Int))=(i:Int)+(m:Int):=by rw[IntKind.wrap_i64];omega
 have hw2:IntKind.i64.wrap ((n:Int)+(m:Int))=(n:Int)+(m:Int):=by rw[IntKind.wrap_i64];omega
 have hw3:IntKind.i64.wrap ((n:Int)+(m:Int) - (i:Int))=(n:Int)+(m:Int) - (i:Int):=by rw[IntKind.wrap_i64];omega
 have hb1:(0:Int)<=(i:Int)+(m:Int):=ω
 have hin:i<=n:=ω
 have htn:((i:Int)+(m:Int)).toNat=i+m:=ω
 have hb3:(i:Int)<=(n:Int):=ω
 clear P D y k U hRl
 go_enter Tryz.func342,Tryz.ntmps342
 go_wp2_with (first
   | (at_builtin;refine Lib.wpList_append_run _ rfl _ _ _ _ rfl _ _ rfl rfl _ _ (p _) ?_)
   | (at_builtin;refine dQ _ rfl _ _ 37 37 rfl _ _ rfl rfl (R _ hE1 hE2 _ _) ?_)
   | (at_builtin;refine dQ _ rfl _ _ 37 37 rfl _ _ rfl rfl (B _ (λ_=>rfl) (λ_=>rfl) _ _ _) ?_))
 go_region_law_o (refine iK rfl _ _ 37 37 rfl (.slice (some ⟨w.heap.size,(i+m)*3,none⟩) (n+m - (i+m)) (G - (i+m))) (.slice (some ⟨g,i*3,none⟩) (n - i) (c - i)) (by simp[Act.eval,Act.put]) (by simp[Act.eval,Act.put]) (B _ hF1 hF2 3 (G - (i+m)) (c - i)) ?_)
 go_wp2
 go_ret
 exact⟨rfl,rfl⟩
def Fp:Et Tryz.prog 342 3 37 24:=by
 refine⟨⟨_,Tryz.func342,by kernel_rfl,by kernel_rfl⟩,EI,λw g n c i K m L olds M l o r h P b d u N p q j y B=>?_⟩;obtain⟨Q,R,C,D,E,k,F,G⟩:=tO;by_cases a:n+m<=c
 ·refine(zQ w g n c i K m L olds M l o h a b d u N p q j y B).mono λe O ⟨H,J⟩=>?_
  subst l;rw[J];exact⟨g,c,H,a,pB o a b d u p q j⟩
 refine(BM C D E k G w g n c i K m L olds M l o h r ω b d u N p q).mono λe O ⟨H,J⟩=>?_
 subst l;rw[J,wo];exact⟨_,_,H,grownCap_ge w _ _ _,rG (e:=267) rfl rfl rfl rfl o (grownCap_ge w _ _ _) k F b d p q⟩
def sV(xs:List aA):RG (xs.map (aA.enc .own)):=λr b c a=>by
 obtain⟨s,-,rfl⟩:=Y4.1 b;simp[aA.enc]at a;rcases a with rfl|rfl|rfl<;>exact⟨_,rfl⟩
def EC(xs:List aA)(i:Nat)(x:aA)(j:i<=xs.length)(k:xs.length+1<=1073741824):zzB 342 false [.mut none [.s .own (xs.map (aA.enc .own))],.val none [I (i:Nat)],.mut none [.s .own [aA.enc .own x]]] [.mut none [.x],.val none [I (i:Nat)],.mut none [.x]] .one [.s .own ((inse xs i x).map (aA.enc .own))]:=by
 obtain⟨l,n,c,a,d,e,g,b⟩:=tO;have h:=Hb (row:=aA.enc .own x) Tryz.underlying37 c a d (by rw[a,e]) g (by rw[b];decide) (by rw[b];exact Fp) (rows:=xs.map (aA.enc .own)) (i:=i) (by rw[I1];exact j) (aV λ_=>rfl) rfl (by decide) (sV xs) (sV [x]) (by rw[I1];exact k)
 rwa [xy]at h
def oF(h:ac):C:=oE (h.o.map (aB.enc .own))
def gJ(h:ac):List C:=[.s .own (h.G.F.W.T.map (aH .own)),.s .own (h.G.F.W.a5.map (rB .own)),.s .own (h.G.F.R.K.map (bm.enc .own)),I h.G.Calls,.s .own (h.G.a0.map (rI .own)),oF h,.s .own (h.J.map (aA.enc .own)),.s .own (h.M.map (aC.enc .own)),.s .own (h.O.map (bo.enc .own)),.s .own (h.S.map (aE.enc .own)),.s .own (h.w.U.map (cL .own)),.s .own (h.w.y.map (aH .own)),I h.a7.b7,.s .own (h.a7.a6.map (aR.enc .own)),I h.b5,I h.b1,I h.c0,I h.b,B h.u,I h.Y.X.a3,I h.Y.X.a1,.s .own (h.Y.X.T.map (rI .own)),I h.Y.b0,I h.Y.b]
def K7(h:ac):List C:=[.x,.x,.x,.x,.x,oF h,.s .own (h.J.map (aA.enc .own)),.s .own (h.M.map (aC.enc .own)),.s .own (h.O.map (bo.enc .own)),.s .own (h.S.map (aE.enc .own)),.s .own (h.w.U.map (cL .own)),.s .own (h.w.y.map (aH .own)),I h.a7.b7,.s .own (h.a7.a6.map (aR.enc .own)),I h.b5,I h.b1,I h.c0,I h.b,B h.u,I h.Y.X.a3,I h.Y.X.a1,.s .own (h.Y.X.T.map (rI .own)),I h.Y.b0,I h.Y.b]
def Rx(h:ac):fz (oF h)=.s .V (h.o.map (aB.enc .V)):=(TP _).trans (List.cons.inj (dX h.o)).1
def ix(h:ac):dE (gJ h)=ac.enc .V h:=by
 have a:=ac.enc_fz h;have b:dE (gJ h)=(dE (ac.enc .own h)).set 5 (fz (oF h)):=rfl;rw[b,a,Rx];rfl
def P7{S Y:am}{h:ac}(d:cR w S Y (ac.enc .own h) u):cR w S Y (gJ h) u:=by
 obtain⟨f,b,e,g⟩:=d;refine⟨f,λj c a=>?_,e,g⟩;have i:gJ h=(ac.enc .own h).set 5 (oF h):=rfl;rw[i]at a;by_cases k:j=5
 ·subst k
  have:c=oF h:=by simpa[ac.enc] using a.symm
  rw[this];exact RX (b 5 _ rfl)
 rw[List.getElem?_set_ne ω]at a;exact b j c a
def HN(h:ac)(a:ac.sml h):zzA 62 false [.val (some 24) (ac.enc .V h)] .agg (gJ h):=by
 obtain⟨b,c⟩:=Aj h a;refine⟨b,λw S d g i=>(c w S d g i).mono λe w1 j=>?_⟩;obtain⟨v,k,l,X,n,o,p,q,r,t⟩:=j;exact⟨v,k,l,X,n,o,p,q,r,P7 t⟩
def RE{b:Bool}{X Y:Prop}(h:b=true)(a:X):cond b X Y:=by subst h;exact a
def H7{b:Bool}{X Y:Prop}(h:b=false)(a:Y):cond b X Y:=by subst h;exact a
def Ug(h:ac):bj [oF h]=false\/(bj [oF h]=true/\h.o=[]):=by
 unfold oF;cases a:h.o with
 | nil=>exact .inr ⟨rfl,rfl⟩
 | cons y b=>exact .inl rfl
def TY{h:ac}(a:bj [oF h]=true):[oF h]=bv .V h.o:=by
 unfold oF at a |-;cases b:h.o with
 | nil=>rfl
 | cons y c=>rw[b]at a;simp[oE,bj,ed]at a
def yV(h:ac)(n:Nat):ac × Int × Bool:=
 if(ax h.o (n:Nat)).2.2=false then(h,-1,false)
 else if(newsK h.G (ax h.o (n:Nat)).2.1 n).2=n then({h with G:=(newsK h.G (ax h.o (n:Nat)).2.1 n).1,o:=(ax h.o (n:Nat)).1},(ax h.o (n:Nat)).2.1,true)
 else({h with G:=unmN (newsK h.G (ax h.o (n:Nat)).2.1 n).1 (ax h.o (n:Nat)).2.1 (newsK h.G (ax h.o (n:Nat)).2.1 n).2},-1,false)
def oY(h:ac)(n:Nat)(w:bc h [])(U:h.G.Calls<=90000)(hn:1<=n/\n<=63):zzB 189 false [.ptr (gJ h),.val none [I (n:Nat)]] [.ptr (gJ (yV h n).1),.val none [I (n:Nat)]] (.tup [none,none]) [I (yV h n).2.1,B (yV h n).2.2]:=by
 have P:fk h<=32:=w.lens.ents;have M:=w;have C:dE [oF h]=bv .V h.o:=Z0 (λy=>[y]) (Rx h);have N:=DB h;have t:=yF (fk h:Nat) h.o (n:Nat) ⟨ω,ω⟩ w.rng ⟨ω,ω⟩ (by have:=w.lens.free;omega);unfold TL at t;have D:=iu w (show(1:Int)<=(n:Nat) by omega);unfold yV;have c:bj [oF h]=false\/(bj [oF h]=true/\(ax h.o (n:Nat)).2.2=false):=(Ug h).imp id λg=>⟨g.1,by rw[g.2];rfl⟩
 generalize ax h.o (n:Nat)=r at t D c |-;obtain⟨V,p,ok⟩:=r;simp only at t D c |-;refine fM 76 [] [(1,270,[15,16,17,18,19,20,21,22,23,24,14,25,26,27,0,1,2,3,4,5,6,7,8,9,10,11,12,13,14,1012,1013,15,1013,16])] [(0,0),(0,0)] Tryz.func189 rfl (λu q=>?_) (.inr ⟨trivial,trivial,trivial⟩);rcases c with c|⟨c,Q⟩
 ·cases ok with
   | false=>
    rw[CD rfl];rw[CB (by simp)]at t
    repeat'(first|refine gP ?_|(conv=>whnf);first|refine CC ?_|refine CK (N) ⟨⟨rfl,ix h⟩,trivial⟩ ?_|refine CK (t) ⟨⟨rfl,rfl⟩,⟨rfl,C⟩,⟨rfl,rfl⟩,trivial⟩ ?_|refine CC ?_|refine H7 c ?_)
    refine CH rfl rfl ?_;exact wC
   | true=>
    rw[CB (by simp)];rw[CD rfl]at t;obtain⟨O,L,E,u4⟩:=D rfl;change p+(n:Nat)<=(h.G.F.R.K.length:Nat) at L;change ∀q:Nat,p<=q->(q:Int)<p+(n:Nat)->(nth h.G.F.R.K q).e=0 at E
    have W:h.G.F.R.K.length<=32:=P;cases V with
    | nil=>
      repeat'(first|refine gP ?_|(conv=>whnf);first|refine CC ?_|refine CK (N) ⟨⟨rfl,ix h⟩,trivial⟩ ?_|refine CK (t) ⟨⟨rfl,rfl⟩,⟨rfl,C⟩,⟨rfl,rfl⟩,trivial⟩ ?_|refine CC ?_|refine H7 c ?_)
      (conv=>whnf)
      refine CJ (ι:=Nat) (λi=>[(0,.H .box (K7 h)),(1,.H .one [I ((n:Nat):Int)]),(6,.H .one ([oE (([]:List aB).map (aB.enc .own))])),(7,.H .one [I (p)]),(9,.H .box (ah.enc .own (newsK h.G p i).1)),(10,.H .one [I ((i:Nat):Int)])]) (λi=>i<=n/\(newsK h.G p i).2=i) (λi=>n - i) (0) ?_ (⟨X0 _,rfl⟩) λi w=>?_
      ·exact wC
      obtain⟨F,G⟩:=w;have s:=jm.of (p:=p) (n:=n) M.ker ω ⟨O,L⟩ E i F;have R:=s.calls;have S:=s.len;by_cases X:i<n
      ·have H:(nth (newsK h.G p i).1.F.R.K (p+(i:Nat)).toNat).e=0:=by
        rw[s.out _ (by rw[G];omega)];exact E _ ω ω
       have l:=ss (newsK h.G p i).1 (p+(i:Nat)) s.ker ω ⟨ω,ω⟩ H;have a:newsK h.G p (i+1)=((newK (newsK h.G p i).1 (p+(i:Nat))).1,if(newK (newsK h.G p i).1 (p+(i:Nat))).2=true then i+1 else i):=by
        show(if(newsK h.G p i).2=i then _ else _)=_;rw[CD G]
       cases e:(newK (newsK h.G p i).1 (p+(i:Nat))).2 with
       | true=>
        rw[e]at l a;rw[CD rfl]at a;have J:(newK (newsK h.G p i).1 (p+(i:Nat))).1=(newsK h.G p (i+1)).1:=by rw[a]
        rw[J]at l
        repeat'(first|refine gE ?_|(conv=>whnf);first|refine CC ?_|refine CK (l) ⟨⟨rfl,CR _⟩,⟨rfl,rfl⟩,trivial⟩ ?_)
        ((conv=>whnf);refine CF (i+1) ⟨ω,by rw[a]⟩ ω ?_;(exact wC))
       | false=>
        rw[e]at l a;rw[CB (by simp)]at a;have o:=jD (k:=h.G) (p:=p) (i:=i+1) (by rw[a];simp only;omega) (n - (i+1));rw[show i+1+(n - (i+1))=n by omega]at o;have K:=jm.of (p:=p) (n:=n) M.ker ω ⟨O,L⟩ E (i+1) ω;rw[CB ω,o.1];have b:=K.calls;rw[a]at K b |-;have d:=K.ker;simp only at d b |-;generalize (newK (newsK h.G p i).1 (p+(i:Nat))).1=k at l d b |-
        repeat'(first|refine gE ?_|(conv=>whnf);first|refine CC ?_|refine CK (l) ⟨⟨rfl,CR _⟩,⟨rfl,rfl⟩,trivial⟩ ?_)
        (conv=>whnf)
        refine CJ (ι:=Nat) (λj=>[(0,.H .box (K7 h)),(7,.H .one [I (p)]),(9,.H .box (ah.enc .own (unmN k p j))),(10,.H .one [I ((i:Nat):Int)]),(13,.H .one [I (p+(j:Nat))])]) (λj=>j<=i) (λj=>i - j) (0) ?_ (X0 _) λj Y=>?_
        ·exact wC
        have T:=v8 (unmN k p j) (p+(j:Nat)) (gV d p j) (by rw[(eP k p j).2.1];omega);by_cases Z:j<i
        ·repeat'(first|refine gE ?_|(conv=>whnf);first|refine CC ?_|refine CK (T) ⟨⟨rfl,CR _⟩,⟨rfl,rfl⟩,trivial⟩ ?_)
         ((conv=>whnf);refine CF (j+1) ω ω ?_;(exact wC))
        obtain rfl:j=i:=ω
        repeat'(first|refine gE ?_|(conv=>whnf);first|refine CC ?_)
        refine CH rfl rfl ?_;exact wC
      obtain rfl:i=n:=ω
      rw[CD G];generalize (newsK h.G p i).1=k
      repeat'(first|refine gE ?_|(conv=>whnf);first|refine CC ?_)
      refine CH rfl rfl ?_;exact wC
    | cons y ys=>
      repeat'(first|refine gP ?_|(conv=>whnf);first|refine CC ?_|refine CK (N) ⟨⟨rfl,ix h⟩,trivial⟩ ?_|refine CK (t) ⟨⟨rfl,rfl⟩,⟨rfl,C⟩,⟨rfl,rfl⟩,trivial⟩ ?_|refine CC ?_|refine H7 c ?_)
      (conv=>whnf)
      refine CJ (ι:=Nat) (λi=>[(0,.H .box (K7 h)),(1,.H .one [I ((n:Nat):Int)]),(6,.H .one ([oE ((y::ys).map (aB.enc .own))])),(7,.H .one [I (p)]),(9,.H .box (ah.enc .own (newsK h.G p i).1)),(10,.H .one [I ((i:Nat):Int)])]) (λi=>i<=n/\(newsK h.G p i).2=i) (λi=>n - i) (0) ?_ (⟨X0 _,rfl⟩) λi w=>?_
      ·exact wC
      obtain⟨F,G⟩:=w;have s:=jm.of (p:=p) (n:=n) M.ker ω ⟨O,L⟩ E i F;have R:=s.calls;have S:=s.len;by_cases X:i<n
      ·have H:(nth (newsK h.G p i).1.F.R.K (p+(i:Nat)).toNat).e=0:=by
        rw[s.out _ (by rw[G];omega)];exact E _ ω ω
       have l:=ss (newsK h.G p i).1 (p+(i:Nat)) s.ker ω ⟨ω,ω⟩ H;have a:newsK h.G p (i+1)=((newK (newsK h.G p i).1 (p+(i:Nat))).1,if(newK (newsK h.G p i).1 (p+(i:Nat))).2=true then i+1 else i):=by
        show(if(newsK h.G p i).2=i then _ else _)=_;rw[CD G]
       cases e:(newK (newsK h.G p i).1 (p+(i:Nat))).2 with
       | true=>
        rw[e]at l a;rw[CD rfl]at a;have J:(newK (newsK h.G p i).1 (p+(i:Nat))).1=(newsK h.G p (i+1)).1:=by rw[a]
        rw[J]at l
        repeat'(first|refine gE ?_|(conv=>whnf);first|refine CC ?_|refine CK (l) ⟨⟨rfl,CR _⟩,⟨rfl,rfl⟩,trivial⟩ ?_)
        ((conv=>whnf);refine CF (i+1) ⟨ω,by rw[a]⟩ ω ?_;(exact wC))
       | false=>
        rw[e]at l a;rw[CB (by simp)]at a;have o:=jD (k:=h.G) (p:=p) (i:=i+1) (by rw[a];simp only;omega) (n - (i+1));rw[show i+1+(n - (i+1))=n by omega]at o;have K:=jm.of (p:=p) (n:=n) M.ker ω ⟨O,L⟩ E (i+1) ω;rw[CB ω,o.1];have b:=K.calls;rw[a]at K b |-;have d:=K.ker;simp only at d b |-;generalize (newK (newsK h.G p i).1 (p+(i:Nat))).1=k at l d b |-
        repeat'(first|refine gE ?_|(conv=>whnf);first|refine CC ?_|refine CK (l) ⟨⟨rfl,CR _⟩,⟨rfl,rfl⟩,trivial⟩ ?_)
        (conv=>whnf)
        refine CJ (ι:=Nat) (λj=>[(0,.H .box (K7 h)),(7,.H .one [I (p)]),(9,.H .box (ah.enc .own (unmN k p j))),(10,.H .one [I ((i:Nat):Int)]),(13,.H .one [I (p+(j:Nat))])]) (λj=>j<=i) (λj=>i - j) (0) ?_ (X0 _) λj Y=>?_
        ·exact wC
        have T:=v8 (unmN k p j) (p+(j:Nat)) (gV d p j) (by rw[(eP k p j).2.1];omega);by_cases Z:j<i
        ·repeat'(first|refine gE ?_|(conv=>whnf);first|refine CC ?_|refine CK (T) ⟨⟨rfl,CR _⟩,⟨rfl,rfl⟩,trivial⟩ ?_)
         ((conv=>whnf);refine CF (j+1) ω ω ?_;(exact wC))
        obtain rfl:j=i:=ω
        repeat'(first|refine gE ?_|(conv=>whnf);first|refine CC ?_)
        refine CH rfl rfl ?_;exact wC
      obtain rfl:i=n:=ω
      rw[CD G];generalize (newsK h.G p i).1=k
      repeat'(first|refine gE ?_|(conv=>whnf);first|refine CC ?_)
      refine CH rfl rfl ?_;exact wC
 subst Q;rw[CD rfl];rw[CB (by simp)]at t
 repeat'(first|refine gP ?_|(conv=>whnf);first|refine CC ?_|refine CK (N) ⟨⟨rfl,ix h⟩,trivial⟩ ?_|refine CK (t) ⟨⟨rfl,rfl⟩,⟨rfl,TY c⟩,⟨rfl,rfl⟩,trivial⟩ ?_|refine CC ?_|refine RE c ?_)
 refine CH rfl rfl ?_;exact wC
def we(h:ac)(p c:Int)(w:h.J.length<=4096):zzB 190 false [.ptr (gJ h),.val (some 3) [I p,I c,I 0]] [.ptr (gJ {h with J:=im (DJ p) h.J ⟨p,c,0⟩}),.val (some 3) [I p,I c,I 0]] .one [I (hC (DJ p) h.J:Nat)]:=by
 refine fM 40 [(342,[1,0,1])] [(2,18,[6,7,8,9,10,11,12,13,14,15,16,17,18,19,20,21,22,23]),(4,264,[28,29,30,31,32,33,34,35,0,1,2,3,4,5,6,7,8,1000,9,10,11])] [(0,0),(0,0)] Tryz.func190 rfl (λu q=>?_)
 repeat'(first|refine gP ?_|(conv=>whnf);first|refine CC ?_)
 (conv=>whnf)
 refine CJ (ι:=Nat) (λi=>[(0,.H .box (gJ h)),(3,.H .box ([I p,I c,I 0])),(5,.H .one [I ((i:Nat):Int)])]) (λi=>i<=h.J.length/\∀(j:Nat)(z:aA),j<i->h.J[j]? = some z->DJ p z=false) (λi=>h.J.length - i) (0) ?_ (⟨X0 _,λj z y=>ω⟩) λi g=>?_
 ·exact wC
 obtain⟨k,d⟩:=g;by_cases l:i<h.J.length/\(nth h.J i).Q<p
 ·have b:=au l.1
  repeat'(first|refine gE ?_|(conv=>whnf);first|with_reducible refine CE (aa b) ?_|refine CC ?_|refine CG rfl (aa b) rfl ?_)
  ((conv=>whnf);refine CF (i+1) ⟨ω,dY b (W0 ω) d⟩ ω ?_;(exact wC))
 have a:hC (DJ p) h.J=i:=mg ω d λz e=>by
  have n:=(Z2.1 e).1;have:z=nth h.J i:=(bk e).symm;subst this;exact O0 ω
 have b:i<h.J.length->h.J[i]? = some (nth h.J i):=λo=>au o
 have r:=EC h.J i ⟨p,c,0⟩ ω ω;rw[kK a,a]
 repeat'(first|refine gE ?_|(conv=>whnf);first|with_reducible (first|refine CE (aa (b ω)) ?_|refine Bf.D (λt=>?_) (λt=>?_))|refine CC ?_|refine CG rfl (aa (b ω)) rfl ?_|refine CL (r) (.inl rfl) ?_)
 all_goals
  refine CH rfl rfl ?_;exact wC
def Je(h:ac)(i:Nat):gJ (slotT h i)=((gJ h).set 14 (I (zB h.b5))).set 6 (.s .own ((h.J.map (aA.enc .own)).set i [I (nth h.J i).Q,I (nth h.J i).d,I (gp (nth h.J i).a9 (mS h i))])):=by
 simp[gJ,slotT,qy,Z6,aA.enc,oF]
def zm(h:ac)(E:List Int)(i:Nat)(a:bc h E)(b:i<h.J.length)(p:(gM h i).length=0):zzA 188 false [.ptr (ac.enc .V h),.val none [I (i:Nat)]] (.tup [none,none]) [I (-1),B false]:=by
 have g:=au b;have c:=a.L.sok _ (ar b);have d:=dO c;have j:=(br.1 (aG.1 a.ker).2.2.1).2.2;have n:=a.lens.spans;have e:=lH a.L.sok (ps:=aT h (nth h.J i).Q) d (aT h (nth h.J i).Q).length;change 0<=dK h i/\dK h i<=65535 at e;have o:=fZ (nth h.J i).d;have k:=qY h i ⟨ω,λ_ _=>trivial⟩ ⟨by show h.G.F.R.K.length<=_;omega,λ_ _=>trivial⟩ a.L.sok b;rw[vP a.L.sok b]at k;have l:=p8 (nth h.J i).d (dK h i) ω;change ay _ _ _ _ _ (aH .own (gM h i)) at l;refine fO 63 [(2,7,[17,18,19,20,21,22,23]),(7,12,[43,44,45,46,47,48,49,50,51,52,53,54]),(8,5,[57,58,59,60,61])] Tryz.func188 rfl ?_ (.inr ⟨trivial,trivial,trivial⟩)
 repeat'(first|refine gB ?_|(conv=>whnf);first|refine CC ?_|refine CE (aa g) ?_|refine CG rfl (aa g) rfl ?_|refine C9 (o) ?_|refine C9 (k) ?_|refine C9 (l) ?_|refine CC ?_)
 rfl
def oD(h:ac)(E:List Int)(i:Nat)(b:bc h E)(j:i<h.J.length):zzB 188 false [.ptr (gJ h),.val none [I (i:Nat)]] [.ptr (gJ (iS h i).1),.val none [I (i:Nat)]] (.tup [none,none]) [I (iS h i).2,B (decide (0<(gM h i).length))]:=by
 have F:=b.lens.spans;have d:=au j;have c:=b.L.sok _ (ar j);have e:=dO c;have a:=b.nums;unfold cn at a;rw[C0]at a;have y:=(br.1 (aG.1 b.ker).2.2.1).2.2;have k:=lH b.L.sok (ps:=aT h (nth h.J i).Q) e (aT h (nth h.J i).Q).length;change 0<=dK h i/\dK h i<=65535 at k;have C:=fZ (nth h.J i).d;have l:=qY h i ⟨ω,λ_ _=>trivial⟩ ⟨by show h.G.F.R.K.length<=_;omega,λ_ _=>trivial⟩ b.L.sok j;rw[vP b.L.sok j]at l;have o:=p8 (nth h.J i).d (dK h i) ω;change ay _ _ _ _ _ (aH .own (gM h i)) at o;have p:=yj (nth h.J i).d (dK h i);change (gM h i).length<=16 at p;unfold iS;by_cases D:(gM h i).length=0
 ·rw[CD D,W0 ω]
  refine fM 63 [] [(2,7,[17,18,19,20,21,22,23]),(7,12,[43,44,45,46,47,48,49,50,51,52,53,54]),(8,5,[57,58,59,60,61])] [(0,0),(0,0)] Tryz.func188 rfl (λu q=>?_) (.inr ⟨trivial,trivial,trivial⟩)
  repeat'(first|refine gB ?_|(conv=>whnf);first|refine CC ?_|refine CE (aa d) ?_|refine CG rfl (aa d) rfl ?_|refine C9 (C) ?_|refine CK (l) ⟨⟨rfl,ix h⟩,⟨rfl,rfl⟩,trivial⟩ ?_|refine C9 (o) ?_|refine CC ?_)
  refine CH rfl rfl ?_;exact wC
 rw[CB D,O0 ω];have G:=uh (h:=h) (i:=i) ω;obtain⟨H,O,P⟩:=r8 G;have J:=(gm (aI c).2.2).2.2.1;have r:=rV h.b5 (n:=((gM h i).length:Nat)) ω;have K:=Fr h.b5 ((gM h i).length:Nat) ω ω;have M:=zU (nth h.J i).a9 (mS h i) e ω;obtain⟨N,t⟩:=O3 H;have w:=ri (nth h.J i) N c ω;unfold jQ at w;rw[<-t]at w;have g:(gM h i)[(Ki h.b5 ((gM h i).length:Nat)).toNat]? = some (mS h i):=au ω;unfold oX;rw[Je];refine fM 63 [] [(2,7,[17,18,19,20,21,22,23]),(7,12,[43,44,45,46,47,48,49,50,51,52,53,54]),(8,5,[57,58,59,60,61])] [(0,0),(0,0)] Tryz.func188 rfl (λu q=>?_) (.inr ⟨trivial,trivial,trivial⟩)
 repeat'(first|refine gB ?_|(conv=>whnf);first|refine CC ?_|refine CE (aa d) ?_|refine CG rfl (aa g) rfl ?_|refine CG rfl (aa d) rfl ?_|refine C9 (C) ?_|refine CK (l) ⟨⟨rfl,ix h⟩,⟨rfl,rfl⟩,trivial⟩ ?_|refine C9 (o) ?_|refine C9 (K) ?_|refine C9 (M) ?_|refine C9 (w) ?_|refine CO r.1 (aa g) ?_|refine CC ?_|refine CQ rfl rfl (aa d) rfl (O1 rfl) rfl ?_)
 refine CH rfl ?_ ?_
 ·rfl
 exact wC
end Go.Proofs.YtiopgblagimpmaaGreat.Ab
