/- What is known of the objects of a valid heap, and the facts that are told of them, as plain functions. No condition. -/
import Derived.Test.YtecefhjnejfheaaGreatKod
import Derived.Test.YtecefhjnejfheaaGreatKof
import Derived.Test.YtecefhjnejfheaaGreatKoe
set_option linter.unusedVariables false
set_option linter.defProp false
set_option linter.unusedSimpArgs false
set_option linter.constructorNameAsVariable false
namespace Go.Proofs.YtecefhjnejfheaaGreat.Ab
variable{a:Int}{la:List a7}{sp:List ax}
def tc(h:(denotes sp la a).b6=1):∃i:Nat,i<sp.length/\(denotes sp la a).c5=i/\cK (nth sp i) a=true/\denotes sp la a=oW i (nth sp i) a:=by
 unfold denotes at h |-;cases e:sp.findIdx? (cK · a) with
 | some i=>
  obtain⟨b,d,-⟩:=Z7.1 e;refine⟨i,b,rfl,?_,rfl⟩;rw[bm (W2 b)];exact d
 | none=>
  rw[e]at h;simp only at h;cases c:la.findIdx? (bf · a) with
  | some i=>rw[c]at h;simp at h
  | none=>rw[c]at h;simp at h
def EZ(h:(denotes sp la a).b6=3):∃i:Nat,i<la.length/\(denotes sp la a).c5=i/\bf (nth la i) a=true/\denotes sp la a = ⟨3,i,0,a - 16*(nth la i).Q⟩:=by
 unfold denotes at h |-;cases e:sp.findIdx? (cK · a) with
 | some i=>
  rw[e]at h;simp only[oW]at h;split at h<;>simp at h
 | none=>
  rw[e]at h;simp only at h |-;cases b:la.findIdx? (bf · a) with
  | some i=>
   obtain⟨c,d,-⟩:=Z7.1 b;refine⟨i,c,rfl,?_,rfl⟩;rw[bm (W2 c)];exact d
  | none=>rw[b]at h;simp at h
def gH{n:Int}(h:0<=aJ n):1<=n/\n<=8:=by
 unfold aJ at h;split at h
 ·omega
 split at h
 ·omega
 split at h
 ·omega
 split at h
 ·omega
 split at h<;>omega
variable{o:bn}{h:ab}
def Rc(c:jq h o=true):0<=o.Addr/\o.Addr<=2000/\1<=o.o/\o.o<=1000:=by
 unfold jq at c;simp only[I0,I7,C0]at c;obtain⟨-,⟨d,e⟩|⟨d,e⟩⟩:=c
 ·obtain⟨i,f,a,b,-⟩:=tc d
  rw[a,I3]at e;unfold cK bi at b;simp only[I0,C0]at b;have:=gH (n:=o.o) ω;omega
 obtain⟨i,f,a,b,-⟩:=EZ d;rw[a,I3]at e;unfold bf bF at b;simp only[I0,C0]at b;omega
def zh(a:cN h=true):cq h=true/\fo h=true:=by
 unfold cN at a;simp only[I0]at a;exact⟨a.1.1.2,a.1.2.1⟩
def RD(a:cN h=true):1<=h.d/\h.d<=1000000:=by
 have:=(zh a).1;unfold cq at this;rw[C0]at this;omega
variable{i:Nat}
def wO(c:cN h=true)(f:i<h.O.length):1<=(nth h.O i).Id/\(nth h.O i).Id<h.d/\0<=(nth h.O i).Addr/\(nth h.O i).Addr<=2000/\1<=(nth h.O i).o/\(nth h.O i).o<=1000/\∀j,j<i->(nth h.O j).Id≠(nth h.O i).Id:=by
 obtain⟨-,g⟩:=zh c;obtain⟨o,p⟩:=RD c;have a:=dI g f;rw[eZ ω ω]at a;unfold objAt gS at a;simp only[I0,C0,Bool.not_eq_true']at a;obtain⟨⟨k,d⟩,l⟩:=a;have b:=Rc l;refine⟨k.2.1,ω,b.1,b.2.1,b.2.2.1,b.2.2.2,λj n e=>?_⟩;rw[List.any_eq_false]at d;refine d (nth h.O j) ?_ (by unfold bR;exact O0 e);have:(h.O.take i)[j]? = some (nth h.O j):=by rw[List.getElem?_take,CD n,ao ω]
 exact I2 this
variable{j:Nat}
def TG(a:cN h=true)(c:i<h.O.length)(d:j<h.O.length)(f:i≠j):(nth h.O i).Id≠(nth h.O j).Id:=by
 rcases Nat.lt_or_ge i j with b|b
 ·exact(wO a d).2.2.2.2.2.2 i b
 exact λe=>(wO a c).2.2.2.2.2.2 j ω e.symm
def GY(cs:List Int):Nat->Int
 | 0=>0
 | n+1=>(GY cs n+(n+1)*nth cs n) % 9973
def UH(cs:List Int):∀n,0<=GY cs n/\GY cs n<=9972
 | 0=>by simp[GY]
 | n+1=>by simp only[GY];omega
def Hk(k:ah)(o:bn):Kj:=⟨o.Id,o.o,GY (cellsOf k o.Addr o.o.toNat) o.o.toNat⟩
def ql(h:ab):Nat->List Kj
 | 0=>[]
 | n+1=>ql h n++(h.O.filter (bR n)).map (Hk h.G)
def tl(n:Nat):∀(l:List bn),(l.filter λo:bn=>decide (o.Id<((n+1:Nat):Int))).length=(l.filter λo:bn=>decide (o.Id<(n:Int))).length+(l.filter (bR n)).length
 | []=>rfl
 | o::l=>by
  have a:=tl n l;simp only[List.filter_cons];rcases Int.lt_trichotomy o.Id n with h|h|h
  ·rw[CD (by simp;omega),CD (by simp;omega),CB (by simp[bR];omega)]
   simp only[List.length_cons];omega
  ·rw[CD (by simp;omega),CB (by simp;omega),CD (by simp[bR];omega)]
   simp only[List.length_cons];omega
  rw[CB (by simp;omega),CB (by simp;omega),CB (by simp[bR];omega)];exact a
def vF{h:ab}(a:∀o∈h.O,0<=o.Id):∀n:Nat,(ql h n).length=(h.O.filter λo:bn=>decide (o.Id<(n:Int))).length
 | 0=>by
  rw[List.filter_eq_nil_iff.2 (λo b=>by have:=a o b;simp;omega)];rfl
 | n+1=>by
  rw[ql,Y3,I1,vF a n,tl]
def wD(h:ab):List Kj:=if cN h then ql h h.d.toNat else []
def dX{α:Type}[Inhabited α](f:α->Int)(xs:List α):Nat->Int
 | 0=>0
 | i+1=>dX f xs i+f (nth xs i)
def jQ{α:Type}[Inhabited α]{f:α->Int}{xs:List α}{b:Int}(h:∀y∈xs,0<=f y/\f y<=b):∀i:Nat,i<=xs.length->0<=dX f xs i/\dX f xs i<=b*i
 | 0,_=>by simp[dX]
 | i+1,a=>by
  have c:=jQ h i ω;have d:=h _ (am (xs:=xs) (i:=i) ω);have e:b*((i+1:Nat):Int)=b*i+b:=by rw[Int.natCast_add,Int.mul_add];simp
  simp only[dX];omega
def cy(e:bk):Int:=if e.e≠0 then 1 else 0
def vA(e:bk):0<=cy e/\cy e<=1:=by unfold cy;split<;>omega
def fT(t:aH):Int:=dX cy t.J t.J.length
def j8(s:ax)(c:Nat):Bool:=aS s.b1 (((c:Nat):Int) / csz s.a)
def jl(s:ax)(n:Nat):List Int:=((List.range n).filter (j8 s)).map λ(i:Nat)=>(i:Int)
variable{n:Nat}{s:ax}
def EE(h:j8 s n=true):jl s (n+1)=jl s n++[(n:Int)]:=by
 unfold jl;rw[List.range_succ,List.filter_append,W6];simp[h]
def J9(h:j8 s n=false):jl s (n+1)=jl s n:=by
 unfold jl;rw[List.range_succ,List.filter_append,W6];simp[h]
def po(s:ax)(n:Nat):(jl s n).length<=n:=by
 unfold jl;rw[I1];exact O5 (List.length_filter_le _ _) (by simp)
variable{z:Int}
def JB : z∈jl s n↔∃c:Nat,c<n/\j8 s c=true/\z=c:=by
 unfold jl;simp only[Z4,t5,List.mem_range];constructor
 ·rintro⟨c,⟨a,b⟩,rfl⟩;exact⟨c,a,b,rfl⟩
 rintro⟨c,a,b,rfl⟩;exact⟨c,⟨a,b⟩,rfl⟩
def KZ(s:ax):Int:=((jl s 16).length:Nat)
def PV(s:ax):0<=KZ s/\KZ s<=16:=by have:=po s 16;unfold KZ;omega
def lE(sp:List ax)(la:List a7):Int:=dX KZ sp sp.length+dX (·.o) la la.length
def RJ(h:la.all bF=true):∀l∈la,0<=l.o/\l.o<=1000:=λl b=>by
 have a:=V4.1 h l b;unfold bF at a;rw[C0]at a;omega
def dY(o:bn):Int:=if 0<=aJ o.o then csz (aJ o.o) else o.o
def zd(a:cN h=true):∀o∈h.O,1<=o.o/\o.o<=1000:=λo b=>by
 obtain⟨i,c,rfl⟩:=aK b;obtain⟨f,g,j,k,d,e,-⟩:=wO a c;exact⟨d,e⟩
def csz8(k:Int):0<=csz k/\csz k<=8:=uy k
def Jj(a:cN h=true):∀o∈h.O,0<=dY o/\dY o<=1000:=λo b=>by
 have c:=zd a o b;have d:=csz8 (aJ o.o);unfold dY;split<;>omega
def vh:∀(a:List (List Int))(k:Nat),(∀l∈a,l.length<=8)->0<=dy k a/\dy k a<=64*a.length
 | [],_,_=>by simp[dy]
 | l::a,k,h=>by
  have d:=vh a (k+1) λy c=>h y (C6 _ c)
  have b:=NU k;have e:=Kx (h l (C2 ..)) b.1 b.2;simp only[dy,List.length_cons];omega
def qZ(c:a8):0<=cB c/\cB c<=256:=by
 unfold cB;split
 ·rename_i h
  obtain⟨b,a⟩:=mC h;have:=vh c.b 0 a;omega
 omega
def eJ(h:ab)(a:Int):Int:=csz (nth h.K (eX h (a / 16)).toNat).a
def cL(h:ab):eK:=
 ⟨dQ h,fT h.G.F.R,eE h.G.F.W,lE h.K h.M,dX dY h.O h.O.length,dX cB h.S h.S.length,quarCells h.a9.a5 h.a9.a5.length,dX (eJ h) (aF h.q) (aF h.q).length⟩
def T0(e:cN h=true)(f:a∈aF h.q):∃i:Nat,i<h.K.length/\(denotes h.K h.M a).c5=i/\eX h (a / 16)=i/\0<=a/\a<=600:=by
 obtain⟨-,g,-,-,-,-,-,-,j,-⟩:=iS e;have c:=V4.1 ((kA h).1 j).2 a f;unfold jX dr at c;simp only[I0,C0]at c;obtain⟨i,b,k,l,-⟩:=tc c.1.1;have d:=qH.of g;have n:=aC (d.sok _ (am b));have o:=(fZ (d.sok _ (am b))).1 l;refine⟨i,b,k,?_,ω,ω⟩;rw[show a / 16=(nth h.K i).Q by omega];exact l7 d b
def kh(a:eK):Bool:=decide ((0<=a.a1/\a.a1<=100000)/\(0<=a.c7/\a.c7<=100000)/\(0<=a.W/\a.W<=100000)/\(0<=a.d1/\a.d1<=100000)/\(0<=a.d2/\a.d2<=100000)/\(0<=a.c6/\a.c6<=100000)/\(0<=a.c3/\a.c3<=100000)/\(0<=a.c8/\a.c8<=100000)/\a.d1=a.d2+a.c6+a.c3+a.c8/\a.W<=a.c7/\a.c7<=a.a1)
def oU(h:ab)(p:Nat):List Int:=nth h.G.F.W.T (nth (tbl h).J p).j.toNat
def uo(h:ab)(p c:Nat):Bool:=(h.K.any λs=>decide (s.Q∈aP h (p:Nat))&&j8 s c) || h.M.any λl=>bf l (16*(p:Nat)+(c:Nat))
def jM(h:ab)(p:Nat):Bool:=cE 16 λc=>decide (nth (oU h p) c=0) || uo h p c
def bor(n m:Int):Int:=((n.toNat ||| m.toNat:Nat):Int)
def sT(sp:List ax)(p:Int)(b:Int):Nat->Int
 | 0=>b
 | j+1=>if(nth sp j).Q=p then bor (sT sp p b j) (nth sp j).b1 else sT sp p b j
def kS(sp:List ax)(ps:List Int)(b:Int):Nat->Int
 | 0=>b
 | k+1=>sT sp (nth ps k) (kS sp ps b k) sp.length
def iC(h:ab)(i:Nat):Int:=kS h.K (aP h (nth h.K i).Q) (nth h.K i).b1 (aP h (nth h.K i).Q).length
def Qj{n m:Int}(h1:0<=n/\n<=65535)(a:0<=m/\m<=65535):0<=bor n m/\bor n m<=65535:=by
 have b:n.toNat ||| m.toNat<2 ^ 16:=Nat.or_lt_two_pow ω ω
 unfold bor;omega
def wJ(h:∀s∈sp,bi s=true)(b:j<sp.length):0<=(nth sp j).b1/\(nth sp j).b1<=65535:=by
 have a:=h _ (am b);have c:=Hz (nth sp j).a;unfold bi at a;rw[C0]at a;omega
def w8{sp:List ax}(h:∀s∈sp,bi s=true){p b:Int}(a:0<=b/\b<=65535):∀j,j<=sp.length->0<=sT sp p b j/\sT sp p b j<=65535
 | 0,_=>a
 | j+1,d=>by
  have c:=w8 h (p:=p) a j ω;simp only[sT];split
  ·exact Qj c (wJ h ω)
  exact c
def sI{sp:List ax}(h:∀s∈sp,bi s=true){ps:List Int}{b:Int}(a:0<=b/\b<=65535):∀k,0<=kS sp ps b k/\kS sp ps b k<=65535
 | 0=>a
 | k+1=>by simp only[kS];exact w8 h (sI h a k) _ (W3 _)
variable{b:Int}
def oK{i:Int}(a:0<=b)(c:0<=i/\i<=15):aS b i=b.toNat.testBit i.toNat:=by
 unfold aS;rw[Nat.testBit_eq_decide_div_mod_eq];refine decide_eq_decide.2 ?_;obtain⟨n,rfl⟩ : ∃n:Nat,b=n:=⟨b.toNat,ω⟩
 rw[I3];have d:((n / 2 ^ i.toNat:Nat):Int)=(n:Int) / 2 ^ i.toNat:=by simp
 omega
def Jn{n m i:Int}(b:0<=n)(c:0<=m)(a:0<=i/\i<=15):aS (bor n m) i=(aS n i || aS m i):=by
 rw[oK (by unfold bor;omega) a,oK b a,oK c a];unfold bor;rw[I3,Nat.testBit_or]
def EP{sp:List ax}(h:∀s∈sp,bi s=true){p b i:Int}(k:0<=b/\b<=65535)(l:0<=i/\i<=15):∀j,j<=sp.length->(aS (sT sp p b j) i=true↔aS b i=true\/∃q,q<j/\(nth sp q).Q=p/\aS (nth sp q).b1 i=true)
 | 0,_=>by simp[sT]
 | j+1,t=>by
  have n:=EP h (p:=p) k l j ω;have o:=w8 h (p:=p) k j ω;have r:=wJ h (j:=j) ω;simp only[sT];split
  ·rename_i d
   rw[Jn o.1 r.1 l,I7,n];constructor
   ·rintro((e|⟨q,f,a⟩)|e)
    ·exact .inl e
    ·exact .inr ⟨q,ω,a⟩
    exact .inr ⟨j,ω,d,e⟩
   rintro(e|⟨q,f,a,c⟩)
   ·exact .inl (.inl e)
   by_cases g:q=j
   ·subst g;exact .inr c
   exact .inl (.inr ⟨q,ω,a,c⟩)
  rename_i d;rw[n];constructor
  ·rintro(e|⟨q,f,a⟩)
   ·exact .inl e
   exact .inr ⟨q,ω,a⟩
  rintro(e|⟨q,f,a,c⟩)
  ·exact .inl e
  by_cases g:q=j
  ·subst g;exact absurd a d
  exact .inr ⟨q,ω,a,c⟩
def Bv{sp:List ax}(h:∀s∈sp,bi s=true){ps:List Int}{b i:Int}(d:0<=b/\b<=65535)(f:0<=i/\i<=15):∀k,(aS (kS sp ps b k) i=true↔aS b i=true\/∃u,u<k/\∃q,q<sp.length/\(nth sp q).Q=nth ps u/\aS (nth sp q).b1 i=true)
 | 0=>by simp[kS]
 | k+1=>by
  have g:=Bv h (ps:=ps) d f k;have j:=sI h (ps:=ps) d k;simp only[kS];rw[EP h j f _ (W3 _),g];constructor
  ·rintro((e|⟨u,c,a⟩)|⟨q,c,a⟩)
   ·exact .inl e
   ·exact .inr ⟨u,ω,a⟩
   exact .inr ⟨k,ω,q,c,a⟩
  rintro(e|⟨u,c,a⟩)
  ·exact .inl (.inl e)
  by_cases l:u=k
  ·subst l;exact .inr a
  exact .inl (.inr ⟨u,ω,a⟩)
def Gy(a:bi s=true){c:Nat}(d:c<16):0<=((c:Nat):Int) / csz s.a/\((c:Nat):Int) / csz s.a<=15:=by
 have f:=aC a;have b:csz s.a=1\/csz s.a=2\/csz s.a=4\/csz s.a=8:=b9 ω;rcases b with e|e|e|e<;>rw[e]<;>omega
def yf(h:ab)(r:aX):Bool:=decide (0<=cu (bR r.Id) h.O)&&decide (cellsOf h.G (nth h.O (cu (bR r.Id) h.O).toNat).Addr (nth h.O (cu (bR r.Id) h.O).toNat).o.toNat=r.T)
def ib(h:ab)(r:ay):Bool:=(cN h&&decide (h.d=r.d/\h.O.length=r.O.length))&&cE r.O.length λi=>yf h (nth r.O i)
def jZ(h:ab)(p:Nat):Bool:=decide ((nth (tbl h).J p).e=0) || ((h.u&&decide ((p:Int)=h.Z.X.a3)) || jM h p)
def mu(w:aQ):Bool:=(ib w.Y w.b3&&kh (cL w.Y))&&cE (dQ w.Y) (jZ w.Y)
variable{α:Type}
def ly(p:α->Bool)(xs:List α):Nat:=(xs.findIdx? p).getD xs.length
def jP(p:α->Bool)(xs:List α)(y:α):List α:=xs.take (ly p xs)++y::xs.drop (ly p xs)
def RU(p:α->Bool)(xs:List α):ly p xs<=xs.length:=by
 unfold ly;cases e:xs.findIdx? p with
 | none=>exact W3 _
 | some i=>exact Nat.le_of_lt (Z7.1 e).1
def l9(p:α->Bool)(xs:List α)(y:α):(jP p xs y).Perm (y::xs):=by
 unfold jP;refine List.perm_middle.trans ?_;rw[List.take_append_drop]
def cQ{p:α->Bool}{xs:List α}{y z:α} : z∈jP p xs y↔z=y\/z∈xs:=by
 rw[(l9 p xs y).mem_iff,List.mem_cons]
def wG{p:α->Bool}{xs:List α}(c:i<=xs.length)(a:∀(j:Nat)(z:α),j<i->xs[j]? = some z->p z=false)(b:∀z,xs[i]? = some z->p z=true):ly p xs=i:=by
 unfold ly;by_cases e:i<xs.length
 ·rw[wF (W2 e) (b _ (W2 e)) a];rfl
 rw[yp ω a];show xs.length=i;omega
def mq{f:α->Int}{xs:List α}{y:α}(h:xs.Pairwise λa b=>f a<f b)(p:∀z∈xs,f z≠f y):(jP (λz=>decide (f y<=f z)) xs y).Pairwise λa b=>f a<f b:=by
 have q:∀z∈xs.drop (ly (λz=>decide (f y<=f z)) xs),f y<f z:=λz g=>by
  obtain⟨j,k,rfl⟩:=List.mem_drop_iff_getElem.1 g;have C:=p _ (List.getElem_mem k);cases e:xs.findIdx? (λz=>decide (f y<=f z)) with
  | none=>
   have l:ly (λz=>decide (f y<=f z)) xs=xs.length:=by unfold ly;rw[e];rfl
   rw[l]at k;omega
  | some i=>
   have l:ly (λz=>decide (f y<=f z)) xs=i:=by unfold ly;rw[e];rfl
   obtain⟨r,t,-⟩:=Z7.1 e;rw[C0]at t;have c:i+j<xs.length:=by rw[<-l];omega
   have n:f xs[i+j]≠f y:=p _ (List.getElem_mem c);have d:f y<f xs[i+j]:=by
    cases j with
    | zero=>simp only[Nat.add_zero]at n |-;omega
    | succ j=>
     have:=List.pairwise_iff_getElem.1 h i (i+(j+1)) r c ω;omega
   have w:xs[ly (λz=>decide (f y<=f z)) xs+j]? = xs[i+j]?:=by rw[l]
   rw[W2 ω,W2 c]at w;rw[Option.some.inj w];exact d
 have A:∀z∈xs.take (ly (λz=>decide (f y<=f z)) xs),f z<f y:=λz g=>by
  obtain⟨j,k,rfl⟩:=List.mem_take_iff_getElem.1 g;unfold ly at k;cases e:xs.findIdx? (λz=>decide (f y<=f z)) with
  | none=>
   have:=List.findIdx?_eq_none_iff.1 e _ (List.getElem_mem (show j<xs.length by omega));simp only[C5]at this;omega
  | some i=>
   obtain⟨r,t,B⟩:=Z7.1 e;simp only[e,Option.getD_some]at k;have:=B j ω;simp only[C0]at this;omega
 unfold jP;refine List.pairwise_append.2 ⟨h.sublist (List.take_sublist ..),List.pairwise_cons.2 ⟨q,h.sublist (List.drop_sublist ..)⟩,λz g u o=>?_⟩;rcases List.mem_cons.1 o with rfl|o
 ·exact A z g
 exact Int.lt_trans (A z g) (q u o)
def iv(b i:Int):Int:=((b.toNat ||| 2 ^ i.toNat:Nat):Int)
def ri(s:ax)(i:Int):ax:={s with b1:=iv s.b1 i}
def xQ(b i:Int)(j:Nat):(iv b i).toNat.testBit j=(b.toNat.testBit j || decide (i.toNat=j)):=by
 unfold iv;rw[I3,Nat.testBit_or,Nat.testBit_two_pow]
def HK{i:Int}(g:0<=b)(e:0<=i/\i<=15)(j:Int):aS (iv b i) j=true↔aS b j=true\/j=i:=by
 rw[eB,eB,xQ,I7,C0];have f:0<=iv b i:=by unfold iv;omega
 constructor
 ·rintro⟨h,c,d,a|a⟩
  ·exact .inl ⟨g,c,d,a⟩
  exact .inr ω
 rintro(⟨h,c,d,a⟩|rfl)
 ·exact⟨f,c,d,.inl a⟩
 exact⟨f,e.1,e.2,.inr rfl⟩
def gZ{k:Int}(h:0<=k/\k<=3):lim k=2 ^ (slots k).toNat - 1/\0<=slots k/\slots k<=16/\slots k*csz k=16:=by
 obtain rfl|rfl|rfl|rfl:k=0\/k=1\/k=2\/k=3:=ω
 all_goals decide
def Ef(h:bi s=true){i:Int}(k:0<=i/\i<slots s.a):bi (ri s i)=true:=by
 have b:=aC h;obtain⟨c,l,o,-⟩:=gZ b.2.2;unfold bi at h;rw[C0]at h;obtain⟨d,e,f,g,p,a⟩:=h;refine O0 ⟨d,e,f,g,by show 0<=iv s.b1 i;unfold iv;omega,?_⟩;show iv s.b1 i<=lim s.a;rw[c]at a |-;have j:((2 ^ (slots s.a).toNat:Nat):Int)=(2:Int) ^ (slots s.a).toNat:=by norm_cast
 rw[<-j]at a |-;have:=Nat.or_lt_two_pow (x:=s.b1.toNat) (y:=2 ^ i.toNat) (n:=(slots s.a).toNat) ω (Nat.pow_lt_pow_right ω ω);unfold iv;omega
def AI{u:ax}{i:Int}(b:0<=i/\i<slots s.a)(c:aS u.b1 i=false)(h:meshable s u=true):meshable (ri s i) u=true:=by
 unfold meshable at h |-;simp only[I0,C0]at h |-;obtain⟨⟨d,f⟩,k,l,o⟩:=h;have p:=aC d;obtain⟨r,t,w,-⟩:=gZ p.2.2;have a:=eS f;refine⟨⟨Ef d b,f⟩,k,l,?_⟩;refine Nat.eq_of_testBit_eq λj=>?_
 have g:=Z0 (λn=>Nat.testBit n j) o;simp only[Nat.testBit_and,Nat.zero_testBit,ri,xQ]at g |-;by_cases e:i.toNat=j
 ·have:u.b1.toNat.testBit j=false:=by
   rw[<-I6];intro q;have:=(eB u.b1 i).2 ⟨a.1,b.1,ω,by rw[e];exact q⟩;rw[this]at c;cases c
  rw[this];simp
 rw[W0 e,Bool.or_false];exact g
def uD(h:bi s=true){i:Int}(n:0<=i/\i<slots s.a)(b:Int):ef (ri s i) b↔ef s b\/b=16*s.Q+i*csz s.a:=by
 have g:=aC h;obtain⟨o,p,k,l⟩:=gZ g.2.2;have j:=b9 g.2.2;unfold ef;simp only[ri];rw[HK (eS h).1 ω];constructor
 ·rintro⟨d,f,c,a|a⟩
  ·exact .inl ⟨d,f,c,a⟩
  right
  rcases j with e|e|e|e<;>rw[e]at c a |-<;>omega
 rintro(⟨d,f,c,a⟩|rfl)
 ·exact⟨d,f,c,.inl a⟩
 have q:slots s.a<=16:=k;rcases j with e|e|e|e<;>rw[e]at l |-<;>refine⟨?_,?_,?_,.inr ?_⟩<;>omega
def LB(k:Int)(a:i<sp.length):(sp.set i (ri (nth sp i) k)).map (·.Q)=sp.map (·.Q):=by
 rw[C7];refine List.ext_getElem (by simp) λj b c=>?_
 rw[List.getElem_set];split
 ·rename_i e;subst e
  rw[List.getElem_map];show(nth sp i).Q=_;rw[bm (W2 a)]
 rfl
def kb.setS(p:qH sp la)(g:i<sp.length){k:Int}(h:0<=k/\k<slots (nth sp i).a)(b c:Int):kb (sp.set i (ri (nth sp i) k)) b c↔kb sp b c\/(b=16*(nth sp i).Q+k*csz (nth sp i).a/\(c<0\/(nth sp i).a=c)):=by
 have d:=p.sok _ (am g);constructor
 ·rintro⟨s,l,f,a⟩
  rcases ed l with rfl|⟨j,n,q,rfl⟩
  ·rcases(uD d h b).1 f with o|o
   ·exact .inl ⟨_,am g,o,a⟩
   exact .inr ⟨o,a⟩
  exact .inl ⟨_,am n,f,a⟩
 rintro(⟨s,l,f,a⟩|⟨f,a⟩)
 ·obtain⟨j,n,rfl⟩:=aK l
  by_cases e:j=i
  ·subst e
   exact⟨_,jg _ g,(uD d h b).2 (.inl f),a⟩
  exact⟨_,kw _ n e,f,a⟩
 exact⟨_,jg _ g,(uD d h b).2 (.inr f),a⟩
variable{E:List Int}
def Ru(d:aY h E)(l:i<h.K.length){k:Int}(p:0<=k/\k<=15)(b:aS (iC h i) k=false):aS (nth h.K i).b1 k=false/\∀u∈h.K,(nth (tbl h).J u.Q.toNat).j=(nth (tbl h).J (nth h.K i).Q.toNat).j->aS u.b1 k=false:=by
 have e:=d.L;have q:=eS (e.sok _ (am l));unfold iC at b;rw[<-I6,Bv e.sok q p]at b;rw[not_or]at b;have r:aS (nth h.K i).b1 k=false:=by simpa using b.1
 have a:∀s∈h.K,s.Q.toNat<dQ h/\(nth (tbl h).J s.Q.toNat).e≠0/\((s.Q.toNat:Nat):Int)=s.Q:=λs f=>by
  have K:=aC (e.sok s f);have M:=d.pg.bnd s.Q (dH f);have n:s.Q.toNat<(tbl h).J.length:=ω
  have o:((s.Q.toNat:Nat):Int)=s.Q:=ω
  exact⟨n,(d.pg.own _ n).2 (by rw[o];exact dH f),o⟩
 refine⟨r,λu c t=>?_⟩;rw[<-I6];intro w;obtain⟨y,A,B⟩:=a _ (am l);obtain⟨C,D,F⟩:=a u c;have G:u.Q∈aP h (nth h.K i).Q:=by
  rw[<-B,eO y A,<-F];exact d7.2 ⟨C,D,t⟩
 obtain⟨v,H,g⟩:=aK G;obtain⟨j,J,rfl⟩:=aK c;exact b.2 ⟨v,H,j,J,g.symm,w⟩
variable{sd:Int}
def aY.take{k:Int}(g:aY h E)(C:i<h.K.length)(D:0<=k/\k<slots (nth h.K i).a)(r:aS (iC h i) k=false)(M:0<=sd/\sd<=1073741823) :
  aY {h with c0:=sd,K:=h.K.set i (ri (nth h.K i) k)} ((16*(nth h.K i).Q+k*csz (nth h.K i).a)::E):=by
 have F:=g.L;have T:=F.sok _ (am C);have Q:=aC T;obtain⟨l1,l2,l3,l4⟩:=gZ Q.2.2;have hz:=b9 Q.2.2;obtain⟨u1,u2⟩:=Ru g C ⟨D.1,ω⟩ r;have n:=λb c=>kb.setS F C D b c
 have w:=LB k C;generalize ha:16*(nth h.K i).Q+k*csz (nth h.K i).a=a at n |-;have G:¬ef (nth h.K i) a:=by
  rintro⟨-,-,-,h4⟩
  have:(a - 16*(nth h.K i).Q) / csz (nth h.K i).a=k:=by
   rw[<-ha];rcases hz with e|e|e|e<;>rw[e]<;>omega
  rw[this,u1]at h4;cases h4
 have hrange:16*(nth h.K i).Q<=a/\a<=16*(nth h.K i).Q+15:=by
  rcases hz with e|e|e|e<;>rw[e]at ha l4<;>omega
 have U:¬Live h.K h.M a:=by
  rintro(⟨s,p,d,-⟩|⟨l,hl,e⟩)
  ·obtain⟨j,V,rfl⟩:=aK p
   have:=cU (f:=(·.Q)) F.nd V C (by have a1:=d.1;have a2:=d.2.1;omega);subst this;exact G d
  exact(xR F hl).1 _ (am C) ω
 have W:a∉E++holders h:=λX=>U ((g.mem a).1 X)
 have q:∀s∈h.K.set i (ri (nth h.K i) k),∃u∈h.K,u.Q=s.Q/\(s=u\/(u=nth h.K i/\s=ri u k)):=λs p=>by
  rcases ed p with rfl|⟨j,V,hji,rfl⟩
  ·exact⟨_,am C,rfl,.inr ⟨rfl,rfl⟩⟩
  exact⟨_,am V,rfl,.inl rfl⟩
 generalize hsp:h.K.set i (ri (nth h.K i) k)=sp at n w q |-;have t:pgs sp h.M=pgs h.K h.M:=by unfold pgs;rw[w]
 have N:∀u∈h.K,∃s∈sp,s.Q=u.Q:=λu r=>by
  have:u.Q∈sp.map (·.Q):=by rw[w];exact Z4.2 ⟨u,r,rfl⟩
  obtain⟨s,p,e⟩:=Z4.1 this;exact⟨s,p,e⟩
 exact {g with
   lay:=by
     obtain⟨l1,l2,l3⟩:=dv g.lay;unfold bp;simp only[I0,C0];refine⟨⟨V4.2 λs p=>?_,l2⟩,by rw[t];exact l3⟩;obtain⟨u,r,-,rfl|⟨rfl,rfl⟩⟩:=q s p
     · exact F.sok _ r
     exact Ef (F.sok _ r) D
   srs:=by
     have d:(h.K.map (·.Q)).Pairwise (λa b=>a<b):=List.pairwise_map.2 g.srs;rw[<-w]at d;exact List.pairwise_map.1 d
   pg:=⟨g.pg.one,by rw[t];exact g.pg.bnd,by rw[t];exact g.pg.own,g.pg.fre,λs p u r O hf=>by
     obtain⟨R,A,Y,Z⟩:=q s p;obtain⟨S,B,eu,P⟩:=q u r;have H:(nth (tbl h).J R.Q.toNat).j=(nth (tbl h).J S.Q.toNat).j:=by rw[Y,eu];exact hf
     have d:=g.pg.mesh R A S B (by rw[Y,eu];exact O) H;rcases Z with rfl|⟨rfl,rfl⟩
     · rcases P with rfl|⟨rfl,rfl⟩
       · exact d
       rw[gR]at d |-;exact AI D (u2 _ A H) d
     rcases P with rfl|⟨rfl,rfl⟩
     · exact AI D (u2 _ B H.symm) d
     exact absurd (Y.symm.trans eu) O⟩
   nums:=by
     have:=g.nums;unfold cq at this |-;rw[C0]at this |-;exact⟨M.1,M.2,this.2.2⟩
   oow:=λo ho=>by
     rcases g.oow o ho with⟨s,p,d,h2⟩|d
     · obtain⟨u,r,g1,K⟩:=(n o.Addr (aJ o.o)).2 (.inl ⟨s,p,d,.inr h2⟩)
       refine .inl ⟨u,r,g1,?_⟩;rcases K with K|K
       · have:=aC (F.sok _ p);omega
       exact K
     exact .inr d
   hca:=λc Q k D b J=>(n b k).2 (.inl (g.hca c Q k D b J))
   hqu:=λy hy=>(n _ _).2 (.inl (g.hqu y hy))
   hfl:=λb J=>(n _ _).2 (.inl (g.hfl b J))
   hin:=λb J=>by
     rcases List.mem_cons.1 J with rfl|J
     · exact(n _ _).2 (.inr ⟨rfl,.inl (by decide)⟩)
     exact(n _ _).2 (.inl (g.hin b J))
   nd:=by
     rw[List.cons_append];exact List.nodup_cons.2 ⟨W,g.nd⟩
   mem:=λb=>by
     show b∈a::E++holders h↔Live sp h.M b;rw[List.cons_append,List.mem_cons,g.mem b];unfold Live;rw[n];constructor
     · rintro(rfl|d|d)
       · exact .inl (.inr ⟨rfl,.inl (by decide)⟩)
       · exact .inl (.inl d)
       exact .inr d
     rintro((d|⟨d,-⟩)|d)
     · exact .inr (.inl d)
     · exact .inl d
     exact .inr (.inr d)
   job:=λX=>by
     obtain⟨j1,⟨s,p,e1⟩,⟨u,r,e2⟩⟩:=g.job X;obtain⟨R,A,g1⟩:=N s p;obtain⟨S,B,K⟩:=N u r;exact⟨j1,⟨R,A,g1.trans e1⟩,⟨S,B,K.trans e2⟩⟩}
def t6(c:a8)(k:Nat):a8:=⟨c.b.set k ((nth c.b k).take ((nth c.b k).length - 1))⟩
def PS{l:List Int}(h:0<l.length):l=l.take (l.length - 1)++[nth l (l.length - 1)]:=by
 have a:l.drop (l.length - 1)=[nth l (l.length - 1)]:=by
  rw[jm ω,show l.length - 1+1=l.length by omega,List.drop_length]
 rw[<-a,List.take_append_drop]
variable{t:Nat}
def aY.pop{k:Nat}(f:aY h E)(l:t<h.S.length)(p:k<(nth h.S t).b.length)(u:0<(nth (nth h.S t).b k).length)(w:bt (t6 (nth h.S t) k)=true) :
  aY {h with S:=h.S.set t (t6 (nth h.S t) k)} (nth (nth (nth h.S t).b k) ((nth (nth h.S t).b k).length - 1)::E)/\kb h.K (nth (nth (nth h.S t).b k) ((nth (nth h.S t).b k).length - 1)) k:=by
 have q:=PS u;have n:=f.hca _ (am l) k p (nth (nth (nth h.S t).b k) ((nth (nth h.S t).b k).length - 1)) (am ω);refine⟨?_,n⟩;generalize D:nth (nth (nth h.S t).b k) ((nth (nth h.S t).b k).length - 1)=a at q n |-;have r:(E++holders h).Perm (a::E++holders {h with S:=h.S.set t (t6 (nth h.S t) k)}):=by
  refine List.perm_iff_count.2 λb=>?_
  have A:=jo (λc:a8=>c.b.flatten) b h.S t (t6 (nth h.S t) k) l;have B:=jo (λy:List Int=>y) b (nth h.S t).b k ((nth (nth h.S t).b k).take ((nth (nth h.S t).b k).length - 1)) p;rw[<-lG,<-lG]at B;have C:=Z0 (List.count b) q;simp only[Z6,List.count_singleton]at C;simp only[t6]at A;simp only[holders,ce,t6,Z6,List.cons_append,List.count_cons];omega
 exact {f with
   nc:=by show(h.S.set ..).length=_;rw[W1];exact f.nc
   cach:=λc d=>by
     rcases S7 d with d|rfl
     · exact f.cach c d
     exact w
   onu:=by show ∀o∈h.O,1<=o.Id/\o.Id<=h.d - 1/\0<=o.a4/\o.a4<=(h.S.set t _).length - 1;rw[W1];exact f.onu
   hca:=λc d j i b g=>by
     rcases S7 d with d|rfl
     · exact f.hca c d j i b g
     simp only[t6,W1]at i;simp only[t6,bE]at g;by_cases e:k=j
     · subst e
       rw[CD ⟨rfl,i⟩]at g;exact f.hca _ (am l) _ i b (List.mem_of_mem_take g)
     rw[CB λy=>e y.1]at g;exact f.hca _ (am l) _ i b g
   hin:=λb g=>by
     rcases List.mem_cons.1 g with rfl|g
     · exact n.any
     exact f.hin b g
   nd:=r.nodup_iff.1 f.nd
   mem:=λb=>by rw[<-r.mem_iff];exact f.mem b}
def Qy(a:Int)(o:bn):Bool:=decide (a<=o.Addr)
def addO(h:ab)(a size t:Int):ab:={h with O:=jP (Qy a) h.O ⟨h.d,a,size,t⟩,d:=h.d+1}
def A4(a:cq h=true)(b:h.d<1000000):decide (0<=h.c0/\h.c0<=1073741823/\0<=h.b5/\h.b5<=1000000/\0<=h.c4/\h.c4<=1000/\1<=h.d+1/\h.d+1<=1000000)=true:=by
 unfold cq at a;rw[C0]at a |-;omega
def aY.addO{h:ab}{E:List Int}{a size t:Int}(c:aY h (a::E))(d:PR h.K h.M ⟨h.d,a,size,t⟩)(p:h.d<1000000)(q:0<=t/\t<=h.S.length - 1):aY (addO h a size t) E:=by
 have i:=l9 (Qy a) h.O ⟨h.d,a,size,t⟩;have n:(a::E++holders h).Perm (E++holders (Ab.addO h a size t)):=by
  have r:=i.map (·.Addr);refine List.perm_iff_count.2 λb=>?_
  have u:=r.count_eq b;simp only[Y6,List.count_cons]at u;simp only[holders,ce,Ab.addO,Z6,List.cons_append,List.count_cons];omega
 have j:=c.nd;rw[List.cons_append]at j;obtain⟨k,-⟩:=List.nodup_cons.1 j;have l:∀o∈h.O,o.Addr≠a:=λo d e=>k (V3.2 (.inr (by unfold holders;simp only[V3];exact .inl (.inl (.inl (Z4.2 ⟨o,d,e⟩))))))
 exact {c with
   nums:=A4 c.nums p
   osr:=mq (f:=λo:bn=>o.Addr) (y:=⟨h.d,a,size,t⟩) c.osr l
   onu:=λo d=>by
     rcases cQ.1 d with rfl|d
     · have:=c.nums
       unfold cq at this;rw[C0]at this;exact⟨by show 1<=h.d;omega,by show h.d<=h.d+1 - 1;omega,q⟩
     have:=c.onu o d;exact⟨this.1,by show o.Id<=h.d+1 - 1;omega,this.2.2⟩
   oid:=by
     show((jP (Qy a) h.O ⟨h.d,a,size,t⟩).map (·.Id)).Nodup;rw[(i.map _).nodup_iff,Y6];refine List.nodup_cons.2 ⟨λw=>?_,c.oid⟩;obtain⟨o,d,e⟩:=Z4.1 w;have:=(c.onu o d).2.1;simp only at e;omega
   oow:=λo g=>by
     rcases cQ.1 g with rfl|g
     · exact d
     exact c.oow o g
   hin:=λb A=>c.hin b (C6 _ A)
   nd:=n.nodup_iff.1 c.nd
   mem:=λb=>by rw[<-n.mem_iff];exact c.mem b}
def jD(xs:List aB)(n:Int):Nat->Int
 | 0=>-1
 | i+1=>if n<=(nth xs i).b0/\(jD xs n i<0\/(nth xs i).b0<(nth xs (jD xs n i).toNat).b0) then(i:Nat) else jD xs n i
def iA(xs:List aB)(n:Int):Int:=jD xs n xs.length
def au(xs:List aB)(n:Int):List aB × Int × Bool:=
 if iA xs n<0 then(xs,-1,false)
 else if(nth xs (iA xs n).toNat).b0=n then(dele xs (iA xs n).toNat,(nth xs (iA xs n).toNat).At,true)
 else(xs.set (iA xs n).toNat ⟨(nth xs (iA xs n).toNat).At+n,(nth xs (iA xs n).toNat).b0 - n⟩,(nth xs (iA xs n).toNat).At,true)
def xe(xs:List aB)(n:Int):∀i,i<=xs.length->jD xs n i = -1\/(0<=jD xs n i/\jD xs n i<i/\n<=(nth xs (jD xs n i).toNat).b0)
 | 0,_=>.inl rfl
 | i+1,b=>by
  have a:=xe xs n i ω;unfold jD;split
  ·rename_i h;right;rw[I3];exact⟨ω,ω,h.1⟩
  rcases a with h|h
  ·exact .inl h
  exact .inr ⟨h.1,ω,h.2.2⟩
variable{xs:List aB}
def xz(h:pG xs)(a:i<j)(b:j<xs.length):(nth xs i).At+(nth xs i).b0<(nth xs j).At:=by
 have:=List.pairwise_iff_getElem.1 h.1 i j ω b a
 rwa [<-bm (W2 (show i<xs.length by omega)),<-bm (W2 b)]at this
variable{p:Int}
def y7 : RH xs p↔∃j,j<xs.length/\(nth xs j).At<=p/\p<(nth xs j).At+(nth xs j).b0:=by
 unfold RH;constructor
 ·rintro⟨r,b,h⟩
  obtain⟨j,a,rfl⟩:=aK b;exact⟨j,a,h⟩
 rintro⟨j,a,h⟩
 exact⟨_,am a,h⟩
def om{pages:Int}{n:Int}(h:bC pages xs=true)(T:1<=n)(t:(au xs n).2.2=true) :
  bC pages (au xs n).1=true/\0<=(au xs n).2.1/\(au xs n).2.1+n<=pages/\(∀p,RH (au xs n).1 p↔RH xs p/\¬((au xs n).2.1<=p/\p<(au xs n).2.1+n))/\∀p,(au xs n).2.1<=p->p<(au xs n).2.1+n->RH xs p:=by
 obtain⟨o,u,J⟩:=gf.1 h;have K:=xe xs n xs.length (W3 _);unfold au at t |-;change iA xs n = -1\/_ at K;split at t
 ·cases t
 rename_i w;rw[CB w];obtain⟨O,P,L⟩:=K.resolve_left ω;change 0<=iA xs n at O;change iA xs n<xs.length at P;change n<=(nth xs (iA xs n).toNat).b0 at L;generalize Q:(iA xs n).toNat=b at L |-;have g:b<xs.length:=ω
 have M:=u _ (am g);have q:∀j,j<xs.length->j≠b->(nth xs j).At+(nth xs j).b0<(nth xs b).At\/(nth xs b).At+(nth xs b).b0<(nth xs j).At:=λj a k=>by
  rcases Nat.lt_or_gt_of_ne k with A|B
  ·exact .inl (xz o A g)
  exact .inr (xz o B a)
 split
 ·rename_i R
  have C:(dele xs b).Sublist xs:=fK ..;refine⟨gf.2 ⟨⟨o.1.sublist C,λy l=>o.2 y (C.subset l)⟩,λy l=>u y (C.subset l),J⟩,M.1,by show(nth xs b).At+n<=pages;omega,λp=>?_,λp D E=>y7.2 ⟨b,g,D,by show p<_;simp only at E;omega⟩⟩;simp only;rw[y7 (xs:=xs)];constructor
  ·rintro⟨r,F,f,d⟩
   obtain⟨j,a,k,rfl⟩:=dd.1 F;refine⟨⟨j,a,f,d⟩,λe=>?_⟩;have:=q j a k;omega
  rintro⟨⟨j,a,f,d⟩,G⟩
  exact⟨_,dd.2 ⟨j,a,λe=>by subst e;omega,rfl⟩,f,d⟩
 rename_i R;have c:∀j,nth (xs.set b ⟨(nth xs b).At+n,(nth xs b).b0 - n⟩) j=if j=b then⟨(nth xs b).At+n,(nth xs b).b0 - n⟩ else nth xs j:=λj=>by
  rw[bE];by_cases e:j=b
  ·rw[CD ⟨e.symm,ω⟩,CD e]
  rw[CB λz=>e z.1.symm,CB e]
 refine⟨gf.2 ⟨⟨?_,λy l=>?_⟩,λy l=>?_,J⟩,M.1,by show(nth xs b).At+n<=pages;omega,λp=>?_,λp D E=>y7.2 ⟨b,g,D,by simp only at E;omega⟩⟩
 ·rw[List.pairwise_iff_getElem]
  intro i j N a H;rw[<-bm (W2 N),<-bm (W2 a),c,c];simp only[W1]at N a;have S:=xz o H a;split
  ·rename_i e;subst e
   rw[CB ω];simp only;omega
  split
  ·rename_i e;subst e
   simp only;omega
  exact S
 ·rcases ed l with rfl|⟨j,a,-,rfl⟩
  ·simp only;omega
  exact o.2 _ (am a)
 ·rcases ed l with rfl|⟨j,a,-,rfl⟩
  ·simp only;omega
  exact u _ (am a)
 simp only;rw[y7,y7,W1];constructor
 ·rintro⟨j,a,f,d⟩
  rw[c]at f d;split at f
  ·rename_i e;subst e
   rw[CD rfl]at d;simp only at f d;exact⟨⟨j,a,ω,ω⟩,ω⟩
  rename_i e;rw[CB e]at d;have:=q j a e;exact⟨⟨j,a,f,d⟩,ω⟩
 rintro⟨⟨j,a,f,d⟩,G⟩
 refine⟨j,a,?_⟩;rw[c];split
 ·rename_i e;subst e
  simp only;omega
 exact⟨f,d⟩
def sL(k:ah):Int:=cu (λu=>!u) k.F.W.a6
def ry(k:ah)(p:Int)(f:Nat):ah:={k with F:=⟨⟨k.F.W.T,k.F.W.a6.set f true⟩,⟨k.F.R.J.set p.toNat ⟨2,(f:Nat)⟩⟩⟩}
def newK(k:ah)(p:Int):ah × Bool:=if refd k=true\/sL k<0 then(cg k,false) else(ry (cg k) p (sL k).toNat,true)
variable{k:ah}
def GC(h:¬sL k<0):(sL k).toNat<k.F.W.a6.length/\nth k.F.W.a6 (sL k).toNat=false:=by
 unfold sL at h |-;rcases iR (λu=>!u) k.F.W.a6 with e|⟨n,a,e,b⟩
 ·omega
 rw[e,I3];exact⟨a,by simpa using b⟩
variable{f:Nat}
def B5(h:aA k=true)(b:f<k.F.W.a6.length)(c:nth k.F.W.a6 f=false)(q:Nat)(d:q<k.F.R.J.length)(g:(nth k.F.R.J q).e≠0):(nth k.F.R.J q).j≠(f:Nat):=by
 obtain⟨j,l,n,i,o⟩:=aG.1 h;intro e;have a:=i f b;rw[c]at a;have:=of_decide_eq_false a.symm;exact this (eA.2 ⟨q,d,g,e⟩)
def RT(h:aA k=true)(L:0<=p/\p<k.F.R.J.length)(n:(nth k.F.R.J p.toNat).e=0)(o:f<k.F.W.a6.length)(r:nth k.F.W.a6 f=false):aA (ry k p f)=true:=by
 have t:=B5 h o r;obtain⟨u,w,y,A,B⟩:=aG.1 h;obtain⟨C,D,E,F⟩:=bc.1 w;obtain⟨G,H,J⟩:=b8.1 y;have a:∀q,nth (k.F.R.J.set p.toNat ⟨2,(f:Nat)⟩) q=if p.toNat=q then⟨2,(f:Nat)⟩ else nth k.F.R.J q:=λq=>by
  rw[bE];by_cases i:p.toNat=q
  ·rw[CD ⟨i,ω⟩,CD i]
  rw[CB (λe=>i e.1),CB i]
 refine aG.2 ⟨u,bc.2 ⟨C,D,by simp only[ry,W1];exact E,λj b=>?_⟩,b8.2 ⟨λj b=>?_,?_,?_⟩,λj b=>?_,B⟩
 ·replace b:j<k.F.W.T.length:=b
  show iq (nth k.F.W.T j) (nth (k.F.W.a6.set f true) j)=true;have d:=F j b;rw[bE];split
  ·unfold iq at d |-
   simp only[I0,C0,V4]at d |-;refine⟨d.1,λv K=>?_⟩;have:=d.2 v K;unfold iW at this |-;simp only[I0]at this;rw[this.1];rfl
  exact d
 ·simp only[ry,W1]at b |-
  rw[a];split
  ·unfold kQ;rw[C0];simp only;omega
  exact G j b
 ·simp only[ry,W1];exact H
 ·simp only[ry,W1];exact J
 simp only[ry,W1]at b;show nth (k.F.W.a6.set f true) j=_;rw[bE];by_cases e:f=j
 ·subst e
  rw[CD ⟨rfl,b⟩];refine(O0 (eA.2 ⟨p.toNat,?_,?_,?_⟩)).symm
  ·simp only[ry,W1];omega
  ·simp only[ry,a,CD];decide
  simp only[ry,a,CD]
 rw[CB λz=>e z.1,A j b];refine decide_eq_decide.2 ?_;rw[eA,eA];simp only[ry,W1,a];constructor
 ·rintro⟨q,l,g,c⟩
  refine⟨q,l,?_⟩;rw[CB λz=>g (by rw[<-z];exact n)];exact⟨g,c⟩
 rintro⟨q,l,g,c⟩
 by_cases z:p.toNat=q
 ·rw[CD z]at c
  simp only at c;omega
 rw[CB z]at g c;exact⟨q,l,g,c⟩
structure wa(k:ah)(p:Int)(r:ah × Bool):Prop where
 ker:aA r.1=true
 len:r.1.F.R.J.length=k.F.R.J.length
 calls:r.1.Calls=k.Calls+1
 ref:r.1.a0=k.a0
 cells:r.1.F.W.T=k.F.W.T
 no:r.2=false->r.1=cg k
 yes:r.2=true->∃f:Nat,f<k.F.W.a6.length/\nth k.F.W.a6 f=false/\(∀q:Nat,nth r.1.F.R.J q=if(q:Int)=p then⟨2,(f:Nat)⟩ else nth k.F.R.J q)/\∀q,q<k.F.R.J.length->(nth k.F.R.J q).e≠0->(nth k.F.R.J q).j≠(f:Nat)
def wa.of(h:aA k=true)(c:k.Calls≠100000)(f:0<=p/\p<k.F.R.J.length)(g:(nth k.F.R.J p.toNat).e=0):wa k p (newK k p):=by
 unfold newK;split
 ·exact⟨nu h c,rfl,rfl,rfl,rfl,λ_=>rfl,λe=>by cases e⟩
 rename_i d;rw[not_or]at d;obtain⟨a,b⟩:=GC d.2;refine⟨RT (nu h c) f g a b,by simp[ry,cg],rfl,rfl,rfl,λe=>(by cases e),λ_=>⟨_,a,b,λq=>?_,λq=>B5 h a b q⟩⟩;simp only[ry,cg,bE];by_cases e:(q:Int)=p
 ·rw[CD ⟨ω,ω⟩,CD e]
 rw[CB λz=>e ω,CB e]
def newsK(k:ah)(p:Int):Nat->ah × Nat
 | 0=>(k,0)
 | i+1=>if(newsK k p i).2=i then((newK (newsK k p i).1 (p+(i:Nat))).1,if(newK (newsK k p i).1 (p+(i:Nat))).2=true then i+1 else i) else newsK k p i
structure m7(k:ah)(p:Int)(i:Nat)(r:ah × Nat):Prop where
 ker:aA r.1=true
 len:r.1.F.R.J.length=k.F.R.J.length
 calls:k.Calls<=r.1.Calls/\r.1.Calls<=k.Calls+i
 ref:r.1.a0=k.a0
 cells:r.1.F.W.T=k.F.W.T
 le:r.2<=i
 out:∀q:Nat,¬(p<=q/\(q:Int)<p+r.2)->nth r.1.F.R.J q=nth k.F.R.J q
 new:∀q:Nat,p<=q->(q:Int)<p+r.2->(nth r.1.F.R.J q).e=2/\∀u:Nat,u<k.F.R.J.length->(nth r.1.F.R.J u).e≠0->(nth r.1.F.R.J u).j=(nth r.1.F.R.J q).j->u=q
def m7.of{k:ah}{p:Int}{n:Nat}(h:aA k=true)(G:k.Calls+n<=100000)(H:0<=p/\p+n<=k.F.R.J.length)(C:∀q:Nat,p<=q->(q:Int)<p+n->(nth k.F.R.J q).e=0):∀i,i<=n->m7 k p i (newsK k p i)
 | 0,_=>⟨h,rfl,⟨W5 _,by show k.Calls<=k.Calls+((0:Nat):Int);omega⟩,rfl,rfl,W3 _,λ_ _=>rfl,λq o d=>by simp only[newsK]at d;omega⟩
 | i+1,L=>by
  have a:=m7.of h G H C i ω;unfold newsK;split
  case isFalse=>exact⟨a.ker,a.len,⟨a.calls.1,by have:=a.calls.2;omega⟩,a.ref,a.cells,by have:=a.le;omega,a.out,a.new⟩
  rename_i t;generalize newsK k p i=r at a t |-;have J:=a.calls;have y:(nth r.1.F.R.J (p+(i:Nat)).toNat).e=0:=by
   rw[a.out _ ω];exact C _ ω ω
  have s:=wa.of (p:=p+(i:Nat)) a.ker ω ⟨ω,by rw[a.len];omega⟩ y;generalize newK r.1 (p+(i:Nat))=w at s |-;refine⟨s.ker,s.len.trans a.len,⟨by simp only[s.calls];omega,by simp only[s.calls];omega⟩,s.ref.trans a.ref,s.cells.trans a.cells,by simp only;split<;>omega,λq j=>?_,λq o d=>?_⟩
  ·simp only at j |-
   cases e:w.2 with
   | false=>
    rw[s.no e];rw[e]at j;exact a.out q (by rw[t];simpa using j)
   | true=>
    obtain⟨f,-,-,g,-⟩:=s.yes e;rw[e,CD rfl]at j;rw[g,CB ω];exact a.out q ω
  simp only at d |-;cases e:w.2 with
  | false=>
   rw[s.no e];rw[e]at d;exact a.new q o (by rw[t];simpa using d)
  | true=>
   obtain⟨f,-,-,g,D⟩:=s.yes e;rw[e,CD rfl]at d;have A:q<k.F.R.J.length:=ω
   rw[g];by_cases E:(q:Int)=p+(i:Nat)
   ·rw[CD E]
    refine⟨rfl,λu B c b=>?_⟩;rw[g]at c b;by_cases l:(u:Int)=p+(i:Nat)
    ·omega
    rw[CB l]at c b;exact absurd b (D u (by rw[a.len];exact B) c)
   rw[CB E];obtain⟨F,K⟩:=a.new q o ω;refine⟨F,λu B c b=>?_⟩;rw[g]at c b;by_cases l:(u:Int)=p+(i:Nat)
   ·rw[CD l]at b
    exact absurd b.symm (D q (by rw[a.len];exact A) (by rw[F];decide))
   rw[CB l]at c b;exact K u B c b
def m7.undo{r:ah × Nat}(s:m7 k p i r)(h:aA k=true)(d:0<=p/\p+i<=k.F.R.J.length)(e:∀q:Nat,p<=q->(q:Int)<p+i->(nth k.F.R.J q).e=0):aA (unmN r.1 p r.2)=true/\tEq k.F.R (unmN r.1 p r.2).F.R:=by
 have f:=s.le;have g:=mX s.ker d.1 r.2 (by rw[s.len];omega);refine⟨jf s.ker p r.2,((fN r.1 p r.2).1).trans s.len,λq=>?_⟩;rw[g];split
 ·rename_i a
  have c:=e q a.1 ω;obtain⟨-,-,j,-⟩:=aG.1 h;have b:=(b8.1 j).1 q ω;unfold kQ at b;rw[C0]at b;exact⟨⟨λz=>absurd rfl z,λz=>absurd c z⟩,(b.2.2.1 c).symm⟩
 rename_i a;rw[s.out q a];exact⟨Iff.rfl,rfl⟩
def Pg.add{t h:aH}{O r:List aB}{b:List ax}{d:List a7}(i:Pg t O sp la)(E:h.J.length=t.J.length)(S:p+n<=t.J.length)(hp:0<=p)(j:∀q:Nat,¬(p<=q/\(q:Int)<p+n)->nth h.J q=nth t.J q)(a:∀q:Nat,p<=q->(q:Int)<p+n->(nth h.J q).e=2/\∀u:Nat,u<t.J.length->(nth h.J u).e≠0->(nth h.J u).j=(nth h.J q).j->u=q)(J:∀q,RH r q↔RH O q/\¬(p<=q/\q<p+n))(F:∀q,q∈pgs b d↔q∈pgs sp la\/(p<=q/\q<p+n))(w:∀s∈b,0<=s.Q/\(s∈sp\/(p<=s.Q/\s.Q<p+n)))(K:∀l∈d,l∈la\/∀q∈lpgs l l.a1.toNat,p<=q/\q<p+n):Pg h r b d:=by
 have f:∀q:Nat,q<t.J.length->((nth h.J q).e≠0↔(q:Int)∈pgs b d):=λq c=>by
  rw[F];by_cases e:p<=q/\(q:Int)<p+n
  ·have:=(a q e.1 e.2).1
   exact⟨λ_=>.inr e,λ_=>by rw[this];decide⟩
  rw[j q e,i.own q c];exact⟨.inl,λz=>z.resolve_right e⟩
 refine⟨λl A q c u k L G=>?_,λq c=>?_,λq c=>f q (by rw[<-E];exact c),λq c=>?_,λs P u k M H=>?_⟩
 ·rw[E]at k
  have B:=gi (sp:=b) A c;have C:q<t.J.length:=by
   rcases(F _).1 B with g|g
   ·have:=i.bnd _ g;omega
   omega
  by_cases e:p<=q/\(q:Int)<p+n
  ·exact(a q e.1 e.2).2 u k L G
  have N:=(K l A).resolve_right λg=>e (g _ c)
  by_cases o:p<=u/\(u:Int)<p+n
  ·exact((a u o.1 o.2).2 q C ((f q C).2 B) G.symm).symm
  rw[j q e,j u o]at G;rw[j u o]at L;exact i.one l N q c u k L G
 ·rw[E]
  rcases(F _).1 c with g|g
  ·exact i.bnd _ g
  omega
 ·rw[E]at c
  rw[J];by_cases e:p<=q/\(q:Int)<p+n
  ·have:=(a q e.1 e.2).1
   exact⟨λ_ z=>z.2 e,λ_=>by rw[this];decide⟩
  rw[j q e,i.fre q c];exact⟨λz y=>z y.1,λz y=>z ⟨y,e⟩⟩
 obtain⟨T,U⟩:=w s P;obtain⟨V,W⟩:=w u k;have D:∀y∈b,0<=y.Q->y.Q.toNat<t.J.length/\((y.Q.toNat:Nat):Int)=y.Q/\(nth h.J y.Q.toNat).e≠0:=λy X Y=>by
  have g:=dH (la:=d) X;have Q:y.Q.toNat<t.J.length:=by
   rcases(F _).1 g with R|R
   ·have:=i.bnd _ R;omega
   omega
  exact⟨Q,ω,(f _ Q).2 (by rw[show((y.Q.toNat:Nat):Int)=y.Q by omega];exact g)⟩
 obtain⟨Z,sc,sd⟩:=D s P T;obtain⟨ub,uc,ud⟩:=D u k V;by_cases es:p<=s.Q/\s.Q<p+n
 ·have:=(a s.Q.toNat ω ω).2 _ ub ud H.symm
  omega
 by_cases o:p<=u.Q/\u.Q<p+n
 ·have:=(a u.Q.toNat ω ω).2 _ Z sd H
  omega
 rw[j _ ω,j _ ω]at H;exact i.mesh s (U.resolve_right es) u (W.resolve_right o) M H
def FX{a:List ax}{b:List a7}(c:a.Perm sp)(d:b.Perm la):(pgs a b).Perm (pgs sp la):=by
 unfold pgs;exact(c.map _).append (d.flatMap_right _)
def HO(p:Int)(s:ax):Bool:=decide (p<=s.Q)
def Ts(p:Int)(l:a7):Bool:=decide (p<=l.Q)
def addS(h:ab)(k:ah)(a:List aB)(p c:Int):ab:={h with G:=k,w:=a,K:=jP (HO p) h.K ⟨p,c,0⟩}
def kg(a:aY h E){n:Int}(j:1<=n)(k:(au h.w n).2.2=true):0<=(au h.w n).2.1/\(au h.w n).2.1+n<=(tbl h).J.length/\(∀q:Nat,(au h.w n).2.1<=q->(q:Int)<(au h.w n).2.1+n->(nth (tbl h).J q).e=0)/\∀q:Int,(au h.w n).2.1<=q->q<(au h.w n).2.1+n->q∉pgs h.K h.M:=by
 obtain⟨r,l,f,t,o⟩:=om a.rng j k;have g:∀q:Nat,(au h.w n).2.1<=q->(q:Int)<(au h.w n).2.1+n->(nth (tbl h).J q).e=0:=λq b c=>by
  have d:q<(tbl h).J.length:=by
   have:(au h.w n).2.1+n<=((tbl h).J.length:Nat):=f;omega
  by_cases e:(nth (tbl h).J q).e=0
  ·exact e
  exact absurd (o q b c) ((a.pg.fre q d).1 e)
 refine⟨l,f,g,λq b c i=>?_⟩;have u:=a.pg.bnd q i;obtain⟨m,rfl⟩:=O3 (show 0<=q by omega);have p:=(a.pg.own m ω).2 i;exact p (g m b c)
def aY.addS{h:ab}{E:List Int}{c:Int}(a:aY h E)(H:0<=c/\c<=3)(F:(au h.w 1).2.2=true){k:ah}(s:wa h.G (au h.w 1).2.1 (k,true)):aY (addS h k (au h.w 1).1 (au h.w 1).2.1 c) E:=by
 obtain⟨U,G,r3,J,r5⟩:=om a.rng (W5 _) F;obtain⟨-,V,u3,W⟩:=kg a (W5 _) F;generalize (au h.w 1).2.1=p at G r3 J r5 V u3 W s |-;generalize (au h.w 1).1=fr at U J |-;obtain⟨f,f1,f2,K,f4⟩:=s.yes rfl;have M:=(b8.1 (aG.1 a.ker).2.2.1).2.2;change (tbl h).J.length<=32 at M;have X:=a.L;have N:=l9 (HO p) h.K ⟨p,c,0⟩;have O:=FX N (List.Perm.refl h.M);have w:(pgs (jP (HO p) h.K ⟨p,c,0⟩) h.M).Perm (p::pgs h.K h.M):=O;have B:p∉pgs h.K h.M:=W p (W5 _) ω;have P:∀z∈h.K,z.Q≠p:=λz g e=>B (by rw[<-e];exact dH g)
 have i:∀b d,kb (jP (HO p) h.K ⟨p,c,0⟩) b d↔kb h.K b d:=λb d=>by
  constructor
  ·rintro⟨s,C,A,Q⟩
   rcases cQ.1 C with rfl|C
   ·exact absurd A (wM rfl b)
   exact⟨s,C,A,Q⟩
  rintro⟨s,C,A⟩
  exact⟨s,cQ.2 (.inr C),A⟩
 exact {a with
   ker:=s.ker
   rng:=by show bC ((k.F.R.J.length:Nat):Int) fr=true;rw[s.len];exact U
   lay:=by
     obtain⟨l1,l2,l3⟩:=dv a.lay;unfold bp;simp only[I0,C0];refine⟨⟨V4.2 λz g=>?_,l2⟩,w.nodup_iff.2 (List.nodup_cons.2 ⟨B,l3⟩)⟩;rcases cQ.1 g with rfl|g
     · have R:0<=lim c:=by
         have:=(gZ H).1;obtain rfl|rfl|rfl|rfl:c=0\/c=1\/c=2\/c=3:=ω
         all_goals decide
       exact O0 ⟨G,by show p<=31;omega,H.1,H.2,W5 _,R⟩
     exact X.sok z g
   srs:=mq (f:=λz:ax=>z.Q) (y:=⟨p,c,0⟩) a.srs P
   pg:=by
     refine a.pg.add (p:=p) (n:=1) s.len (by exact V) G (λq Y=>?_) (λq q1 q2=>?_) (λq=>J q) (λq=>?_) (λz g=>?_) (λl hl=>.inl hl)
     · exact(K q).trans (CB ω)
     · have Y:(q:Int)=p:=ω
       have Z:nth k.F.R.J q = ⟨2,(f:Nat)⟩:=(K q).trans (CD Y);refine⟨Z0 bk.e Z,λu S t r=>?_⟩;have fu:nth k.F.R.J u=if(u:Int)=p then⟨2,(f:Nat)⟩ else nth h.G.F.R.J u:=K u
       change (nth k.F.R.J u).e≠0 at t;change (nth k.F.R.J u).j=(nth k.F.R.J q).j at r;rw[fu]at t r;rw[Z]at r;by_cases eu:(u:Int)=p
       · omega
       rw[CB eu]at t r;exact absurd r (f4 u S t)
     · show q∈pgs (jP (HO p) h.K ⟨p,c,0⟩) h.M↔_
       rw[w.mem_iff,List.mem_cons];constructor
       · rintro(e|e)
         · exact .inr ⟨ω,ω⟩
         exact .inl e
       rintro(e|e)
       · exact .inr e
       exact .inl ω
     rcases cQ.1 g with rfl|g
     · exact⟨G,.inr ⟨W5 _,by show p<p+((1:Nat):Int);omega⟩⟩
     exact⟨(aC (X.sok z g)).1,.inl g⟩
   oow:=λo F=>by
     rcases a.oow o F with⟨z,g,A,Q⟩|A
     · exact .inl ⟨z,cQ.2 (.inr g),A,Q⟩
     exact .inr A
   hca:=λd hd j hj b D=>(i b j).2 (a.hca d hd j hj b D)
   hqu:=λy T=>(i _ _).2 (a.hqu y T)
   hfl:=λb D=>(i _ _).2 (a.hfl b D)
   hin:=λb D=>(i _ _).2 (a.hin b D)
   mem:=λb=>(a.mem b).trans (by
     show Live h.K h.M b↔Live (jP (HO p) h.K ⟨p,c,0⟩) h.M b;unfold Live;rw[i])
   job:=λhm=>by
     obtain⟨j1,⟨y,T,e1⟩,⟨u,S,e2⟩⟩:=a.job hm;exact⟨j1,⟨y,cQ.2 (.inr T),e1⟩,⟨u,cQ.2 (.inr S),e2⟩⟩}
def addL(h:ab)(k:ah)(a:List aB)(p n size t:Int):ab:={h with G:=k,w:=a,M:=jP (Ts p) h.M ⟨p,n,size⟩,O:=jP (Qy (16*p)) h.O ⟨h.d,16*p,size,t⟩,d:=h.d+1}
def aY.addL{h:ab}{E:List Int}{size t:Int}{n:Nat}(a:aY h E)(g:9<=size/\size<=1000)(J:(n:Int)=(size+15) / 16)(i:(au h.w n).2.2=true){k:ah}(s:m7 h.G (au h.w n).2.1 n (k,n))(hn:h.d<1000000)(ht:0<=t/\t<=h.S.length - 1) :
  aY (addL h k (au h.w n).1 (au h.w n).2.1 n size t) E:=by
 have B:(1:Int)<=n:=ω
 obtain⟨V,K,r3,M,r5⟩:=om a.rng B i;obtain⟨-,W,u3,H⟩:=kg a B i;generalize (au h.w n).2.1=p at K r3 M r5 W u3 H s |-;generalize (au h.w n).1=fr at V M |-;have N:=(b8.1 (aG.1 a.ker).2.2.1).2.2;change (tbl h).J.length<=32 at N;have O:=a.L;have P:=l9 (Ts p) h.M ⟨p,n,size⟩;have C:=l9 (Qy (16*p)) h.O ⟨h.d,16*p,size,t⟩;have Q:lpgs ⟨p,n,size⟩ ((n:Nat):Int).toNat=lpgs ⟨p,n,size⟩ n:=by rw[I3]
 have D:(pgs h.K (jP (Ts p) h.M ⟨p,n,size⟩)).Perm (lpgs ⟨p,n,size⟩ n++pgs h.K h.M):=by
  refine(FX (List.Perm.refl h.K) P).trans ?_;unfold pgs;rw[W7];simp only[Q];rw[<-V6,<-V6];exact List.perm_append_comm.append_right _
 have u:∀q,q∈lpgs ⟨p,n,size⟩ n↔p<=q/\q<p+n:=λq=>by
  rw[d9];constructor
  ·rintro⟨j,hj,rfl⟩;exact⟨by show p<=p+(j:Int);omega,by show p+(j:Int)<_;omega⟩
  rintro⟨X,Y⟩;exact⟨(q - p).toNat,ω,by show q=p+_;omega⟩
 have R:(lpgs ⟨p,n,size⟩ n).Nodup:=by
  unfold lpgs List.Nodup;rw[List.pairwise_map];exact List.nodup_range.imp λr e=>r (by simp only at e;omega)
 have r:∀z∈h.M,z.Q≠p:=λz g e=>H p (W5 _) ω (by rw[<-e];exact gi g (d9.2 ⟨0,by have:=aM (O.lok z g);omega,ω⟩))
 have S:¬Live h.K h.M (16*p):=by
  rintro(⟨z,g,d,-⟩|⟨l,c,e⟩)
  ·exact H p (W5 _) ω (by rw[show p=z.Q by have a1:=d.1;have a2:=d.2.1;omega];exact dH g)
  exact r l c ω
 have F:(16*p)∉E++holders h:=λT=>S ((a.mem _).1 T)
 have U:∀o∈h.O,o.Addr≠16*p:=λo i e=>F (V3.2 (.inr (by unfold holders;simp only[V3];exact .inl (.inl (.inl (Z4.2 ⟨o,i,e⟩))))))
 have Z:(E++holders (Ab.addL h k fr p n size t)).Perm ((16*p)::(E++holders h)):=by
  have h0:=C.map (·.Addr);refine List.perm_iff_count.2 λb=>?_
  have d:=h0.count_eq b;simp only[Y6,List.count_cons]at d;simp only[holders,ce,Ab.addL,Z6,List.count_cons];omega
 exact {a with
   ker:=s.ker
   rng:=by show bC ((k.F.R.J.length:Nat):Int) fr=true;rw[s.len];exact V
   lay:=by
     obtain⟨l1,l2,l3⟩:=dv a.lay;unfold bp;simp only[I0,C0];refine⟨⟨l1,V4.2 λz w=>?_⟩,D.nodup_iff.2 (List.nodup_append.2 ⟨R,l3,λq G b hb e=>?_⟩)⟩
     · rcases cQ.1 w with rfl|w
       · exact O0 ⟨g.1,g.2,J,K,by show p<=32 - (n:Int);omega⟩
       exact O.lok z w
     subst e;have:=(u q).1 G;exact H q this.1 this.2 hb
   srl:=mq (f:=λz:a7=>z.Q) (y:=⟨p,n,size⟩) a.srl r
   pg:=by
     refine a.pg.add (p:=p) (n:=n) s.len (by exact W) K (λq G=>s.out q G) (λq X Y=>s.new q X Y) (λq=>M q) (λq=>?_) (λz g=>⟨(aC (O.sok z g)).1,.inl g⟩) (λl c=>?_)
     · show q∈pgs h.K (jP (Ts p) h.M ⟨p,n,size⟩)↔_
       rw[D.mem_iff,V3,u];exact Or.comm
     rcases cQ.1 c with rfl|c
     · exact .inr λq G=>(u q).1 (by simpa using G)
     exact .inl c
   nums:=A4 a.nums hn
   osr:=mq (f:=λo:bn=>o.Addr) (y:=⟨h.d,16*p,size,t⟩) a.osr U
   onu:=λo i=>by
     rcases cQ.1 i with rfl|i
     · have:=a.nums
       unfold cq at this;rw[C0]at this;exact⟨by show 1<=h.d;omega,by show h.d<=h.d+1 - 1;omega,ht⟩
     have:=a.onu o i;exact⟨this.1,by show o.Id<=h.d+1 - 1;omega,this.2.2⟩
   oid:=by
     show((jP (Qy (16*p)) h.O ⟨h.d,16*p,size,t⟩).map (·.Id)).Nodup;rw[(C.map _).nodup_iff,Y6];refine List.nodup_cons.2 ⟨λT=>?_,a.oid⟩;obtain⟨o,i,e⟩:=Z4.1 T;have:=(a.onu o i).2.1;simp only at e;omega
   oow:=λo A=>by
     rcases cQ.1 A with rfl|A
     · exact .inr ⟨_,cQ.2 (.inl rfl),rfl,rfl⟩
     rcases a.oow o A with d|⟨l,c,d⟩
     · exact .inl d
     exact .inr ⟨l,cQ.2 (.inr c),d⟩
   nd:=Z.nodup_iff.2 (List.nodup_cons.2 ⟨F,a.nd⟩)
   mem:=λb=>by
     rw[Z.mem_iff,List.mem_cons,a.mem b];show _↔Live h.K (jP (Ts p) h.M ⟨p,n,size⟩) b;unfold Live;constructor
     · rintro(rfl|d|⟨l,c,e⟩)
       · exact .inr ⟨_,cQ.2 (.inl rfl),rfl⟩
       · exact .inl d
       exact .inr ⟨l,cQ.2 (.inr c),e⟩
     rintro(d|⟨l,c,e⟩)
     · exact .inr (.inl d)
     rcases cQ.1 c with rfl|c
     · exact .inl e
     exact .inr (.inr ⟨l,c,e⟩)}
structure JK(h h':ab):Prop where
 job:h'.Z=h.Z
 msh:h'.u=h.u
 sp:∀s∈h.K,gk h s.Q=true->∃s'∈h'.K,s'.Q=s.Q/\∀u,meshable s u=true->meshable s' u=true
 ent:∀q:Nat,(nth (tbl h').J q).e≠0->((nth (tbl h).J q).e≠0/\(nth (tbl h').J q).j=(nth (tbl h).J q).j)\/∀u:Nat,(nth (tbl h').J u).e≠0->(nth (tbl h').J u).j=(nth (tbl h').J q).j->u=q
def JK.refl(h:ab):JK h h:=⟨rfl,rfl,λs a _=>⟨s,a,rfl,λ_ z=>z⟩,λ_ b=>.inl ⟨b,rfl⟩⟩
variable{h':ab}
def JK.pg(k:JK h h')(p:Int):gk h' p=gk h p:=by unfold gk;rw[k.job,k.msh]
def JK.trans{h1 g:ab}(a:JK h h1)(b:JK h1 g):JK h g:=by
 refine⟨b.job.trans a.job,b.msh.trans a.msh,λs o i=>?_,λq j=>?_⟩
 ·obtain⟨p,r,k,t⟩:=a.sp s o i
  obtain⟨w,y,A,B⟩:=b.sp p r (by rw[a.pg,k];exact i);exact⟨w,y,A.trans k,λu c=>B u (t u c)⟩
 rcases b.ent q j with⟨d,l⟩|d
 ·rcases a.ent q d with⟨e,C⟩|e
  ·exact .inl ⟨e,l.trans C⟩
  refine .inr λu c n=>?_
  rcases b.ent u c with⟨f,D⟩|f
  ·exact e u f (by rw[<-D,<-l];exact n)
  exact(f q j n.symm).symm
 exact .inr d
def oZ.keep(f:0<=p)(d:(nth (tbl h').J p.toNat).e≠0)(g:oZ (tbl h) p)(k:JK h h'):oZ (tbl h') p:=λq e c=>by
 rcases k.ent p.toNat d with⟨n,i⟩|a
 ·rcases k.ent q e with⟨j,l⟩|b
  ·exact g q j (by rw[<-l,c,i])
  have:=b p.toNat d c.symm;omega
 have:=a q e c;omega
def aY.mapped(a:aY h E)(b:s∈h.K):0<=s.Q/\s.Q<(tbl h).J.length/\(nth (tbl h).J s.Q.toNat).e≠0:=by
 have c:=(aC (a.L.sok s b)).1;have d:=a.pg.bnd _ (dH (la:=h.M) b);refine⟨c,d,(a.pg.own s.Q.toNat ω).2 ?_⟩;rw[show((s.Q.toNat:Nat):Int)=s.Q by omega];exact dH b
def JI.keep(l:JI h)(p:aY h' E)(k:JK h h'):JI h':=by
 have d:h.u=true->∃a∈h'.K,∃b∈h'.K,a.Q=h.Z.X.a3/\b.Q=h.Z.X.a2/\meshable a b=true:=λc=>by
  obtain⟨a,n,b,o,f,g,e⟩:=l.sp c;obtain⟨q,t,u,w⟩:=k.sp a n (by unfold gk;rw[c,f];simp);obtain⟨y,A,B,C⟩:=k.sp b o (by unfold gk;rw[c,g];simp);refine⟨q,t,y,A,u.trans f,B.trans g,?_⟩;have r:=w b e;rw[gR]at r |-;exact C q r
 refine⟨λc=>?_,λc=>?_,λc=>?_,λc=>?_⟩
 ·rw[k.msh]at c;rw[k.job];exact l.ph c
 ·rw[k.msh]at c;rw[k.job];exact d c
 ·rw[k.msh]at c
  obtain⟨a,n,b,o,f,g,e⟩:=d c;obtain⟨i,D,j⟩:=p.mapped n;rw[k.job];rw[f]at i j;exact(l.sk c).keep i j k
 rw[k.msh]at c;obtain⟨a,n,b,o,f,g,e⟩:=d c;obtain⟨i,D,j⟩:=p.mapped o;rw[k.job];rw[g]at i j;exact(l.sm c).keep i j k
def JK.less(h1:h'.Z=h.Z)(c:h'.u=h.u)(d:h'.K=h.K)(b:∀q:Nat,(nth (tbl h').J q).e≠0->nth (tbl h').J q=nth (tbl h).J q):JK h h':=
 ⟨h1,c,λs e _=>⟨s,by rw[d];exact e,rfl,λ_ z=>z⟩,λq a=>.inl ⟨by rw[<-b q a];exact a,by rw[b q a]⟩⟩
def JK.eq(h1:h'.Z=h.Z)(a:h'.u=h.u)(b:h'.K=h.K)(c:tbl h'=tbl h):JK h h':=.less h1 a b λq _=>by rw[c]
def JK.clrS{h:ab}{E:List Int}{a:Int}{i:Nat}(f:aY h E)(c:i<h.K.length)(d:ef (nth h.K i) a):JK h (clrS h i a):=by
 refine⟨rfl,rfl,λs g _=>?_,λq k=>.inl ⟨k,rfl⟩⟩;obtain⟨j,l,rfl⟩:=aK g;by_cases e:j=i
 ·subst e
  have b:=f.L.sok _ (am c);exact⟨_,jg _ c,rfl,λu n=>uv b (qt b ⟨d.1,d.2.1⟩) n⟩
 exact⟨_,kw _ l e,rfl,λ_ z=>z⟩
def JK.giveP{h:ab}{E:List Int}{i:Nat}(d:aY h E)(f:i<h.K.length)(c:gk h (nth h.K i).Q=false):JK h (giveP h i):=by
 obtain⟨g,k,-⟩:=d.mapped (am f);refine⟨rfl,rfl,λs l a=>?_,λq b=>.inl ?_⟩
 ·obtain⟨j,n,rfl⟩:=aK l
  exact⟨_,dd.2 ⟨j,n,λe=>(by subst e;rw[c]at a;cases a),rfl⟩,rfl,λ_ z=>z⟩
 have o:=rO d.ker (p:=(nth h.K i).Q) ⟨g,k⟩ q;change (nth (ee h.G (nth h.K i).Q).F.R.J q).e≠0 at b;show(nth h.G.F.R.J q).e≠0/\(nth (ee h.G (nth h.K i).Q).F.R.J q).j=(nth h.G.F.R.J q).j;rw[o]at b |-;split at b
 ·exact absurd rfl b
 rename_i e;rw[CB e];exact⟨b,rfl⟩
def JK.freeS{h:ab}{E:List Int}{a:Int}{i:Nat}(c:aY h (a::E))(b:i<h.K.length)(d:ef (nth h.K i) a):JK h (freeS h i a):=by
 have g:=c.give b d;have f:=JK.clrS c b d;unfold Ab.freeS;split
 ·rename_i e
  have j:nth (Ab.clrS h i a).K i=nl (nth h.K i) (dD (nth h.K i) a):=by unfold Ab.clrS;simp only[bE,true_and];rw[CD b]
  exact f.trans (JK.giveP (h:=Ab.clrS h i a) g (by unfold Ab.clrS;simp only[W1];exact b) (by rw[j];exact e.2))
 exact f
def JK.freeA{h:ab}{E:List Int}{a:Int}(b:aY h (a::E)):JK h (freeA h a):=by
 obtain⟨c,d,-⟩:=b.at (b.hin a (C2 ..));exact JK.freeS b c d
def JK.recyc{h:ab}{E:List Int}{a:Int}{t:Nat}(b:aY h (a::E)):JK h (recyc t h a):=by
 unfold Ab.recyc;split
 ·exact JK.eq rfl rfl rfl rfl
 exact JK.freeA b
def JK.recycs{t:Nat}{E:List Int} : ∀{az:List Int}{h:ab},aY h (az++E)->t<h.S.length->JK h (recycs t h az)
 | [],h,_,_=>JK.refl h
 | a::az,h,b,c=>(JK.recyc (t:=t) b).trans (JK.recycs (az:=az) (h:=Ab.recyc t h a) (b.recyc c) (by rw[(ou t h a).1];exact c))
def JK.freeAs{E:List Int} : ∀{az:List Int}{h:ab},aY h (az++E)->JK h (freeAs h az)
 | [],h,_=>JK.refl h
 | a::az,h,b=>(JK.freeA b).trans (JK.freeAs (az:=az) (h:=Ab.freeA h a) b.freeA)
def JK.flushN{t:Nat}{h:ab}(c:aY h [])(d:t<h.S.length):∀{k:Nat},k<=4->JK h (flushN t h k).1
 | 0,_=>JK.refl h
 | k+1,e=>by
  obtain⟨h1,f,-⟩:=jO c d (k:=k) ω;have a:t<(Ab.flushN t h k).1.S.length:=ω
  have b:k<(nth (Ab.flushN t h k).1.S t).b.length:=by rw[(fw (h1.cach _ (am a))).1];omega
  exact JK.trans (h1:=Ab.spilt (Ab.flushN t h k).1 t k) ((JK.flushN c d (k:=k) ω).trans (JK.eq rfl rfl rfl rfl)) (JK.freeAs (h1.spilt a b))
def uC(a:aY h E){k:Nat}(b:k<h.M.length):0<=(nth h.M k).Q/\(nth h.M k).Q+((nth h.M k).a1.toNat:Nat)<=(tbl h).J.length:=by
 have c:=aM (a.L.lok _ (am b));have d:=a.pg.bnd _ (gi (sp:=h.K) (am b) (d9.2 ⟨(nth h.M k).a1.toNat - 1,ω,rfl⟩));exact⟨ω,ω⟩
def JK.freeL{h:ab}{E:List Int}{i k:Nat}(b:aY h E)(c:k<h.M.length):JK h (freeL h i k):=by
 obtain⟨d,f⟩:=uC b c;refine JK.less rfl rfl rfl λq a=>?_
 have g:=mX b.ker d (nth h.M k).a1.toNat f q;change (nth (unmN h.G (nth h.M k).Q (nth h.M k).a1.toNat).F.R.J q).e≠0 at a;show nth (unmN h.G (nth h.M k).Q (nth h.M k).a1.toNat).F.R.J q=nth h.G.F.R.J q;rw[g]at a |-;split at a
 ·exact absurd rfl a
 rename_i e;rw[CB e]
def JK.freeOb{h:ab}{t i:Nat}(a:aY h [])(c:i<h.O.length)(d:t<h.S.length):JK h (freeOb h t i).1:=by
 unfold Ab.freeOb;split
 ·rename_i b
  obtain⟨l,e,h1,-⟩:=(dU a (am c)).1 b;exact JK.freeL a (sq e h1).1
 rename_i b;split
 ·exact JK.refl h
 have h1:=a.inQuar c b;exact JK.trans (h1:=Ab.inQuar h i) (JK.eq rfl rfl rfl rfl) (JK.recycs (E:=[]) (by rw[List.append_nil];exact h1) d)
def JK.take{k:Int}(b:gk h (nth h.K i).Q=false):JK h {h with c0:=sd,K:=h.K.set i (ri (nth h.K i) k)}:=by
 refine⟨rfl,rfl,λs c a=>?_,λq d=>.inl ⟨d,rfl⟩⟩;obtain⟨j,f,rfl⟩:=aK c;exact⟨_,kw _ f λe=>(by subst e;rw[b]at a;cases a),rfl,λ_ z=>z⟩
def tK{t:aH}{q:Nat}(h:(nth t.J q).e≠0):q<t.J.length:=by
 by_cases e:q<t.J.length
 ·exact e
 exfalso;apply h;unfold nth;rw[C3,Z2 ω]
 rfl
def JK.addS{h:ab}{k:ah}{l:List aB}{p c:Int}(s:wa h.G p (k,true)):JK h (addS h k l p c):=by
 obtain⟨f,t,w,d,n⟩:=s.yes rfl;have b:k.F.R.J.length=h.G.F.R.J.length:=s.len;refine⟨rfl,rfl,λz o _=>⟨z,cQ.2 (.inr o),rfl,λ_ y=>y⟩,λq g=>?_⟩;change (nth k.F.R.J q).e≠0 at g;show((nth h.G.F.R.J q).e≠0/\(nth k.F.R.J q).j=(nth h.G.F.R.J q).j)\/∀u:Nat,(nth k.F.R.J u).e≠0->(nth k.F.R.J u).j=(nth k.F.R.J q).j->u=q
 by_cases e:(q:Int)=p
 ·refine .inr λu i a=>?_
  have j:=tK i;have f3u:=d u;have f3q:=d q;simp only at f3u f3q;rw[CD e]at f3q;rw[f3q]at a;by_cases r:(u:Int)=p
  ·omega
  rw[CB r]at f3u;rw[f3u]at i a;exact absurd a (n u (by rw[<-b];exact j) i)
 have f3q:=d q;simp only at f3q;rw[CB e]at f3q;rw[f3q]at g |-;exact .inl ⟨g,rfl⟩
def JK.addL{h:ab}{k:ah}{g:List aB}{p size t:Int}{n:Nat}(s:m7 h.G p n (k,n)):JK h (addL h k g p n size t):=by
 have a:k.F.R.J.length=h.G.F.R.J.length:=s.len;refine⟨rfl,rfl,λz i _=>⟨z,i,rfl,λ_ y=>y⟩,λq b=>?_⟩;change (nth k.F.R.J q).e≠0 at b;show((nth h.G.F.R.J q).e≠0/\(nth k.F.R.J q).j=(nth h.G.F.R.J q).j)\/∀u:Nat,(nth k.F.R.J u).e≠0->(nth k.F.R.J u).j=(nth k.F.R.J q).j->u=q
 by_cases e:p<=q/\(q:Int)<p+n
 ·exact .inr λu d c=>(s.new q e.1 e.2).2 u (by rw[<-a];exact tK d) d c
 have f:=s.out q e;simp only at f;rw[f]at b |-;exact .inl ⟨b,rfl⟩
def ui(h:ab):∀{n:Nat},n<=h.K.length->∀s∈ml h n,(aP h s.Q).length=1
 | 0,_,s,a=>by cases a
 | n+1,b,s,a=>by
  unfold ml at a;split at a
  ·rename_i e
   rcases V3.1 a with a|a
   ·exact ui h ω s a
   unfold A5 at e;simp only[I0,C0]at e;rw[V1.1 a];exact e.2
  exact ui h ω s a
def aY.sole(e:aY h E)(f:s∈h.K)(h1:(aP h s.Q).length=1):oZ (tbl h) s.Q:=λq a g=>by
 obtain⟨k,l,b⟩:=e.mapped f;have i:s.Q=((s.Q.toNat:Nat):Int):=ω
 rw[i,eO (by show s.Q.toNat<(tbl h).J.length;omega) b]at h1;obtain⟨z,j⟩:=List.length_eq_one_iff.1 h1;have c:(s.Q.toNat:Int)∈pagesOn (tbl h) (nth (tbl h).J s.Q.toNat).j:=d7.2 ⟨ω,b,rfl⟩;have d:(q:Int)∈pagesOn (tbl h) (nth (tbl h).J s.Q.toNat).j:=d7.2 ⟨tK a,a,g⟩;rw[j]at c d;simp only[V1]at c d;omega
def Jl(l:aY h [])(n:h.u=false):aY (started h).1 []/\JI (started h).1:=by
 have G:=l.nums;unfold cq at G;rw[C0]at G;have M:=(mY (bD h).length (show 0<=h.c0/\h.c0<=1073741823 by omega) ((bD h).length - 1)).2;have o:=nC (bD h) (show 0<=h.c0/\h.c0<=1073741823 by omega);have c:cq {h with c0:=(shuf (bD h).length h.c0).2} = true:=by
  unfold cq;rw[C0];unfold shuf;simp only;omega
 cases p:m6 (bD h) h.c0 with
 | nil=>
  have f:Ab.started h=({h with c0:=(shuf (bD h).length h.c0).2},false):=by unfold Ab.started;rw[p]
  rw[f];exact⟨{l with nums:=c},⟨λe=>by simp[n]at e,λe=>by simp[n]at e,λe=>by simp[n]at e,λe=>by simp[n]at e⟩⟩
 | cons q R=>
  obtain⟨S,T,g⟩:=o q (by rw[p];exact C2 ..);have f:Ab.started h=({h with c0:=(shuf (bD h).length h.c0).2,u:=true,Z:=tT (dq (nth (bD h) q.A.toNat) (nth (bD h) q.B.toNat))},true):=by unfold Ab.started;rw[p]
  rw[f];have d:∀s∈bD h,s∈h.K/\oZ (tbl h) s.Q:=λs N=>by
   have H:=List.mem_of_mem_take N;have J:=nw h (W3 _) s H;exact⟨J,l.sole J (ui h (W3 _) s H)⟩
  have j:=d _ (am (xs:=bD h) (i:=q.A.toNat) ω);have k:=d _ (am (xs:=bD h) (i:=q.B.toNat) ω);generalize nth (bD h) q.A.toNat=a at g j |-;generalize nth (bD h) q.B.toNat=b at g k |-;obtain⟨O,U,V⟩:=uB g;have r:(dq a b).a3=a.Q/\(dq a b).a2=b.Q\/(dq a b).a3=b.Q/\(dq a b).a2=a.Q:=by
   unfold dq;split
   ·exact .inr ⟨rfl,rfl⟩
   exact .inl ⟨rfl,rfl⟩
  have t:kx (tT (dq a b))=true:=dA.2 ⟨O,by show(0:Int)<=0;omega,by show(0:Int)<=5;omega,by show(0:Int)<=0;omega,by show(0:Int)<=(((dq a b).T.length:Nat):Int);omega⟩;have u:∃x∈h.K,∃y∈h.K,x.Q=(dq a b).a3/\y.Q=(dq a b).a2/\meshable x y=true/\oZ (tbl h) x.Q/\oZ (tbl h) y.Q:=by
   rcases r with⟨w,C⟩|⟨w,C⟩
   ·exact⟨a,j.1,b,k.1,w.symm,C.symm,g,j.2,k.2⟩
   exact⟨b,k.1,a,j.1,w.symm,C.symm,by rw[gR];exact g,k.2,j.2⟩
  obtain⟨x,K,y,L,D,E,F,P,Q⟩:=u;exact⟨{l with nums:=c,job:=λ_=>⟨t,⟨x,K,D⟩,⟨y,L,E⟩⟩,noj:=λe=>by cases e},⟨λ_=>⟨by show(0:Int)<=0;omega,by show(0:Int)<=3;omega⟩,λ_=>⟨x,K,y,L,D,E,F⟩,λ_=>by show oZ (tbl h) (dq a b).a3;rw[<-D];exact P,λ_=>by show oZ (tbl h) (dq a b).a2;rw[<-E];exact Q⟩⟩
def gd(m:aL)(f:Nat):aL:=⟨m.V.set f ((nth m.V f).drop 1),m.y.set (nth (nth m.V f) 0).To.toNat (nth m.y (nth (nth m.V f) 0).To.toNat++[(nth (nth m.V f) 0).Addr])⟩
def lH(m:aL)(t:Nat):aL:=⟨m.V,m.y.set t []⟩
def iB(m:aL)(f:Nat)(p:dw):aL:=⟨m.V.set f (nth m.V f++[p]),m.y⟩
def dP{m:aL} : bP m=true↔(1<=m.V.length/\m.V.length<=4/\m.y.length=m.V.length)/\(∀i,i<m.V.length->(∀p∈nth m.V i,0<=p.To/\p.To<=(m.V.length:Int) - 1/\0<=p.Addr)/\∀a∈nth m.y i,0<=a)/\bx m m.V.length<=30:=by
 unfold bP;simp only[I0,C0,ch,gY,V4,nE,Rt];exact and_assoc
def pR(m:aL)(f t:Nat)(x:List dw)(y:List Int)(g:f<m.V.length)(h:t<m.y.length):∀n:Nat,bx ⟨m.V.set f x,m.y.set t y⟩ n=bx m n+(if f<n then(x.length:Int) - ((nth m.V f).length:Nat) else 0)+(if t<n then(y.length:Int) - ((nth m.y t).length:Nat) else 0)
 | 0=>by simp[bx]
 | n+1=>by
  have i:=pR m f t x y g h n;have j:(nth (m.V.set f x) n).length=if f=n then x.length else(nth m.V n).length:=by
   rw[bE];by_cases e:f=n
   ·rw[CD ⟨e,ω⟩,CD e]
   rw[CB λz=>e z.1,CB e]
  have k:(nth (m.y.set t y) n).length=if t=n then y.length else(nth m.y n).length:=by
   rw[bE];by_cases e:t=n
   ·rw[CD ⟨e,ω⟩,CD e]
   rw[CB λz=>e z.1,CB e]
  simp only[bx,i,j,k];by_cases d:f=n
  ·subst d
   by_cases b:t=f
   ·subst b
    simp only[if_true,Nat.lt_irrefl,if_false,Nat.lt_succ_self];omega
   simp only[if_true,Nat.lt_irrefl,if_false,Nat.lt_succ_self,CB b];by_cases a:t<f
   ·rw[CD a,CD (show t<f+1 by omega)];omega
   rw[CB a,CB (show ¬t<f+1 by omega)];omega
  by_cases b:t=n
  ·subst b
   simp only[if_true,Nat.lt_irrefl,if_false,Nat.lt_succ_self,CB d];by_cases a:f<t
   ·rw[CD a,CD (show f<t+1 by omega)];omega
   rw[CB a,CB (show ¬f<t+1 by omega)];omega
  simp only[CB d,CB b];by_cases a:f<n
  ·rw[CD a,CD (show f<n+1 by omega)]
   by_cases c:t<n
   ·rw[CD c,CD (show t<n+1 by omega)];omega
   rw[CB c,CB (show ¬t<n+1 by omega)];omega
  rw[CB a,CB (show ¬f<n+1 by omega)];by_cases c:t<n
  ·rw[CD c,CD (show t<n+1 by omega)];omega
  rw[CB c,CB (show ¬t<n+1 by omega)];omega
def Rn[Inhabited α]{xs:List α}(h:i<xs.length):xs.set i (nth xs i)=xs:=by
 rw[<-X2.1 (ao h) |>.2];exact List.set_getElem_self h
def Fh{m:aL}(h:bP m=true)(d:f<m.V.length)(n:0<(nth m.V f).length):bP (gd m f)=true:=by
 obtain⟨⟨o,q,r⟩,g,y⟩:=dP.1 h;obtain⟨t,A⟩:=g f d;have c:=t _ (am n);have u:(nth (nth m.V f) 0).To.toNat<m.y.length:=ω
 refine dP.2 ⟨⟨?_,?_,?_⟩,λi j=>?_,?_⟩
 ·simp only[gd,W1];exact o
 ·simp only[gd,W1];exact q
 ·simp only[gd,W1];exact r
 ·simp only[gd,W1]at j |-
  obtain⟨k,l⟩:=g i j;simp only[bE];refine⟨λp c=>?_,λa b=>?_⟩
  ·split at c
   ·rename_i e;rw[<-e.1]at k
    refine(g f d).1 p (List.mem_of_mem_drop c)
   exact k p c
  split at b
  ·rename_i e
   rcases V3.1 b with b|b
   ·rw[e.1]at b;exact l a b
   rw[V1.1 b];exact c.2.2
  exact l a b
 have w:=pR m f (nth (nth m.V f) 0).To.toNat ((nth m.V f).drop 1) (nth m.y (nth (nth m.V f) 0).To.toNat++[(nth (nth m.V f) 0).Addr]) d u m.V.length;simp only[gd,W1];rw[w,CD d,CD ω,Z3,Y3,List.length_singleton];omega
def Re{m:aL}(h:bP m=true)(d:t<m.y.length):bP (lH m t)=true:=by
 obtain⟨⟨e,f,g⟩,j,o⟩:=dP.1 h;refine dP.2 ⟨⟨e,f,?_⟩,λi k=>?_,?_⟩
 ·simp only[lH,W1];exact g
 ·obtain⟨l,n⟩:=j i k
  simp only[lH,bE];refine⟨l,λa b=>?_⟩;split at b
  ·cases b
  exact n a b
 have c:=pR m t t (nth m.V t) [] ω d m.V.length;rw[Rn ω]at c;show bx ⟨m.V,m.y.set t []⟩ m.V.length<=30;rw[c,CD ω,CD ω,List.length_nil];omega
def lz{m:aL}(h:bP m=true)(b:Int):(aF m).count b=(m.V.flatMap λl=>l.map (·.Addr)).count b+(m.y.flatMap λx=>x).count b:=by
 unfold aF;rw[CD h,Z6,lG]
def aY.mailed{c:List Int}{m:aL}(d:aY h E)(i:bP m=true)(j:m.V.length=h.q.V.length)(k:∀b,c.count b+(aF m).count b=E.count b+(aF h.q).count b)(f:∀a,a∈c\/a∈aF m->kb h.K a (-1)):aY {h with q:=m} c:=by
 have g:(E++holders h).Perm (c++holders {h with q:=m}):=by
  refine List.perm_iff_count.2 λb=>?_
  have l:=k b;simp only[holders,ce,Z6];omega
 exact {d with
   mail:=i
   nc:=d.nc.trans j.symm
   hfl:=λa e=>f a (.inr e)
   hin:=λa e=>f a (.inl e)
   nd:=g.nodup_iff.1 d.nd
   mem:=λb=>by rw[<-g.mem_iff];exact d.mem b}
def GW{d:List Int}{m:aL}(f:aY h E)(g:∀b,d.count b+(aF m).count b=E.count b+(aF h.q).count b):∀a,a∈d\/a∈aF m->kb h.K a (-1):=λa c=>by
 have i:=g a;have j:0<d.count a+(aF m).count a:=by
  rcases c with c|c
  ·have:=List.count_pos_iff.2 c;omega
  have:=List.count_pos_iff.2 c;omega
 by_cases e:0<E.count a
 ·exact f.hin a (List.count_pos_iff.1 e)
 exact f.hfl a (List.count_pos_iff.1 ω)
def aY.deliv(a:aY h E)(e:f<h.q.V.length)(d:0<(nth h.q.V f).length):aY {h with q:=gd h.q f} E:=by
 have c:=Fh a.mail e d;obtain⟨⟨q,r,t⟩,j,u⟩:=dP.1 a.mail;have k:=(j f e).1 _ (am d);have g:∀b,E.count b+(aF (gd h.q f)).count b=E.count b+(aF h.q).count b:=λb=>by
  rw[lz c,lz a.mail];have i:=jo (λl:List dw=>l.map (·.Addr)) b h.q.V f ((nth h.q.V f).drop 1) e;have n:=jo (λx:List Int=>x) b h.q.y (nth (nth h.q.V f) 0).To.toNat (nth h.q.y (nth (nth h.q.V f) 0).To.toNat++[(nth (nth h.q.V f) 0).Addr]) ω;have o:(nth h.q.V f).map (·.Addr)=(nth (nth h.q.V f) 0).Addr::((nth h.q.V f).drop 1).map (·.Addr):=by
   generalize nth h.q.V f=l at d
   match l,d with
   | p::l,_=>rfl
  simp only[gd];rw[o]at i;simp only[List.count_cons]at i;simp only[Z6,List.count_singleton]at n;omega
 exact a.mailed c (by simp[gd]) g (GW a g)
def aY.coll(c:aY h E)(d:t<h.q.y.length):aY {h with q:=lH h.q t} (nth h.q.y t++E):=by
 have a:=Re c.mail d;have e:∀b,(nth h.q.y t++E).count b+(aF (lH h.q t)).count b=E.count b+(aF h.q).count b:=λb=>by
  rw[lz a,lz c.mail];have f:=jo (λx:List Int=>x) b h.q.y t [] d;simp only[List.count_nil]at f;simp only[lH,Z6];omega
 exact c.mailed a rfl e (GW c e)
def aY.send{p:dw}(c:aY h (p.Addr::E))(e:f<h.q.V.length)(a:bP (iB h.q f p)=true):aY {h with q:=iB h.q f p} E:=by
 have d:∀b,E.count b+(aF (iB h.q f p)).count b=(p.Addr::E).count b+(aF h.q).count b:=λb=>by
  rw[lz a,lz c.mail];have g:=jo (λl:List dw=>l.map (·.Addr)) b h.q.V f (nth h.q.V f++[p]) e;simp only[W6,Y6,List.map_nil,Z6,List.count_singleton]at g;simp only[iB,List.count_cons];omega
 exact c.mailed a (by simp[iB]) d (GW c d)
def sU(now:Int):List aN->Nat
 | []=>0
 | x::xs=>if x.b7<now - 100 then sU now xs+1 else 0
def aged(h:ab)(n:Int):ab:={h with b5:=h.b5+n,a9:=⟨h.a9.c1,h.a9.a5.drop (sU (h.b5+n) h.a9.a5)⟩}
def oA(h:ab)(n:Int):List Int:=(h.a9.a5.take (sU (h.b5+n) h.a9.a5)).map (·.Addr)
def tick(h:ab)(n:Int):ab:=freeAs (aged h n) (oA h n)
def pT(x:aN)(xs:List aN):∀n,quarCells (x::xs) (n+1)=csz x.a+quarCells xs n
 | 0=>by simp only[quarCells];show 0+csz x.a=csz x.a+0;omega
 | n+1=>by
  rw[jy,pT x xs n,jy];show csz x.a+quarCells xs n+csz (nth xs n).a=_;omega
def TF(k:Int):0<=csz k:=by
 unfold csz;split
 ·exact Int.le_of_lt (Int.pow_pos (by decide))
 decide
def JT:∀(l:List aN)(k:Nat),qc (l.drop k)<=qc l
 | [],k=>by simp
 | x::xs,0=>W5 _
 | x::xs,k+1=>by
  have a:=JT xs k;have b:=TF x.a;have c:qc (x::xs)=csz x.a+qc xs:=pT x xs xs.length;show qc (xs.drop k)<=qc (x::xs);omega
def aY.aged{h:ab}{E:List Int}{n:Int}(a:aY h E)(t:0<=n)(u:h.b5+n<=1000000):aY (aged h n) (oA h n++E):=by
 obtain⟨i,j,k,o,p,q⟩:=ku.1 a.quar;have c:=a.nums;unfold cq at c;rw[C0]at c;have e:=List.drop_sublist (sU (h.b5+n) h.a9.a5) h.a9.a5;have g:(E++holders h).Perm ((oA h n++E)++holders (Ab.aged h n)):=by
  refine List.perm_iff_count.2 λb=>?_
  have r:=Z0 (λl:List aN=>(l.map (·.Addr)).count b) (List.take_append_drop (sU (h.b5+n) h.a9.a5) h.a9.a5);simp only[W6,Z6]at r;simp only[holders,ce,Ab.aged,oA,Z6];omega
 exact {a with
   nums:=by unfold cq;rw[C0];simp only[Ab.aged];omega
   quar:=ku.2 ⟨λy d=>i y (e.subset d),j.sublist e,k.sublist (e.map _),o,p,V5 (JT _ _) q⟩
   snc:=λy d=>by
     have:=a.snc y (e.subset d);show y.b7<=h.b5+n;omega
   hqu:=λy d=>a.hqu y (e.subset d)
   hin:=λb f=>by
     rcases V3.1 f with f|f
     · obtain⟨y,d,rfl⟩:=Z4.1 f
       exact(a.hqu y (List.mem_of_mem_take d)).any
     exact a.hin b f
   nd:=g.nodup_iff.1 a.nd
   mem:=λb=>by rw[<-g.mem_iff];exact a.mem b}
def aY.tick{h:ab}{n:Int}(a:aY h [])(b:0<=n)(c:h.b5+n<=1000000):aY (tick h n) []/\JK h (tick h n):=by
 have h1:=a.aged b c;exact⟨aY.freeAs h1,JK.trans (h1:=Ab.aged h n) (JK.eq rfl rfl rfl rfl) (JK.freeAs h1)⟩
def collect(h:ab)(t:Nat):ab:=recycs t {h with q:=lH h.q t} (nth h.q.y t)
def aY.collect{h:ab}{t:Nat}(a:aY h [])(b:t<h.S.length):aY (collect h t) []/\JK h (collect h t):=by
 have h1:=a.coll (t:=t) (by rw[(dP.1 a.mail).1.2.2,<-a.nc];exact b);exact⟨aY.recycs h1 b,JK.trans (h1:={h with q:=lH h.q t}) (JK.eq rfl rfl rfl rfl) (JK.recycs h1 b)⟩
def NW(h:ab)(t i:Nat):ab:={h with G:=f7 h.G (nth h.O i).Addr (csz (aJ (nth h.O i).o)).toNat,O:=dele h.O i,q:=iB h.q t ⟨(nth h.O i).a4,(nth h.O i).Addr⟩}
def freeT(h:ab)(t i:Nat):ab × Int:=
 if aJ (nth h.O i).o<0 then(freeL h i (wz h (nth h.O i).Addr),0)
 else if(ac (tbl h) ((nth h.O i).Addr / 16)).e=1 then(h,5)
 else if(nth h.O i).a4=t then(GK h t i,0)
 else if bP (iB h.q t ⟨(nth h.O i).a4,(nth h.O i).Addr⟩)=true then(NW h t i,0) else(h,5)
def B4(e:(nth h.O i).a4=t):freeT h t i=freeOb h t i:=by
 unfold freeT freeOb;rw[CD e]
def aY.freeT{h:ab}{t i:Nat}(a:aY h [])(b:i<h.O.length)(c:t<h.S.length):aY (freeT h t i).1 []/\JK h (freeT h t i).1:=by
 by_cases e:(nth h.O i).a4=t
 ·rw[B4 e];exact⟨a.freeOb b c,JK.freeOb a b c⟩
 have d:=a.freeOb b c;have f:=JK.freeOb a b c;unfold Ab.freeOb at d f;unfold Ab.freeT;split
 ·rename_i g
  rw[CD g]at d f;exact⟨d,f⟩
 rename_i g;rw[CB g]at d f;split
 ·exact⟨a,JK.refl h⟩
 split
 ·rename_i j
  obtain⟨⟨s,l,n,o⟩,u⟩:=(dU a (am b)).2 g;have q:=a.dropO b (kb.any ⟨s,l,n,.inr o⟩);have r:=q.cells (k:=f7 h.G (nth h.O i).Addr (csz (aJ (nth h.O i).o)).toNat) (Ft a.ker _ _) rfl;exact⟨aY.send (p:=⟨(nth h.O i).a4,(nth h.O i).Addr⟩) r (by show t<h.q.V.length;rw[<-a.nc];exact c) j,JK.eq rfl rfl rfl rfl⟩
 exact⟨a,JK.refl h⟩
def dM(k:ah)(a v:Int):ah:=setCell k (cY k a) (a % 16) v
def xg(h:aA k=true){v:Int}(b:(ac k.F.R (a / 16)).e≠0)(c:0<=v/\v<=999):aA (dM k a v)=true:=by
 obtain⟨d,e,-⟩:=gK h b;exact rV h (f:=cY k a) d e c
def aY.store{v:Int}(b:aY h [])(c:(ac h.G.F.R (a / 16)).e≠0)(d:0<=v/\v<=999):aY {h with G:=dM h.G a v} []/\JK h {h with G:=dM h.G a v}:=
 ⟨b.cells (xg b.ker c d) rfl,JK.eq rfl rfl rfl rfl⟩
open Go.RowKit
set_option maxRecDepth 20000
set_option maxHeartbeats 4000000
def Kq[Inhabited α]{a b:List α}(d:a.length=b.length)(h:∀j,j<a.length->nth a j=nth b j):a=b:=by
 refine List.ext_getElem d λj c e=>?_
 have:=h j c
 rwa [bm (W2 c),bm (W2 e)]at this
def GX(a b:List Int)(p:a.length<=1048576):zzA 280 false [.val none (aD .U a),.val none (aD .U b)] .one [B (decide (a=b))]:=by
 refine fO 26 [(6,8,[16,17,18,19,20,21,22,23])] Tryz.func280 rfl ?_;by_cases c:a.length=b.length
 ·repeat'(first|refine gB ?_|fail)
  (conv=>whnf)
  refine CH (ι:=Nat) (λi=>[(0,.H .one (aD .U a)),(1,.H .one (aD .U b)),(12,.H .one [I (a.length)]),(13,.H .one [I ((i:Nat):Int)])]) (λi=>i<=a.length/\cE i (λj=>decide (nth a j=nth b j))=true) (λi=>a.length - i) 0 ?_ ⟨X0 _,rfl⟩ λi d=>?_
  ·exact wB
  obtain⟨d,g⟩:=d;by_cases n:i<a.length
  ·have k:=ao n
   have l:=ao (xs:=b) (i:=i) ω;by_cases e:nth a i=nth b i
   ·repeat'(first|refine gB ?_|fail)
    ((conv=>whnf);refine CG (i+1) ⟨ω,br g (O0 e)⟩ ω ?_;(exact wB))
   repeat'(first|refine gB ?_|fail)
   exact Z0 (λz=>[B z]) ((by symm;exact W0 λh=>e (by rw[h])))
  repeat'(first|refine gE ?_|fail)
  obtain rfl:i=a.length:=ω
  exact Z0 (λz=>[B z]) ((by symm;exact O0 (Kq c λj o=>by have:=dI g o;simpa using this)))
 repeat'(first|refine gB ?_|fail)
 exact Z0 (λz=>[B z]) ((by symm;exact W0 λh=>c (by rw[h])))
def R9{xs:List Int}{x:Int}(h:cE xs.length (λj=>decide (nth xs j≠x))=true):x∉xs:=λb=>by
 obtain⟨j,a⟩:=List.mem_iff_getElem?.1 b;have:=dI h (X2.1 a).1;rw[bm a]at this;simp at this
def FU(xs:List Int)(x:Int)(g:xs.length<=4611686018427387904):zzA 367 false [.val none (aD .U xs),.val none [I x]] .one [B (decide (x∈xs))]:=by
 refine fO 18 [] Tryz.func367 rfl ?_
 repeat'(first|refine gP ?_|fail)
 (conv=>whnf)
 refine CH (ι:=Nat) (λi=>[(0,.H .one (aD .U xs)),(1,.H .one [I (x)]),(5,.H .one [I ((i:Nat):Int)])]) (λi=>i<=xs.length/\cE i (λj=>decide (nth xs j≠x))=true) (λi=>xs.length - i) 0 ?_ ⟨X0 _,rfl⟩ λi a=>?_
 ·exact wB
 obtain⟨a,b⟩:=a;by_cases c:i<xs.length
 ·have d:=ao c
  by_cases e:nth xs i=x
  ·repeat'(first|refine gB ?_|fail)
   exact Z0 (λz=>[B z]) ((by symm;exact O0 (by rw[<-e];exact am c)))
  repeat'(first|refine gB ?_|fail)
  ((conv=>whnf);refine CG (i+1) ⟨ω,br b (O0 e)⟩ ω ?_;(exact wB))
 repeat'(first|refine gE ?_|fail)
 obtain rfl:i=xs.length:=ω
 exact Z0 (λz=>[B z]) ((by symm;exact W0 (R9 b)))
def Gs(xs:List Int)(x:Int)(h:xs.length<=4611686018427387904):zzA 395 false [.val none (aD .U xs),.val none [I x]] .one [I (cu (λy=>decide (y=x)) xs)]:=by
 refine fO 19 [] Tryz.func395 rfl ?_
 repeat'(first|refine gP ?_|fail)
 (conv=>whnf)
 refine CH (ι:=Nat) (λi=>[(0,.H .one (aD .U xs)),(1,.H .one [I (x)]),(7,.H .one [I (xs.length)]),(8,.H .one [I ((i:Nat):Int)])]) (λi=>i<=xs.length/\∀(j:Nat)(z:Int),j<i->xs[j]? = some z->decide (z=x)=false) (λi=>xs.length - i) (0) ?_ (⟨X0 _,λj z d _=>absurd d (Nat.not_lt_zero _)⟩) λi c=>?_
 ·exact wB
 obtain⟨c,b⟩:=c;by_cases g:i<xs.length
 ·have a:=ao g
  by_cases e:nth xs i=x
  ·repeat'(first|refine gE ?_|(conv=>whnf);refine Bf.t (by simp[e]) ?_)
   exact Z0 (λz=>[I z]) (dB a (O0 e) b).symm
  repeat'(first|refine gE ?_|(conv=>whnf);refine Bf.f (by simp[Ne.symm e]) ?_)
  ((conv=>whnf);refine CG (i+1) ⟨ω,dt a (W0 e) b⟩ ω ?_;(exact wB))
 repeat'(first|refine gE ?_|fail)
 exact Z0 (λz=>[I z]) (fy ω b).symm
def lY(xs:List Int)(x:Int)(a:xs.length<=4611686018427387904):zzA 257 false [.val none (aD .U xs),.val none [I x]] .one [B (decide (x∈xs))]:=by
 refine fO 9 [] Tryz.func257 rfl ?_
 repeat'(first|refine gP ?_|(conv=>whnf);refine C9 (Gs xs x a) ?_)
 exact Z0 (λz=>[B z]) ((by rw[gT];rw[I5];simp))
def bZ.more{M f:af}{w g:World}(h:bZ M w g)(e:∀b o,M b o->f b o):bZ f w g:=
 ⟨h.os,h.tape,h.output,h.size,λb a c=>h.blk b a λo d=>c o (e b o d),λb o a c=>h.cel b o a λd=>c (e b o d),λb o a c=>h.fro b o a λd=>c (e b o d)⟩
variable{rcs c:List C}
def aW.wk{P:Program}{sh:Bool}{u:List C}{A B:List MA}{k:Kd}(h:aW P f sh A (.ptr c::B) k rcs)(y:Pc c u):aW P f sh A (.ptr u::B) k rcs:=by
 refine⟨h.has,λw S V i E F l G=>(h.run w S V i E F l G).mono λe w1 H=>?_⟩;obtain⟨v,J,K,X,L,M,N,n,p,a,q,r,b,O,Q,D⟩:=H;refine⟨v,J,K,X,L,M,N,n,p,a,q,r,b,O,Q,?_⟩;cases i with
 | nil=>exact D.elim
 | cons v0 i=>
  obtain⟨⟨R,Y,T,U,W,⟨g,o,Z,e2⟩,d⟩,t⟩:=D;refine⟨⟨R,Y,T,U,W,⟨g,o,Z,λj hj=>e2 j (by rw[(sX y).1];exact hj)⟩,Eg y d⟩,t⟩
def aW.frame{P:Program}{sh:Bool}{c' r:List C}{A B:List MA}{k:Kd}(h:aW P f sh (.ptr c::A) (.ptr c'::B) k rcs)(hl:c'.length=c.length):aW P f sh (.ptr (c++r)::A) (.ptr (c'++r)::B) k rcs:=by
 refine⟨h.has,λw S V vs hS hV hVd hA=>?_⟩;cases vs with
 | nil=>exact hA.elim
 | cons v0 vs=>
 obtain⟨⟨X1,Y,hX1,hY,O,⟨g,q,rfl,u⟩,ff,hf1,J,hf3⟩,hA'⟩:=hA;have hlen:(c++r).length=c.length+r.length:=Y3
 let V0:af:=piece g q ff 0 c.length
 let W:Nat->af:=MO V0 (λi=>V (i+1))
 have hcX:∀o,q<=o->o<q+(c++r).length->X1 g o:=λo l a=>by
  have:=(u (o - q) ω).1
  rwa [show q+(o - q)=o by omega]at this
 have hV0:∀b o,V0 b o->V 0 b o:=λb o p=>by
  rcases p with⟨rfl,l,a⟩|⟨j,-,a,Q⟩
  ·exact hX1 _ _ (hcX o ω ω)
  exact hY _ _ (J j ω b o Q)
 have K:∀i b o,W i b o->V i b o:=λi b o p=>by
  cases i with
  | zero=>exact hV0 b o p
  | succ i=>exact p
 have hA2:Qx w S W (.ptr c::A) (.pointer (some ⟨g,q,none⟩)::vs):=by
  refine⟨?_,hA'⟩;have:=uF (lo:=0) (n:=c.length) (cs:=c++r) ω u hf1 J hf3 O;rw[show bz (c++r) 0 c.length=c by simp[bz]]at this;simp only[Y7,Nat.add_zero]at this;exact this
 refine(h.run w S W _ hS (λi b o p=>hV i b o (K i b o p)) (λi i' D b o l a=>hVd i i' D b o (K i b o l) (K i' b o a)) hA2).mono λe w1 hv=>?_
 obtain⟨v,he,hk,X,V',S1,hX,E,hS1,hVd',hXV,hXS,hVS1,hh,hr,hm⟩:=hv;have H:∀b o,(∃i,W i b o)->∃i,V i b o:=λb o ⟨i,Z⟩=>⟨i,K i b o Z⟩
 let R:af:=λb o=>V 0 b o/\¬V0 b o
 have hRW:∀b o,R b o->¬∃i,W i b o:=λb o y ⟨i,Z⟩=>by
  cases i with
  | zero=>exact y.2 Z
  | succ i=>exact hVd 0 (i+1) ω b o y.1 Z
 have F:∀b o,R b o->b<w.heap.size:=λb o y=>(hV 0 b o y.1).1
 have t:∀b o,R b o->¬((∃i,W i b o)\/(b<w1.heap.size/\w.heap.size<=b)):=λb o y p=>by
  rcases p with p|p
  ·exact hRW b o y p
  have:=F b o y;omega
 have hRsame:bq R w w1:=λb o y=>⟨hk.cel b o (F b o y) (hRW b o y),hk.fro b o (F b o y) (hRW b o y)⟩
 have hRS1:∀b o,R b o->¬S1 b o:=λb o y hs=>by
  rcases hS1 b o hs with⟨-,l⟩|l
  ·exact(hV 0 b o y.1).2 l
  exact t b o y l
 have hSsame:bq S w w1:=λb o hb=>⟨hk.cel b o (hS b o hb) (λ⟨i,Z⟩=>(hV i b o (K i b o Z)).2 hb),hk.fro b o (hS b o hb) (λ⟨i,Z⟩=>(hV i b o (K i b o Z)).2 hb)⟩
 have hRc:∀j,c.length<=j->j<(c++r).length->R g (q+j):=λj l a=>by
  refine⟨hX1 _ _ (u j a).1,λp=>?_⟩;rcases p with⟨-,Q,h4⟩|⟨N,Q,h4,h5⟩
  ·omega
  exact O _ _ (u j a).1 (J N ω _ _ h5)
 have L:∀j,c.length<=j->j<(c++r).length->∀b o,ff j b o->R b o:=λj l a b o p=>by
  refine⟨hY _ _ (J j a b o p),λhp=>?_⟩;rcases hp with⟨rfl,Q,h4⟩|⟨N,Q,h4,h5⟩
  ·exact O _ _ (hcX o ω ω) (J j a _ _ p)
  exact hf3 j N a ω ω b o p h5
 let U:Nat->af:=MO (λb o=>V' 0 b o\/R b o) (λi=>V' (i+1))
 have hU:∀i b o,U i b o->V' i b o\/(i=0/\R b o):=λi b o p=>by
  cases i with
  | zero=>exact p.imp id (λh=>⟨rfl,h⟩)
  | succ i=>exact .inl p
 refine⟨v,he,hk.more H,X,U,S1,λb o p=>(hX b o p).imp (H b o) id,λi b o p=>?_,λb o p=>(hS1 b o p).imp id (Or.imp (H b o) id),λi i' D b o l a=>?_,λi b o l a=>?_,hXS,λi b o l a=>?_,hh,hr,?_,hm.2⟩
 ·rcases hU i b o p with l|⟨-,l⟩
  ·exact(E i b o l).imp (H b o) id
  exact .inl ⟨0,l.1⟩
 ·rcases hU i b o l with l|⟨e1,l⟩
  ·rcases hU i' b o a with a|⟨e2,a⟩
   ·exact hVd' i i' D b o l a
   exact t b o a (E i b o l)
  rcases hU i' b o a with a|⟨e2,a⟩
  ·exact t b o l (E i' b o a)
  exact D ω
 ·rcases hU i b o a with a|⟨-,a⟩
  ·exact hXV i b o l a
  exact t b o a (hX b o l)
 ·rcases hU i b o l with l|⟨-,l⟩
  ·exact hVS1 i b o l a
  exact hRS1 b o l a
 obtain⟨Xa,Ya,ha1,ha2,ha3,⟨ga,oa,hea,ha4⟩,fa,ha5,ha6,ha7⟩:=(show qD w1 (λb o=>S b o\/S1 b o) (V' 0) (.ptr c') (.pointer (some ⟨g,q,none⟩)) from hm.1)
 obtain⟨rfl,rfl⟩ : g=ga/\q=oa:=by simpa using hea
 have G:(c'++r).length=c.length+r.length:=by rw[Y3,hl]
 show qD w1 (λb o=>S b o\/S1 b o) (λb o=>V' 0 b o\/R b o) (.ptr (c'++r)) (.pointer (some ⟨g,q,none⟩));have faV:∀j,j<c.length->∀b o,fa j b o->V' 0 b o:=λj M b o p=>ha2 _ _ (ha6 j ω b o p)
 refine⟨λb o=>Xa b o\/(R b o/\∃j,c.length<=j/\j<(c++r).length/\b=g/\o=q+j),λb o=>Ya b o\/∃j,c.length<=j/\j<(c++r).length/\ff j b o,λb o p=>?_,λb o p=>?_,λb o l a=>?_,⟨g,q,rfl,λj M=>?_⟩,λj=>if j<c.length then fa j else ff j,λj d M=>?_,λj M b o p=>?_,λj N M hj' D b o l a=>?_⟩
 ·exact p.imp (ha1 b o) (·.1)
 ·rcases p with p|⟨j,l,a,Q⟩
  ·exact .inl (ha2 b o p)
  exact .inr (L j l a b o Q)
 ·rcases l with l|⟨l,j,j1,j2,rfl,rfl⟩
  ·rcases a with a|⟨j,j1,j2,j3⟩
   ·exact ha3 b o l a
   exact t b o (L j j1 j2 b o j3) (E 0 b o (ha1 b o l))
  rcases a with a|⟨N,j3,j4,j5⟩
  ·exact t _ _ l (E 0 _ _ (ha2 _ _ a))
  exact O _ _ (u j j2).1 (J N j4 _ _ j5)
 ·rw[G]at M
  by_cases hc:j<c.length
  ·have:=ha4 j ω
   exact⟨.inl this.1,this.2⟩
  have y:=hRc j ω ω;have hs:=hRsame _ _ y;have T:=u j ω;refine⟨.inr ⟨y,j,ω,ω,rfl,rfl⟩,?_,?_⟩
  ·rw[hs.1];exact T.2.1
  rw[hs.2];exact T.2.2
 ·dsimp only
  by_cases hc:j<c.length
  ·rw[CD hc]
   rw[v5 ω]at M;exact ha5 j d M
  rw[CB hc];rw[z5 ω,hl]at M;have hj2:(c++r)[j]? = some d:=by rw[z5 ω];exact M
  have hjl:=(X2.1 hj2).1;have Q:=(hf1 j d hj2).keep hSsame (λb o p=>hRsame b o (L j ω hjl b o p));have T:=(hRsame _ _ (hRc j ω hjl)).1;have:cr w1 .box (.pointer (some ⟨g,q,none⟩)) j=cr w .box (.pointer (some ⟨g,q,none⟩)) j:=by
   simp only[cr];rw[T]
  rw[this];exact Q.mono (λ_ _ h=>.inl h) (λ_ _ h=>h)
 ·rw[G]at M
  split at p
  ·rename_i hc;exact .inl (ha6 j ω b o p)
  exact .inr ⟨j,ω,ω,p⟩
 rw[G]at M hj';split at l
 ·rename_i c1
  split at a
  ·exact ha7 j N ω ω D b o l a
  exact t b o (L N ω ω b o a) (E 0 b o (faV j c1 b o l))
 split at a
 ·rename_i c1;exact t b o (L j ω ω b o l) (E 0 b o (faV N c1 b o a))
 exact hf3 j N ω ω D b o l a
mutual
def U5:∀c:C,fz (fz c)=fz c
 | .v x=>by simp[fz]
 | .s o rows=>by simp only[fz];rw[JC rows]
 | .x=>by simp[fz]
 | .z=>by simp[fz]
 | .m _=>by simp[fz]
 | .it _ _=>by simp[fz]
def JC:∀a:List (List C),fzR (fzR a)=fzR a
 | []=>rfl
 | r::a=>by simp only[fzR];rw[tC r,JC a]
def tC:∀cs:List C,eH (eH cs)=eH cs
 | []=>rfl
 | c::cs=>by simp only[eH];rw[U5 c,tC cs]
end
def od(k:ah)(a:aA k=true)(e:k.Calls≠100000):zzB 487 false [.ptr (ah.enc .own k)] [.ptr (ah.enc .own (cg k))] .one [B (!refd k)]:=by
 have b:=bO a;have c:=(aG.1 a).2.2.2.2;have d:=FU k.a0 k.Calls (by have:=b.2;omega);refine fM 22 [] [(2,9,[11,12,13,14,15,16,17,18,19])] [(0,0)] Tryz.func487 rfl (λu q=>?_)
 repeat'(first|refine gP ?_|(conv=>whnf);refine CL (d) ⟨⟨rfl,d8 _⟩,⟨rfl,Z0 (λz=>[I z]) ω⟩,trivial⟩ ?_)
 refine CK rfl ?_ ?_
 ·rfl
 exact wB
def oT(k:ah)(p m:Int)(a:aA k=true)(j:k.Calls≠100000)(d:(ac k.F.R p).e≠0)(l:m=1\/m=2):zzB 585 false [.ptr (ah.enc .own k),.val none [I p],.val none [I m]] [.ptr (ah.enc .own (ky k p m).1),.val none [I p],.val none [I m]] .one [B (ky k p m).2]:=by
 have n:=bO a;have b:=od k a j;have g:=fx (cg k) p n.1.2;have c:=aI m 1 2;rw[O0 ω]at c;obtain⟨o,t,w,-⟩:=cj a d;have h:=ao (xs:=k.F.R.J) (i:=p.toNat) ω;have r:¬(ac (cg k).F.R p).e=0:=d;unfold ky;cases e:refd k<;>rw[e]at b
 ·rw[CB (by simp),Ly]
  refine fM 31 [(487,[2])] [] [(0,0),(0,0),(0,0)] Tryz.func585 rfl (λu q=>?_)
  repeat'(first|refine gB ?_|(conv=>whnf);first|refine CM (b) (.inl rfl) ?_|refine CL (g) ⟨CV (cg k),⟨rfl,rfl⟩,trivial⟩ ?_|refine C9 (c) ?_|refine CP o (aa h) ?_|refine CS rfl rfl (aa h) rfl (O1 rfl) rfl ?_)
  refine CK rfl ?_ ?_
  ·rfl
  exact wB
 rw[CD rfl];refine fM 31 [(487,[2])] [] [(0,0),(0,0),(0,0)] Tryz.func585 rfl (λu q=>?_)
 repeat'(first|refine gB ?_|(conv=>whnf);first|refine CM (b) (.inl rfl) ?_|refine CL (g) ⟨CV (cg k),⟨rfl,rfl⟩,trivial⟩ ?_|refine C9 (c) ?_)
 refine CK rfl ?_ ?_
 ·rfl
 exact wB
def Rw.two{off k d e b:Nat}{K:List C->Nat->Prop}{o f:dN}{rows rows2:List (List C)}{r a:List C}(h1:c[off]? = some (.s o rows))(g:rows[i]? = some r)(h:r.length=k)(l:r[j]? = some (.s f rows2))(n:rows2[d]? = some a)(p:a.length=e)(q:K a b):Rw c off [(i,k,j),(d,e,b)] K:=
 Rw.mk (r:=a) (j:=b) (by simp[cn,h1,g,h,l,n,p]) q
def zN(k:ah)(a b c:Int)(h:aA k=true)(F:(ac k.F.R a).e≠0)(G:(ac k.F.R b).e≠0)(g:0<=c/\c<=15):zzB 586 false [.ptr (ah.enc .own k),.val none [I a],.val none [I b],.val none (aD .U [c])] [.ptr (ah.enc .own (sv k a b c)),.val none [I a],.val none [I b],.val none (aD .U [c])] .one [B true]:=by
 have w:=bO h;have H:=fx k a w.1.2;have J:=fx k b w.1.2;have y:=aI c 0 15;rw[O0 g]at y;obtain⟨K,O,L,C,P⟩:=cj h F;obtain⟨M,Q,D,E,R⟩:=cj h G;have N:=(bc.1 (aG.1 h).2.1).2.2.1;have S:=row16 h (f:=bK k a) (by unfold bK;omega);have T:=row16 h (f:=bK k b) (by unfold bK;omega);have d:k.F.W.T[(ac k.F.R a).j.toNat]? = some (nth k.F.W.T (bK k a)):=ao ω;have e:k.F.W.T[(ac k.F.R b).j.toNat]? = some (nth k.F.W.T (bK k b)):=ao ω;have l:=ao (xs:=nth k.F.W.T (bK k a)) (i:=c.toNat) ω;have o:=ao (xs:=nth k.F.W.T (bK k b)) (i:=c.toNat) ω;have p:=ao (xs:=k.F.R.J) (i:=a.toNat) ω;have r:=ao (xs:=k.F.R.J) (i:=b.toNat) ω;rw[L]at C d;rw[D]at E e;have t:[c][0]? = some c:=rfl;refine fM 90 [] [(13,28,[61,62,63,64,65,66,67,68,69,70,71,72,73,74,75,76,77,78,79,80,81,82,83,84,85,86,87,88])] [(0,0),(0,0),(0,0),(0,0)] Tryz.func586 rfl (λu q=>?_)
 repeat'(first|refine gB ?_|(conv=>whnf);first|refine CL (H) ⟨CV k,⟨rfl,rfl⟩,trivial⟩ ?_|refine CL (J) ⟨CV k,⟨rfl,rfl⟩,trivial⟩ ?_)
 (conv=>whnf)
 refine CH (ι:=Nat) (λn=>[(0,.H .box (ah.enc .own k)),(1,.H .one [I (a)]),(2,.H .one [I (b)]),(3,.H .one (aD .U [c])),(9,.H .one [I ((n:Nat):Int)])]) (λn=>n<=1) (λn=>1 - n) (0) ?_ (X0 _) λn U=>?_
 ·exact wB
 by_cases V:n<1
 ·obtain rfl:n=0:=ω
  repeat'(first|refine gE ?_|(conv=>whnf);first|refine CP (by decide) (aa t) ?_|refine C9 (y) ?_)
  ((conv=>whnf);refine CG 1 ω ω ?_;(exact wB))
 obtain rfl:n=1:=ω
 repeat'(first|refine gE ?_|(conv=>whnf);first|refine CP K (aa p) ?_|refine CP M (aa r) ?_)
 (conv=>whnf)
 refine CH (ι:=Nat) (λj=>[(0,.H .box (ah.enc .own (Tj k a b c j))),(3,.H .one (aD .U [c])),(10,.H .one [I ((nth k.F.R.J a.toNat).j)]),(11,.H .one [I ((nth k.F.R.J b.toNat).j)]),(12,.H .one [I ((j:Nat):Int)])]) (λj=>j<=1) (λj=>1 - j) (0) ?_ (X0 _) λj W=>?_
 ·exact wB
 by_cases X:j<1
 ·obtain rfl:j=0:=ω
  repeat'(first|refine gE ?_|(conv=>whnf);first|refine CP (by decide) (aa t) ?_|refine CP C (aa d) ?_|refine CP E (aa e) ?_|refine CP g.1 (aa l) ?_|refine CP g.1 (aa o) ?_|refine Rw.two rfl (aa d) rfl rfl (aa l) rfl ?_|refine Pu.two rfl rfl (aa e) rfl rfl rfl (aa o) rfl (W3 _) rfl ?_)
  ((conv=>whnf);refine CG 1 ω ω ?_)
  rw[show Tj k a b c 1=sv k a b c from rfl];unfold sv;rw[EY,show bK k b=(nth k.F.R.J b.toNat).j.toNat by unfold bK;rw[D]];exact wB
 obtain rfl:j=1:=ω
 repeat'(first|refine gE ?_|fail)
 refine CK rfl ?_ ?_
 ·rfl
 exact wB
def Jg(k:ah)(p o:Int)(a:aA k=true)(y:k.Calls≠100000)(g:(ac k.F.R p).e≠0)(h:(ac k.F.R o).e≠0)(C:p≠o):zzB 587 false [.ptr (ah.enc .own k),.val none [I p],.val none [I o]] [.ptr (ah.enc .own (wy k p o).1),.val none [I p],.val none [I o]] .one [B (wy k p o).2]:=by
 have b:=bO a;have c:=od k a y;have j:=fx (cg k) p b.1.2;have l:=fx (cg k) o b.1.2;obtain⟨D,K,E,n,r⟩:=cj a g;obtain⟨F,L,M,N,O⟩:=cj a h;have G:=(bc.1 (aG.1 a).2.1).2.2.1;have d:=ao (xs:=k.F.R.J) (i:=p.toNat) ω;have t:=ao (xs:=k.F.R.J) (i:=o.toNat) ω;have H:¬(ac (cg k).F.R p).e=0:=g;have J:¬(ac (cg k).F.R o).e=0:=h;rw[E]at n r;have w:=DX (w5 (cg k) p.toNat ⟨2,(nth k.F.R.J o.toNat).j⟩) (nth k.F.R.J p.toNat).j (Qa _ _ b.1.2) ⟨n,by show _<((k.F.W.T.length:Nat):Int);omega,r⟩;rw[PK]at w;unfold wy;cases e:refd k<;>rw[e]at c
 ·rw[CB (by simp)]
  refine fM 60 [(487,[2]),(489,[2,0])] [(4,274,[38,39,40,41,42,43,44,45,46,47,48,49,50,51,52,53,54,56,0,1,2,3,4,5,6,7,8,9,10,11,12,13,14,15,16,17,1000,1001,1002,1003,1004,1005,1006,18,19])] [(0,0),(0,0),(0,0)] Tryz.func587 rfl (λu q=>?_)
  repeat'(first|refine gB ?_|(conv=>whnf);first|refine CM (c) (.inl rfl) ?_|refine CL (j) ⟨CV (cg k),⟨rfl,rfl⟩,trivial⟩ ?_|refine CL (l) ⟨CV (cg k),⟨rfl,rfl⟩,trivial⟩ ?_|refine CP D (aa d) ?_|refine CP F (aa t) ?_|refine CS rfl rfl (aa d) rfl (O1 rfl) rfl ?_|refine CM (w) (.inl rfl) ?_)
  refine CK rfl ?_ ?_
  ·rfl
  exact wB
 rw[CD rfl];refine fM 60 [(487,[2]),(489,[2,0])] [(4,274,[38,39,40,41,42,43,44,45,46,47,48,49,50,51,52,53,54,56,0,1,2,3,4,5,6,7,8,9,10,11,12,13,14,15,16,17,1000,1001,1002,1003,1004,1005,1006,18,19])] [(0,0),(0,0),(0,0)] Tryz.func587 rfl (λu q=>?_)
 repeat'(first|refine gB ?_|(conv=>whnf);first|refine CM (c) (.inl rfl) ?_|refine CL (j) ⟨CV (cg k),⟨rfl,rfl⟩,trivial⟩ ?_|refine CL (l) ⟨CV (cg k),⟨rfl,rfl⟩,trivial⟩ ?_)
 refine CK rfl ?_ ?_
 ·rfl
 exact wB
def An(m:aR)(a:Int)(d:aR.sml m)(c:0<=a/\a<512):zzA 591 false [.val (some 3) (aR.enc .U m),.val none [I a]] (.tup [some 2,none]) (bk.enc .own (ac m.R (a / 16))++[I (a % 16)]):=by
 have e:=du m.R (a / 16) d.2;have b:a.tmod 16=a % 16:=fF c.1;refine fO 16 [] Tryz.func591 rfl ?_ (.inr ⟨trivial,trivial,trivial,trivial⟩)
 repeat'(first|refine gE ?_|(conv=>whnf);first|refine C9 (e) ?_|refine CO (qW c) ?_|refine CQ (by decide) ?_|refine CX b ?_)
 rfl
def Jc(m:aR)(a v:Int)(o:dC m=true)(e:aR.sml m)(p:0<=a/\a<512)(q:0<=v/\v<=999)(r:(ac m.R (a / 16)).e≠0->0<=(ac m.R (a / 16)).j/\(ac m.R (a / 16)).j<m.W.T.length/\(nth m.W.T (ac m.R (a / 16)).j.toNat).length=16):zzA 590 false [.val (some 3) (aR.enc .U m),.val none [I a],.val none [I v]] (.tup [some 3,none]) (aR.enc .own (iZ m a v).1++[I (iZ m a v).2]):=by
 have c:=pE m e;rw[o]at c;have g:=tI m e;have h:=An m a e p;have d:=aI v 0 999;rw[O0 q]at d;have b:=aR.enc_fr (iZ m a v).1;unfold iZ at b |-;by_cases j:(ac m.R (a / 16)).e=0
 ·rw[CD j]at b |-
  refine fO 47 [] Tryz.func590 rfl ?_ (.inr (bg b ⟨trivial,trivial⟩))
  repeat'(first|refine gB ?_|(conv=>whnf);first|refine C9 (c) ?_|refine C9 (g) ?_|refine C9 (h) ?_|refine C9 (d) ?_)
  rfl
 rw[CB j]at b |-;by_cases l:(ac m.R (a / 16)).e=1
 ·rw[CD l]at b |-
  refine fO 47 [] Tryz.func590 rfl ?_ (.inr (bg b ⟨trivial,trivial⟩))
  repeat'(first|refine gB ?_|(conv=>whnf);first|refine C9 (c) ?_|refine C9 (g) ?_|refine C9 (h) ?_|refine C9 (d) ?_)
  rfl
 rw[CB l]at b |-;obtain⟨t,u,w⟩:=r j;have k:=ao (xs:=m.W.T) (i:=(ac m.R (a / 16)).j.toNat) ω;have n:=ao (xs:=nth m.W.T (ac m.R (a / 16)).j.toNat) (i:=(a % 16).toNat) ω;simp only at b |-;rw[HB]at b |-;refine fO 47 [] Tryz.func590 rfl ?_ (.inr (bg b ⟨trivial,trivial⟩))
 repeat'(first|refine gB ?_|(conv=>whnf);first|refine C9 (c) ?_|refine C9 (g) ?_|refine C9 (h) ?_|refine C9 (d) ?_|refine CP t (aa k) ?_|refine CP ω (aa n) ?_|refine Pu.two rfl rfl (aa k) rfl rfl rfl (aa n) rfl (W3 _) rfl ?_)
 rfl
def mZ{j:cA} : jmay k j=true↔(aA k=true/\k.Calls≠100000)/\kx j=true/\(ac k.F.R j.X.a3).e≠0/\(ac k.F.R j.X.a2).e≠0/\(ac k.F.R j.X.a3).j≠(ac k.F.R j.X.a2).j:=by
 unfold jmay;simp only[I0,C0]
def nj{p:cJ}(h:eU p=true):p.T.length<=16:=by
 unfold eU at h;simp only[I0]at h;have a:∀i,i<p.T.length->(i:Int)<=nth p.T i:=λi=>by
  induction i with
  | zero=>
   intro a;have:=dI h.1 a;unfold mV at this;rw[C0]at this;exact this.1
  | succ i b=>
   intro a;have c:=b ω;have:=dI h.1 a;unfold mV at this;rw[C0]at this;have d:=this.2.2.resolve_left ω;rw[Nat.add_sub_cancel]at d;omega
 by_cases e:p.T.length<=16
 ·exact e
 exfalso;have c:=a 16 ω;have:=dI h.1 (show 16<p.T.length by omega);unfold mV at this;rw[C0]at this;omega
def LP{j:cA}(h:kx j=true):cA.sml j:=by
 have:=nj (dA.1 h).1;show j.X.T.length<=1048576;omega
def tY(h:aA k=true):dC k.F=true:=by
 unfold aA at h;simp only[I0]at h;exact h.1.2
def Ei(k:ah)(j:cA)(p:jmay k j=true)(g:j.b2=3):zzB 588 false [.ptr (ah.enc .own k),.ptr (yr j)] [.ptr (ah.enc .own (jstep k j).1),.ptr (yr (jstep k j).2)] (.tup []) []:=by
 obtain⟨⟨a,r⟩,t,c,d,w⟩:=mZ.1 p;obtain⟨h,H,J,K,L⟩:=dA.1 t;have y:=bO a;obtain⟨M,N,O,B,P⟩:=cj a c;have l:=(b8.1 (aG.1 a).2.2.1).2.2;have C:=nj h;have D:=(bc.1 (aG.1 a).2.1).2.2.1;unfold jstep;rw[CB ω,CB ω,CB ω,CD g];by_cases n:0<j.d
 ·rw[CD n]
  have o:=gm h (i:=(j.d - 1).toNat) ω;have E:=ao (xs:=j.X.T) (i:=(j.d - 1).toNat) ω;have F:0<=j.X.a3*16+nth j.X.T (j.d - 1).toNat/\j.X.a3*16+nth j.X.T (j.d - 1).toNat<512:=ω
  have G:(j.X.a3*16+nth j.X.T (j.d - 1).toNat) / 16=j.X.a3:=ω
  have b:=Jc k.F (j.X.a3*16+nth j.X.T (j.d - 1).toNat) 0 (tY a) y.1 F ω (λ_=>by rw[G];exact⟨B,ω,row16 a (f:=bK k j.X.a3) (by unfold bK;omega)⟩);generalize (iZ k.F (j.X.a3*16+nth j.X.T (j.d - 1).toNat) 0).1=m at b |-;generalize (iZ k.F (j.X.a3*16+nth j.X.T (j.d - 1).toNat) 0).2=e at b;refine fM 59 [(585,[2,0,0])] [(2,283,[20,21,22,23,24,25,26,27,28,29,30,31,32,33,34,35,36,37,38,39,40,41,42,19,43,44,4,0,1,2,3,4,5,6,7,8,9,10,11,12,13,14,15,16,17,18,19,20,21,22,23,24,25,26,27,1025,28])] [(0,0),(1,0)] Tryz.func588 rfl (λu q=>?_) (.inr trivial)
  repeat'(first|refine gE ?_|(conv=>whnf);first|refine CL (b) ⟨⟨rfl,aR.enc_fz k.F⟩,⟨rfl,rfl⟩,⟨rfl,rfl⟩,trivial⟩ ?_|refine CP ω (aa E) ?_)
  refine CK rfl rfl ?_;exact wC
 rw[CB n];have b:=oT k j.X.a2 2 a r d (.inr rfl);cases e:(ky k j.X.a2 2).2<;>rw[e]at b
 ·refine fM 59 [(585,[2,0,0])] [(2,283,[20,21,22,23,24,25,26,27,28,29,30,31,32,33,34,35,36,37,38,39,40,41,42,19,43,44,4,0,1,2,3,4,5,6,7,8,9,10,11,12,13,14,15,16,17,18,19,20,21,22,23,24,25,26,27,1025,28])] [(0,0),(1,0)] Tryz.func588 rfl (λu q=>?_) (.inr trivial)
  repeat'(first|refine gE ?_|(conv=>whnf);refine CM (b) (.inl rfl) ?_)
  refine CK rfl rfl ?_;rw[<-g];exact wC
 refine fM 59 [(585,[2,0,0])] [(2,283,[20,21,22,23,24,25,26,27,28,29,30,31,32,33,34,35,36,37,38,39,40,41,42,19,43,44,4,0,1,2,3,4,5,6,7,8,9,10,11,12,13,14,15,16,17,18,19,20,21,22,23,24,25,26,27,1025,28])] [(0,0),(1,0)] Tryz.func588 rfl (λu q=>?_) (.inr trivial)
 repeat'(first|refine gE ?_|(conv=>whnf);refine CM (b) (.inl rfl) ?_)
 refine CK rfl rfl ?_;exact wC
def De(k:ah)(j:cA)(g:jmay k j=true):zzB 572 false [.ptr (ah.enc .own k),.ptr (yr j)] [.ptr (ah.enc .own (jstep k j).1),.ptr (yr (jstep k j).2)] (.tup []) []:=by
 obtain⟨⟨h,p⟩,B,c,b,l⟩:=mZ.1 g;obtain⟨r,F,G,H,J⟩:=dA.1 B;have n:j.X.a2≠j.X.a3:=λe=>l (by rw[e])
 have C:=nj r;by_cases d:j.b2=0
 ·have a:=oT k j.X.a2 1 h p b (.inl rfl)
  unfold jstep;rw[CD d];cases e:(ky k j.X.a2 1).2<;>rw[e]at a
  ·refine fM 80 [(585,[2,0,0]),(586,[2,0,0,0]),(587,[2,0,0]),(588,[2,2])] [(7,7,[27,28,29,30,31,32,33]),(9,14,[38,39,40,41,42,43,44,45,46,47,48,49,50,51])] [(0,0),(1,0)] Tryz.func572 rfl (λu q=>?_) (.inr trivial)
   repeat'(first|refine gB ?_|(conv=>whnf);refine CM (a) (.inl rfl) ?_)
   refine CK rfl rfl ?_;exact wC
  refine fM 80 [(585,[2,0,0]),(586,[2,0,0,0]),(587,[2,0,0]),(588,[2,2])] [(7,7,[27,28,29,30,31,32,33]),(9,14,[38,39,40,41,42,43,44,45,46,47,48,49,50,51])] [(0,0),(1,0)] Tryz.func572 rfl (λu q=>?_) (.inr trivial)
  repeat'(first|refine gB ?_|(conv=>whnf);refine CM (a) (.inl rfl) ?_)
  refine CK rfl rfl ?_;exact wC
 by_cases o:j.b2=1
 ·unfold jstep
  rw[CB d,CD o];by_cases t:j.d=j.X.T.length
  ·rw[CD t]
   refine fM 80 [(585,[2,0,0]),(586,[2,0,0,0]),(587,[2,0,0]),(588,[2,2])] [(7,7,[27,28,29,30,31,32,33]),(9,14,[38,39,40,41,42,43,44,45,46,47,48,49,50,51])] [(0,0),(1,0)] Tryz.func572 rfl (λu q=>?_) (.inr trivial)
   repeat'(first|refine gB ?_|fail)
   refine CK rfl rfl ?_;exact wC
  rw[CB t];have D:=ao (xs:=j.X.T) (i:=j.d.toNat) ω;have a:=zN k j.X.a2 j.X.a3 (nth j.X.T j.d.toNat) h b c (gm r ω);have E:=(mZ.1 g).2.1;refine fM 80 [(585,[2,0,0]),(586,[2,0,0,0]),(587,[2,0,0]),(588,[2,2])] [(7,7,[27,28,29,30,31,32,33]),(9,14,[38,39,40,41,42,43,44,45,46,47,48,49,50,51])] [(0,0),(1,0)] Tryz.func572 rfl (λu q=>?_) (.inr trivial)
  repeat'(first|refine gB ?_|(conv=>whnf);first|refine CM a (.inr ⟨rfl,ah.enc_fr _,trivial⟩) ?_|refine CP ω (aa D) ?_)
  refine CK rfl rfl ?_;exact wC
 by_cases w:j.b2=2
 ·have a:=Jg k j.X.a2 j.X.a3 h p b c n
  unfold jstep;rw[CB d,CB o,CD w];cases e:(wy k j.X.a2 j.X.a3).2<;>rw[e]at a
  ·refine fM 80 [(585,[2,0,0]),(586,[2,0,0,0]),(587,[2,0,0]),(588,[2,2])] [(7,7,[27,28,29,30,31,32,33]),(9,14,[38,39,40,41,42,43,44,45,46,47,48,49,50,51])] [(0,0),(1,0)] Tryz.func572 rfl (λu q=>?_) (.inr trivial)
   repeat'(first|refine gB ?_|(conv=>whnf);refine CM (a) (.inl rfl) ?_)
   refine CK rfl rfl ?_;exact wC
  refine fM 80 [(585,[2,0,0]),(586,[2,0,0,0]),(587,[2,0,0]),(588,[2,2])] [(7,7,[27,28,29,30,31,32,33]),(9,14,[38,39,40,41,42,43,44,45,46,47,48,49,50,51])] [(0,0),(1,0)] Tryz.func572 rfl (λu q=>?_) (.inr trivial)
  repeat'(first|refine gB ?_|(conv=>whnf);refine CM (a) (.inl rfl) ?_)
  refine CK rfl rfl ?_;exact wC
 by_cases y:j.b2=3
 ·have a:=Ei k j g y
  refine fM 80 [(585,[2,0,0]),(586,[2,0,0,0]),(587,[2,0,0]),(588,[2,2])] [(7,7,[27,28,29,30,31,32,33]),(9,14,[38,39,40,41,42,43,44,45,46,47,48,49,50,51])] [(0,0),(1,0)] Tryz.func572 rfl (λu q=>?_) (.inr trivial)
  repeat'(first|refine gB ?_|(conv=>whnf);refine CM (a) (.inl rfl) ?_)
  refine CK rfl rfl ?_;exact wC
 unfold jstep;rw[CB d,CB o,CB w,CB y];refine fM 80 [(585,[2,0,0]),(586,[2,0,0,0]),(587,[2,0,0]),(588,[2,2])] [(7,7,[27,28,29,30,31,32,33]),(9,14,[38,39,40,41,42,43,44,45,46,47,48,49,50,51])] [(0,0),(1,0)] Tryz.func572 rfl (λu q=>?_) (.inr trivial)
 repeat'(first|refine gB ?_|fail)
 refine CK rfl rfl ?_;exact wC
def Gz(k:ah)(j:cA)(e:aA k=true)(i:kx j=true):zzA 571 false [.val (some 5) (ah.enc .U k),.val (some 5) (cA.enc .U j)] .one [B (jmay k j)]:=by
 have c:=bO e;have b:eH (ah.enc .U k)=ah.enc .U k:=by rw[<-CV k,tC]
 have r:=(aG.1 e).2.2.2.2;have a:=m0 k c;rw[e]at a;have d:=yg j (LP i);rw[i]at d;have l:=fx k j.X.a3 c.1.2;have n:=fx k j.X.a2 c.1.2;have t:=du k.F.R j.X.a3 c.1.2;have u:=du k.F.R j.X.a2 c.1.2;by_cases o:k.Calls=100000
 ·rw[W0 ω]at a
  rw[show jmay k j=false by rw[<-I6,mZ];exact λh=>h.1.2 o];refine fO 44 [(3,16,[27,28,29,30,31,32,33,34,35,36,37,38,39,40,41,42])] Tryz.func571 rfl ?_
  repeat'(first|refine gP ?_|(conv=>whnf);first|refine C9 (a) ?_|refine C9 (d) ?_)
  rfl
 rw[O0 ω]at a;by_cases p:(ac k.F.R j.X.a3).e=0
 ·rw[show jmay k j=false by rw[<-I6,mZ];exact λh=>h.2.2.1 p]
  refine fO 44 [(3,16,[27,28,29,30,31,32,33,34,35,36,37,38,39,40,41,42])] Tryz.func571 rfl ?_
  repeat'(first|refine gB ?_|(conv=>whnf);first|refine C9 (a) ?_|refine C9 (d) ?_|refine CL (l) ⟨b,⟨rfl,rfl⟩,trivial⟩ ?_|refine CL (n) ⟨b,⟨rfl,rfl⟩,trivial⟩ ?_)
  rfl
 by_cases q:(ac k.F.R j.X.a2).e=0
 ·rw[show jmay k j=false by rw[<-I6,mZ];exact λh=>h.2.2.2.1 q]
  refine fO 44 [(3,16,[27,28,29,30,31,32,33,34,35,36,37,38,39,40,41,42])] Tryz.func571 rfl ?_
  repeat'(first|refine gB ?_|(conv=>whnf);first|refine C9 (a) ?_|refine C9 (d) ?_|refine CL (l) ⟨b,⟨rfl,rfl⟩,trivial⟩ ?_|refine CL (n) ⟨b,⟨rfl,rfl⟩,trivial⟩ ?_)
  rfl
 refine fO 44 [(3,16,[27,28,29,30,31,32,33,34,35,36,37,38,39,40,41,42])] Tryz.func571 rfl ?_
 repeat'(first|refine gB ?_|(conv=>whnf);first|refine C9 (a) ?_|refine C9 (d) ?_|refine CL (l) ⟨b,⟨rfl,rfl⟩,trivial⟩ ?_|refine CL (n) ⟨b,⟨rfl,rfl⟩,trivial⟩ ?_|refine C9 (t) ?_|refine C9 (u) ?_)
 exact Z0 (λz=>[B z]) (by
   unfold jmay;rw[e,i,O0 o];by_cases g:(ac k.F.R j.X.a3).j=(ac k.F.R j.X.a2).j
   · rw[W0 (λh=>h.2.2 g)];simp[g]
   rw[O0 ⟨p,q,g⟩];simp[g])
def DU(j:cA):zzA 573 false [.val (some 5) (cA.enc .U j)] .one [B (over j)]:=by
 by_cases a:j.b2=4
 ·rw[show over j=true from O0 (.inl a)]
  refine fO 11 [] Tryz.func573 rfl ?_
  repeat'(first|refine gB ?_|fail)
  rfl
 rw[show over j=decide (j.b2=5) from decide_eq_decide.2 ω];refine fO 11 [] Tryz.func573 rfl ?_
 repeat'(first|refine gB ?_|fail)
 exact Z0 (λz=>[B z]) (by rw[I5];simp)
def JW(x:ab):List C:=(bA x).set 21 .z
def Gd{x:ab}(h:x.Z.X.T=[]):Pc (JW x) (bA x):=by
 unfold JW bA;simp only[List.set,h,List.map_nil]
 repeat'(first|exact trivial|exact dZ _|refine CN ?_ ?_|rfl)
def D6(h:ab)(j:aY h [])(k:h.u=true):zzB 536 false [.ptr (bA h)] [.ptr (bA (mStep h))] .one [B (Fu h)]:=by
 obtain⟨l,-,-⟩:=j.job k;have b:=Gz h.G h.Z j.ker l;have a:=DU (ip h.G h.Z).2;unfold Fu mStep;cases e:jmay h.G h.Z with
 | false=>
  rw[e]at b;have d:ip h.G h.Z=(h.G,h.Z):=by unfold ip;rw[e];rfl
  rw[d]at a |-;simp only at a |-;cases g:over h.Z<;>rw[g]at a
  ·refine fM 39 [(572,[3,5,5])] [(1,8,[4,5,6,7,8,9,10,11]),(2,6,[13,14,15,16,17,18])] [(0,0)] Tryz.func536 rfl (λu q=>?_)
   repeat'(first|refine gP ?_|(conv=>whnf);first|refine CL (b) ⟨⟨rfl,CV h.G⟩,⟨rfl,rfl⟩,trivial⟩ ?_|refine C9 (a) ?_)
   refine CK rfl ?_ ?_
   ·exact Z0 (λz=>[B z]) (by rw[I5];simp)
   exact wC
  refine aW.wk (c:=JW _) ?_ (Gd rfl);refine fM 39 [(572,[3,5,5])] [(1,8,[4,5,6,7,8,9,10,11]),(2,6,[13,14,15,16,17,18])] [(0,0)] Tryz.func536 rfl (λu q=>?_)
  repeat'(first|refine gP ?_|(conv=>whnf);first|refine CL (b) ⟨⟨rfl,CV h.G⟩,⟨rfl,rfl⟩,trivial⟩ ?_|refine C9 (a) ?_)
  refine CK rfl ?_ ?_
  ·exact Z0 (λz=>[B z]) (by rw[I5];simp)
  exact wC
 | true=>
  rw[e]at b;have d:ip h.G h.Z=jstep h.G h.Z:=by unfold ip;rw[e];rfl
  have i:=De h.G h.Z e;rw[d]at a |-;generalize jstep h.G h.Z=r at i a |-;cases g:over r.2<;>rw[g]at a
  ·refine fM 39 [(572,[3,5,5])] [(1,8,[4,5,6,7,8,9,10,11]),(2,6,[13,14,15,16,17,18])] [(0,0)] Tryz.func536 rfl (λu q=>?_)
   repeat'(first|refine gP ?_|(conv=>whnf);first|refine CL (b) ⟨⟨rfl,CV h.G⟩,⟨rfl,rfl⟩,trivial⟩ ?_|refine C9 (a) ?_|refine CM (i) (.inl rfl) ?_)
   refine CK rfl ?_ ?_
   ·exact Z0 (λz=>[B z]) (by rw[I5];simp)
   exact wC
  refine aW.wk (c:=JW _) ?_ (Gd rfl);refine fM 39 [(572,[3,5,5])] [(1,8,[4,5,6,7,8,9,10,11]),(2,6,[13,14,15,16,17,18])] [(0,0)] Tryz.func536 rfl (λu q=>?_)
  repeat'(first|refine gP ?_|(conv=>whnf);first|refine CL (b) ⟨⟨rfl,CV h.G⟩,⟨rfl,rfl⟩,trivial⟩ ?_|refine C9 (a) ?_|refine CM (i) (.inl rfl) ?_)
  refine CK rfl ?_ ?_
  ·exact Z0 (λz=>[B z]) (by rw[I5];simp)
  exact wC
def K7{k:Int} : ∀{l s s2 c:List Int}(n:Nat),(∀x∈s2,x∈s)->rY k s l=some c->∃d,rY k s2 (l.take n)=some d/\∀x∈d,x∈c
 | [],s,s2,c,n,h,e=>by
  simp only[rY,C1,List.take_nil]at e |-;subst e;exact⟨s2,rfl,h⟩
 | a::l,s,s2,c,0,h,e=>⟨s2,rfl,λx b=>(pN (λ_ y=>y) e).1 x (h x b)⟩
 | a::l,s,s2,c,n+1,h,e=>by
  simp only[List.take_succ_cons,rY]at e |-;split at e
  ·rename_i g
   rw[CD (show good k s2 a from⟨g.1,g.2.1,g.2.2.1,λx=>g.2.2.2 (h a x)⟩)];exact K7 (l:=l) (s:=s++[a]) (s2:=s2++[a]) n (λx b=>by
     rcases V3.1 b with b|b
     · exact V3.2 (.inl (h x b))
     exact V3.2 (.inr b)) e
  cases e
def EQ:∀{a:List (List Int)}{k:Nat}{s s2:List Int}(i n:Nat),(∀x∈s2,x∈s)->(gF k s a).isSome=true->(gF k s2 (a.set i ((nth a i).take n))).isSome=true
 | [],_,_,_,_,_,_,_=>rfl
 | l::a,k,s,s2,i,n,h,e=>by
  simp only[gF,fh]at e;split at e
  ·rename_i g
   cases b:rY k s l with
   | none=>rw[b]at e;cases e
   | some j=>
    rw[b]at e;cases i with
    | zero=>
     obtain⟨c,d,f⟩:=K7 n h b;simp only[List.set_cons_zero,gF,fh];rw[CD ⟨by have:=g.1;simp only[nth,List.getD_cons_zero,Z1];omega,g.2⟩];show((rY (k:Nat) s2 (l.take n)).bind λj=>gF (k+1) j a).isSome=true;rw[d];exact uK f e
    | succ i=>
     obtain⟨o,c,d,f⟩:=pN h b;simp only[List.set_cons_succ,gF,fh];rw[CD g,d];exact EQ i n f e
  cases e
def Te{c:a8}(h:bt c=true)(k:Nat):bt (t6 c k)=true:=by
 unfold bt at h |-;simp only[I0,C0]at h |-;exact⟨by simp only[t6,W1];exact h.1,EQ k _ (λ_ h=>h) h.2⟩
def pI(b:Int):Nat->List Int
 | 0=>[]
 | j+1=>if aS b (j:Nat)=true then pI b j else pI b j++[((j:Nat):Int)]
def u6{b:Int} : ∀{n:Nat}{z:Int},z∈pI b n->0<=z/\z<n/\aS b z=false
 | 0,_,h=>by cases h
 | n+1,z,h=>by
  unfold pI at h;split at h
  ·have:=u6 h;exact⟨this.1,ω,this.2.2⟩
  rename_i e;rcases V3.1 h with h|h
  ·have:=u6 h;exact⟨this.1,ω,this.2.2⟩
  rw[V1.1 h];exact⟨ω,ω,by simpa using e⟩
def uH(b:Int):∀n,(pI b n).length<=n
 | 0=>W3 _
 | n+1=>by have:=uH b n;unfold pI;split<;>simp<;>omega
def rj(k b:Int):List Int:=if Nc k b=true then pI b (slots k).toNat else []
def ot(h:ab)(i:Nat):List Int:=rj (nth h.K i).a (iC h i)
def yt{k:Int}(h:z∈rj k b):0<=z/\z<slots k/\aS b z=false:=by
 unfold rj at h;split at h
 ·have:=u6 h;exact⟨this.1,ω,this.2.2⟩
 cases h
def Je(k b:Int):(rj k b).length<=16:=by
 unfold rj;split
 ·rename_i h
  unfold Nc at h;rw[C0]at h;have:=(gZ (k:=k) ⟨h.1,h.2.1⟩).2.2.1;have:=uH b (slots k).toNat;omega
 exact X0 _
def qY(h:ab)(i:Nat):Int:=nth (ot h i) (Pi h.c0 ((ot h i).length:Nat)).toNat
def slotT(h:ab)(i:Nat):ab:={h with c0:=Ki h.c0,K:=h.K.set i (ri (nth h.K i) (qY h i))}
def vP(h:ab)(i:Nat):Int:=16*(nth h.K i).Q+qY h i*csz (nth h.K i).a
def AZ(a:0<(ot h i).length):qY h i∈ot h i:=by
 have:=yu h.c0 (n:=((ot h i).length:Nat)) ω;exact am ω
def aY.slotT{h:ab}{E:List Int}{i:Nat}(a:aY h E)(b:i<h.K.length)(e:0<(ot h i).length):aY (slotT h i) (vP h i::E)/\kb (slotT h i).K (vP h i) (nth h.K i).a:=by
 obtain⟨c,d,f⟩:=yt (AZ e);exact⟨a.take b ⟨c,d⟩ f (HA _),(kb.setS a.L b ⟨c,d⟩ _ _).2 (.inr ⟨rfl,.inr rfl⟩)⟩
def sV(h:ab)(c:Int)(i:Nat):Bool:=decide ((nth h.K i).a=c)&&(!gk h (nth h.K i).Q&&decide (0<(ot h i).length))
def uw(h:ab)(c:Int):Option Nat:=(List.range h.K.length).find? (sV h c)
def rL(h:ab)(c:Int):ab:=addS h (newK h.G (au h.w 1).2.1).1 (au h.w 1).1 (au h.w 1).2.1 c
def rH(h:ab):Nat:=ly (HO (au h.w 1).2.1) h.K
def oO(h:ab)(i:Nat):ab × Int:=if(ot h i).length=0 then(h,-1) else(slotT h i,vP h i)
def smallA(h:ab)(t c:Nat):ab × Int:=
 if 0<(nth (nth h.S t).b c).length then({h with S:=h.S.set t (t6 (nth h.S t) c)},nth (nth (nth h.S t).b c) ((nth (nth h.S t).b c).length - 1))
 else match uw h c with
 | some i=>(slotT h i,vP h i)
 | none=>if(au h.w 1).2.2=false then(h,-1)
  else if(newK h.G (au h.w 1).2.1).2=false then({h with G:=(newK h.G (au h.w 1).2.1).1},-1)
  else oO (rL h c) (rH h)
def BL[Inhabited α](p:α->Bool)(xs:List α)(y:α):ly p xs<(jP p xs y).length/\nth (jP p xs y) (ly p xs)=y:=by
 have b:=RU p xs;have a:(xs.take (ly p xs)).length=ly p xs:=by rw[Z1];omega
 refine⟨by rw[(l9 p xs y).length_eq,List.length_cons];omega,bm ?_⟩;unfold jP;rw[z5 ω,a,Nat.sub_self]
 rfl
def aY.tEq{h:ab}{E:List Int}(a:aY h E){k:ah}(c:aA k=true)(b:tEq (tbl h) k.F.R):aY {h with G:=k} E/\JK h {h with G:=k}:=
 ⟨a.step (j:=h.Z) (m:=h.u) c b.1 (a.pg.tEq b) a.job a.noj,⟨rfl,rfl,λs d _=>⟨s,d,rfl,λ_ z=>z⟩,λq e=>.inl ⟨(b.2 q).1.1 e,(b.2 q).2⟩⟩⟩
structure U2(h:ab)(c:Int)(r:ab × Int):Prop where
 no:r.2<0->aY r.1 []
 yes:0<=r.2->aY r.1 [r.2]/\kb r.1.K r.2 c
 jk:JK h r.1
 nx:r.1.d=h.d
 cl:r.1.S.length=h.S.length
def kb.nn(b:aY h E){c:Int}(d:kb h.K a c):0<=a:=(kb.bd b d).1
def U2.slot{c:Int}(g:aY h' [])(j:i<h'.K.length)(k:0<(ot h' i).length)(l:(nth h'.K i).a=c)(n:JK h h')(a:gk h' (nth h'.K i).Q=false)(h1:h'.d=h.d)(o:h'.S.length=h.S.length):U2 h c (slotT h' i,vP h' i):=by
 obtain⟨d,f⟩:=g.slotT j k;have b:=kb.nn d f;exact⟨λe=>absurd b (by simp only at e;omega),λ_=>⟨d,by rw[<-l];exact f⟩,n.trans (JK.take a),h1,o⟩
def vb{c:Nat}(a:aY h [])(q:t<h.S.length)(P:c<=3)(B:h.G.Calls<=90000):U2 h c (smallA h t c):=by
 have f:=a.cach _ (am q);have C:=pV f;unfold smallA;split
 ·rename_i D
  obtain⟨d,b⟩:=a.pop q ω D (Te f c);have l:=kb.nn a b;exact⟨λe=>absurd l (by simp only at e;omega),λ_=>⟨d,b⟩,JK.eq rfl rfl rfl rfl,rfl,W1 ..⟩
 split
 ·rename_i i r
  have g:=List.find?_some r;have E:=List.mem_range.1 (List.mem_of_find?_eq_some r);unfold sV at g;simp only[I0,C0,Bool.not_eq_true']at g;exact U2.slot a E g.2.2 g.1 (JK.refl h) g.2.1 rfl rfl
 split
 ·exact⟨λ_=>a,λe=>absurd e (by show ¬(0:Int)<=-1;decide),JK.refl h,rfl,rfl⟩
 rename_i F;have j:(au h.w 1).2.2=true:=by simpa using F
 obtain⟨G,H,J,u⟩:=kg a (W5 1) j;have s:=wa.of (p:=(au h.w 1).2.1) a.ker ω ⟨G,by have:(au h.w 1).2.1+1<=(h.G.F.R.J.length:Nat):=H;omega⟩ (J _ ω ω);split
 ·rename_i n
  rw[s.no n];obtain⟨d,b⟩:=a.tEq (nu a.ker ω) (tEq.refl _);exact⟨λ_=>d,λe=>absurd e (by show ¬(0:Int)<=-1;decide),b,rfl,rfl⟩
 rename_i n;have o:(newK h.G (au h.w 1).2.1).2=true:=by simpa using n
 have w:wa h.G (au h.w 1).2.1 ((newK h.G (au h.w 1).2.1).1,true):=by rw[<-o];exact s
 have d:=a.addS (c:=c) ⟨ω,ω⟩ j w;have b:JK h (rL h c):=JK.addS w;obtain⟨K,A⟩:=BL (HO (au h.w 1).2.1) h.K ⟨(au h.w 1).2.1,c,0⟩;unfold oO;split
 ·exact⟨λ_=>d,λe=>absurd e (by show ¬(0:Int)<=-1;decide),b,rfl,rfl⟩
 refine U2.slot (h':=rL h c) (i:=rH h) d K ω (by show(nth (jP (HO (au h.w 1).2.1) h.K ⟨(au h.w 1).2.1,c,0⟩) (rH h)).a=_;unfold rH;rw[A]) b ?_ rfl rfl;show gk (rL h c) (nth (jP (HO (au h.w 1).2.1) h.K ⟨(au h.w 1).2.1,c,0⟩) (rH h)).Q=false;unfold rH;rw[A,b.pg];rw[<-I6];intro k;unfold gk at k;simp only[I0,I7,C0]at k;obtain⟨-,⟨y,L,M⟩,⟨z,N,O⟩⟩:=a.job k.1;rcases k.2 with e|e
 ·exact u _ (W5 _) ω (by rw[e,<-M];exact dH L)
 exact u _ (W5 _) ω (by rw[e,<-O];exact dH N)
def gQ(size:Int):Nat:=((size+15) / 16).toNat
def dR(h:ab)(size:Int):ah × Nat:=newsK h.G (au h.w (gQ size:Nat)).2.1 (gQ size)
def largeA(h:ab)(t size:Int):ab × Int × Int:=
 if(au h.w (gQ size:Nat)).2.2=false then(h,-1,4)
 else if(dR h size).2=gQ size then(addL h (dR h size).1 (au h.w (gQ size:Nat)).1 (au h.w (gQ size:Nat)).2.1 (gQ size:Nat) size t,16*(au h.w (gQ size:Nat)).2.1,0)
 else({h with G:=unmN (dR h size).1 (au h.w (gQ size:Nat)).2.1 (dR h size).2},-1,4)
def uE(xs:List bn):Nat->Int
 | 0=>0
 | i+1=>uE xs i+(nth xs i).o
def uM(h:ab):Int:=uE h.O h.O.length
def allocH(h:ab)(t size:Int):ab × Int × Int:=
 if 1000000<=h.d\/90000<h.G.Calls then(h,-1,5)
 else if ¬(0<=t/\t<=h.S.length - 1) then(h,-1,1)
 else if ¬(1<=size/\size<=1000) then(h,-1,2)
 else if h.c4<uM h+size then(h,-1,3)
 else if 0<=aJ size then(if(smallA h t.toNat (aJ size).toNat).2<0 then((smallA h t.toNat (aJ size).toNat).1,-1,4) else(addO (smallA h t.toNat (aJ size).toNat).1 (smallA h t.toNat (aJ size).toNat).2 size t,(smallA h t.toNat (aJ size).toNat).2,0))
 else largeA h t size
variable{size:Int}
def AH{t:Int}(a:aY h [])(g:9<=size/\size<=1000)(i:h.d<1000000)(j:h.G.Calls<=90000)(k:0<=t/\t<=h.S.length - 1):aY (largeA h t size).1 []/\JK h (largeA h t size).1:=by
 have l:(gQ size:Int)=(size+15) / 16:=by unfold gQ;omega
 unfold largeA;split
 ·exact⟨a,JK.refl h⟩
 rename_i o;have b:(au h.w (gQ size:Nat)).2.2=true:=by simpa using o
 obtain⟨c,d,e,w⟩:=kg a (show(1:Int)<=(gQ size:Nat) by omega) b;have s:=m7.of (p:=(au h.w (gQ size:Nat)).2.1) (n:=gQ size) a.ker ω ⟨c,d⟩ e (gQ size) (W3 _);split
 ·rename_i q
  have f:m7 h.G (au h.w (gQ size:Nat)).2.1 (gQ size) ((dR h size).1,gQ size):=by
   have:((dR h size).1,gQ size)=dR h size:=by rw[<-q]
   rw[this];exact s
  exact⟨a.addL g l b f i k,JK.addL f⟩
 obtain⟨r,u⟩:=s.undo a.ker ⟨c,d⟩ e;exact a.tEq r u
def AG{t:Int}(a:aY h []):aY (allocH h t size).1 []/\JK h (allocH h t size).1:=by
 unfold allocH;split
 ·exact⟨a,JK.refl h⟩
 rename_i d;rw[not_or]at d;split
 ·exact⟨a,JK.refl h⟩
 rename_i n;split
 ·exact⟨a,JK.refl h⟩
 rename_i o;split
 ·exact⟨a,JK.refl h⟩
 split
 ·rename_i b
  have f:aJ size<=3:=by unfold aJ;repeat' split<;>omega
  have s:=vb (t:=t.toNat) (c:=(aJ size).toNat) a ω ω ω;generalize smallA h t.toNat (aJ size).toNat=r at s;split
  ·rename_i e;exact⟨s.no e,s.jk⟩
  rename_i e;obtain⟨g,i⟩:=s.yes ω;refine⟨g.addO (.inl ?_) (by rw[s.nx];omega) (by rw[s.cl];omega),s.jk.trans (JK.eq rfl rfl rfl rfl)⟩;obtain⟨z,j,k,p⟩:=i;exact⟨z,j,k,by show z.a=aJ size;omega⟩
 rename_i b;have l:9<=size:=by
  unfold aJ at b
  repeat' split at b<;>omega
 exact AH a ⟨l,ω⟩ ω ω ω
def kV{β:Type}[Inhabited α]{f:α->β}{xs:List α}{y:α}(a:i<xs.length)(e:f y=f (nth xs i)):(xs.set i y).map f=xs.map f:=by
 rw[C7];refine List.ext_getElem (by simp) λj b c=>?_
 rw[List.getElem_set];split
 ·rename_i g;subst g
  rw[List.getElem_map,e,bm (W2 a)]
 rfl
def oS{α β:Type}[Inhabited α](f:α->List β):∀(xs:List α)(i:Nat)(y:α),i<xs.length->(f y).Sublist (f (nth xs i))->((xs.set i y).flatMap f).Sublist (xs.flatMap f)
 | [],_,_,h,_=>absurd h (Nat.not_lt_zero _)
 | x::xs,0,y,_,a=>by
  rw[List.set_cons_zero,W7,W7];exact List.Sublist.append a (List.Sublist.refl _)
 | x::xs,i+1,y,h,a=>by
  rw[List.set_cons_succ,W7,W7];exact List.Sublist.append (List.Sublist.refl _) (oS f xs i y (by simpa using h) a)
def zK(k:ah)(a:Int):Nat->ah
 | 0=>k
 | m+1=>dM (zK k a m) (a+m) 0
def oc(k:ah)(a:Int):∀m,(zK k a m).F.R=k.F.R/\(zK k a m).Calls=k.Calls/\(zK k a m).a0=k.a0
 | 0=>⟨rfl,rfl,rfl⟩
 | m+1=>oc k a m
def P7{k:ah}(h:aA k=true){a:Int} : ∀{m:Nat},(∀j:Nat,j<m->(ac k.F.R ((a+j) / 16)).e≠0)->aA (zK k a m)=true
 | 0,_=>h
 | m+1,b=>xg (P7 h λj c=>b j ω) (by rw[(oc k a m).1];exact b m ω) ⟨ω,ω⟩
def Jf(j:aY h E){o:List aB}(y:p+n<=h.G.F.R.J.length)(A:sp.Sublist h.K)(M:∀l∈la,∀q∈lpgs l l.a1.toNat,∃w∈h.M,q∈lpgs w w.a1.toNat)(N:0<=p)(B:∀q,q∈pgs sp la↔q∈pgs h.K h.M/\¬(p<=q/\q<p+n))(O:∀q,RH o q↔RH h.w q\/(p<=q/\q<p+n)) :
  Pg (unmN h.G p n).F.R o sp la:=by
 have b:=(fN h.G p n).1;have d:=mX j.ker N n y;have f:∀q:Nat,(q:Int)∈pgs sp la->nth (unmN h.G p n).F.R.J q=nth (tbl h).J q:=λq c=>by rw[d,CB ((B q).1 c).2];rfl
 have a:∀q:Nat,(nth (unmN h.G p n).F.R.J q).e≠0↔(nth (tbl h).J q).e≠0/\¬(p<=q/\(q:Int)<p+n):=λq=>by
  rw[d];by_cases e:p<=q/\(q:Int)<p+n
  ·rw[CD e];exact⟨λx=>absurd rfl x,λx=>absurd e x.2⟩
  rw[CB e];exact⟨λx=>⟨x,e⟩,λx=>x.1⟩
 refine⟨λl g q c r J C k=>?_,λq c=>?_,λq c=>?_,λq c=>?_,λs g u D F K=>?_⟩
 ·have t:=(a r).1 C
  rw[b]at J;rw[f q (gi g c),d,CB t.2]at k;obtain⟨w,G,H⟩:=M l g _ c;exact j.pg.one w G q H r J t.1 k
 ·rw[b];exact j.pg.bnd q ((B q).1 c).1
 ·rw[b]at c
  rw[a,B,j.pg.own q c]
 ·rw[b]at c
  rw[a,O,j.pg.fre q c]
  grind
 have i:∀s∈sp,0<=s.Q:=λs g=>(aC (j.L.sok s (A.subset g))).1
 have P:=f s.Q.toNat (by rw[Int.toNat_of_nonneg (i s g)];exact dH g);have Q:=f u.Q.toNat (by rw[Int.toNat_of_nonneg (i u D)];exact dH D);rw[P,Q]at K;exact j.pg.mesh s (A.subset g) u (A.subset D) F K
def trimL(l:a7)(size:Int):a7:=⟨l.Q,(size+15) / 16,size⟩
def dE(l:a7)(size:Int):Nat:=(l.a1 - (size+15) / 16).toNat
def aY.trimL{h:ab}{E:List Int}{i k:Nat}{size:Int}(t:aY h E)(T:i<h.O.length)(H:k<h.M.length)(Y:(nth h.O i).Addr=16*(nth h.M k).Q)(N:9<=size/\size<=(nth h.M k).o) :
  ∃o,(dE (nth h.M k) size=0->o=h.w)/\(0<dE (nth h.M k) size->dO (dQ h) h.w ⟨(nth h.M k).Q+(size+15) / 16,(dE (nth h.M k) size:Nat)⟩ = some o)/\
   aY {h with G:=unmN h.G ((nth h.M k).Q+(size+15) / 16) (dE (nth h.M k) size),M:=h.M.set k (trimL (nth h.M k) size),O:=h.O.set i {nth h.O i with o:=size},w:=o} E:=by
 have U:=t.L;have C:=U.lok _ (am H);have hf:=aM C;unfold bF at C;rw[C0]at C;obtain⟨b1,b2⟩:=uC t H;have O:=U.dis;have G:=λj n=>U.one j k n H
 have y:=(am H:nth h.M k∈h.M)
 have d:∀z∈h.M.set k (Ab.trimL (nth h.M k) size),z=Ab.trimL (nth h.M k) size\/∃j,j<h.M.length/\j≠k/\nth h.M j=z:=λz N=>ed N
 have p:Ab.trimL (nth h.M k) size∈h.M.set k (Ab.trimL (nth h.M k) size):=jg _ H;have u:∀j,j<h.M.length->j≠k->nth h.M j∈h.M.set k (Ab.trimL (nth h.M k) size):=λj n e=>kw _ n e
 have hpageM:(h.M.set k (Ab.trimL (nth h.M k) size)).map (·.Q)=h.M.map (·.Q):=kV H rfl;have w:(pgs h.K (h.M.set k (Ab.trimL (nth h.M k) size))).Sublist (pgs h.K h.M):=by
  unfold pgs;refine List.Sublist.append (List.Sublist.refl _) (oS _ _ _ _ H ?_);unfold lpgs;exact(List.range_sublist.2 (by simp only[Ab.trimL];omega)).map _
 obtain⟨l,V⟩ : ∃l,nth h.M k=l:=⟨_,rfl⟩
 rw[V]at C hf b1 b2 G y d p u hpageM w Y N |-;generalize hla:h.M.set k (Ab.trimL l size)=la at d p u hpageM w |-;have hn1:(1:Int)<=(size+15) / 16/\(size+15) / 16+(dE l size:Nat)=l.a1:=by unfold dE;omega
 have D:∀q,q∈lpgs l l.a1.toNat↔l.Q<=q/\q<l.Q+l.a1:=λq=>by
  rw[d9];constructor
  ·rintro⟨j,n,rfl⟩;omega
  rintro⟨Z,q2⟩;exact⟨(q - l.Q).toNat,ω,ω⟩
 have J:∀q,q∈lpgs (Ab.trimL l size) (Ab.trimL l size).a1.toNat↔l.Q<=q/\q<l.Q+(size+15) / 16:=λq=>by
  rw[d9];simp only[Ab.trimL];constructor
  ·rintro⟨j,n,rfl⟩;omega
  rintro⟨Z,q2⟩;exact⟨(q - l.Q).toNat,ω,ω⟩
 have hpe:l.Q+(size+15) / 16+(dE l size:Nat)=l.Q+l.a1:=ω
 have P:∀q,q∈pgs h.K la↔q∈pgs h.K h.M/\¬(l.Q+(size+15) / 16<=q/\q<l.Q+(size+15) / 16+(dE l size:Nat)):=λq=>by
  rw[qk,qk,hpe];constructor
  ·rintro(⟨s,W,rfl⟩|⟨z,c,B⟩)
   ·exact⟨.inl ⟨s,W,rfl⟩,λe=>O s W l y (s.Q - l.Q).toNat ω ω⟩
   rcases d z c with rfl|⟨j,n,hjk,rfl⟩
   ·have:=(J q).1 B
    exact⟨.inr ⟨l,y,(D q).2 ⟨ω,ω⟩⟩,ω⟩
   refine⟨.inr ⟨_,am n,B⟩,λe=>?_⟩;obtain⟨m,hm,rfl⟩:=d9.1 B;exact hjk (G j n m ((nth h.M j).Q+(m:Int) - l.Q).toNat hm ω ω)
  rintro⟨⟨s,W,rfl⟩|⟨z,c,B⟩,hne⟩
  ·exact .inl ⟨s,W,rfl⟩
  obtain⟨j,n,rfl⟩:=aK c;by_cases e:j=k
  ·subst e
   rw[V]at B;have:=(D q).1 B;exact .inr ⟨_,p,(J q).2 ⟨ω,ω⟩⟩
  exact .inr ⟨_,u j n e,B⟩
 have K:∃o,(dE l size=0->o=h.w)/\(0<dE l size->dO (dQ h) h.w ⟨l.Q+(size+15) / 16,(dE l size:Nat)⟩ = some o)/\bC (dQ h) o=true/\∀q,RH o q↔RH h.w q\/(l.Q+(size+15) / 16<=q/\q<l.Q+(size+15) / 16+(dE l size:Nat)):=by
  by_cases e:dE l size=0
  ·refine⟨h.w,λ_=>rfl,λg=>absurd g ω,t.rng,λq=>⟨.inl,λg=>g.resolve_right ω⟩⟩
  obtain⟨o,o1,o2,o3⟩:=vf (r:=⟨l.Q+(size+15) / 16,(dE l size:Nat)⟩) t.rng ⟨by simp only;omega,by simp only;omega,by show l.Q+(size+15) / 16+(dE l size:Nat)<=(dQ h:Int);have:((tbl h).J.length:Int)=(dQ h:Int):=rfl;omega⟩ λq Z q2=>by
   simp only at Z q2;obtain⟨m,rfl⟩:=O3 (show 0<=q by omega);have Q:m<(tbl h).J.length:=ω
   exact(t.pg.fre m Q).1 ((t.pg.own m Q).2 (gi y ((D _).2 ⟨ω,ω⟩)))
  exact⟨o,λg=>absurd g e,λ_=>o1,o2,o3⟩
 obtain⟨o,o0,o1,o2,o3⟩:=K;have R:=(fN h.G (l.Q+(size+15) / 16) (dE l size)).1;have M:∀z∈h.O.set i {nth h.O i with o:=size},z = {nth h.O i with o:=size}\/∃j,j<h.O.length/\j≠i/\nth h.O j=z:=λz N=>ed N
 have F:(h.O.set i {nth h.O i with o:=size}).map (·.Addr)=h.O.map (·.Addr):=kV T rfl;have S:(h.O.set i {nth h.O i with o:=size}).map (·.Id)=h.O.map (·.Id):=kV T rfl;have hli:=(am T:nth h.O i∈h.O)
 generalize h.O.set i {nth h.O i with o:=size} = ob at M F S |-;refine⟨o,o0,o1,{t with
   ker:=jf t.ker _ _
   rng:=by show bC (((unmN h.G (l.Q+(size+15) / 16) (dE l size)).F.R.J.length:Nat):Int) o=true;rw[R];exact o2
   lay:=?_
   srl:=?_
   pg:=Jf t (by have:((tbl h).J.length:Int)=(h.G.F.R.J.length:Int):=rfl;omega) (List.Sublist.refl _) (λz c q B=>?_) ω P o3
   osr:=?_
   onu:=λz c=>?_
   oid:=by show(ob.map (·.Id)).Nodup;rw[S];exact t.oid
   oow:=λz c=>?_
   nd:=?_
   mem:=λb=>?_}⟩
 ·obtain⟨l1,l2,l3⟩:=dv t.lay
  unfold bp;simp only[I0,C0];refine⟨⟨l1,V4.2 λz c=>?_⟩,l3.sublist w⟩;rcases d z c with rfl|⟨j,n,-,rfl⟩
  ·exact O0 ⟨N.1,by show size<=1000;omega,rfl,by show 0<=l.Q;omega,by show l.Q<=32 - (size+15) / 16;omega⟩
  exact U.lok _ (am n)
 ·have A:(h.M.map (·.Q)).Pairwise (λa b=>a<b):=List.pairwise_map.2 t.srl
  rw[<-hpageM]at A;exact List.pairwise_map.1 A
 ·rcases d z c with rfl|⟨j,n,-,rfl⟩
  ·have:=(J q).1 B
   exact⟨l,y,(D q).2 ⟨ω,ω⟩⟩
  exact⟨_,am n,B⟩
 ·have A:(h.O.map (·.Addr)).Pairwise (λa b=>a<b):=List.pairwise_map.2 t.osr
  rw[<-F]at A;exact List.pairwise_map.1 A
 ·rcases M z c with rfl|⟨j,n,-,rfl⟩
  ·exact t.onu (nth h.O i) hli
  exact t.onu _ (am n)
 ·rcases M z c with rfl|⟨j,n,hji,rfl⟩
  ·exact .inr ⟨_,p,Y,rfl⟩
  rcases t.oow _ (am n) with A|⟨l',hl',e1,X⟩
  ·exact .inl A
  obtain⟨m,hm,rfl⟩:=aK hl';by_cases e:m=k
  ·subst e
   rw[V]at e1;exact absurd (cU (f:=(·.Addr)) (db t.osr) n T (e1.trans Y.symm)) hji
  exact .inr ⟨_,u m hm e,e1,X⟩
 ·have hh:holders {h with G:=unmN h.G (l.Q+(size+15) / 16) (dE l size),M:=la,O:=ob,w:=o} = holders h:=by
   show((ob.map (·.Addr)++ce h)++h.a9.a5.map (·.Addr))++aF h.q=_;rw[F];rfl
  rw[hh];exact t.nd
 have hh:holders {h with G:=unmN h.G (l.Q+(size+15) / 16) (dE l size),M:=la,O:=ob,w:=o} = holders h:=by
  show((ob.map (·.Addr)++ce h)++h.a9.a5.map (·.Addr))++aF h.q=_;rw[F];rfl
 rw[hh,t.mem b];show Live h.K h.M b↔Live h.K la b;unfold Live;constructor
 ·rintro(A|⟨z,c,e⟩)
  ·exact .inl A
  obtain⟨j,n,rfl⟩:=aK c;by_cases X:j=k
  ·subst X
   rw[V]at e;exact .inr ⟨_,p,e⟩
  exact .inr ⟨_,u j n X,e⟩
 rintro(A|⟨z,c,e⟩)
 ·exact .inl A
 rcases d z c with rfl|⟨j,n,-,rfl⟩
 ·exact .inr ⟨l,y,e⟩
 exact .inr ⟨_,am n,e⟩
def kR(h:ab)(k:Nat)(size:Int):ah:=zK h.G (16*(nth h.M k).Q+size) (16*((size+15) / 16) - size).toNat
def Kg(h:ab)(k:Nat)(size:Int):List aB:=if 0<dE (nth h.M k) size then(dO (dQ h) h.w ⟨(nth h.M k).Q+(size+15) / 16,(dE (nth h.M k) size:Nat)⟩).getD h.w else h.w
def trimH(h:ab)(i k:Nat)(size:Int):ab:={h with G:=unmN (kR h k size) ((nth h.M k).Q+(size+15) / 16) (dE (nth h.M k) size),M:=h.M.set k (trimL (nth h.M k) size),O:=h.O.set i {nth h.O i with o:=size},w:=Kg h k size}
def kB(b:aY h E){k:Nat}(c:k<h.M.length)(g:16*(nth h.M k).Q<=a/\a<16*(nth h.M k).Q+16*(nth h.M k).a1):(ac h.G.F.R (a / 16)).e≠0:=by
 obtain⟨i,j⟩:=uC b c;have l:=aM (b.L.lok _ (am c));have d:(a / 16)∈pgs h.K h.M:=gi (am c) (d9.2 ⟨(a / 16 - (nth h.M k).Q).toNat,ω,ω⟩);have e:=b.pg.bnd _ d;have f:=(b.pg.own (a / 16).toNat ω).2 (by rw[show(((a / 16).toNat:Nat):Int)=a / 16 by omega];exact d);unfold ac;rw[CD ⟨ω,e⟩];exact f
def yD(b:aY h E){k:Nat}(c:k<h.M.length)(d:9<=size/\size<=(nth h.M k).o):∀{m:Nat},m<=(16*((size+15) / 16) - size).toNat->aA (zK h.G (16*(nth h.M k).Q+size) m)=true:=fun {m} hm=>by
 have a:=b.L.lok _ (am c);unfold bF at a;rw[C0]at a;exact P7 b.ker λj e=>kB b c ⟨ω,ω⟩
def aY.trimH{h:ab}{i k:Nat}{size:Int}(d:aY h [])(A:i<h.O.length)(f:k<h.M.length)(B:(nth h.O i).Addr=16*(nth h.M k).Q)(r:9<=size/\size<=(nth h.M k).o):aY (trimH h i k size) []/\JK h (trimH h i k size):=by
 have t:=yD d f r (W3 _);have l:=(oc h.G (16*(nth h.M k).Q+size) (16*((size+15) / 16) - size).toNat).1;have C:=d.cells t l;obtain⟨o,u,w,y⟩:=C.trimL (i:=i) (k:=k) (size:=size) A f B r;simp only at u w y;have n:dQ {h with G:=zK h.G (16*(nth h.M k).Q+size) (16*((size+15) / 16) - size).toNat} = dQ h:=by
  unfold dQ;simp only[l]
 have D:Kg h k size=o:=by
  unfold Kg;split
  ·rename_i g;have:=w g;rw[n]at this;rw[this];rfl
  exact(u ω).symm
 have E:Ab.trimH h i k size = {h with G:=unmN (kR h k size) ((nth h.M k).Q+(size+15) / 16) (dE (nth h.M k) size),M:=h.M.set k (Ab.trimL (nth h.M k) size),O:=h.O.set i {nth h.O i with o:=size},w:=o}:=by unfold Ab.trimH;rw[D]
 refine⟨by rw[E];exact y,JK.less rfl rfl rfl λq j=>?_⟩;have a:=d.L.lok _ (am f);unfold bF at a;rw[C0]at a;obtain⟨F,G⟩:=uC d f;have b:(kR h k size).F.R=h.G.F.R:=l;have c:=mX (k:=kR h k size) t (p:=(nth h.M k).Q+(size+15) / 16) ω (dE (nth h.M k) size) (by rw[b];have:((tbl h).J.length:Int)=(h.G.F.R.J.length:Int):=rfl;unfold dE;omega) q;change (nth (unmN (kR h k size) ((nth h.M k).Q+(size+15) / 16) (dE (nth h.M k) size)).F.R.J q).e≠0 at j;show nth (unmN (kR h k size) ((nth h.M k).Q+(size+15) / 16) (dE (nth h.M k) size)).F.R.J q=nth h.G.F.R.J q;rw[c]at j |-;split at j
 ·exact absurd rfl j
 rename_i e;rw[CB e,b]
def Ji(h:1<=t/\t<=4):bP (eD t)=true:=by
 have f:∀n,n<=t->bx (eD t) n=0:=λn=>by
  induction n with
  | zero=>intro _;rfl
  | succ n g=>
   intro j;have a:nth (eD t).V n=[]:=cX ω;have b:nth (eD t).y n=[]:=cX ω;simp only[bx,g ω,a,b,List.length_nil]
   decide
 have e:(eD t).V.length=t:=z4 ..;refine dP.2 ⟨⟨ω,ω,by simp[eD]⟩,λi c=>?_,by rw[e,f t (W3 _)];omega⟩;rw[e]at c;have a:nth (eD t).V i=[]:=cX c;have b:nth (eD t).y i=[]:=cX c;rw[a,b];exact⟨λp d=>(by cases d),λp d=>(by cases d)⟩
def vn(t:Nat):aF (eD t)=[]:=by
 unfold aF;split
 ·simp[eD]
 rfl
def rK(k:ah)(t:Nat)(sd ck lim:Int):ab:=⟨k,[⟨0,(k.F.R.J.length:Nat)⟩],[],[],[],List.replicate t fQ,eD t,⟨16,[]⟩,sd,ck,lim,1,false,⟨⟨0,0,[]⟩,0,0⟩⟩
def G0:bt fQ=true:=by decide
def aY.fresh{lim ck:Int}(A:aA k=true)(B:∀q,q<k.F.R.J.length->(nth k.F.R.J q).e=0)(E:1<=t/\t<=4)(g:0<=lim/\lim<=1000)(h:0<=sd/\sd<=1073741823)(d:0<=ck/\ck<=1000000):aY (rK k t sd ck lim) []:=by
 obtain⟨G,H,J⟩:=b8.1 (aG.1 A).2.2.1;have hca:ce (rK k t sd ck lim)=[]:=by
  unfold ce;refine List.flatMap_eq_nil_iff.2 λc d=>?_
  rw[(List.mem_replicate.1 d).2]
  rfl
 have C:holders (rK k t sd ck lim)=[]:=by
  unfold holders;rw[hca];show(([]++[])++[])++aF (eD t)=[];rw[vn];rfl
 have i:∀a,¬Live (rK k t sd ck lim).K (rK k t sd ck lim).M a:=λa=>by
  rintro(⟨s,h,-⟩|⟨l,g,-⟩)
  ·cases h
  cases g
 exact {
   ker:=A
   rng:=gf.2 ⟨⟨List.pairwise_singleton ..,λy n=>by rw[V1.1 n];show(1:Int)<=(k.F.R.J.length:Nat);omega⟩,λy n=>by
       rw[V1.1 n];refine⟨W5 _,by show(1:Int)<=(k.F.R.J.length:Nat);omega,?_⟩;show(0:Int)+(k.F.R.J.length:Nat)<=(k.F.R.J.length:Nat);omega,by show(1:Int)<=(k.F.R.J.length:Nat);omega,by show((k.F.R.J.length:Nat):Int)<=32;omega⟩
   lay:=by show bp [] []=true;decide
   srs:=List.Pairwise.nil
   srl:=List.Pairwise.nil
   pg:=⟨λl g=>(by cases g),λp f=>(by cases f),λp f=>⟨λe=>absurd (B p f) e,λe=>by cases e⟩,λp f=>⟨λe=>absurd (B p f) e,λe=>absurd ⟨_,V1.2 rfl,by show(0:Int)<=p;omega,by
       show(p:Int)<0+(k.F.R.J.length:Nat);have F:p<k.F.R.J.length:=f;omega⟩ e⟩,λs h=>by cases h⟩
   mail:=Ji E
   nc:=by show(List.replicate t fQ).length=(List.replicate t _).length;simp
   quar:=by show fI ⟨16,[]⟩ = true;decide
   snc:=λx r=>by cases r
   cach:=λc d=>by rw[(List.mem_replicate.1 d).2];exact G0
   nums:=by unfold cq;rw[C0];simp only[rK];omega
   osr:=List.Pairwise.nil
   onu:=λo u=>by cases u
   oid:=List.nodup_nil
   oow:=λo u=>by cases u
   hca:=λc d j D a b=>by
     rw[(List.mem_replicate.1 d).2]at D b;have w:j<4:=D;have:nth fQ.b j=[]:=cX w;rw[this]at b;cases b
   hqu:=λx r=>by cases r
   hfl:=λa b=>by
     have:aF (eD t)=[]:=vn t;change a∈aF (eD t) at b;rw[this]at b;cases b
   hin:=λa b=>by cases b
   nd:=by rw[C];exact List.nodup_nil
   mem:=λa=>by rw[C];exact⟨λe=>(by cases e),λe=>absurd e (i a)⟩
   job:=λe=>by cases e
   noj:=λ_=>by show ta ⟨⟨0,0,[]⟩,0,0⟩ = true;decide}
def JI.no(a:h.u=false):JI h:=⟨λe=>(by rw[a]at e;cases e),λe=>(by rw[a]at e;cases e),λe=>(by rw[a]at e;cases e),λe=>(by rw[a]at e;cases e)⟩
def rd{p:Nat}{a:List Int}(d:1<=p/\p<=32)(e:1<=f/\f<=32)(b:a.length<=40/\∀x∈a,0<=x):aA (bN p f a)=true:=by
 obtain⟨-,g,h,i,c⟩:=aG.1 (BP d e);exact aG.2 ⟨λj k=>b.2 _ (am k),g,h,i,c.1,c.2.1,b.1⟩
def GB{p:Nat}{lim:Int}{a:List Int}(c:1<=p/\p<=32)(d:1<=f/\f<=32)(g:1<=t/\t<=4)(i:0<=lim/\lim<=1000)(j:a.length<=40/\∀x∈a,0<=x):aY (newHeap p f t lim a) []:=by
 have h:=aY.fresh (k:=bN p f a) (t:=t) (lim:=lim) (sd:=0) (ck:=0) (rd c d j) (λq l=>by
   have b:q<p:=by simpa[bN,eR] using l
   rw[show nth (bN p f a).F.R.J q = ⟨0,0⟩ from cX b]) g i ω ω
 have e:(bN p f a).F.R.J.length=p:=by simp[bN,eR]
 unfold rK at h;rw[e]at h;exact h
structure ew where
 b6:Int
 a4:Int
 N:Int
 At:Int
 Value:Int
deriving DecidableEq,Inhabited
def ew.enc(_:dN)(x:ew):List C:=[I x.b6,I x.a4,I x.N,I x.At,I x.Value]
def oF(id:Int)(o:aX):Bool:=decide (o.Id=id)
def pf(r:ay)(id:Int):Int:=cu (oF id) r.O
def jh(r:ay)(n:Int):ay:=if 1<=n/\n<=1000 then {r with d:=r.d+1,O:=r.O++[⟨r.d,List.replicate n.toNat 0⟩]} else r
def jT(r:ay)(id:Int):ay:=if pf r id<0 then r else {r with O:=dele r.O (pf r id).toNat}
def eI(r:ay)(id at_ v:Int):ay:=if 0<=pf r id/\(0<=at_/\at_<=(nth r.O (pf r id).toNat).T.length - 1)/\0<=v/\v<=999 then {r with O:=r.O.set (pf r id).toNat ⟨(nth r.O (pf r id).toNat).Id,(nth r.O (pf r id).toNat).T.set at_.toNat v⟩} else r
def fE(r:ay)(id n:Int):ay:=if 0<=pf r id/\1<=n/\n<=(nth r.O (pf r id).toNat).T.length then {r with O:=r.O.set (pf r id).toNat ⟨(nth r.O (pf r id).toNat).Id,(nth r.O (pf r id).toNat).T.take n.toNat⟩} else r
structure sZ(r:ay)(m:Nat):Prop where
 len:r.O.length<=m
 cel:∀o∈r.O,o.T.length<=1000
 nx:0<=r.d/\r.d<=m+1
variable{m:Nat}{r:ay}
def sZ.more(h:sZ r m)(a:m<=n):sZ r n:=⟨by have:=h.len;omega,h.cel,h.nx.1,by have:=h.nx.2;omega⟩
def sZ.sml(h:sZ r m)(b:m<=1000):ay.sml r:=⟨by have:=h.len;omega,λo a=>by have:=h.cel o a;show o.T.length<=1048576;omega⟩
def sZ.alloc(h:sZ r m)(n:Int):sZ (jh r n) (m+1):=by
 unfold jh;split
 ·refine⟨by have:=h.len;simp only[Y3,List.length_singleton];omega,λo a=>?_,by have:=h.nx.1;simp only;omega,by have:=h.nx.2;simp only;omega⟩
  rcases V3.1 a with a|a
  ·exact h.cel o a
  rw[V1.1 a];simp only[z4];omega
 exact h.more ω
def sZ.free(h:sZ r m)(id:Int):sZ (jT r id) m:=by
 unfold jT;split
 ·exact h
 have a:=fK r.O (pf r id).toNat;exact⟨O5 a.length_le h.len,λo b=>h.cel o (a.subset b),h.nx⟩
def sZ.set{x:aX}(h:sZ r m)(b:x.T.length<=1000):sZ {r with O:=r.O.set i x} m:=
 ⟨by simp only[W1];exact h.len,λo a=>by
   rcases S7 a with a|rfl
   · exact h.cel o a
   exact b,h.nx⟩
def fR[Inhabited α](p:α->Bool)(xs:List α)(h:0<=cu p xs):(cu p xs).toNat<xs.length/\p (nth xs (cu p xs).toNat)=true/\cu p xs=((cu p xs).toNat:Nat):=by
 rcases iR p xs with e|⟨n,a,e,b⟩
 ·omega
 rw[e,I3];exact⟨a,b,rfl⟩
def sZ.store(h:sZ r m)(id a v:Int):sZ (eI r id a v) m:=by
 unfold eI;split
 ·rename_i e
  refine h.set ?_;simp only[W1];exact h.cel (nth r.O (pf r id).toNat) (am (fR _ _ e.1).1)
 exact h
def sZ.trim(h:sZ r m)(id n:Int):sZ (fE r id n) m:=by
 unfold fE;split
 ·rename_i e
  refine h.set ?_;have:=h.cel (nth r.O (pf r id).toNat) (am (fR _ _ e.1).1);simp only[Z1];omega
 exact h
def NR(id:Int)(o:bn):Bool:=decide (o.Id=id)
def qN(h:ab)(id:Int):Int:=cu (NR id) h.O
def KN(a:Int)(l:a7):Bool:=decide (l.Q*16=a)
def zU(h:ab)(a:Int):Int:=cu (KN a) h.M
def nO(h:ab)(a:ew):Prop:=0<=a.a4/\a.a4<=h.S.length - 1
instance (h:ab) (a:ew):Decidable (nO h a):=by unfold nO;infer_instance
def q8(w:aQ)(a:ew)(i:Nat):aQ × Int:=
 if w.Y.G.Calls=100000 then(w,6)
 else if nO w.Y a then(⟨(freeT w.Y a.a4.toNat i).1,if(freeT w.Y a.a4.toNat i).2=0 then jT w.b3 (nth w.Y.O i).Id else w.b3⟩,(freeT w.Y a.a4.toNat i).2)
 else(w,1)
def ni(w:aQ)(a:ew)(i:Nat):aQ × Int:=
 if ¬(0<=a.At/\a.At<=(nth w.Y.O i).o - 1) then(w,90)
 else if(ac w.Y.G.F.R (((nth w.Y.O i).Addr+a.At) / 16)).e=1 then(w,2)
 else if ¬(0<=a.Value/\a.Value<=999) then(w,3)
 else(⟨{w.Y with G:=dM w.Y.G ((nth w.Y.O i).Addr+a.At) a.Value},eI w.b3 (nth w.Y.O i).Id a.At a.Value⟩,0)
def m8(h:ab)(i:Nat)(n:Int):Prop:=0<=zU h (nth h.O i).Addr/\9<=n/\n<=(nth h.M (zU h (nth h.O i).Addr).toNat).o
instance (h:ab) (i:Nat) (n:Int):Decidable (m8 h i n):=by unfold m8;infer_instance
def q9(w:aQ)(a:ew)(i:Nat):aQ × Int:=
 if w.Y.G.Calls≠100000/\m8 w.Y i a.Value then(⟨trimH w.Y i (zU w.Y (nth w.Y.O i).Addr).toNat a.Value,fE w.b3 (nth w.Y.O i).Id a.Value⟩,0) else(w,90)
def mQ(w:aQ)(a:ew)(i:Nat):aQ × Int:=if a.b6=2 then q8 w a i else if a.b6=3 then ni w a i else q9 w a i
def fL(h:ab)(a:ew):ab × Int:=
 if a.b6=5 then(if nO h a/\0<(nth h.q.V a.a4.toNat).length then({h with q:=gd h.q a.a4.toNat},0) else(h,90))
 else if ¬(h.G.Calls≠100000/\nO h a) then(h,0)
 else if a.b6=6 then(collect h a.a4.toNat,((nth h.q.y a.a4.toNat).length:Nat))
 else((flushN a.a4.toNat h 4).1,((flushN a.a4.toNat h 4).2:Nat))
def o9(h:ab)(n:Int):ab × Int:=if h.G.Calls≠100000/\(0<=n/\n<=1000)/\h.b5+n<=1000000 then(tick h n,((oA h n).length:Nat)) else(h,0)
def sD(h:ab):Bool:=h.u&&decide (h.G.Calls<=99000)
def stN(h:ab):Nat->ab × Nat
 | 0=>(h,0)
 | i+1=>if sD (stN h i).1=true then(mStep (stN h i).1,(stN h i).2+1) else stN h i
def nI(h:ab):ab × Int:=if h.u=true then(h,90) else((started h).1,if(started h).2=true then 0 else 90)
def m9(w:aQ)(a:ew):aQ × Int:=
 if a.b6=1 then(⟨(allocH w.Y a.a4 a.N).1,if(allocH w.Y a.a4 a.N).2.2=0 then jh w.b3 a.N else w.b3⟩,(allocH w.Y a.a4 a.N).2.2)
 else if a.b6=2\/a.b6=3\/a.b6=4 then(if qN w.Y a.N<0 then(w,90) else mQ w a (qN w.Y a.N).toNat)
 else if a.b6=5\/a.b6=6\/a.b6=7 then(⟨(fL w.Y a).1,w.b3⟩,(fL w.Y a).2)
 else if a.b6=8 then(⟨(o9 w.Y a.N).1,w.b3⟩,(o9 w.Y a.N).2)
 else if a.b6=9 then(⟨(nI w.Y).1,w.b3⟩,(nI w.Y).2)
 else if a.b6=10/\0<=a.N/\a.N<=50 then(⟨(stN w.Y a.N.toNat).1,w.b3⟩,((stN w.Y a.N.toNat).2:Nat))
 else(w,90)
structure rQ(w:aQ)(m:Nat):Prop where
 inv:aY w.Y []
 ji:JI w.Y
 ref:sZ w.b3 m
variable{w:aQ}
def rQ.more(h:rQ w m)(a:m<=n):rQ w n:=⟨h.inv,h.ji,h.ref.more a⟩
def rQ.jk(h:rQ w m){g:ab}(a:aY g []/\JK w.Y g)(b:sZ r m):rQ ⟨g,r⟩ m:=⟨a.1,h.ji.keep a.1 a.2,b⟩
def cV(a:aY h E)(p:o∈h.O){k:Int}(D:0<=k/\k<=o.o - 1):(ac h.G.F.R ((o.Addr+k) / 16)).e≠0/\0<=o.Addr/\o.Addr+k<512:=by
 rcases a.oow o p with⟨s,g,q,r⟩|⟨l,i,F,G⟩
 ·have b:=a.L.sok s g
  have t:=aC b;obtain⟨u,w,y⟩:=a.mapped g;have d:=b9 t.2.2;obtain⟨H,J,A,-⟩:=q;have f:o.o<=csz s.a:=by
   have K:=gH (n:=o.o) ω;rw[r];have:o.o=1\/o.o=2\/o.o=3\/o.o=4\/o.o=5\/o.o=6\/o.o=7\/o.o=8:=ω
   rcases this with e|e|e|e|e|e|e|e<;>rw[e]<;>decide
  have B:(o.Addr+k) / 16=s.Q:=by
   rcases d with e|e|e|e<;>rw[e]at A f<;>omega
  rw[B];refine⟨?_,ω,ω⟩;unfold ac;rw[CD ⟨u,w⟩];exact y
 obtain⟨j,C,rfl⟩:=aK i;have c:=a.L.lok _ i;unfold bF at c;rw[C0]at c;exact⟨kB a C ⟨ω,ω⟩,ω,ω⟩
def rQ.obj(h:rQ w m)(a:ew)(b:i<w.Y.O.length):rQ (mQ w a i).1 m:=by
 unfold mQ;split
 ·unfold q8
  split
  ·exact h
  split
  ·rename_i d
   unfold nO at d;refine h.jk (h.inv.freeT b ω) ?_;split
   ·exact h.ref.free _
   exact h.ref
  exact h
 split
 ·unfold ni
  split
  ·exact h
  rename_i l;split
  ·exact h
  split
  ·exact h
  rename_i n;exact h.jk (h.inv.store (cV h.inv (am b) ω).1 ω) (h.ref.store _ _ _)
 unfold q9;split
 ·rename_i e
  obtain⟨-,f,g⟩:=e;obtain⟨j,k,o⟩:=fR _ _ f;have c:=of_decide_eq_true k;exact h.jk (h.inv.trimH b j (c.symm.trans (Int.mul_comm _ _)) g) (h.ref.trim _ _)
 exact h
def rQ.thread(h:rQ w m)(a:ew):rQ ⟨(fL w.Y a).1,w.b3⟩ m:=by
 unfold fL;split
 ·split
  ·rename_i e
   obtain⟨b,i⟩:=e;unfold nO at b;exact h.jk (g:={w.Y with q:=gd w.Y.q a.a4.toNat}) ⟨h.inv.deliv (by rw[<-h.inv.nc];omega) i,JK.eq rfl rfl rfl rfl⟩ h.ref
  exact h
 split
 ·exact h
 rename_i e;have e:=Classical.not_not.1 e;obtain⟨-,b⟩:=e;unfold nO at b;split
 ·exact h.jk (g:=collect w.Y a.a4.toNat) (h.inv.collect ω) h.ref
 have c:a.a4.toNat<w.Y.S.length:=ω
 have d:=(jO h.inv c (W3 4)).1;have f:=JK.flushN h.inv c (W3 4);generalize flushN a.a4.toNat w.Y 4=r at d f |-;exact h.jk (g:=r.1) ⟨d,f⟩ h.ref
def u5{h:ab}(a:aY h [])(b:JI h):∀n,aY (stN h n).1 []/\JI (stN h n).1
 | 0=>⟨a,b⟩
 | n+1=>by
  obtain⟨c,d⟩:=u5 a b n;unfold stN;split
  ·rename_i e
   unfold sD at e;rw[I0]at e;exact c.mStep d e.1
  exact⟨c,d⟩
def rQ.act(h:rQ w m)(a:ew):rQ (m9 w a).1 (m+1):=by
 unfold m9;split
 ·have b:=AG (t:=a.a4) (size:=a.N) h.inv
  refine⟨b.1,h.ji.keep b.1 b.2,?_⟩;show sZ (if _ then _ else _) (m+1);split
  ·exact h.ref.alloc _
  exact h.ref.more ω
 refine rQ.more (m:=m) ?_ ω;split
 ·split
  ·exact h
  rename_i e;exact h.obj a (fR _ _ (by unfold qN at e;omega)).1
 split
 ·exact h.thread a
 split
 ·unfold o9
  split
  ·rename_i e
   exact h.jk (h.inv.tick e.2.1.1 e.2.2) h.ref
  exact h
 split
 ·unfold nI
  split
  ·exact h
  rename_i e;have b:=Jl h.inv (by simpa using e);exact⟨b.1,b.2,h.ref⟩
 split
 ·have b:=u5 h.inv h.ji a.N.toNat
  exact⟨b.1,b.2,h.ref⟩
 exact h
structure cR where
 a1:Nat
 W:Nat
 d0:Nat
 c4:Int
 a0:List Int
deriving Inhabited
structure E4(c:cR):Prop where
 p:1<=c.a1/\c.a1<=32
 f:1<=c.W/\c.W<=32
 t:1<=c.d0/\c.d0<=4
 l:0<=c.c4/\c.c4<=1000
 r:c.a0.length<=40/\∀x∈c.a0,0<=x
def world0(c:cR):aQ:=⟨newHeap c.a1 c.W c.d0 c.c4 c.a0,{d:=1,O:=[]}⟩
def zj(c:cR)(acts:List ew):Nat->aQ × List Int
 | 0=>(world0 c,[])
 | i+1=>((m9 (zj c acts i).1 (nth acts i)).1,(zj c acts i).2++[(m9 (zj c acts i).1 (nth acts i)).2])
def M6{c:cR}(h:E4 c):rQ (world0 c) 0:=
 ⟨GB h.p h.f h.t h.l h.r,JI.no rfl,⟨W3 _,λo a=>(by cases a),by show(0:Int)<=1;omega,by show(1:Int)<=((0:Nat):Int)+1;omega⟩⟩
def uW{c:cR}(h:E4 c)(acts:List ew):∀n,rQ (zj c acts n).1 n
 | 0=>M6 h
 | n+1=>(uW h acts n).act _
def Mx(t:aH)(d:aH.sml t):zzA 25 false [.val (some 1) (aH.enc .U t)] .one [I (fT t)]:=by
 have k:t.J.length<=1048576:=d.1;refine fO 22 [] Tryz.func25 rfl ?_
 repeat'(first|refine gP ?_|fail)
 (conv=>whnf)
 refine CH (ι:=Nat) (λi=>[(1,.H .box (aH.enc .U t)),(3,.H .one [I (dX cy t.J i)]),(4,.H .one [I ((i:Nat):Int)])]) (λi=>i<=t.J.length) (λi=>t.J.length - i) (0) ?_ (X0 _) λi g=>?_
 ·exact wB
 have h:=jQ (f:=cy) (xs:=t.J) (b:=1) (λe _=>vA e) i g;by_cases j:i<t.J.length
 ·have c:=ao j
  have a:dX cy t.J (i+1)=dX cy t.J i+cy (nth t.J i):=rfl;by_cases e:(nth t.J i).e=0
  ·rw[show cy (nth t.J i)=0 by unfold cy;rw[CB (by simpa using e)]]at a
   repeat'(first|refine gB ?_|fail)
   ((conv=>whnf);refine CG (i+1) ω ω ?_;(exact wB))
  rw[show cy (nth t.J i)=1 by unfold cy;rw[CD e]]at a
  repeat'(first|refine gB ?_|fail)
  ((conv=>whnf);refine CG (i+1) ω ω ?_;(exact wB))
 obtain rfl:i=t.J.length:=ω
 repeat'(first|refine gE ?_|fail)
 rfl
def ug(t:aH)(d:aH.sml t):zzA 90 false [.val (some 1) (aH.enc .U t)] .one [I (fT t)]:=by
 have k:t.J.length<=1048576:=d.1;refine fO 20 [] Tryz.func90 rfl ?_
 repeat'(first|refine gP ?_|fail)
 (conv=>whnf)
 refine CH (ι:=Nat) (λi=>[(3,.H .one [I (dX cy t.J i)]),(7,.H .one (lL .U t.J)),(8,.H .one [I (t.J.length)]),(9,.H .one [I ((i:Nat):Int)])]) (λi=>i<=t.J.length) (λi=>t.J.length - i) (0) ?_ (X0 _) λi g=>?_
 ·exact wB
 have h:=jQ (f:=cy) (xs:=t.J) (b:=1) (λe _=>vA e) i g;by_cases j:i<t.J.length
 ·have c:=ao j
  have a:dX cy t.J (i+1)=dX cy t.J i+cy (nth t.J i):=rfl;by_cases e:(nth t.J i).e=0
  ·rw[show cy (nth t.J i)=0 by unfold cy;rw[CB (by simpa using e)]]at a
   repeat'(first|refine gB ?_|fail)
   ((conv=>whnf);refine CG (i+1) ω ω ?_;(exact wB))
  rw[show cy (nth t.J i)=1 by unfold cy;rw[CD e]]at a
  repeat'(first|refine gB ?_|fail)
  ((conv=>whnf);refine CG (i+1) ω ω ?_;(exact wB))
 obtain rfl:i=t.J.length:=ω
 repeat'(first|refine gE ?_|fail)
 rfl
def MB(s:ax)(a:bi s=true):zzA 426 false [.val (some 3) (ax.enc .U s)] .one (aD .own (jl s 16)):=by
 have b:=fW s;rw[a]at b;have g:=aC a;have n:=b9 g.2.2;refine fO 27 [(5,7,[14,15,16,17,18,19,20])] Tryz.func426 rfl ?_ (.inr (bG _))
 repeat'(first|refine gP ?_|fail)
 (conv=>whnf)
 refine CH (ι:=Nat) (λi=>[(1,.H .box (ax.enc .U s)),(3,.H .one (aD .own (jl s i))),(4,.H .one [I ((i:Nat):Int)])]) (λi=>i<=16) (λi=>16 - i) (0) ?_ (X0 _) λi o=>?_
 ·exact wB
 have h:=po s i;by_cases j:i<16
 ·have k:=Gy a j
  have d:IntKind.i64.wrap (((i:Nat):Int).tdiv (csz s.a))=((i:Nat):Int) / csz s.a:=by rw[kn ω];exact eZ ω ω
  have c:=hB s.b1 (((i:Nat):Int) / csz s.a) (eP a).2;cases e:j8 s i
  ·rw[show aS s.b1 (((i:Nat):Int) / csz s.a)=false from e]at c
   repeat'(first|refine gE ?_|(conv=>whnf);first|refine C9 (b) ?_|refine C9 (dx _) ?_|refine CQ ω ?_|refine CO d ?_|refine C9 (c) ?_)
   ((conv=>whnf);refine CG (i+1) ω ω ?_)
   rw[J9 e];exact wB
  rw[show aS s.b1 (((i:Nat):Int) / csz s.a)=true from e]at c
  repeat'(first|refine gE ?_|(conv=>whnf);first|refine C9 (b) ?_|refine C9 (dx _) ?_|refine CQ ω ?_|refine CO d ?_|refine C9 (c) ?_|refine CU cw (λr l=>by rw[V1.1 l];rfl) (by simp[aZ,dS]) (by simp;omega) (by simp only[I1];exact wZ (by simp;omega) (by decide)) rfl ?_)
  ((conv=>whnf);refine CG (i+1) ω ω ?_)
  rw[EE e]
  (repeat'(first|exact trivial|rfl|exact CN rfl (CN (Z0 (C.s dN.own) (by simp[rI])) trivial)|refine CN ?_ ?_))
 obtain rfl:i=16:=ω
 repeat'(first|refine gE ?_|(conv=>whnf);refine C9 (b) ?_)
 rfl
def oQ(s:ax)(a:bi s=true):zzA 258 false [.val (some 3) (ax.enc .U s)] .one (aD .own (jl s 16)):=by
 have c:=iX s;rw[a]at c;have g:=aC a;have n:=b9 g.2.2;refine fO 26 [(7,7,[13,14,15,16,17,18,19])] Tryz.func258 rfl ?_ (.inr (bG _))
 repeat'(first|refine gP ?_|(conv=>whnf);refine C9 (c) ?_)
 (conv=>whnf)
 refine CH (ι:=Nat) (λi=>[(1,.H .box (ax.enc .U s)),(3,.H .one (aD .own (jl s i))),(4,.H .one [I ((i:Nat):Int)])]) (λi=>i<=16) (λi=>16 - i) (0) ?_ (X0 _) λi o=>?_
 ·exact wB
 have h:=po s i;by_cases j:i<16
 ·have k:=Gy a j
  have d:IntKind.i64.wrap (((i:Nat):Int).tdiv (csz s.a))=((i:Nat):Int) / csz s.a:=by rw[kn ω];exact eZ ω ω
  have b:=nN s.b1 (((i:Nat):Int) / csz s.a) (eP a).2;cases e:j8 s i
  ·rw[show aS s.b1 (((i:Nat):Int) / csz s.a)=false from e]at b
   repeat'(first|refine gE ?_|(conv=>whnf);first|refine C9 (cW _) ?_|refine CQ ω ?_|refine CO d ?_|refine C9 (b) ?_)
   ((conv=>whnf);refine CG (i+1) ω ω ?_)
   rw[J9 e];exact wB
  rw[show aS s.b1 (((i:Nat):Int) / csz s.a)=true from e]at b
  repeat'(first|refine gE ?_|(conv=>whnf);first|refine C9 (cW _) ?_|refine CQ ω ?_|refine CO d ?_|refine C9 (b) ?_|refine CU cw (λr l=>by rw[V1.1 l];rfl) (by simp[aZ,dS]) (by simp;omega) (by simp only[I1];exact wZ (by simp;omega) (by decide)) rfl ?_)
  ((conv=>whnf);refine CG (i+1) ω ω ?_)
  rw[EE e]
  (repeat'(first|exact trivial|rfl|exact CN rfl (CN (Z0 (C.s dN.own) (by simp[rI])) trivial)|refine CN ?_ ?_))
 obtain rfl:i=16:=ω
 repeat'(first|refine gE ?_|fail)
 rfl
def xq(sp:List ax)(la:List a7)(c:dK sp)(d:dG la)(a:bp sp la=true):zzA 92 false [.val none (bT .U sp),.val none (bJ .U la)] .one [I (lE sp la)]:=by
 have o:=c.1;have p:=d.1;have j:=mO sp la c d;rw[a]at j;have q:=qH.of a;have e:=RJ (dv a).2.1;refine fO 38 [] Tryz.func92 rfl ?_
 repeat'(first|refine gP ?_|(conv=>whnf);refine C9 (j) ?_)
 (conv=>whnf)
 refine CH (ι:=Nat) (λi=>[(1,.H .one (bJ .U la)),(5,.H .one [I (dX KZ sp i)]),(14,.H .one (bT .U sp)),(15,.H .one [I (sp.length)]),(16,.H .one [I ((i:Nat):Int)])]) (λi=>i<=sp.length) (λi=>sp.length - i) (0) ?_ (X0 _) λi r=>?_
 ·exact wB
 have t:=jQ (f:=KZ) (xs:=sp) (b:=16) (λs _=>PV s) i r;by_cases l:i<sp.length
 ·have g:=ao l
  have h:dX KZ sp (i+1)=dX KZ sp i+((jl (nth sp i) 16).length:Nat):=rfl;have u:=po (nth sp i) 16
  repeat'(first|refine gE ?_|(conv=>whnf);refine C9 (oQ (nth sp i) (q.sok _ (am l))) ?_)
  ((conv=>whnf);refine CG (i+1) ω ω ?_;(exact wB))
 obtain rfl:i=sp.length:=ω
 have w:dX (·.o) la 0=0:=rfl
 repeat'(first|refine gE ?_|fail)
 (conv=>whnf)
 refine CH (ι:=Nat) (λk=>[(5,.H .one [I (dX KZ sp sp.length+dX (·.o) la k)]),(26,.H .one (bJ .U la)),(27,.H .one [I (la.length)]),(28,.H .one [I ((k:Nat):Int)])]) (λk=>k<=la.length) (λk=>la.length - k) (0) ?_ (X0 _) λk y=>?_
 ·exact wB
 have B:=jQ (f:=(·.o)) (xs:=la) (b:=1000) e k y;by_cases n:k<la.length
 ·have g:=ao n
  have C:=e _ (am n);have h:dX (·.o) la (k+1)=dX (·.o) la k+(nth la k).o:=rfl
  repeat'(first|refine gE ?_|fail)
  ((conv=>whnf);refine CG (k+1) ω ω ?_;(exact wB))
 obtain rfl:k=la.length:=ω
 repeat'(first|refine gE ?_|fail)
 rfl
def zH(h:ab):zzA 68 false [.val (some 24) (ab.enc .U h)] .one [I (dQ h:Nat)]:=by
 refine fO 9 [] Tryz.func68 rfl ?_
 repeat'(first|refine gP ?_|fail)
 rfl
def T4(f:cN h=true){k:Nat}(b:k<h.O.length):(nth h.O k).Id=z↔cu (bR z) h.O=(k:Nat):=by
 constructor
 ·rintro rfl
  refine dB (ao b) (by unfold bR;simp) λj y i c=>?_
  have a:=(X2.1 c).1;have:=TG f a b ω;rw[bm c]at this;unfold bR;exact W0 this
 intro e;rcases iR (bR z) h.O with g|⟨n,l,g,d⟩
 ·omega
 obtain rfl:n=k:=ω
 unfold bR at d;simpa using d
def Nz(h:ab)(z:Int):cu (bR z) h.O = -1\/∃n:Nat,n<h.O.length/\cu (bR z) h.O=(n:Nat):=by
 rcases iR (bR z) h.O with a|⟨n,b,a,-⟩
 ·exact .inl a
 exact .inr ⟨n,b,a⟩
def BE(a:cN h=true)(b:i<h.O.length):0<=(nth h.O i).Addr/\(nth h.O i).Addr<=2000/\1<=(nth h.O i).o/\(nth h.O i).o<=1000:=by
 obtain⟨g,j,c,d,e,f,-⟩:=wO a b;exact⟨c,d,e,f⟩
def lR(h:ab)(k:Nat):List Int:=cellsOf h.G (nth h.O k).Addr (nth h.O k).o.toNat
def BO(a:cN h=true){k:Nat}(b:k<h.O.length):(lR h k).length<=1000:=by
 have:=BE a b;unfold lR;rw[gL];omega
def PQ{r:aX}(e:cu (bR r.Id) h.O = -1):yf h r=false:=by unfold yf;rw[e];rfl
def Ez{r:aX}(e:cu (bR r.Id) h.O=(n:Nat)):yf h r=decide (lR h n=r.T):=by
 unfold yf lR;rw[e,I3,O0 (show(0:Int)<=(n:Nat) by omega)];rfl
def oI(o:bn)(z:Int):zzA 86 false [.val (some 4) (bn.enc .U o),.ptr [I z]] .one [B (bR z o)]:=by
 refine fO 8 [] Tryz.func86 rfl ?_
 repeat'(first|refine gP ?_|fail)
 exact Z0 (λz=>[B z]) ((by unfold bR;rw[I5];simp))
def vp(h:ab)(z:Int)(n:Nat)(b:ab.sml h)(a:cN h=true)(c:n<h.O.length)(g:cu (bR z) h.O=(n:Nat)):zzA 29 false [.val (some 24) (ab.enc .U h),.val none [I z]] (.tup [none,none]) [.s .own ((lR h n).map (rI .own)),B true]:=by
 have d:=kF h b;rw[nr,a]at d;have i:h.O.length<=1048576:=b.2.2.2.2.1.1;have p:=BE a c;have j:=BU h (nth h.O n).Addr (nth h.O n).o (Ea a) ω ω;have l:=ao c;have e:=iy h.O (bR z) ω;rw[g]at e;refine fO 32 [(4,13,[18,19,20,21,22,23,24,25,26,27,28,29,30])] Tryz.func29 rfl ?_ (.inr ⟨⟨.inl λh=>(by cases h),bj _ _ λy _=>pX y⟩,trivial,trivial⟩)
 repeat'(first|refine gE ?_|(conv=>whnf);first|refine Cq.mk (rM (some 4) (bn.enc .U) (bR z) h.O) (oI default z).has (λL k rcs o=>?_) ?_|refine C9 (e) ?_|refine C9 (d) ?_|refine C9 (j) ?_)
 ·obtain⟨y,-,rfl,rfl,rfl⟩:=o
  exact oI y z
 rfl
def EV(h:ab)(z:Int)(b:ab.sml h)(c:cu (bR z) h.O = -1):zzA 29 false [.val (some 24) (ab.enc .U h),.val none [I z]] (.tup [none,none]) [.s .own [],B false]:=by
 have d:h.O.length<=1048576:=b.2.2.2.2.1.1;have a:=iy h.O (bR z) ω;rw[c]at a;refine fO 32 [(4,13,[18,19,20,21,22,23,24,25,26,27,28,29,30])] Tryz.func29 rfl ?_ (.inr ⟨⟨.inl λh=>(by cases h),trivial⟩,trivial,trivial⟩)
 repeat'((conv=>whnf);first|with_reducible (first|refine Lm ?_|refine Wm ω ?_|refine dT ω (λg=>?_)|refine Bn ?_|refine kC.wk rfl ?_)|refine Bt ?_|refine Bu ?_|refine Cq.mk (rM (some 4) (bn.enc .U) (bR z) h.O) (oI default z).has (λL k rcs e=>?_) ?_|refine C9 (a) ?_)
 ·obtain⟨y,-,rfl,rfl,rfl⟩:=e
  exact oI y z
 exact⟨rfl,rfl,trivial⟩
def vk(a:cN h=true)(h1:h.d=r.d)(b:h.O.length=r.O.length):ib h r=cE r.O.length λi=>yf h (nth r.O i):=by
 unfold ib;rw[a,O0 ⟨h1,b⟩];rfl
def Ee(h:ab)(r:ay)(d:ab.sml h)(y:ay.sml r):zzA 120 false [.val (some 24) (ab.enc .U h),.val (some 2) (ay.enc .U r)] .one [B (ib h r)]:=by
 have b:=kF h d;rw[nr]at b;have C:h.O.length<=1048576:=d.2.2.2.2.1.1;have D:r.O.length<=1048576:=y.1;cases c:cN h<;>rw[c]at b
 ·refine fO 52 [] Tryz.func120 rfl ?_
  repeat'(first|refine gP ?_|(conv=>whnf);refine C9 (b) ?_)
  exact Z0 (λz=>[B z]) ((by unfold ib;rw[c];rfl))
 by_cases p:h.d=r.d
 case neg=>
  refine fO 52 [] Tryz.func120 rfl ?_
  repeat'(first|refine gB ?_|(conv=>whnf);refine C9 (b) ?_)
  exact Z0 (λz=>[B z]) ((by unfold ib;rw[W0 λh=>p h.1];simp))
 by_cases q:h.O.length=r.O.length
 case neg=>
  refine fO 52 [] Tryz.func120 rfl ?_
  repeat'(first|refine gB ?_|(conv=>whnf);refine C9 (b) ?_)
  exact Z0 (λz=>[B z]) ((by unfold ib;rw[W0 λh=>q h.2];simp))
 rw[vk c p q];refine fO 52 [] Tryz.func120 rfl ?_
 repeat'(first|refine gB ?_|(conv=>whnf);refine C9 (b) ?_)
 (conv=>whnf)
 refine CH (ι:=Nat) (λi=>[(2,.H .box (ab.enc .U h)),(29,.H .one (Lv .U r.O)),(30,.H .one [I (r.O.length)]),(31,.H .one [I ((i:Nat):Int)])]) (λi=>i<=r.O.length/\cE i (λi=>yf h (nth r.O i))=true) (λi=>r.O.length - i) 0 ?_ ⟨X0 _,rfl⟩ λi t=>?_
 ·exact wB
 obtain⟨t,u⟩:=t;by_cases j:i<r.O.length
 ·have k:=ao j
  rcases Nz h (nth r.O i).Id with e|⟨n,l,e⟩
  ·have o:=PQ (r:=nth r.O i) e
   repeat'(first|refine gE ?_|(conv=>whnf);refine C9 (EV h (nth r.O i).Id d e) ?_)
   exact Z0 (λz=>[B z]) ((bX j o).symm)
  have a:=Ez (r:=nth r.O i) e;have E:=BO c l;have g:=GX (lR h n) (nth r.O i).T ω;by_cases w:lR h n=(nth r.O i).T
  ·rw[O0 w]at a g
   repeat'(first|refine gE ?_|(conv=>whnf);first|refine C9 (vp h (nth r.O i).Id n d c l e) ?_|refine CL (g) ⟨⟨rfl,d8 _⟩,⟨rfl,rfl⟩,trivial⟩ ?_)
   ((conv=>whnf);refine CG (i+1) ⟨ω,br u a⟩ ω ?_;(exact wB))
  rw[W0 w]at a g
  repeat'(first|refine gE ?_|(conv=>whnf);first|refine C9 (vp h (nth r.O i).Id n d c l e) ?_|refine CL (g) ⟨⟨rfl,d8 _⟩,⟨rfl,rfl⟩,trivial⟩ ?_)
  exact Z0 (λz=>[B z]) ((bX j a).symm)
 obtain rfl:i=r.O.length:=ω
 repeat'(first|refine gE ?_|fail)
 exact Z0 (λz=>[B z]) (u.symm)
def lg(a:Int)(o:bn):Bool:=decide (o.Addr=a)
def RR(a:Int)(l:List Int):Bool:=decide (a∈l)
def ja(a:Int)(c:a8):Bool:=c.b.any (RR a)
def Bh(o:bn)(a:Int):zzA 294 false [.val (some 4) (bn.enc .U o),.ptr [I a]] .one [B (lg a o)]:=by
 refine fO 8 [] Tryz.func294 rfl ?_
 repeat'(first|refine gP ?_|fail)
 exact Z0 (λz=>[B z]) ((by unfold lg;rw[I5];simp))
def FQ(h:ab)(a:Int)(c:h.O.length<=1048576):zzA 132 false [.val (some 24) (ab.enc .U h),.val none [I a]] .one [I (cu (lg a) h.O)]:=by
 refine fO 9 [] Tryz.func132 rfl ?_
 repeat'(first|refine gP ?_|(conv=>whnf);first|refine Cq.mk (rM (some 4) (bn.enc .U) (lg a) h.O) (Bh default a).has (λL k rcs b=>?_) ?_|refine C9 (iy h.O (lg a) ω) ?_)
 ·obtain⟨y,-,rfl,rfl,rfl⟩:=b
  exact Bh y a
 rfl
def BR(q:bM)(a:Int)(b:q.a5.length<=1048576):zzA 284 false [.val (some 2) (bM.enc .U q),.val none [I a]] .one [B (q.a5.any (dJ a))]:=by
 refine fO 9 [] Tryz.func284 rfl ?_
 repeat'(first|refine gP ?_|(conv=>whnf);refine C9 (qX q.a5 a ω) ?_)
 rfl
def xC(xs:List (List Int))(pr:List Int->Bool)(g:xs.length<=9223372036854775807):zzA 506 false [.val none (f9 .U xs),.fn (mN Tryz.prog (rM none (aD .U) pr xs))] .one [I (cu pr xs)]:=by
 refine fO 19 [] Tryz.func506 rfl ?_
 repeat'(first|refine gP ?_|fail)
 (conv=>whnf)
 refine CH (ι:=Nat) (λi=>[(0,.H .one (f9 .U xs)),(1,.fv (mN Tryz.prog (rM none (aD .U) pr xs))),(7,.H .one [I xs.length]),(8,.H .one [I (i:Nat)])]) (λi=>i<=xs.length/\∀(j:Nat)(z:List Int),j<i->xs[j]? = some z->pr z=false) (λi=>xs.length - i) 0 ?_ ⟨X0 _,λj z h=>ω⟩ λi d=>?_
 ·exact wB
 obtain⟨d,b⟩:=d;by_cases c:i<xs.length
 ·obtain⟨y,a⟩ : ∃y,xs[i]? = some y:=⟨_,W2 c⟩
  repeat'(first|refine gE ?_|(conv=>whnf);first|refine Fv.mk (k:=.one) (rcs:=[B (pr y)]) ⟨y,I2 a,rfl,rfl,rfl⟩ ?_|refine Bf.P (λe=>?_) (λe=>?_))
  ·exact Z0 (λz=>[I z]) (dB a ‹_› b).symm
  (conv=>whnf)
  refine CG (i+1) ⟨ω,dt a (by assumption) b⟩ ω ?_;exact wB
 repeat'(first|refine gE ?_|fail)
 exact Z0 (λz=>[I z]) (fy ω b).symm
def sC(xs:List (List Int))(pr:List Int->Bool)(a:xs.length<=9223372036854775807):zzA 419 false [.val none (f9 .U xs),.fn (mN Tryz.prog (rM none (aD .U) pr xs))] .one [B (xs.any pr)]:=by
 refine fO 9 [] Tryz.func419 rfl ?_
 repeat'(first|refine gP ?_|(conv=>whnf);refine C9 (xC xs pr a) ?_)
 exact Z0 (λz=>[B z]) (gT pr xs)
def wt(xs:List a8)(pr:a8->Bool)(g:xs.length<=9223372036854775807):zzA 418 false [.val none (fS .U xs),.fn (mN Tryz.prog (rM (some 1) (a8.enc .U) pr xs))] .one [I (cu pr xs)]:=by
 refine fO 19 [] Tryz.func418 rfl ?_
 repeat'(first|refine gP ?_|fail)
 (conv=>whnf)
 refine CH (ι:=Nat) (λi=>[(0,.H .one (fS .U xs)),(1,.fv (mN Tryz.prog (rM (some 1) (a8.enc .U) pr xs))),(7,.H .one [I xs.length]),(8,.H .one [I (i:Nat)])]) (λi=>i<=xs.length/\∀(j:Nat)(z:a8),j<i->xs[j]? = some z->pr z=false) (λi=>xs.length - i) 0 ?_ ⟨X0 _,λj z h=>ω⟩ λi d=>?_
 ·exact wB
 obtain⟨d,b⟩:=d;by_cases c:i<xs.length
 ·obtain⟨y,a⟩ : ∃y,xs[i]? = some y:=⟨_,W2 c⟩
  repeat'(first|refine gE ?_|(conv=>whnf);first|refine Fv.mk (k:=.one) (rcs:=[B (pr y)]) ⟨y,I2 a,rfl,rfl,rfl⟩ ?_|refine Bf.P (λe=>?_) (λe=>?_))
  ·exact Z0 (λz=>[I z]) (dB a ‹_› b).symm
  (conv=>whnf)
  refine CG (i+1) ⟨ω,dt a (by assumption) b⟩ ω ?_;exact wB
 repeat'(first|refine gE ?_|fail)
 exact Z0 (λz=>[I z]) (fy ω b).symm
def rA(xs:List a8)(pr:a8->Bool)(a:xs.length<=9223372036854775807):zzA 281 false [.val none (fS .U xs),.fn (mN Tryz.prog (rM (some 1) (a8.enc .U) pr xs))] .one [B (xs.any pr)]:=by
 refine fO 9 [] Tryz.func281 rfl ?_
 repeat'(first|refine gP ?_|(conv=>whnf);refine C9 (wt xs pr a) ?_)
 exact Z0 (λz=>[B z]) (gT pr xs)
def vJ(l:List Int)(a:Int)(b:l.length<=1048576):zzA 420 false [.val none (aD .U l),.ptr [I a]] .one [B (RR a l)]:=by
 refine fO 7 [] Tryz.func420 rfl ?_
 repeat'(first|refine gP ?_|(conv=>whnf);refine C9 (lY l a ω) ?_)
 rfl
def zq(c:a8)(a:Int)(b:a8.sml c):zzA 283 false [.val (some 1) (a8.enc .U c),.val none [I a]] .one [B (ja a c)]:=by
 have g:=b.1;refine fO 9 [] Tryz.func283 rfl ?_
 repeat'(first|refine gP ?_|(conv=>whnf);first|refine Cq.mk (rM none (aD .U) (RR a) c.b) (vJ [] a (X0 _)).has (λL k rcs d=>?_) ?_|refine C9 (sC c.b (RR a) ω) ?_)
 ·obtain⟨y,e,rfl,rfl,rfl⟩:=d
  exact vJ y a (b.2 y e)
 rfl
def kH(c:a8)(a:Int)(b:a8.sml c):zzA 282 false [.val (some 1) (a8.enc .U c),.ptr [I a]] .one [B (ja a c)]:=by
 refine fO 7 [] Tryz.func282 rfl ?_
 repeat'(first|refine gP ?_|(conv=>whnf);refine C9 (zq c a b) ?_)
 rfl
def QT(f:cN h=true)(d:a∈i7 h.K h.M)(h1:cu (lg a) h.O<0)(g:h.S.any (ja a)=false)(i:h.a9.a5.any (dJ a)=false):a∈aF h.q:=by
 obtain⟨-,j,-⟩:=iS f;have k:=qH.of j;have n:a∈io h.K h.M:=by
  unfold i7 sorted at d;rw[List.mem_mergeSort,FT k]at d;exact d
 have b:=LZ f n;unfold holders at b;simp only[V3]at b;rcases b with((b|b)|b)|b
 ·obtain⟨o,p,rfl⟩:=Z4.1 b
  have e:=gT (lg o.Addr) h.O;rw[W0 ω]at e;have:=List.any_eq_false.1 e.symm o p;unfold lg at this;simp at this
 ·unfold ce at b
  obtain⟨c,r,b⟩:=List.mem_flatMap.1 b;obtain⟨l,t,b⟩:=List.mem_flatten.1 b;have e:=List.any_eq_false.1 g c r;exact absurd (O4.2 ⟨l,t,O0 b⟩) e
 ·obtain⟨q,u,rfl⟩:=Z4.1 b
  have e:=List.any_eq_false.1 i q u;unfold dJ at e;simp at e
 exact b
def Hf(h:ab)(F:ab.sml h)(B:cN h=true):zzA 121 false [.val (some 24) (ab.enc .U h)] .one (aD .own []):=by
 obtain⟨-,G,-,-,H,-⟩:=iS B;have J:=kW H;obtain⟨-,-,l,n,⟨q,-⟩,⟨K,b⟩,r,t,-⟩:=F;have u:h.a9.a5.length<=1048576:=t.1;have M:=pW h.K h.M l n G;have N:=A7 l.1 n.1;refine fO 53 [] Tryz.func121 rfl ?_ (.inr (bG _))
 repeat'(first|refine gP ?_|(conv=>whnf);first|refine C9 (M) ?_|refine C9 (mU h.q r) ?_)
 (conv=>whnf)
 refine CH (ι:=Nat) (λi=>[(1,.H .box (ab.enc .U h)),(3,.H .one (aD .own [])),(4,.H .one (aD .own (aF h.q))),(16,.H .one (aD .own (i7 h.K h.M))),(17,.H .one [I ((i7 h.K h.M).length)]),(18,.H .one [I ((i:Nat):Int)])]) (λi=>i<=(i7 h.K h.M).length) (λi=>(i7 h.K h.M).length - i) (0) ?_ (X0 _) λi S=>?_
 ·exact wB
 by_cases C:i<(i7 h.K h.M).length
 ·have c:=ao C
  have d:=QT B (am C);generalize nth (i7 h.K h.M) i=a at c d;have p:=FQ h a q;have o:=rA h.S (ja a) ω;have w:=BR h.a9 a u;have E:=lY (aF h.q) a ω;by_cases O:cu (lg a) h.O<0
  ·cases P:h.S.any (ja a)<;>rw[P]at o d
   ·cases Q:h.a9.a5.any (dJ a)<;>rw[Q]at w d
    ·rw[O0 (d O rfl rfl)]at E
     repeat'(first|refine gE ?_|(conv=>whnf);first|refine Cq.mk (rM (some 1) (a8.enc .U) (ja a) h.S) (kH default a ⟨X0 _,λ_ e=>by cases e⟩).has (λL k rcs g=>?_) ?_|refine C9 (o) ?_|refine C9 (p) ?_|refine C9 (w) ?_|refine CL (E) ⟨⟨rfl,d8 _⟩,⟨rfl,rfl⟩,trivial⟩ ?_)
     ·obtain⟨y,j,rfl,rfl,rfl⟩:=g
      exact kH y a (b y j)
     ((conv=>whnf);refine CG (i+1) ω ω ?_;(exact wB))
    repeat'(first|refine gE ?_|(conv=>whnf);first|refine Cq.mk (rM (some 1) (a8.enc .U) (ja a) h.S) (kH default a ⟨X0 _,λ_ e=>by cases e⟩).has (λL k rcs g=>?_) ?_|refine C9 (o) ?_|refine C9 (p) ?_|refine C9 (w) ?_)
    ·obtain⟨y,j,rfl,rfl,rfl⟩:=g
     exact kH y a (b y j)
    ((conv=>whnf);refine CG (i+1) ω ω ?_;(exact wB))
   repeat'(first|refine gE ?_|(conv=>whnf);first|refine Cq.mk (rM (some 1) (a8.enc .U) (ja a) h.S) (kH default a ⟨X0 _,λ_ e=>by cases e⟩).has (λL k rcs g=>?_) ?_|refine C9 (o) ?_|refine C9 (p) ?_)
   ·obtain⟨y,j,rfl,rfl,rfl⟩:=g
    exact kH y a (b y j)
   ((conv=>whnf);refine CG (i+1) ω ω ?_;(exact wB))
  repeat'(first|refine gE ?_|(conv=>whnf);first|with_reducible refine Bf.D (λR=>?_) (λR=>?_)|refine Cq.mk (rM (some 1) (a8.enc .U) (ja a) h.S) (kH default a ⟨X0 _,λ_ e=>by cases e⟩).has (λL k rcs g=>?_) ?_|refine C9 (o) ?_|refine C9 (p) ?_)
  ·obtain⟨y,j,rfl,rfl,rfl⟩:=g
   exact kH y a (b y j)
  ((conv=>whnf);refine CG (i+1) ω ω ?_;(exact wB))
 obtain rfl:i=(i7 h.K h.M).length:=ω
 repeat'(first|refine gE ?_|fail)
 rfl
def wj(c:a8)(e:a8.sml c):zzA 95 false [.val (some 1) (a8.enc .U c)] .one [I (cB c)]:=by
 have r:=e.1;cases d:bt c with
 | false=>
  have a:=oo c e;rw[d]at a;refine fO 26 [] Tryz.func95 rfl ?_
  repeat'(first|refine gP ?_|fail)
  exact Z0 (λz=>[I z]) (by unfold cB;rw[d];rfl)
 | true=>
  obtain⟨o,g⟩:=mC d;have a:=oo c e;rw[d]at a;refine fO 26 [] Tryz.func95 rfl ?_
  repeat'(first|refine gP ?_|fail)
  (conv=>whnf)
  refine CH (ι:=Nat) (λi=>[(1,.H .box (a8.enc .U c)),(3,.H .one [I (dy 0 (c.b.take i))]),(10,.H .one (f9 .U c.b)),(11,.H .one [I c.b.length]),(12,.H .one [I (i:Nat)])]) (λi=>i<=c.b.length/\0<=dy 0 (c.b.take i)/\dy 0 (c.b.take i)<=64*(i:Nat)) (λi=>c.b.length - i) 0 ?_ ⟨X0 _,by simp[dy],by simp[dy]⟩ λi k=>?_
  ·exact wB
  obtain⟨k,p,q⟩:=k;by_cases h:i<c.b.length
  ·obtain⟨l,b⟩ : ∃l,c.b[i]? = some l:=⟨_,W2 h⟩
   have j:=g l (I2 b);have n:=NU i;have t:=Kx j n.1 n.2
   repeat'(first|refine gE ?_|(conv=>whnf);refine C9 (cW (i:Nat)) ?_)
   (conv=>whnf)
   refine CG (i+1) ⟨ω,by rw[mM b];omega,by rw[mM b];omega⟩ ω ?_;rw[mM b];exact wB
  repeat'(first|refine gE ?_|fail)
  rw[C8 ω];exact Z0 (λz=>[I z]) (by unfold cB;rw[d];rfl)
def rv(a:eK):List Int:=[a.a1,a.c7,a.W,a.d1,a.d2,a.c6,a.c3,a.c8]
def zb(a:eK)(i:Nat):Bool:=decide (0<=nth (rv a) i/\nth (rv a) i<=100000)
def KM(a:eK):cE (rv a).length (zb a)=true↔(0<=a.a1/\a.a1<=100000)/\(0<=a.c7/\a.c7<=100000)/\(0<=a.W/\a.W<=100000)/\(0<=a.d1/\a.d1<=100000)/\(0<=a.d2/\a.d2<=100000)/\(0<=a.c6/\a.c6<=100000)/\(0<=a.c3/\a.c3<=100000)/\(0<=a.c8/\a.c8<=100000):=by
 rw[ch];constructor
 ·intro h
  have f:∀i,i<8->0<=nth (rv a) i/\nth (rv a) i<=100000:=λi b=>by simpa[zb] using h i b
  exact⟨f 0 ω,f 1 ω,f 2 ω,f 3 ω,f 4 ω,f 5 ω,f 6 ω,f 7 ω⟩
 rintro⟨d,e,g,j,k,l,n,o⟩ i b
 have c:i<8:=b;unfold zb;rw[C0];obtain rfl|rfl|rfl|rfl|rfl|rfl|rfl|rfl:i=0\/i=1\/i=2\/i=3\/i=4\/i=5\/i=6\/i=7:=ω
 all_goals assumption
def Hc{a:eK}(h:cE (rv a).length (zb a)=false):kh a=false:=by
 unfold kh;refine W0 λe=>?_
 have:=(KM a).2 ⟨e.1,e.2.1,e.2.2.1,e.2.2.2.1,e.2.2.2.2.1,e.2.2.2.2.2.1,e.2.2.2.2.2.2.1,e.2.2.2.2.2.2.2.1⟩;rw[h]at this;cases this
def tQ(a:eK):zzA 122 false [.val (some 8) (eK.enc .U a)] .one [B (kh a)]:=by
 have k:(rv a).length=8:=rfl;refine fO 59 [] Tryz.func122 rfl ?_
 repeat'(first|refine gP ?_|(conv=>whnf);refine Ln.mk (show List.length _=8 from rfl) ?_)
 (conv=>whnf)
 refine CH (ι:=Nat) (λi=>[(1,.H .box (eK.enc .U a)),(21,.H .one (aD .own (rv a))),(22,.H .one [I (8)]),(23,.H .one [I ((i:Nat):Int)])]) (λi=>i<=(rv a).length/\cE i (zb a)=true) (λi=>(rv a).length - i) 0 ?_ ⟨X0 _,rfl⟩ λi g=>?_
 ·exact wB
 obtain⟨g,h⟩:=g;by_cases j:i<(rv a).length
 ·have b:=ao j
  have c:=aO (nth (rv a) i) 0 100000;rw[show decide (0<=nth (rv a) i/\nth (rv a) i<=100000)=zb a i from rfl]at c;cases e:zb a i<;>rw[e]at c
  ·repeat'(first|refine gE ?_|(conv=>whnf);refine C9 (c) ?_)
   exact Z0 (λz=>[B z]) ((Hc (bX j e)).symm)
  repeat'(first|refine gE ?_|(conv=>whnf);refine C9 (c) ?_)
  ((conv=>whnf);refine CG (i+1) ⟨ω,br h e⟩ ω ?_;(exact wB))
 obtain rfl:i=(rv a).length:=ω
 have l:=(KM a).1 h
 repeat'(first|refine gE ?_|(conv=>whnf);with_reducible (first|refine Bf.D (λd=>?_) (λd=>?_)|refine Bf.E (λd=>?_) (λd=>?_)))
 all_goals exact Z0 (λz=>[B z]) ((by unfold kh;first|(symm;exact W0 ω)|(symm;exact O0 ω)|exact decide_eq_decide.2 ω))
def EC(h:0<=aJ o.o):dY o=csz (aJ o.o):=by unfold dY;rw[CD h]
def GT(h:¬0<=aJ o.o):dY o=o.o:=by unfold dY;rw[CB h]
def yH(h:ab)(G:ab.sml h)(l:cN h=true):zzA 31 false [.val (some 24) (ab.enc .U h)] .agg (eK.enc .own (cL h)):=by
 have cH:=kF h G;rw[nr,l]at cH;obtain⟨k1,R,-,-,H,⟨k6,k6b⟩,-⟩:=iS l;have S:=lh H;have T:=kW H;have u:=zd l;have w:=Jj l;obtain⟨n,-,o,p,⟨V,-⟩,⟨W,q⟩,y,r,-⟩:=G;have X:h.a9.a5.length<=1048576:=r.1;have J:=ug h.G.F.R n.1.2;have K:=wx h.G.F.W n.1.1;have N:=xq h.K h.M o p R;have P:=pq h.a9.a5 r;have Y:=mU h.q y;have Z:dX dY h.O 0=0:=rfl;have hc0:dX cB h.S 0=0:=rfl;have hp0:dX (eJ h) (aF h.q) 0=0:=rfl;generalize hM:fT h.G.F.R=M at J;generalize hU:eE h.G.F.W=U at K;generalize hL:lE h.K h.M=L at N;generalize hQ:quarCells h.a9.a5 h.a9.a5.length=Q at P;refine fO 103 [(3,23,[15,16,17,18,19,20,21,22,23,24,25,26,27,28,29,30,31,32,33,34,35,36,3]),(9,4,[49,50,51,52]),(15,4,[69,70,71,72]),(20,15,[84,85,86,87,88,89,90,91,92,93,94,95,96,97,98])] Tryz.func31 rfl ?_ (.inr (eK.enc_fr _))
 repeat'(first|refine gP ?_|(conv=>whnf);first|refine C9 (cH) ?_|refine C9 (zH h) ?_|refine C9 (J) ?_|refine C9 (K) ?_|refine C9 (N) ?_|refine C9 (P) ?_)
 (conv=>whnf)
 refine CH (ι:=Nat) (λi=>[(1,.H .box (ab.enc .U h)),(2,.H .box ([I 0,I 0,I 0,I 0,I 0,I 0,I 0,I 0])),(3,.H .box ([I (dQ h:Nat),I M,I U,I L,I (dX dY h.O i),I 0,I Q,I 0])),(38,.H .one (jF .U h.O)),(39,.H .one [I (h.O.length)]),(40,.H .one [I ((i:Nat):Int)])]) (λi=>i<=h.O.length) (λi=>h.O.length - i) (0) ?_ (X0 _) λi t=>?_
 ·exact wB
 have hb:=jQ (f:=dY) (xs:=h.O) (b:=1000) w i t;by_cases g:i<h.O.length
 ·have k:=ao g
  have hsz:=u _ (am g);have d:dX dY h.O (i+1)=dX dY h.O i+dY (nth h.O i):=rfl;have B:=uy (aJ (nth h.O i).o);by_cases e:0<=aJ (nth h.O i).o
  ·rw[EC e]at d
   repeat'(first|refine gE ?_|(conv=>whnf);first|refine C9 (oq _) ?_|refine C9 (cW _) ?_)
   ((conv=>whnf);refine CG (i+1) ω ω ?_;(exact wB))
  rw[GT e]at d
  repeat'(first|refine gE ?_|(conv=>whnf);first|with_reducible refine Bf.D (λhq=>?_) (λhq=>?_)|refine C9 (oq _) ?_)
  ((conv=>whnf);refine CG (i+1) ω ω ?_;(exact wB))
 obtain rfl:i=h.O.length:=ω
 generalize hO:dX dY h.O h.O.length=O at hb
 repeat'(first|refine gE ?_|fail)
 (conv=>whnf)
 refine CH (ι:=Nat) (λi=>[(1,.H .box (ab.enc .U h)),(2,.H .box ([I 0,I 0,I 0,I 0,I 0,I 0,I 0,I 0])),(3,.H .box ([I (dQ h:Nat),I M,I U,I L,I O,I (dX cB h.S i),I Q,I 0])),(63,.H .one (fS .U h.S)),(64,.H .one [I (h.S.length)]),(65,.H .one [I ((i:Nat):Int)])]) (λi=>i<=h.S.length) (λi=>h.S.length - i) (0) ?_ (X0 _) λi t=>?_
 ·exact wB
 have C:=jQ (f:=cB) (xs:=h.S) (b:=256) (λc _=>qZ c) i t;by_cases g:i<h.S.length
 ·have k:=ao g
  have hcb:=qZ (nth h.S i);have d:dX cB h.S (i+1)=dX cB h.S i+cB (nth h.S i):=rfl
  repeat'(first|refine gE ?_|(conv=>whnf);refine C9 (wj (nth h.S i) (q _ (am g))) ?_)
  ((conv=>whnf);refine CG (i+1) ω ω ?_;(exact wB))
 obtain rfl:i=h.S.length:=ω
 generalize hC:dX cB h.S h.S.length=CC at C
 repeat'(first|refine gE ?_|(conv=>whnf);refine C9 (Y) ?_)
 (conv=>whnf)
 refine CH (ι:=Nat) (λi=>[(1,.H .box (ab.enc .U h)),(2,.H .box ([I 0,I 0,I 0,I 0,I 0,I 0,I 0,I 0])),(3,.H .box ([I (dQ h:Nat),I M,I U,I L,I O,I CC,I Q,I (dX (eJ h) (aF h.q) i)])),(78,.H .one (aD .own (aF h.q))),(79,.H .one [I ((aF h.q).length)]),(80,.H .one [I ((i:Nat):Int)])]) (λi=>i<=(aF h.q).length) (λi=>(aF h.q).length - i) (0) ?_ (X0 _) λi t=>?_
 ·exact wB
 have hb3:=jQ (f:=eJ h) (xs:=aF h.q) (b:=8) (λa _=>uy _) i t;by_cases g:i<(aF h.q).length
 ·have k:=ao g
  obtain⟨j,hj,E,F,ha0,ha1⟩:=T0 l (am g);have d:dX (eJ h) (aF h.q) (i+1)=dX (eJ h) (aF h.q) i+eJ h (nth (aF h.q) i):=rfl;rw[show eJ h (nth (aF h.q) i)=csz (nth h.K j).a by unfold eJ;rw[F,I3]]at d;have hy:h.K[(denotes h.K h.M (nth (aF h.q) i)).c5.toNat]? = some (nth h.K j):=by rw[E,I3];exact ao hj
  have B:=uy (nth h.K j).a
  repeat'(first|refine gE ?_|(conv=>whnf);first|refine C9 (nJ h.K h.M (nth (aF h.q) i) o p) ?_|refine CP ω (aa hy) ?_|refine C9 (cW _) ?_)
  ((conv=>whnf);refine CG (i+1) ω ω ?_;(exact wB))
 obtain rfl:i=(aF h.q).length:=ω
 repeat'(first|refine gE ?_|fail)
 unfold cL;rw[hM,hU,hL,hO,hC,hQ]
 rfl
end Go.Proofs.YtecefhjnejfheaaGreat.Ab
