/- What is asked of a whole world, as plain functions: sums, a span's cells, the account, objects of the reference's list, clear pages. No condition. -/
import Derived.Test.YtecefhjnejfheaaGreatKqd
import Derived.Test.YtecefhjnejfheaaGreatKqf
import Derived.Test.YtecefhjnejfheaaGreatKqe
set_option linter.unusedVariables false
set_option linter.unusedSimpArgs false
set_option linter.constructorNameAsVariable false
namespace Go.Proofs.YtecefhjnejfheaaGreat.Ab
def fh{α:Type}[Inhabited α](f:α->Int)(xs:List α):Nat->Int
 | 0=>0
 | i+1=>fh f xs i+f (nth xs i)
theorem lE{α:Type}[Inhabited α]{f:α->Int}{xs:List α}{b:Int}(h:∀y∈xs,0<=f y/\f y<=b):∀i:Nat,i<=xs.length->0<=fh f xs i/\fh f xs i<=b*i
 | 0,_=>by simp[fh]
 | i+1,a=>by
  have c:=lE h i ω;have d:=h _ (am (xs:=xs) (i:=i) ω);have e:b*((i+1:Nat):Int)=b*i+b:=by rw[Int.natCast_add,Int.mul_add];simp
  simp only[fh];omega
def bN(e:bi):Int:=if e.e≠0 then 1 else 0
theorem uC(e:bi):0<=bN e/\bN e<=1:=by unfold bN;split<;>omega
def dv(t:aI):Int:=fh bN t.J t.J.length
def ku(s:ax)(c:Nat):Bool:=aQ s.b1 (((c:Nat):Int) / csz s.a)
def iX(s:ax)(n:Nat):List Int:=((List.range n).filter (ku s)).map λ(i:Nat)=>(i:Int)
theorem BX{s:ax}{n:Nat}(h:ku s n=true):iX s (n+1)=iX s n++[(n:Int)]:=by
 unfold iX;rw[List.range_succ,List.filter_append,t5];simp[h]
theorem H8{s:ax}{n:Nat}(h:ku s n=false):iX s (n+1)=iX s n:=by
 unfold iX;rw[List.range_succ,List.filter_append,t5];simp[h]
theorem oK(s:ax)(n:Nat):(iX s n).length<=n:=by
 unfold iX;rw[Z0];exact R4 (List.length_filter_le _ _) (by simp)
theorem G1{s:ax}{n:Nat}{z:Int} : z∈iX s n↔∃c:Nat,c<n/\ku s c=true/\z=c:=by
 unfold iX;simp only[t4,v4,List.mem_range];constructor
 ·rintro⟨c,⟨a,b⟩,rfl⟩;exact⟨c,a,b,rfl⟩
 rintro⟨c,a,b,rfl⟩;exact⟨c,⟨a,b⟩,rfl⟩
def Pb(s:ax):Int:=((iX s 16).length:Nat)
theorem Qo(s:ax):0<=Pb s/\Pb s<=16:=by have:=oK s 16;unfold Pb;omega
def tp(sp:List ax)(la:List a7):Int:=fh Pb sp sp.length+fh (·.o) la la.length
theorem Nj{la:List a7}(h:la.all bC=true):∀l∈la,0<=l.o/\l.o<=1000:=λl b=>by
 have a:=W3.1 h l b;unfold bC at a;rw[C0]at a;omega
def fL(o:bz):Int:=if 0<=aJ o.o then csz (aJ o.o) else o.o
theorem BR{h:ab}(a:dM h=true):∀o∈h.O,1<=o.o/\o.o<=1000:=λo b=>by
 obtain⟨i,c,rfl⟩:=aK b;obtain⟨f,g,j,k,d,e,-⟩:=NE a c;exact⟨d,e⟩
theorem csz8(k:Int):0<=csz k/\csz k<=8:=sQ k
theorem Gu{h:ab}(a:dM h=true):∀o∈h.O,0<=fL o/\fL o<=1000:=λo b=>by
 have c:=BR a o b;have d:=csz8 (aJ o.o);unfold fL;split<;>omega
theorem uD:∀(a:List (List Int))(k:Nat),(∀l∈a,l.length<=8)->0<=dQ k a/\dQ k a<=64*a.length
 | [],_,_=>by simp[dQ]
 | l::a,k,h=>by
  have d:=uD a (k+1) λy c=>h y (W4 _ c)
  have b:=Kz k;have e:=Ha (h l (U1 ..)) b.1 b.2;simp only[dQ,List.length_cons];omega
theorem pY(c:aD):0<=d5 c/\d5 c<=256:=by
 unfold d5;split
 ·rename_i h
  obtain⟨b,a⟩:=lL h;have:=uD c.b 0 a;omega
 omega
def iT(h:ab)(a:Int):Int:=csz (nth h.K (fH h (a / 16)).toNat).a
def pN(h:ab):jB:=
 ⟨dC h,dv h.G.F.R,gu h.G.F.W,tp h.K h.M,fh fL h.O h.O.length,fh d5 h.S h.S.length,quarCells h.a9.a6 h.a9.a6.length,fh (iT h) (aF h.q) (aF h.q).length⟩
theorem PM{h:ab}(e:dM h=true){a:Int}(f:a∈aF h.q):∃i:Nat,i<h.K.length/\(denotes h.K h.M a).c4=i/\fH h (a / 16)=i/\0<=a/\a<=600:=by
 obtain⟨-,g,-,-,-,-,-,-,j,-⟩:=m7 e;have c:=W3.1 ((jO h).1 j).2 a f;unfold jw di at c;simp only[I0,C0]at c;obtain⟨i,b,k,l,-⟩:=rx c.1.1;have d:=qx.of g;have n:=aB (d.sok _ (am b));have o:=(fK (d.sok _ (am b))).1 l;refine⟨i,b,k,?_,ω,ω⟩;rw[show a / 16=(nth h.K i).Q by omega];exact pH d b
def nM(h:ab)(p:Nat):List Int:=nth h.G.F.W.T (nth (tbl h).J p).j.toNat
def tc(h:ab)(p c:Nat):Bool:=(h.K.any λs=>decide (s.Q∈aN h (p:Nat))&&ku s c) || h.M.any λl=>aY l (16*(p:Nat)+(c:Nat))
def kO(h:ab)(p:Nat):Bool:=cQ 16 λc=>decide (nth (nM h p) c=0) || tc h p c
def bor(n m:Int):Int:=((n.toNat ||| m.toNat:Nat):Int)
def sF(sp:List ax)(p:Int)(b:Int):Nat->Int
 | 0=>b
 | j+1=>if(nth sp j).Q=p then bor (sF sp p b j) (nth sp j).b1 else sF sp p b j
def ko(sp:List ax)(ps:List Int)(b:Int):Nat->Int
 | 0=>b
 | k+1=>sF sp (nth ps k) (ko sp ps b k) sp.length
def hB(h:ab)(i:Nat):Int:=ko h.K (aN h (nth h.K i).Q) (nth h.K i).b1 (aN h (nth h.K i).Q).length
theorem KT{n m:Int}(h1:0<=n/\n<=65535)(a:0<=m/\m<=65535):0<=bor n m/\bor n m<=65535:=by
 have b:n.toNat ||| m.toNat<2 ^ 16:=Nat.or_lt_two_pow ω ω
 unfold bor;omega
theorem vr{sp:List ax}(h:∀s∈sp,bg s=true){j:Nat}(b:j<sp.length):0<=(nth sp j).b1/\(nth sp j).b1<=65535:=by
 have a:=h _ (am b);have c:=Fy (nth sp j).a;unfold bg at a;rw[C0]at a;omega
theorem vu{sp:List ax}(h:∀s∈sp,bg s=true){p b:Int}(a:0<=b/\b<=65535):∀j,j<=sp.length->0<=sF sp p b j/\sF sp p b j<=65535
 | 0,_=>a
 | j+1,d=>by
  have c:=vu h (p:=p) a j ω;simp only[sF];split
  ·exact KT c (vr h ω)
  exact c
theorem sA{sp:List ax}(h:∀s∈sp,bg s=true){ps:List Int}{b:Int}(a:0<=b/\b<=65535):∀k,0<=ko sp ps b k/\ko sp ps b k<=65535
 | 0=>a
 | k+1=>by simp only[ko];exact vu h (sA h a k) _ (X2 _)
theorem mL{b i:Int}(a:0<=b)(c:0<=i/\i<=15):aQ b i=b.toNat.testBit i.toNat:=by
 unfold aQ;rw[Nat.testBit_eq_decide_div_mod_eq];refine decide_eq_decide.2 ?_;obtain⟨n,rfl⟩ : ∃n:Nat,b=n:=⟨b.toNat,ω⟩
 rw[R2];have d:((n / 2 ^ i.toNat:Nat):Int)=(n:Int) / 2 ^ i.toNat:=by simp
 omega
theorem Fc{n m i:Int}(b:0<=n)(c:0<=m)(a:0<=i/\i<=15):aQ (bor n m) i=(aQ n i || aQ m i):=by
 rw[mL (by unfold bor;omega) a,mL b a,mL c a];unfold bor;rw[R2,Nat.testBit_or]
theorem BQ{sp:List ax}(h:∀s∈sp,bg s=true){p b i:Int}(k:0<=b/\b<=65535)(l:0<=i/\i<=15):∀j,j<=sp.length->(aQ (sF sp p b j) i=true↔aQ b i=true\/∃q,q<j/\(nth sp q).Q=p/\aQ (nth sp q).b1 i=true)
 | 0,_=>by simp[sF]
 | j+1,t=>by
  have n:=BQ h (p:=p) k l j ω;have o:=vu h (p:=p) k j ω;have r:=vr h (j:=j) ω;simp only[sF];split
  ·rename_i d
   rw[Fc o.1 r.1 l,O5,n];constructor
   ·rintro((e|⟨q,f,a⟩)|e)
    ·exact .inl e
    ·exact .inr ⟨q,ω,a⟩
    exact .inr ⟨j,ω,d,e⟩
   rintro(e|⟨q,f,a,c⟩)
   ·exact .inl (.inl e)
   by_cases g:q=j
   ·subst g;exact .inr c
   exact .inl (.inr ⟨q,ω,a,c⟩)
  rename_i d;rw[n];constructor
  ·rintro(e|⟨q,f,a⟩)
   ·exact .inl e
   exact .inr ⟨q,ω,a⟩
  rintro(e|⟨q,f,a,c⟩)
  ·exact .inl e
  by_cases g:q=j
  ·subst g;exact absurd a d
  exact .inr ⟨q,ω,a,c⟩
theorem yU{sp:List ax}(h:∀s∈sp,bg s=true){ps:List Int}{b i:Int}(d:0<=b/\b<=65535)(f:0<=i/\i<=15):∀k,(aQ (ko sp ps b k) i=true↔aQ b i=true\/∃u,u<k/\∃q,q<sp.length/\(nth sp q).Q=nth ps u/\aQ (nth sp q).b1 i=true)
 | 0=>by simp[ko]
 | k+1=>by
  have g:=yU h (ps:=ps) d f k;have j:=sA h (ps:=ps) d k;simp only[ko];rw[BQ h j f _ (X2 _),g];constructor
  ·rintro((e|⟨u,c,a⟩)|⟨q,c,a⟩)
   ·exact .inl e
   ·exact .inr ⟨u,ω,a⟩
   exact .inr ⟨k,ω,q,c,a⟩
  rintro(e|⟨u,c,a⟩)
  ·exact .inl (.inl e)
  by_cases l:u=k
  ·subst l;exact .inr a
  exact .inl (.inr ⟨u,ω,a⟩)
theorem EN{s:ax}(a:bg s=true){c:Nat}(d:c<16):0<=((c:Nat):Int) / csz s.a/\((c:Nat):Int) / csz s.a<=15:=by
 have f:=aB a;have b:csz s.a=1\/csz s.a=2\/csz s.a=4\/csz s.a=8:=bE ω;rcases b with e|e|e|e<;>rw[e]<;>omega
def kB{α:Type}(p:α->Bool)(xs:List α):Nat:=(xs.findIdx? p).getD xs.length
def jf{α:Type}(p:α->Bool)(xs:List α)(y:α):List α:=xs.take (kB p xs)++y::xs.drop (kB p xs)
theorem NT{α:Type}(p:α->Bool)(xs:List α):kB p xs<=xs.length:=by
 unfold kB;cases e:xs.findIdx? p with
 | none=>exact X2 _
 | some i=>exact Nat.le_of_lt (Y5.1 e).1
theorem kL{α:Type}(p:α->Bool)(xs:List α)(y:α):(jf p xs y).Perm (y::xs):=by
 unfold jf;refine List.perm_middle.trans ?_;rw[List.take_append_drop]
theorem cB{α:Type}{p:α->Bool}{xs:List α}{y z:α} : z∈jf p xs y↔z=y\/z∈xs:=by
 rw[(kL p xs y).mem_iff,List.mem_cons]
theorem vA{α:Type}{p:α->Bool}{xs:List α}{i:Nat}(c:i<=xs.length)(a:∀(j:Nat)(z:α),j<i->xs[j]? = some z->p z=false)(b:∀z,xs[i]? = some z->p z=true):kB p xs=i:=by
 unfold kB;by_cases e:i<xs.length
 ·rw[vB (Z1 e) (b _ (Z1 e)) a];rfl
 rw[xj ω a];show xs.length=i;omega
theorem lF{α:Type}{f:α->Int}{xs:List α}{y:α}(h:xs.Pairwise λa b=>f a<f b)(p:∀z∈xs,f z≠f y):(jf (λz=>decide (f y<=f z)) xs y).Pairwise λa b=>f a<f b:=by
 have q:∀z∈xs.drop (kB (λz=>decide (f y<=f z)) xs),f y<f z:=λz g=>by
  obtain⟨j,k,rfl⟩:=List.mem_drop_iff_getElem.1 g;have C:=p _ (List.getElem_mem k);cases e:xs.findIdx? (λz=>decide (f y<=f z)) with
  | none=>
   have l:kB (λz=>decide (f y<=f z)) xs=xs.length:=by unfold kB;rw[e];rfl
   rw[l]at k;omega
  | some i=>
   have l:kB (λz=>decide (f y<=f z)) xs=i:=by unfold kB;rw[e];rfl
   obtain⟨r,t,-⟩:=Y5.1 e;rw[C0]at t;have c:i+j<xs.length:=by rw[<-l];omega
   have n:f xs[i+j]≠f y:=p _ (List.getElem_mem c);have d:f y<f xs[i+j]:=by
    cases j with
    | zero=>simp only[Nat.add_zero]at n |-;omega
    | succ j=>
     have:=List.pairwise_iff_getElem.1 h i (i+(j+1)) r c ω;omega
   have w:xs[kB (λz=>decide (f y<=f z)) xs+j]? = xs[i+j]?:=by rw[l]
   rw[Z1 ω,Z1 c]at w;rw[Option.some.inj w];exact d
 have A:∀z∈xs.take (kB (λz=>decide (f y<=f z)) xs),f z<f y:=λz g=>by
  obtain⟨j,k,rfl⟩:=List.mem_take_iff_getElem.1 g;unfold kB at k;cases e:xs.findIdx? (λz=>decide (f y<=f z)) with
  | none=>
   have:=List.findIdx?_eq_none_iff.1 e _ (List.getElem_mem (show j<xs.length by omega));simp only[I4]at this;omega
  | some i=>
   obtain⟨r,t,B⟩:=Y5.1 e;simp only[e,Option.getD_some]at k;have:=B j ω;simp only[C0]at this;omega
 unfold jf;refine List.pairwise_append.2 ⟨h.sublist (List.take_sublist ..),List.pairwise_cons.2 ⟨q,h.sublist (List.drop_sublist ..)⟩,λz g u o=>?_⟩;rcases List.mem_cons.1 o with rfl|o
 ·exact A z g
 exact Int.lt_trans (A z g) (q u o)
def gS(b i:Int):Int:=((b.toNat ||| 2 ^ i.toNat:Nat):Int)
def qQ(s:ax)(i:Int):ax:={s with b1:=gS s.b1 i}
theorem wU(b i:Int)(j:Nat):(gS b i).toNat.testBit j=(b.toNat.testBit j || decide (i.toNat=j)):=by
 unfold gS;rw[R2,Nat.testBit_or,Nat.testBit_two_pow]
theorem F6{b i:Int}(g:0<=b)(e:0<=i/\i<=15)(j:Int):aQ (gS b i) j=true↔aQ b j=true\/j=i:=by
 rw[dO,dO,wU,O5,C0];have f:0<=gS b i:=by unfold gS;omega
 constructor
 ·rintro⟨h,c,d,a|a⟩
  ·exact .inl ⟨g,c,d,a⟩
  exact .inr ω
 rintro(⟨h,c,d,a⟩|rfl)
 ·exact⟨f,c,d,.inl a⟩
 exact⟨f,e.1,e.2,.inr rfl⟩
theorem gz{k:Int}(h:0<=k/\k<=3):lim k=2 ^ (slots k).toNat - 1/\0<=slots k/\slots k<=16/\slots k*csz k=16:=by
 obtain rfl|rfl|rfl|rfl:k=0\/k=1\/k=2\/k=3:=ω
 all_goals decide
theorem By{s:ax}(h:bg s=true){i:Int}(k:0<=i/\i<slots s.a):bg (qQ s i)=true:=by
 have b:=aB h;obtain⟨c,l,o,-⟩:=gz b.2.2;unfold bg at h;rw[C0]at h;obtain⟨d,e,f,g,p,a⟩:=h;refine O0 ⟨d,e,f,g,by show 0<=gS s.b1 i;unfold gS;omega,?_⟩;show gS s.b1 i<=lim s.a;rw[c]at a |-;have j:((2 ^ (slots s.a).toNat:Nat):Int)=(2:Int) ^ (slots s.a).toNat:=by norm_cast
 rw[<-j]at a |-;have:=Nat.or_lt_two_pow (x:=s.b1.toNat) (y:=2 ^ i.toNat) (n:=(slots s.a).toNat) ω (Nat.pow_lt_pow_right ω ω);unfold gS;omega
theorem zl{s u:ax}{i:Int}(b:0<=i/\i<slots s.a)(c:aQ u.b1 i=false)(h:meshable s u=true):meshable (qQ s i) u=true:=by
 unfold meshable at h |-;simp only[I0,C0]at h |-;obtain⟨⟨d,f⟩,k,l,o⟩:=h;have p:=aB d;obtain⟨r,t,w,-⟩:=gz p.2.2;have a:=eI f;refine⟨⟨By d b,f⟩,k,l,?_⟩;refine Nat.eq_of_testBit_eq λj=>?_
 have g:=W0 (λn=>Nat.testBit n j) o;simp only[Nat.testBit_and,Nat.zero_testBit,qQ,wU]at g |-;by_cases e:i.toNat=j
 ·have:u.b1.toNat.testBit j=false:=by
   rw[<-X4];intro q;have:=(dO u.b1 i).2 ⟨a.1,b.1,ω,by rw[e];exact q⟩;rw[this]at c;cases c
  rw[this];simp
 rw[T0 e,Bool.or_false];exact g
theorem tf{s:ax}(h:bg s=true){i:Int}(n:0<=i/\i<slots s.a)(b:Int):ew (qQ s i) b↔ew s b\/b=16*s.Q+i*csz s.a:=by
 have g:=aB h;obtain⟨o,p,k,l⟩:=gz g.2.2;have j:=bE g.2.2;unfold ew;simp only[qQ];rw[F6 (eI h).1 ω];constructor
 ·rintro⟨d,f,c,a|a⟩
  ·exact .inl ⟨d,f,c,a⟩
  right
  rcases j with e|e|e|e<;>rw[e]at c a |-<;>omega
 rintro(⟨d,f,c,a⟩|rfl)
 ·exact⟨d,f,c,.inl a⟩
 have q:slots s.a<=16:=k;rcases j with e|e|e|e<;>rw[e]at l |-<;>refine⟨?_,?_,?_,.inr ?_⟩<;>omega
theorem JB{sp:List ax}{i:Nat}(k:Int)(a:i<sp.length):(sp.set i (qQ (nth sp i) k)).map (·.Q)=sp.map (·.Q):=by
 rw[I5];refine List.ext_getElem (by simp) λj b c=>?_
 rw[List.getElem_set];split
 ·rename_i e;subst e
  rw[List.getElem_map];show(nth sp i).Q=_;rw[bj (Z1 a)]
 rfl
theorem jP.setS{sp:List ax}{la:List a7}(p:qx sp la){i:Nat}(g:i<sp.length){k:Int}(h:0<=k/\k<slots (nth sp i).a)(b c:Int):jP (sp.set i (qQ (nth sp i) k)) b c↔jP sp b c\/(b=16*(nth sp i).Q+k*csz (nth sp i).a/\(c<0\/(nth sp i).a=c)):=by
 have d:=p.sok _ (am g);constructor
 ·rintro⟨s,l,f,a⟩
  rcases dN l with rfl|⟨j,n,q,rfl⟩
  ·rcases(tf d h b).1 f with o|o
   ·exact .inl ⟨_,am g,o,a⟩
   exact .inr ⟨o,a⟩
  exact .inl ⟨_,am n,f,a⟩
 rintro(⟨s,l,f,a⟩|⟨f,a⟩)
 ·obtain⟨j,n,rfl⟩:=aK l
  by_cases e:j=i
  ·subst e
   exact⟨_,iG _ g,(tf d h b).2 (.inl f),a⟩
  exact⟨_,jJ _ n e,f,a⟩
 exact⟨_,iG _ g,(tf d h b).2 (.inr f),a⟩
theorem N7{h:ab}{E:List Int}(d:aZ h E){i:Nat}(l:i<h.K.length){k:Int}(p:0<=k/\k<=15)(b:aQ (hB h i) k=false):aQ (nth h.K i).b1 k=false/\∀u∈h.K,(nth (tbl h).J u.Q.toNat).j=(nth (tbl h).J (nth h.K i).Q.toNat).j->aQ u.b1 k=false:=by
 have e:=d.L;have q:=eI (e.sok _ (am l));unfold hB at b;rw[<-X4,yU e.sok q p]at b;rw[not_or]at b;have r:aQ (nth h.K i).b1 k=false:=by simpa using b.1
 have a:∀s∈h.K,s.Q.toNat<dC h/\(nth (tbl h).J s.Q.toNat).e≠0/\((s.Q.toNat:Nat):Int)=s.Q:=λs f=>by
  have K:=aB (e.sok s f);have M:=d.pg.bnd s.Q (d7 f);have n:s.Q.toNat<(tbl h).J.length:=ω
  have o:((s.Q.toNat:Nat):Int)=s.Q:=ω
  exact⟨n,(d.pg.own _ n).2 (by rw[o];exact d7 f),o⟩
 refine⟨r,λu c t=>?_⟩;rw[<-X4];intro w;obtain⟨y,A,B⟩:=a _ (am l);obtain⟨C,D,F⟩:=a u c;have G:u.Q∈aN h (nth h.K i).Q:=by
  rw[<-B,eC y A,<-F];exact dA.2 ⟨C,D,t⟩
 obtain⟨v,H,g⟩:=aK G;obtain⟨j,J,rfl⟩:=aK c;exact b.2 ⟨v,H,j,J,g.symm,w⟩
theorem aZ.take{h:ab}{E:List Int}{i:Nat}{k sd:Int}(g:aZ h E)(C:i<h.K.length)(D:0<=k/\k<slots (nth h.K i).a)(r:aQ (hB h i) k=false)(M:0<=sd/\sd<=1073741823) :
  aZ {h with c0:=sd,K:=h.K.set i (qQ (nth h.K i) k)} ((16*(nth h.K i).Q+k*csz (nth h.K i).a)::E):=by
 have F:=g.L;have T:=F.sok _ (am C);have Q:=aB T;obtain⟨l1,l2,l3,l4⟩:=gz Q.2.2;have hz:=bE Q.2.2;obtain⟨u1,u2⟩:=N7 g C ⟨D.1,ω⟩ r;have n:=λb c=>jP.setS F C D b c
 have w:=JB k C;generalize ha:16*(nth h.K i).Q+k*csz (nth h.K i).a=a at n |-;have G:¬ew (nth h.K i) a:=by
  rintro⟨-,-,-,h4⟩
  have:(a - 16*(nth h.K i).Q) / csz (nth h.K i).a=k:=by
   rw[<-ha];rcases hz with e|e|e|e<;>rw[e]<;>omega
  rw[this,u1]at h4;cases h4
 have hrange:16*(nth h.K i).Q<=a/\a<=16*(nth h.K i).Q+15:=by
  rcases hz with e|e|e|e<;>rw[e]at ha l4<;>omega
 have U:¬Live h.K h.M a:=by
  rintro(⟨s,p,d,-⟩|⟨l,hl,e⟩)
  ·obtain⟨j,V,rfl⟩:=aK p
   have:=cG (f:=(·.Q)) F.nd V C (by have a1:=d.1;have a2:=d.2.1;omega);subst this;exact G d
  exact(xl F hl).1 _ (am C) ω
 have W:a∉E++holders h:=λX=>U ((g.mem a).1 X)
 have q:∀s∈h.K.set i (qQ (nth h.K i) k),∃u∈h.K,u.Q=s.Q/\(s=u\/(u=nth h.K i/\s=qQ u k)):=λs p=>by
  rcases dN p with rfl|⟨j,V,hji,rfl⟩
  ·exact⟨_,am C,rfl,.inr ⟨rfl,rfl⟩⟩
  exact⟨_,am V,rfl,.inl rfl⟩
 generalize hsp:h.K.set i (qQ (nth h.K i) k)=sp at n w q |-;have t:pgs sp h.M=pgs h.K h.M:=by unfold pgs;rw[w]
 have N:∀u∈h.K,∃s∈sp,s.Q=u.Q:=λu r=>by
  have:u.Q∈sp.map (·.Q):=by rw[w];exact t4.2 ⟨u,r,rfl⟩
  obtain⟨s,p,e⟩:=t4.1 this;exact⟨s,p,e⟩
 exact {g with
   lay:=by
     obtain⟨l1,l2,l3⟩:=dh g.lay;unfold bm;simp only[I0,C0];refine⟨⟨W3.2 λs p=>?_,l2⟩,by rw[t];exact l3⟩;obtain⟨u,r,-,rfl|⟨rfl,rfl⟩⟩:=q s p
     · exact F.sok _ r
     exact By (F.sok _ r) D
   srs:=by
     have d:(h.K.map (·.Q)).Pairwise (λa b=>a<b):=List.pairwise_map.2 g.srs;rw[<-w]at d;exact List.pairwise_map.1 d
   pg:=⟨g.pg.one,by rw[t];exact g.pg.bnd,by rw[t];exact g.pg.own,g.pg.fre,λs p u r O hf=>by
     obtain⟨R,A,Y,Z⟩:=q s p;obtain⟨S,B,eu,P⟩:=q u r;have H:(nth (tbl h).J R.Q.toNat).j=(nth (tbl h).J S.Q.toNat).j:=by rw[Y,eu];exact hf
     have d:=g.pg.mesh R A S B (by rw[Y,eu];exact O) H;rcases Z with rfl|⟨rfl,rfl⟩
     · rcases P with rfl|⟨rfl,rfl⟩
       · exact d
       rw[gE]at d |-;exact zl D (u2 _ A H) d
     rcases P with rfl|⟨rfl,rfl⟩
     · exact zl D (u2 _ B H.symm) d
     exact absurd (Y.symm.trans eu) O⟩
   nums:=by
     have:=g.nums;unfold cn at this |-;rw[C0]at this |-;exact⟨M.1,M.2,this.2.2⟩
   oow:=λo ho=>by
     rcases g.oow o ho with⟨s,p,d,h2⟩|d
     · obtain⟨u,r,g1,K⟩:=(n o.Addr (aJ o.o)).2 (.inl ⟨s,p,d,.inr h2⟩)
       refine .inl ⟨u,r,g1,?_⟩;rcases K with K|K
       · have:=aB (F.sok _ p);omega
       exact K
     exact .inr d
   hca:=λc Q k D b J=>(n b k).2 (.inl (g.hca c Q k D b J))
   hqu:=λy hy=>(n _ _).2 (.inl (g.hqu y hy))
   hfl:=λb J=>(n _ _).2 (.inl (g.hfl b J))
   hin:=λb J=>by
     rcases List.mem_cons.1 J with rfl|J
     · exact(n _ _).2 (.inr ⟨rfl,.inl (by decide)⟩)
     exact(n _ _).2 (.inl (g.hin b J))
   nd:=by
     rw[List.cons_append];exact List.nodup_cons.2 ⟨W,g.nd⟩
   mem:=λb=>by
     show b∈a::E++holders h↔Live sp h.M b;rw[List.cons_append,List.mem_cons,g.mem b];unfold Live;rw[n];constructor
     · rintro(rfl|d|d)
       · exact .inl (.inr ⟨rfl,.inl (by decide)⟩)
       · exact .inl (.inl d)
       exact .inr d
     rintro((d|⟨d,-⟩)|d)
     · exact .inr (.inl d)
     · exact .inl d
     exact .inr (.inr d)
   job:=λX=>by
     obtain⟨j1,⟨s,p,e1⟩,⟨u,r,e2⟩⟩:=g.job X;obtain⟨R,A,g1⟩:=N s p;obtain⟨S,B,K⟩:=N u r;exact⟨j1,⟨R,A,g1.trans e1⟩,⟨S,B,K.trans e2⟩⟩}
def rT(c:aD)(k:Nat):aD:=⟨c.b.set k ((nth c.b k).take ((nth c.b k).length - 1))⟩
theorem K5{l:List Int}(h:0<l.length):l=l.take (l.length - 1)++[nth l (l.length - 1)]:=by
 have a:l.drop (l.length - 1)=[nth l (l.length - 1)]:=by
  rw[jF ω,show l.length - 1+1=l.length by omega,List.drop_length]
 rw[<-a,List.take_append_drop]
theorem aZ.pop{h:ab}{E:List Int}{t k:Nat}(f:aZ h E)(l:t<h.S.length)(p:k<(nth h.S t).b.length)(u:0<(nth (nth h.S t).b k).length)(w:bp (rT (nth h.S t) k)=true) :
  aZ {h with S:=h.S.set t (rT (nth h.S t) k)} (nth (nth (nth h.S t).b k) ((nth (nth h.S t).b k).length - 1)::E)/\jP h.K (nth (nth (nth h.S t).b k) ((nth (nth h.S t).b k).length - 1)) k:=by
 have q:=K5 u;have n:=f.hca _ (am l) k p (nth (nth (nth h.S t).b k) ((nth (nth h.S t).b k).length - 1)) (am ω);refine⟨?_,n⟩;generalize D:nth (nth (nth h.S t).b k) ((nth (nth h.S t).b k).length - 1)=a at q n |-;have r:(E++holders h).Perm (a::E++holders {h with S:=h.S.set t (rT (nth h.S t) k)}):=by
  refine List.perm_iff_count.2 λb=>?_
  have A:=iC (λc:aD=>c.b.flatten) b h.S t (rT (nth h.S t) k) l;have B:=iC (λy:List Int=>y) b (nth h.S t).b k ((nth (nth h.S t).b k).take ((nth (nth h.S t).b k).length - 1)) p;rw[<-kQ,<-kQ]at B;have C:=W0 (List.count b) q;simp only[C5,List.count_singleton]at C;simp only[rT]at A;simp only[holders,cy,rT,C5,List.cons_append,List.count_cons];omega
 exact {f with
   nc:=by show(h.S.set ..).length=_;rw[O1];exact f.nc
   cach:=λc d=>by
     rcases T5 d with d|rfl
     · exact f.cach c d
     exact w
   onu:=by show ∀o∈h.O,1<=o.Id/\o.Id<=h.d - 1/\0<=o.a4/\o.a4<=(h.S.set t _).length - 1;rw[O1];exact f.onu
   hca:=λc d j i b g=>by
     rcases T5 d with d|rfl
     · exact f.hca c d j i b g
     simp only[rT,O1]at i;simp only[rT,bB]at g;by_cases e:k=j
     · subst e
       rw[C9 ⟨rfl,i⟩]at g;exact f.hca _ (am l) _ i b (List.mem_of_mem_take g)
     rw[C8 λy=>e y.1]at g;exact f.hca _ (am l) _ i b g
   hin:=λb g=>by
     rcases List.mem_cons.1 g with rfl|g
     · exact n.any
     exact f.hin b g
   nd:=r.nodup_iff.1 f.nd
   mem:=λb=>by rw[<-r.mem_iff];exact f.mem b}
def ML(a:Int)(o:bz):Bool:=decide (a<=o.Addr)
def addO(h:ab)(a size t:Int):ab:={h with O:=jf (ML a) h.O ⟨h.d,a,size,t⟩,d:=h.d+1}
theorem z8{h:ab}(a:cn h=true)(b:h.d<1000000):decide (0<=h.c0/\h.c0<=1073741823/\0<=h.b3/\h.b3<=1000000/\0<=h.c3/\h.c3<=1000/\1<=h.d+1/\h.d+1<=1000000)=true:=by
 unfold cn at a;rw[C0]at a |-;omega
theorem aZ.addO{h:ab}{E:List Int}{a size t:Int}(c:aZ h (a::E))(d:MC h.K h.M ⟨h.d,a,size,t⟩)(p:h.d<1000000)(q:0<=t/\t<=h.S.length - 1):aZ (addO h a size t) E:=by
 have i:=kL (ML a) h.O ⟨h.d,a,size,t⟩;have n:(a::E++holders h).Perm (E++holders (Ab.addO h a size t)):=by
  have r:=i.map (·.Addr);refine List.perm_iff_count.2 λb=>?_
  have u:=r.count_eq b;simp only[z5,List.count_cons]at u;simp only[holders,cy,Ab.addO,C5,List.cons_append,List.count_cons];omega
 have j:=c.nd;rw[List.cons_append]at j;obtain⟨k,-⟩:=List.nodup_cons.1 j;have l:∀o∈h.O,o.Addr≠a:=λo d e=>k (W2.2 (.inr (by unfold holders;simp only[W2];exact .inl (.inl (.inl (t4.2 ⟨o,d,e⟩))))))
 exact {c with
   nums:=z8 c.nums p
   osr:=lF (f:=λo:bz=>o.Addr) (y:=⟨h.d,a,size,t⟩) c.osr l
   onu:=λo d=>by
     rcases cB.1 d with rfl|d
     · have:=c.nums
       unfold cn at this;rw[C0]at this;exact⟨by show 1<=h.d;omega,by show h.d<=h.d+1 - 1;omega,q⟩
     have:=c.onu o d;exact⟨this.1,by show o.Id<=h.d+1 - 1;omega,this.2.2⟩
   oid:=by
     show((jf (ML a) h.O ⟨h.d,a,size,t⟩).map (·.Id)).Nodup;rw[(i.map _).nodup_iff,z5];refine List.nodup_cons.2 ⟨λw=>?_,c.oid⟩;obtain⟨o,d,e⟩:=t4.1 w;have:=(c.onu o d).2.1;simp only at e;omega
   oow:=λo g=>by
     rcases cB.1 g with rfl|g
     · exact d
     exact c.oow o g
   hin:=λb A=>c.hin b (W4 _ A)
   nd:=n.nodup_iff.1 c.nd
   mem:=λb=>by rw[<-n.mem_iff];exact c.mem b}
def jb(xs:List aA)(n:Int):Nat->Int
 | 0=>-1
 | i+1=>if n<=(nth xs i).b0/\(jb xs n i<0\/(nth xs i).b0<(nth xs (jb xs n i).toNat).b0) then(i:Nat) else jb xs n i
def gY(xs:List aA)(n:Int):Int:=jb xs n xs.length
def au(xs:List aA)(n:Int):List aA × Int × Bool:=
 if gY xs n<0 then(xs,-1,false)
 else if(nth xs (gY xs n).toNat).b0=n then(dele xs (gY xs n).toNat,(nth xs (gY xs n).toNat).At,true)
 else(xs.set (gY xs n).toNat ⟨(nth xs (gY xs n).toNat).At+n,(nth xs (gY xs n).toNat).b0 - n⟩,(nth xs (gY xs n).toNat).At,true)
theorem wi(xs:List aA)(n:Int):∀i,i<=xs.length->jb xs n i = -1\/(0<=jb xs n i/\jb xs n i<i/\n<=(nth xs (jb xs n i).toNat).b0)
 | 0,_=>.inl rfl
 | i+1,b=>by
  have a:=wi xs n i ω;unfold jb;split
  ·rename_i h;right;rw[R2];exact⟨ω,ω,h.1⟩
  rcases a with h|h
  ·exact .inl h
  exact .inr ⟨h.1,ω,h.2.2⟩
theorem x6{xs:List aA}(h:pf xs){i j:Nat}(a:i<j)(b:j<xs.length):(nth xs i).At+(nth xs i).b0<(nth xs j).At:=by
 have:=List.pairwise_iff_getElem.1 h.1 i j ω b a
 rwa [<-bj (Z1 (show i<xs.length by omega)),<-bj (Z1 b)]at this
theorem vX{xs:List aA}{p:Int} : RH xs p↔∃j,j<xs.length/\(nth xs j).At<=p/\p<(nth xs j).At+(nth xs j).b0:=by
 unfold RH;constructor
 ·rintro⟨r,b,h⟩
  obtain⟨j,a,rfl⟩:=aK b;exact⟨j,a,h⟩
 rintro⟨j,a,h⟩
 exact⟨_,am a,h⟩
theorem nA{pages:Int}{xs:List aA}{n:Int}(h:b8 pages xs=true)(T:1<=n)(t:(au xs n).2.2=true) :
  b8 pages (au xs n).1=true/\0<=(au xs n).2.1/\(au xs n).2.1+n<=pages/\(∀p,RH (au xs n).1 p↔RH xs p/\¬((au xs n).2.1<=p/\p<(au xs n).2.1+n))/\∀p,(au xs n).2.1<=p->p<(au xs n).2.1+n->RH xs p:=by
 obtain⟨o,u,J⟩:=fC.1 h;have K:=wi xs n xs.length (X2 _);unfold au at t |-;change gY xs n = -1\/_ at K;split at t
 ·cases t
 rename_i w;rw[C8 w];obtain⟨O,P,L⟩:=K.resolve_left ω;change 0<=gY xs n at O;change gY xs n<xs.length at P;change n<=(nth xs (gY xs n).toNat).b0 at L;generalize Q:(gY xs n).toNat=b at L |-;have g:b<xs.length:=ω
 have M:=u _ (am g);have q:∀j,j<xs.length->j≠b->(nth xs j).At+(nth xs j).b0<(nth xs b).At\/(nth xs b).At+(nth xs b).b0<(nth xs j).At:=λj a k=>by
  rcases Nat.lt_or_gt_of_ne k with A|B
  ·exact .inl (x6 o A g)
  exact .inr (x6 o B a)
 split
 ·rename_i R
  have C:(dele xs b).Sublist xs:=f6 ..;refine⟨fC.2 ⟨⟨o.1.sublist C,λy l=>o.2 y (C.subset l)⟩,λy l=>u y (C.subset l),J⟩,M.1,by show(nth xs b).At+n<=pages;omega,λp=>?_,λp D E=>vX.2 ⟨b,g,D,by show p<_;simp only at E;omega⟩⟩;simp only;rw[vX (xs:=xs)];constructor
  ·rintro⟨r,F,f,d⟩
   obtain⟨j,a,k,rfl⟩:=cT.1 F;refine⟨⟨j,a,f,d⟩,λe=>?_⟩;have:=q j a k;omega
  rintro⟨⟨j,a,f,d⟩,G⟩
  exact⟨_,cT.2 ⟨j,a,λe=>by subst e;omega,rfl⟩,f,d⟩
 rename_i R;have c:∀j,nth (xs.set b ⟨(nth xs b).At+n,(nth xs b).b0 - n⟩) j=if j=b then⟨(nth xs b).At+n,(nth xs b).b0 - n⟩ else nth xs j:=λj=>by
  rw[bB];by_cases e:j=b
  ·rw[C9 ⟨e.symm,ω⟩,C9 e]
  rw[C8 λz=>e z.1.symm,C8 e]
 refine⟨fC.2 ⟨⟨?_,λy l=>?_⟩,λy l=>?_,J⟩,M.1,by show(nth xs b).At+n<=pages;omega,λp=>?_,λp D E=>vX.2 ⟨b,g,D,by simp only at E;omega⟩⟩
 ·rw[List.pairwise_iff_getElem]
  intro i j N a H;rw[<-bj (Z1 N),<-bj (Z1 a),c,c];simp only[O1]at N a;have S:=x6 o H a;split
  ·rename_i e;subst e
   rw[C8 ω];simp only;omega
  split
  ·rename_i e;subst e
   simp only;omega
  exact S
 ·rcases dN l with rfl|⟨j,a,-,rfl⟩
  ·simp only;omega
  exact o.2 _ (am a)
 ·rcases dN l with rfl|⟨j,a,-,rfl⟩
  ·simp only;omega
  exact u _ (am a)
 simp only;rw[vX,vX,O1];constructor
 ·rintro⟨j,a,f,d⟩
  rw[c]at f d;split at f
  ·rename_i e;subst e
   rw[C9 rfl]at d;simp only at f d;exact⟨⟨j,a,ω,ω⟩,ω⟩
  rename_i e;rw[C8 e]at d;have:=q j a e;exact⟨⟨j,a,f,d⟩,ω⟩
 rintro⟨⟨j,a,f,d⟩,G⟩
 refine⟨j,a,?_⟩;rw[c];split
 ·rename_i e;subst e
  simp only;omega
 exact⟨f,d⟩
def rr(k:ah):Int:=dJ (λu=>!u) k.F.W.a5
def qP(k:ah)(p:Int)(f:Nat):ah:={k with F:=⟨⟨k.F.W.T,k.F.W.a5.set f true⟩,⟨k.F.R.J.set p.toNat ⟨2,(f:Nat)⟩⟩⟩}
def newK(k:ah)(p:Int):ah × Bool:=if refd k=true\/rr k<0 then(bZ k,false) else(qP (bZ k) p (rr k).toNat,true)
theorem Dh{k:ah}(h:¬rr k<0):(rr k).toNat<k.F.W.a5.length/\nth k.F.W.a5 (rr k).toNat=false:=by
 unfold rr at h |-;rcases oQ (λu=>!u) k.F.W.a5 with e|⟨n,a,e,b⟩
 ·omega
 rw[e,R2];exact⟨a,by simpa using b⟩
theorem zk{k:ah}(h:a8 k=true){f:Nat}(b:f<k.F.W.a5.length)(c:nth k.F.W.a5 f=false)(q:Nat)(d:q<k.F.R.J.length)(g:(nth k.F.R.J q).e≠0):(nth k.F.R.J q).j≠(f:Nat):=by
 obtain⟨j,l,n,i,o⟩:=aE.1 h;intro e;have a:=i f b;rw[c]at a;have:=of_decide_eq_false a.symm;exact this (dS.2 ⟨q,d,g,e⟩)
theorem Pr{k:ah}{p:Int}{f:Nat}(h:a8 k=true)(L:0<=p/\p<k.F.R.J.length)(n:(nth k.F.R.J p.toNat).e=0)(o:f<k.F.W.a5.length)(r:nth k.F.W.a5 f=false):a8 (qP k p f)=true:=by
 have t:=zk h o r;obtain⟨u,w,y,A,B⟩:=aE.1 h;obtain⟨C,D,E,F⟩:=aX.1 w;obtain⟨G,H,J⟩:=bv.1 y;have a:∀q,nth (k.F.R.J.set p.toNat ⟨2,(f:Nat)⟩) q=if p.toNat=q then⟨2,(f:Nat)⟩ else nth k.F.R.J q:=λq=>by
  rw[bB];by_cases i:p.toNat=q
  ·rw[C9 ⟨i,ω⟩,C9 i]
  rw[C8 (λe=>i e.1),C8 i]
 refine aE.2 ⟨u,aX.2 ⟨C,D,by simp only[qP,O1];exact E,λj b=>?_⟩,bv.2 ⟨λj b=>?_,?_,?_⟩,λj b=>?_,B⟩
 ·replace b:j<k.F.W.T.length:=b
  show gM (nth k.F.W.T j) (nth (k.F.W.a5.set f true) j)=true;have d:=F j b;rw[bB];split
  ·unfold gM at d |-
   simp only[I0,C0,W3]at d |-;refine⟨d.1,λv K=>?_⟩;have:=d.2 v K;unfold iy at this |-;simp only[I0]at this;rw[this.1];rfl
  exact d
 ·simp only[qP,O1]at b |-
  rw[a];split
  ·unfold kj;rw[C0];simp only;omega
  exact G j b
 ·simp only[qP,O1];exact H
 ·simp only[qP,O1];exact J
 simp only[qP,O1]at b;show nth (k.F.W.a5.set f true) j=_;rw[bB];by_cases e:f=j
 ·subst e
  rw[C9 ⟨rfl,b⟩];refine(O0 (dS.2 ⟨p.toNat,?_,?_,?_⟩)).symm
  ·simp only[qP,O1];omega
  ·simp only[qP,a,C9];decide
  simp only[qP,a,C9]
 rw[C8 λz=>e z.1,A j b];refine decide_eq_decide.2 ?_;rw[dS,dS];simp only[qP,O1,a];constructor
 ·rintro⟨q,l,g,c⟩
  refine⟨q,l,?_⟩;rw[C8 λz=>g (by rw[<-z];exact n)];exact⟨g,c⟩
 rintro⟨q,l,g,c⟩
 by_cases z:p.toNat=q
 ·rw[C9 z]at c
  simp only at c;omega
 rw[C8 z]at g c;exact⟨q,l,g,c⟩
structure uT(k:ah)(p:Int)(r:ah × Bool):Prop where
 ker:a8 r.1=true
 len:r.1.F.R.J.length=k.F.R.J.length
 calls:r.1.Calls=k.Calls+1
 ref:r.1.y=k.y
 cells:r.1.F.W.T=k.F.W.T
 no:r.2=false->r.1=bZ k
 yes:r.2=true->∃f:Nat,f<k.F.W.a5.length/\nth k.F.W.a5 f=false/\(∀q:Nat,nth r.1.F.R.J q=if(q:Int)=p then⟨2,(f:Nat)⟩ else nth k.F.R.J q)/\∀q,q<k.F.R.J.length->(nth k.F.R.J q).e≠0->(nth k.F.R.J q).j≠(f:Nat)
theorem uT.of{k:ah}{p:Int}(h:a8 k=true)(c:k.Calls≠100000)(f:0<=p/\p<k.F.R.J.length)(g:(nth k.F.R.J p.toNat).e=0):uT k p (newK k p):=by
 unfold newK;split
 ·exact⟨m9 h c,rfl,rfl,rfl,rfl,λ_=>rfl,λe=>by cases e⟩
 rename_i d;rw[not_or]at d;obtain⟨a,b⟩:=Dh d.2;refine⟨Pr (m9 h c) f g a b,by simp[qP,bZ],rfl,rfl,rfl,λe=>(by cases e),λ_=>⟨_,a,b,λq=>?_,λq=>zk h a b q⟩⟩;simp only[qP,bZ,bB];by_cases e:(q:Int)=p
 ·rw[C9 ⟨ω,ω⟩,C9 e]
 rw[C8 λz=>e ω,C8 e]
def newsK(k:ah)(p:Int):Nat->ah × Nat
 | 0=>(k,0)
 | i+1=>if(newsK k p i).2=i then((newK (newsK k p i).1 (p+(i:Nat))).1,if(newK (newsK k p i).1 (p+(i:Nat))).2=true then i+1 else i) else newsK k p i
structure lR(k:ah)(p:Int)(i:Nat)(r:ah × Nat):Prop where
 ker:a8 r.1=true
 len:r.1.F.R.J.length=k.F.R.J.length
 calls:k.Calls<=r.1.Calls/\r.1.Calls<=k.Calls+i
 ref:r.1.y=k.y
 cells:r.1.F.W.T=k.F.W.T
 le:r.2<=i
 out:∀q:Nat,¬(p<=q/\(q:Int)<p+r.2)->nth r.1.F.R.J q=nth k.F.R.J q
 new:∀q:Nat,p<=q->(q:Int)<p+r.2->(nth r.1.F.R.J q).e=2/\∀u:Nat,u<k.F.R.J.length->(nth r.1.F.R.J u).e≠0->(nth r.1.F.R.J u).j=(nth r.1.F.R.J q).j->u=q
theorem lR.of{k:ah}{p:Int}{n:Nat}(h:a8 k=true)(G:k.Calls+n<=100000)(H:0<=p/\p+n<=k.F.R.J.length)(C:∀q:Nat,p<=q->(q:Int)<p+n->(nth k.F.R.J q).e=0):∀i,i<=n->lR k p i (newsK k p i)
 | 0,_=>⟨h,rfl,⟨T4 _,by show k.Calls<=k.Calls+((0:Nat):Int);omega⟩,rfl,rfl,X2 _,λ_ _=>rfl,λq o d=>by simp only[newsK]at d;omega⟩
 | i+1,L=>by
  have a:=lR.of h G H C i ω;unfold newsK;split
  case isFalse=>exact⟨a.ker,a.len,⟨a.calls.1,by have:=a.calls.2;omega⟩,a.ref,a.cells,by have:=a.le;omega,a.out,a.new⟩
  rename_i t;generalize newsK k p i=r at a t |-;have J:=a.calls;have y:(nth r.1.F.R.J (p+(i:Nat)).toNat).e=0:=by
   rw[a.out _ ω];exact C _ ω ω
  have s:=uT.of (p:=p+(i:Nat)) a.ker ω ⟨ω,by rw[a.len];omega⟩ y;generalize newK r.1 (p+(i:Nat))=w at s |-;refine⟨s.ker,s.len.trans a.len,⟨by simp only[s.calls];omega,by simp only[s.calls];omega⟩,s.ref.trans a.ref,s.cells.trans a.cells,by simp only;split<;>omega,λq j=>?_,λq o d=>?_⟩
  ·simp only at j |-
   cases e:w.2 with
   | false=>
    rw[s.no e];rw[e]at j;exact a.out q (by rw[t];simpa using j)
   | true=>
    obtain⟨f,-,-,g,-⟩:=s.yes e;rw[e,C9 rfl]at j;rw[g,C8 ω];exact a.out q ω
  simp only at d |-;cases e:w.2 with
  | false=>
   rw[s.no e];rw[e]at d;exact a.new q o (by rw[t];simpa using d)
  | true=>
   obtain⟨f,-,-,g,D⟩:=s.yes e;rw[e,C9 rfl]at d;have A:q<k.F.R.J.length:=ω
   rw[g];by_cases E:(q:Int)=p+(i:Nat)
   ·rw[C9 E]
    refine⟨rfl,λu B c b=>?_⟩;rw[g]at c b;by_cases l:(u:Int)=p+(i:Nat)
    ·omega
    rw[C8 l]at c b;exact absurd b (D u (by rw[a.len];exact B) c)
   rw[C8 E];obtain⟨F,K⟩:=a.new q o ω;refine⟨F,λu B c b=>?_⟩;rw[g]at c b;by_cases l:(u:Int)=p+(i:Nat)
   ·rw[C9 l]at b
    exact absurd b.symm (D q (by rw[a.len];exact A) (by rw[F];decide))
   rw[C8 l]at c b;exact K u B c b
theorem lR.undo{k:ah}{p:Int}{i:Nat}{r:ah × Nat}(s:lR k p i r)(h:a8 k=true)(d:0<=p/\p+i<=k.F.R.J.length)(e:∀q:Nat,p<=q->(q:Int)<p+i->(nth k.F.R.J q).e=0):a8 (unmN r.1 p r.2)=true/\tEq k.F.R (unmN r.1 p r.2).F.R:=by
 have f:=s.le;have g:=mB s.ker d.1 r.2 (by rw[s.len];omega);refine⟨iB s.ker p r.2,((fx r.1 p r.2).1).trans s.len,λq=>?_⟩;rw[g];split
 ·rename_i a
  have c:=e q a.1 ω;obtain⟨-,-,j,-⟩:=aE.1 h;have b:=(bv.1 j).1 q ω;unfold kj at b;rw[C0]at b;exact⟨⟨λz=>absurd rfl z,λz=>absurd c z⟩,(b.2.2.1 c).symm⟩
 rename_i a;rw[s.out q a];exact⟨Iff.rfl,rfl⟩
theorem Pg.add{t h:aI}{O r:List aA}{sp b:List ax}{la d:List a7}{p:Int}{n:Nat}(i:Pg t O sp la)(E:h.J.length=t.J.length)(S:p+n<=t.J.length)(hp:0<=p)(j:∀q:Nat,¬(p<=q/\(q:Int)<p+n)->nth h.J q=nth t.J q)(a:∀q:Nat,p<=q->(q:Int)<p+n->(nth h.J q).e=2/\∀u:Nat,u<t.J.length->(nth h.J u).e≠0->(nth h.J u).j=(nth h.J q).j->u=q)(J:∀q,RH r q↔RH O q/\¬(p<=q/\q<p+n))(F:∀q,q∈pgs b d↔q∈pgs sp la\/(p<=q/\q<p+n))(w:∀s∈b,0<=s.Q/\(s∈sp\/(p<=s.Q/\s.Q<p+n)))(K:∀l∈d,l∈la\/∀q∈lpgs l l.a2.toNat,p<=q/\q<p+n):Pg h r b d:=by
 have f:∀q:Nat,q<t.J.length->((nth h.J q).e≠0↔(q:Int)∈pgs b d):=λq c=>by
  rw[F];by_cases e:p<=q/\(q:Int)<p+n
  ·have:=(a q e.1 e.2).1
   exact⟨λ_=>.inr e,λ_=>by rw[this];decide⟩
  rw[j q e,i.own q c];exact⟨.inl,λz=>z.resolve_right e⟩
 refine⟨λl A q c u k L G=>?_,λq c=>?_,λq c=>f q (by rw[<-E];exact c),λq c=>?_,λs P u k M H=>?_⟩
 ·rw[E]at k
  have B:=fQ (sp:=b) A c;have C:q<t.J.length:=by
   rcases(F _).1 B with g|g
   ·have:=i.bnd _ g;omega
   omega
  by_cases e:p<=q/\(q:Int)<p+n
  ·exact(a q e.1 e.2).2 u k L G
  have N:=(K l A).resolve_right λg=>e (g _ c)
  by_cases o:p<=u/\(u:Int)<p+n
  ·exact((a u o.1 o.2).2 q C ((f q C).2 B) G.symm).symm
  rw[j q e,j u o]at G;rw[j u o]at L;exact i.one l N q c u k L G
 ·rw[E]
  rcases(F _).1 c with g|g
  ·exact i.bnd _ g
  omega
 ·rw[E]at c
  rw[J];by_cases e:p<=q/\(q:Int)<p+n
  ·have:=(a q e.1 e.2).1
   exact⟨λ_ z=>z.2 e,λ_=>by rw[this];decide⟩
  rw[j q e,i.fre q c];exact⟨λz y=>z y.1,λz y=>z ⟨y,e⟩⟩
 obtain⟨T,U⟩:=w s P;obtain⟨V,W⟩:=w u k;have D:∀y∈b,0<=y.Q->y.Q.toNat<t.J.length/\((y.Q.toNat:Nat):Int)=y.Q/\(nth h.J y.Q.toNat).e≠0:=λy X Y=>by
  have g:=d7 (la:=d) X;have Q:y.Q.toNat<t.J.length:=by
   rcases(F _).1 g with R|R
   ·have:=i.bnd _ R;omega
   omega
  exact⟨Q,ω,(f _ Q).2 (by rw[show((y.Q.toNat:Nat):Int)=y.Q by omega];exact g)⟩
 obtain⟨Z,sc,sd⟩:=D s P T;obtain⟨ub,uc,ud⟩:=D u k V;by_cases es:p<=s.Q/\s.Q<p+n
 ·have:=(a s.Q.toNat ω ω).2 _ ub ud H.symm
  omega
 by_cases o:p<=u.Q/\u.Q<p+n
 ·have:=(a u.Q.toNat ω ω).2 _ Z sd H
  omega
 rw[j _ ω,j _ ω]at H;exact i.mesh s (U.resolve_right es) u (W.resolve_right o) M H
theorem DO{sp a:List ax}{la b:List a7}(c:a.Perm sp)(d:b.Perm la):(pgs a b).Perm (pgs sp la):=by
 unfold pgs;exact(c.map _).append (d.flatMap_right _)
def Gw(p:Int)(s:ax):Bool:=decide (p<=s.Q)
def PA(p:Int)(l:a7):Bool:=decide (p<=l.Q)
def addS(h:ab)(k:ah)(a:List aA)(p c:Int):ab:={h with G:=k,w:=a,K:=jf (Gw p) h.K ⟨p,c,0⟩}
theorem jr{h:ab}{E:List Int}(a:aZ h E){n:Int}(j:1<=n)(k:(au h.w n).2.2=true):0<=(au h.w n).2.1/\(au h.w n).2.1+n<=(tbl h).J.length/\(∀q:Nat,(au h.w n).2.1<=q->(q:Int)<(au h.w n).2.1+n->(nth (tbl h).J q).e=0)/\∀q:Int,(au h.w n).2.1<=q->q<(au h.w n).2.1+n->q∉pgs h.K h.M:=by
 obtain⟨r,l,f,t,o⟩:=nA a.rng j k;have g:∀q:Nat,(au h.w n).2.1<=q->(q:Int)<(au h.w n).2.1+n->(nth (tbl h).J q).e=0:=λq b c=>by
  have d:q<(tbl h).J.length:=by
   have:(au h.w n).2.1+n<=((tbl h).J.length:Nat):=f;omega
  by_cases e:(nth (tbl h).J q).e=0
  ·exact e
  exact absurd (o q b c) ((a.pg.fre q d).1 e)
 refine⟨l,f,g,λq b c i=>?_⟩;have u:=a.pg.bnd q i;obtain⟨m,rfl⟩:=U2 (show 0<=q by omega);have p:=(a.pg.own m ω).2 i;exact p (g m b c)
theorem aZ.addS{h:ab}{E:List Int}{c:Int}(a:aZ h E)(H:0<=c/\c<=3)(F:(au h.w 1).2.2=true){k:ah}(s:uT h.G (au h.w 1).2.1 (k,true)):aZ (addS h k (au h.w 1).1 (au h.w 1).2.1 c) E:=by
 obtain⟨U,G,r3,J,r5⟩:=nA a.rng (T4 _) F;obtain⟨-,V,u3,W⟩:=jr a (T4 _) F;generalize (au h.w 1).2.1=p at G r3 J r5 V u3 W s |-;generalize (au h.w 1).1=fr at U J |-;obtain⟨f,f1,f2,K,f4⟩:=s.yes rfl;have M:=(bv.1 (aE.1 a.ker).2.2.1).2.2;change (tbl h).J.length<=32 at M;have X:=a.L;have N:=kL (Gw p) h.K ⟨p,c,0⟩;have O:=DO N (List.Perm.refl h.M);have w:(pgs (jf (Gw p) h.K ⟨p,c,0⟩) h.M).Perm (p::pgs h.K h.M):=O;have B:p∉pgs h.K h.M:=W p (T4 _) ω;have P:∀z∈h.K,z.Q≠p:=λz g e=>B (by rw[<-e];exact d7 g)
 have i:∀b d,jP (jf (Gw p) h.K ⟨p,c,0⟩) b d↔jP h.K b d:=λb d=>by
  constructor
  ·rintro⟨s,C,A,Q⟩
   rcases cB.1 C with rfl|C
   ·exact absurd A (vt rfl b)
   exact⟨s,C,A,Q⟩
  rintro⟨s,C,A⟩
  exact⟨s,cB.2 (.inr C),A⟩
 exact {a with
   ker:=s.ker
   rng:=by show b8 ((k.F.R.J.length:Nat):Int) fr=true;rw[s.len];exact U
   lay:=by
     obtain⟨l1,l2,l3⟩:=dh a.lay;unfold bm;simp only[I0,C0];refine⟨⟨W3.2 λz g=>?_,l2⟩,w.nodup_iff.2 (List.nodup_cons.2 ⟨B,l3⟩)⟩;rcases cB.1 g with rfl|g
     · have R:0<=lim c:=by
         have:=(gz H).1;obtain rfl|rfl|rfl|rfl:c=0\/c=1\/c=2\/c=3:=ω
         all_goals decide
       exact O0 ⟨G,by show p<=31;omega,H.1,H.2,T4 _,R⟩
     exact X.sok z g
   srs:=lF (f:=λz:ax=>z.Q) (y:=⟨p,c,0⟩) a.srs P
   pg:=by
     refine a.pg.add (p:=p) (n:=1) s.len (by exact V) G (λq Y=>?_) (λq q1 q2=>?_) (λq=>J q) (λq=>?_) (λz g=>?_) (λl hl=>.inl hl)
     · exact(K q).trans (C8 ω)
     · have Y:(q:Int)=p:=ω
       have Z:nth k.F.R.J q = ⟨2,(f:Nat)⟩:=(K q).trans (C9 Y);refine⟨W0 bi.e Z,λu S t r=>?_⟩;have fu:nth k.F.R.J u=if(u:Int)=p then⟨2,(f:Nat)⟩ else nth h.G.F.R.J u:=K u
       change (nth k.F.R.J u).e≠0 at t;change (nth k.F.R.J u).j=(nth k.F.R.J q).j at r;rw[fu]at t r;rw[Z]at r;by_cases eu:(u:Int)=p
       · omega
       rw[C8 eu]at t r;exact absurd r (f4 u S t)
     · show q∈pgs (jf (Gw p) h.K ⟨p,c,0⟩) h.M↔_
       rw[w.mem_iff,List.mem_cons];constructor
       · rintro(e|e)
         · exact .inr ⟨ω,ω⟩
         exact .inl e
       rintro(e|e)
       · exact .inr e
       exact .inl ω
     rcases cB.1 g with rfl|g
     · exact⟨G,.inr ⟨T4 _,by show p<p+((1:Nat):Int);omega⟩⟩
     exact⟨(aB (X.sok z g)).1,.inl g⟩
   oow:=λo F=>by
     rcases a.oow o F with⟨z,g,A,Q⟩|A
     · exact .inl ⟨z,cB.2 (.inr g),A,Q⟩
     exact .inr A
   hca:=λd hd j hj b D=>(i b j).2 (a.hca d hd j hj b D)
   hqu:=λy T=>(i _ _).2 (a.hqu y T)
   hfl:=λb D=>(i _ _).2 (a.hfl b D)
   hin:=λb D=>(i _ _).2 (a.hin b D)
   mem:=λb=>(a.mem b).trans (by
     show Live h.K h.M b↔Live (jf (Gw p) h.K ⟨p,c,0⟩) h.M b;unfold Live;rw[i])
   job:=λhm=>by
     obtain⟨j1,⟨y,T,e1⟩,⟨u,S,e2⟩⟩:=a.job hm;exact⟨j1,⟨y,cB.2 (.inr T),e1⟩,⟨u,cB.2 (.inr S),e2⟩⟩}
def addL(h:ab)(k:ah)(a:List aA)(p n size t:Int):ab:={h with G:=k,w:=a,M:=jf (PA p) h.M ⟨p,n,size⟩,O:=jf (ML (16*p)) h.O ⟨h.d,16*p,size,t⟩,d:=h.d+1}
theorem aZ.addL{h:ab}{E:List Int}{size t:Int}{n:Nat}(a:aZ h E)(g:9<=size/\size<=1000)(J:(n:Int)=(size+15) / 16)(i:(au h.w n).2.2=true){k:ah}(s:lR h.G (au h.w n).2.1 n (k,n))(hn:h.d<1000000)(ht:0<=t/\t<=h.S.length - 1) :
  aZ (addL h k (au h.w n).1 (au h.w n).2.1 n size t) E:=by
 have B:(1:Int)<=n:=ω
 obtain⟨V,K,r3,M,r5⟩:=nA a.rng B i;obtain⟨-,W,u3,H⟩:=jr a B i;generalize (au h.w n).2.1=p at K r3 M r5 W u3 H s |-;generalize (au h.w n).1=fr at V M |-;have N:=(bv.1 (aE.1 a.ker).2.2.1).2.2;change (tbl h).J.length<=32 at N;have O:=a.L;have P:=kL (PA p) h.M ⟨p,n,size⟩;have C:=kL (ML (16*p)) h.O ⟨h.d,16*p,size,t⟩;have Q:lpgs ⟨p,n,size⟩ ((n:Nat):Int).toNat=lpgs ⟨p,n,size⟩ n:=by rw[R2]
 have D:(pgs h.K (jf (PA p) h.M ⟨p,n,size⟩)).Perm (lpgs ⟨p,n,size⟩ n++pgs h.K h.M):=by
  refine(DO (List.Perm.refl h.K) P).trans ?_;unfold pgs;rw[V5];simp only[Q];rw[<-Z4,<-Z4];exact List.perm_append_comm.append_right _
 have u:∀q,q∈lpgs ⟨p,n,size⟩ n↔p<=q/\q<p+n:=λq=>by
  rw[dx];constructor
  ·rintro⟨j,hj,rfl⟩;exact⟨by show p<=p+(j:Int);omega,by show p+(j:Int)<_;omega⟩
  rintro⟨X,Y⟩;exact⟨(q - p).toNat,ω,by show q=p+_;omega⟩
 have R:(lpgs ⟨p,n,size⟩ n).Nodup:=by
  unfold lpgs List.Nodup;rw[List.pairwise_map];exact List.nodup_range.imp λr e=>r (by simp only at e;omega)
 have r:∀z∈h.M,z.Q≠p:=λz g e=>H p (T4 _) ω (by rw[<-e];exact fQ g (dx.2 ⟨0,by have:=aM (O.lok z g);omega,ω⟩))
 have S:¬Live h.K h.M (16*p):=by
  rintro(⟨z,g,d,-⟩|⟨l,c,e⟩)
  ·exact H p (T4 _) ω (by rw[show p=z.Q by have a1:=d.1;have a2:=d.2.1;omega];exact d7 g)
  exact r l c ω
 have F:(16*p)∉E++holders h:=λT=>S ((a.mem _).1 T)
 have U:∀o∈h.O,o.Addr≠16*p:=λo i e=>F (W2.2 (.inr (by unfold holders;simp only[W2];exact .inl (.inl (.inl (t4.2 ⟨o,i,e⟩))))))
 have Z:(E++holders (Ab.addL h k fr p n size t)).Perm ((16*p)::(E++holders h)):=by
  have h0:=C.map (·.Addr);refine List.perm_iff_count.2 λb=>?_
  have d:=h0.count_eq b;simp only[z5,List.count_cons]at d;simp only[holders,cy,Ab.addL,C5,List.count_cons];omega
 exact {a with
   ker:=s.ker
   rng:=by show b8 ((k.F.R.J.length:Nat):Int) fr=true;rw[s.len];exact V
   lay:=by
     obtain⟨l1,l2,l3⟩:=dh a.lay;unfold bm;simp only[I0,C0];refine⟨⟨l1,W3.2 λz w=>?_⟩,D.nodup_iff.2 (List.nodup_append.2 ⟨R,l3,λq G b hb e=>?_⟩)⟩
     · rcases cB.1 w with rfl|w
       · exact O0 ⟨g.1,g.2,J,K,by show p<=32 - (n:Int);omega⟩
       exact O.lok z w
     subst e;have:=(u q).1 G;exact H q this.1 this.2 hb
   srl:=lF (f:=λz:a7=>z.Q) (y:=⟨p,n,size⟩) a.srl r
   pg:=by
     refine a.pg.add (p:=p) (n:=n) s.len (by exact W) K (λq G=>s.out q G) (λq X Y=>s.new q X Y) (λq=>M q) (λq=>?_) (λz g=>⟨(aB (O.sok z g)).1,.inl g⟩) (λl c=>?_)
     · show q∈pgs h.K (jf (PA p) h.M ⟨p,n,size⟩)↔_
       rw[D.mem_iff,W2,u];exact Or.comm
     rcases cB.1 c with rfl|c
     · exact .inr λq G=>(u q).1 (by simpa using G)
     exact .inl c
   nums:=z8 a.nums hn
   osr:=lF (f:=λo:bz=>o.Addr) (y:=⟨h.d,16*p,size,t⟩) a.osr U
   onu:=λo i=>by
     rcases cB.1 i with rfl|i
     · have:=a.nums
       unfold cn at this;rw[C0]at this;exact⟨by show 1<=h.d;omega,by show h.d<=h.d+1 - 1;omega,ht⟩
     have:=a.onu o i;exact⟨this.1,by show o.Id<=h.d+1 - 1;omega,this.2.2⟩
   oid:=by
     show((jf (ML (16*p)) h.O ⟨h.d,16*p,size,t⟩).map (·.Id)).Nodup;rw[(C.map _).nodup_iff,z5];refine List.nodup_cons.2 ⟨λT=>?_,a.oid⟩;obtain⟨o,i,e⟩:=t4.1 T;have:=(a.onu o i).2.1;simp only at e;omega
   oow:=λo A=>by
     rcases cB.1 A with rfl|A
     · exact .inr ⟨_,cB.2 (.inl rfl),rfl,rfl⟩
     rcases a.oow o A with d|⟨l,c,d⟩
     · exact .inl d
     exact .inr ⟨l,cB.2 (.inr c),d⟩
   nd:=Z.nodup_iff.2 (List.nodup_cons.2 ⟨F,a.nd⟩)
   mem:=λb=>by
     rw[Z.mem_iff,List.mem_cons,a.mem b];show _↔Live h.K (jf (PA p) h.M ⟨p,n,size⟩) b;unfold Live;constructor
     · rintro(rfl|d|⟨l,c,e⟩)
       · exact .inr ⟨_,cB.2 (.inl rfl),rfl⟩
       · exact .inl d
       exact .inr ⟨l,cB.2 (.inr c),e⟩
     rintro(d|⟨l,c,e⟩)
     · exact .inr (.inl d)
     rcases cB.1 c with rfl|c
     · exact .inl e
     exact .inr (.inr ⟨l,c,e⟩)}
structure JK(h h':ab):Prop where
 job:h'.Z=h.Z
 msh:h'.u=h.u
 sp:∀s∈h.K,fT h s.Q=true->∃s'∈h'.K,s'.Q=s.Q/\∀u,meshable s u=true->meshable s' u=true
 ent:∀q:Nat,(nth (tbl h').J q).e≠0->((nth (tbl h).J q).e≠0/\(nth (tbl h').J q).j=(nth (tbl h).J q).j)\/∀u:Nat,(nth (tbl h').J u).e≠0->(nth (tbl h').J u).j=(nth (tbl h').J q).j->u=q
theorem JK.refl(h:ab):JK h h:=⟨rfl,rfl,λs a _=>⟨s,a,rfl,λ_ z=>z⟩,λ_ b=>.inl ⟨b,rfl⟩⟩
theorem JK.pg{h h':ab}(k:JK h h')(p:Int):fT h' p=fT h p:=by unfold fT;rw[k.job,k.msh]
theorem JK.trans{h h1 g:ab}(a:JK h h1)(b:JK h1 g):JK h g:=by
 refine⟨b.job.trans a.job,b.msh.trans a.msh,λs o i=>?_,λq j=>?_⟩
 ·obtain⟨p,r,k,t⟩:=a.sp s o i
  obtain⟨w,y,A,B⟩:=b.sp p r (by rw[a.pg,k];exact i);exact⟨w,y,A.trans k,λu c=>B u (t u c)⟩
 rcases b.ent q j with⟨d,l⟩|d
 ·rcases a.ent q d with⟨e,C⟩|e
  ·exact .inl ⟨e,l.trans C⟩
  refine .inr λu c n=>?_
  rcases b.ent u c with⟨f,D⟩|f
  ·exact e u f (by rw[<-D,<-l];exact n)
  exact(f q j n.symm).symm
 exact .inr d
theorem oh.keep{h h':ab}{p:Int}(f:0<=p)(d:(nth (tbl h').J p.toNat).e≠0)(g:oh (tbl h) p)(k:JK h h'):oh (tbl h') p:=λq e c=>by
 rcases k.ent p.toNat d with⟨n,i⟩|a
 ·rcases k.ent q e with⟨j,l⟩|b
  ·exact g q j (by rw[<-l,c,i])
  have:=b p.toNat d c.symm;omega
 have:=a q e c;omega
theorem aZ.mapped{h:ab}{E:List Int}(a:aZ h E){s:ax}(b:s∈h.K):0<=s.Q/\s.Q<(tbl h).J.length/\(nth (tbl h).J s.Q.toNat).e≠0:=by
 have c:=(aB (a.L.sok s b)).1;have d:=a.pg.bnd _ (d7 (la:=h.M) b);refine⟨c,d,(a.pg.own s.Q.toNat ω).2 ?_⟩;rw[show((s.Q.toNat:Nat):Int)=s.Q by omega];exact d7 b
theorem JI.keep{h h':ab}{E:List Int}(l:JI h)(p:aZ h' E)(k:JK h h'):JI h':=by
 have d:h.u=true->∃a∈h'.K,∃b∈h'.K,a.Q=h.Z.X.a3/\b.Q=h.Z.X.a1/\meshable a b=true:=λc=>by
  obtain⟨a,n,b,o,f,g,e⟩:=l.sp c;obtain⟨q,t,u,w⟩:=k.sp a n (by unfold fT;rw[c,f];simp);obtain⟨y,A,B,C⟩:=k.sp b o (by unfold fT;rw[c,g];simp);refine⟨q,t,y,A,u.trans f,B.trans g,?_⟩;have r:=w b e;rw[gE]at r |-;exact C q r
 refine⟨λc=>?_,λc=>?_,λc=>?_,λc=>?_⟩
 ·rw[k.msh]at c;rw[k.job];exact l.ph c
 ·rw[k.msh]at c;rw[k.job];exact d c
 ·rw[k.msh]at c
  obtain⟨a,n,b,o,f,g,e⟩:=d c;obtain⟨i,D,j⟩:=p.mapped n;rw[k.job];rw[f]at i j;exact(l.sk c).keep i j k
 rw[k.msh]at c;obtain⟨a,n,b,o,f,g,e⟩:=d c;obtain⟨i,D,j⟩:=p.mapped o;rw[k.job];rw[g]at i j;exact(l.sm c).keep i j k
theorem JK.less{h h':ab}(h1:h'.Z=h.Z)(c:h'.u=h.u)(d:h'.K=h.K)(b:∀q:Nat,(nth (tbl h').J q).e≠0->nth (tbl h').J q=nth (tbl h).J q):JK h h':=
 ⟨h1,c,λs e _=>⟨s,by rw[d];exact e,rfl,λ_ z=>z⟩,λq a=>.inl ⟨by rw[<-b q a];exact a,by rw[b q a]⟩⟩
theorem JK.eq{h h':ab}(h1:h'.Z=h.Z)(a:h'.u=h.u)(b:h'.K=h.K)(c:tbl h'=tbl h):JK h h':=.less h1 a b λq _=>by rw[c]
theorem JK.clrS{h:ab}{E:List Int}{a:Int}{i:Nat}(f:aZ h E)(c:i<h.K.length)(d:ew (nth h.K i) a):JK h (clrS h i a):=by
 refine⟨rfl,rfl,λs g _=>?_,λq k=>.inl ⟨k,rfl⟩⟩;obtain⟨j,l,rfl⟩:=aK g;by_cases e:j=i
 ·subst e
  have b:=f.L.sok _ (am c);exact⟨_,iG _ c,rfl,λu n=>t6 b (pu b ⟨d.1,d.2.1⟩) n⟩
 exact⟨_,jJ _ l e,rfl,λ_ z=>z⟩
theorem JK.giveP{h:ab}{E:List Int}{i:Nat}(d:aZ h E)(f:i<h.K.length)(c:fT h (nth h.K i).Q=false):JK h (giveP h i):=by
 obtain⟨g,k,-⟩:=d.mapped (am f);refine⟨rfl,rfl,λs l a=>?_,λq b=>.inl ?_⟩
 ·obtain⟨j,n,rfl⟩:=aK l
  exact⟨_,cT.2 ⟨j,n,λe=>(by subst e;rw[c]at a;cases a),rfl⟩,rfl,λ_ z=>z⟩
 have o:=qN d.ker (p:=(nth h.K i).Q) ⟨g,k⟩ q;change (nth (dR h.G (nth h.K i).Q).F.R.J q).e≠0 at b;show(nth h.G.F.R.J q).e≠0/\(nth (dR h.G (nth h.K i).Q).F.R.J q).j=(nth h.G.F.R.J q).j;rw[o]at b |-;split at b
 ·exact absurd rfl b
 rename_i e;rw[C8 e];exact⟨b,rfl⟩
theorem JK.freeS{h:ab}{E:List Int}{a:Int}{i:Nat}(c:aZ h (a::E))(b:i<h.K.length)(d:ew (nth h.K i) a):JK h (freeS h i a):=by
 have g:=c.give b d;have f:=JK.clrS c b d;unfold Ab.freeS;split
 ·rename_i e
  have j:nth (Ab.clrS h i a).K i=mE (nth h.K i) (d3 (nth h.K i) a):=by unfold Ab.clrS;simp only[bB,true_and];rw[C9 b]
  exact f.trans (JK.giveP (h:=Ab.clrS h i a) g (by unfold Ab.clrS;simp only[O1];exact b) (by rw[j];exact e.2))
 exact f
theorem JK.freeA{h:ab}{E:List Int}{a:Int}(b:aZ h (a::E)):JK h (freeA h a):=by
 obtain⟨c,d,-⟩:=b.at (b.hin a (U1 ..));exact JK.freeS b c d
theorem JK.recyc{h:ab}{E:List Int}{a:Int}{t:Nat}(b:aZ h (a::E)):JK h (recyc t h a):=by
 unfold Ab.recyc;split
 ·exact JK.eq rfl rfl rfl rfl
 exact JK.freeA b
theorem JK.recycs{t:Nat}{E:List Int} : ∀{az:List Int}{h:ab},aZ h (az++E)->t<h.S.length->JK h (recycs t h az)
 | [],h,_,_=>JK.refl h
 | a::az,h,b,c=>(JK.recyc (t:=t) b).trans (JK.recycs (az:=az) (h:=Ab.recyc t h a) (b.recyc c) (by rw[(nI t h a).1];exact c))
theorem JK.freeAs{E:List Int} : ∀{az:List Int}{h:ab},aZ h (az++E)->JK h (freeAs h az)
 | [],h,_=>JK.refl h
 | a::az,h,b=>(JK.freeA b).trans (JK.freeAs (az:=az) (h:=Ab.freeA h a) b.freeA)
theorem JK.flushN{t:Nat}{h:ab}(c:aZ h [])(d:t<h.S.length):∀{k:Nat},k<=4->JK h (flushN t h k).1
 | 0,_=>JK.refl h
 | k+1,e=>by
  obtain⟨h1,f,-⟩:=je c d (k:=k) ω;have a:t<(Ab.flushN t h k).1.S.length:=ω
  have b:k<(nth (Ab.flushN t h k).1.S t).b.length:=by rw[(eS (h1.cach _ (am a))).1];omega
  exact JK.trans (h1:=Ab.spilt (Ab.flushN t h k).1 t k) ((JK.flushN c d (k:=k) ω).trans (JK.eq rfl rfl rfl rfl)) (JK.freeAs (h1.spilt a b))
theorem tX{h:ab}{E:List Int}(a:aZ h E){k:Nat}(b:k<h.M.length):0<=(nth h.M k).Q/\(nth h.M k).Q+((nth h.M k).a2.toNat:Nat)<=(tbl h).J.length:=by
 have c:=aM (a.L.lok _ (am b));have d:=a.pg.bnd _ (fQ (sp:=h.K) (am b) (dx.2 ⟨(nth h.M k).a2.toNat - 1,ω,rfl⟩));exact⟨ω,ω⟩
theorem JK.freeL{h:ab}{E:List Int}{i k:Nat}(b:aZ h E)(c:k<h.M.length):JK h (freeL h i k):=by
 obtain⟨d,f⟩:=tX b c;refine JK.less rfl rfl rfl λq a=>?_
 have g:=mB b.ker d (nth h.M k).a2.toNat f q;change (nth (unmN h.G (nth h.M k).Q (nth h.M k).a2.toNat).F.R.J q).e≠0 at a;show nth (unmN h.G (nth h.M k).Q (nth h.M k).a2.toNat).F.R.J q=nth h.G.F.R.J q;rw[g]at a |-;split at a
 ·exact absurd rfl a
 rename_i e;rw[C8 e]
theorem JK.freeOb{h:ab}{t i:Nat}(a:aZ h [])(c:i<h.O.length)(d:t<h.S.length):JK h (freeOb h t i).1:=by
 unfold Ab.freeOb;split
 ·rename_i b
  obtain⟨l,e,h1,-⟩:=(dK a (am c)).1 b;exact JK.freeL a (v8 e h1).1
 rename_i b;split
 ·exact JK.refl h
 have h1:=a.inQuar c b;exact JK.trans (h1:=Ab.inQuar h i) (JK.eq rfl rfl rfl rfl) (JK.recycs (E:=[]) (by rw[List.append_nil];exact h1) d)
theorem JK.take{h:ab}{i:Nat}{k sd:Int}(b:fT h (nth h.K i).Q=false):JK h {h with c0:=sd,K:=h.K.set i (qQ (nth h.K i) k)}:=by
 refine⟨rfl,rfl,λs c a=>?_,λq d=>.inl ⟨d,rfl⟩⟩;obtain⟨j,f,rfl⟩:=aK c;exact⟨_,jJ _ f λe=>(by subst e;rw[b]at a;cases a),rfl,λ_ z=>z⟩
theorem rm{t:aI}{q:Nat}(h:(nth t.J q).e≠0):q<t.J.length:=by
 by_cases e:q<t.J.length
 ·exact e
 exfalso;apply h;unfold nth;rw[O2,I2 ω]
 rfl
theorem JK.addS{h:ab}{k:ah}{l:List aA}{p c:Int}(s:uT h.G p (k,true)):JK h (addS h k l p c):=by
 obtain⟨f,t,w,d,n⟩:=s.yes rfl;have b:k.F.R.J.length=h.G.F.R.J.length:=s.len;refine⟨rfl,rfl,λz o _=>⟨z,cB.2 (.inr o),rfl,λ_ y=>y⟩,λq g=>?_⟩;change (nth k.F.R.J q).e≠0 at g;show((nth h.G.F.R.J q).e≠0/\(nth k.F.R.J q).j=(nth h.G.F.R.J q).j)\/∀u:Nat,(nth k.F.R.J u).e≠0->(nth k.F.R.J u).j=(nth k.F.R.J q).j->u=q
 by_cases e:(q:Int)=p
 ·refine .inr λu i a=>?_
  have j:=rm i;have f3u:=d u;have f3q:=d q;simp only at f3u f3q;rw[C9 e]at f3q;rw[f3q]at a;by_cases r:(u:Int)=p
  ·omega
  rw[C8 r]at f3u;rw[f3u]at i a;exact absurd a (n u (by rw[<-b];exact j) i)
 have f3q:=d q;simp only at f3q;rw[C8 e]at f3q;rw[f3q]at g |-;exact .inl ⟨g,rfl⟩
theorem JK.addL{h:ab}{k:ah}{g:List aA}{p size t:Int}{n:Nat}(s:lR h.G p n (k,n)):JK h (addL h k g p n size t):=by
 have a:k.F.R.J.length=h.G.F.R.J.length:=s.len;refine⟨rfl,rfl,λz i _=>⟨z,i,rfl,λ_ y=>y⟩,λq b=>?_⟩;change (nth k.F.R.J q).e≠0 at b;show((nth h.G.F.R.J q).e≠0/\(nth k.F.R.J q).j=(nth h.G.F.R.J q).j)\/∀u:Nat,(nth k.F.R.J u).e≠0->(nth k.F.R.J u).j=(nth k.F.R.J q).j->u=q
 by_cases e:p<=q/\(q:Int)<p+n
 ·exact .inr λu d c=>(s.new q e.1 e.2).2 u (by rw[<-a];exact rm d) d c
 have f:=s.out q e;simp only at f;rw[f]at b |-;exact .inl ⟨b,rfl⟩
theorem sN(h:ab):∀{n:Nat},n<=h.K.length->∀s∈lK h n,(aN h s.Q).length=1
 | 0,_,s,a=>by cases a
 | n+1,b,s,a=>by
  unfold lK at a;split at a
  ·rename_i e
   rcases W2.1 a with a|a
   ·exact sN h ω s a
   unfold zA at e;simp only[I0,C0]at e;rw[I1.1 a];exact e.2
  exact sN h ω s a
theorem aZ.sole{h:ab}{E:List Int}(e:aZ h E){s:ax}(f:s∈h.K)(h1:(aN h s.Q).length=1):oh (tbl h) s.Q:=λq a g=>by
 obtain⟨k,l,b⟩:=e.mapped f;have i:s.Q=((s.Q.toNat:Nat):Int):=ω
 rw[i,eC (by show s.Q.toNat<(tbl h).J.length;omega) b]at h1;obtain⟨z,j⟩:=List.length_eq_one_iff.1 h1;have c:(s.Q.toNat:Int)∈pagesOn (tbl h) (nth (tbl h).J s.Q.toNat).j:=dA.2 ⟨ω,b,rfl⟩;have d:(q:Int)∈pagesOn (tbl h) (nth (tbl h).J s.Q.toNat).j:=dA.2 ⟨rm a,a,g⟩;rw[j]at c d;simp only[I1]at c d;omega
theorem Gn{h:ab}(l:aZ h [])(n:h.u=false):aZ (started h).1 []/\JI (started h).1:=by
 have G:=l.nums;unfold cn at G;rw[C0]at G;have M:=(mG (bA h).length (show 0<=h.c0/\h.c0<=1073741823 by omega) ((bA h).length - 1)).2;have o:=nt (bA h) (show 0<=h.c0/\h.c0<=1073741823 by omega);have c:cn {h with c0:=(shuf (bA h).length h.c0).2} = true:=by
  unfold cn;rw[C0];unfold shuf;simp only;omega
 cases p:lI (bA h) h.c0 with
 | nil=>
  have f:Ab.started h=({h with c0:=(shuf (bA h).length h.c0).2},false):=by unfold Ab.started;rw[p]
  rw[f];exact⟨{l with nums:=c},⟨λe=>by simp[n]at e,λe=>by simp[n]at e,λe=>by simp[n]at e,λe=>by simp[n]at e⟩⟩
 | cons q R=>
  obtain⟨S,T,g⟩:=o q (by rw[p];exact U1 ..);have f:Ab.started h=({h with c0:=(shuf (bA h).length h.c0).2,u:=true,Z:=t8 (df (nth (bA h) q.A.toNat) (nth (bA h) q.B.toNat))},true):=by unfold Ab.started;rw[p]
  rw[f];have d:∀s∈bA h,s∈h.K/\oh (tbl h) s.Q:=λs N=>by
   have H:=List.mem_of_mem_take N;have J:=m6 h (X2 _) s H;exact⟨J,l.sole J (sN h (X2 _) s H)⟩
  have j:=d _ (am (xs:=bA h) (i:=q.A.toNat) ω);have k:=d _ (am (xs:=bA h) (i:=q.B.toNat) ω);generalize nth (bA h) q.A.toNat=a at g j |-;generalize nth (bA h) q.B.toNat=b at g k |-;obtain⟨O,U,V⟩:=tZ g;have r:(df a b).a3=a.Q/\(df a b).a1=b.Q\/(df a b).a3=b.Q/\(df a b).a1=a.Q:=by
   unfold df;split
   ·exact .inr ⟨rfl,rfl⟩
   exact .inl ⟨rfl,rfl⟩
  have t:jH (t8 (df a b))=true:=dw.2 ⟨O,by show(0:Int)<=0;omega,by show(0:Int)<=5;omega,by show(0:Int)<=0;omega,by show(0:Int)<=(((df a b).T.length:Nat):Int);omega⟩;have u:∃x∈h.K,∃y∈h.K,x.Q=(df a b).a3/\y.Q=(df a b).a1/\meshable x y=true/\oh (tbl h) x.Q/\oh (tbl h) y.Q:=by
   rcases r with⟨w,C⟩|⟨w,C⟩
   ·exact⟨a,j.1,b,k.1,w.symm,C.symm,g,j.2,k.2⟩
   exact⟨b,k.1,a,j.1,w.symm,C.symm,by rw[gE];exact g,k.2,j.2⟩
  obtain⟨x,K,y,L,D,E,F,P,Q⟩:=u;exact⟨{l with nums:=c,job:=λ_=>⟨t,⟨x,K,D⟩,⟨y,L,E⟩⟩,noj:=λe=>by cases e},⟨λ_=>⟨by show(0:Int)<=0;omega,by show(0:Int)<=3;omega⟩,λ_=>⟨x,K,y,L,D,E,F⟩,λ_=>by show oh (tbl h) (df a b).a3;rw[<-D];exact P,λ_=>by show oh (tbl h) (df a b).a1;rw[<-E];exact Q⟩⟩
def fJ(m:aL)(f:Nat):aL:=⟨m.U.set f ((nth m.U f).drop 1),m.a0.set (nth (nth m.U f) 0).To.toNat (nth m.a0 (nth (nth m.U f) 0).To.toNat++[(nth (nth m.U f) 0).Addr])⟩
def kR(m:aL)(t:Nat):aL:=⟨m.U,m.a0.set t []⟩
def ia(m:aL)(f:Nat)(p:dy):aL:=⟨m.U.set f (nth m.U f++[p]),m.a0⟩
theorem dH{m:aL} : bI m=true↔(1<=m.U.length/\m.U.length<=4/\m.a0.length=m.U.length)/\(∀i,i<m.U.length->(∀p∈nth m.U i,0<=p.To/\p.To<=(m.U.length:Int) - 1/\0<=p.Addr)/\∀a∈nth m.a0 i,0<=a)/\bt m m.U.length<=30:=by
 unfold bI;simp only[I0,C0,cz,gx,W3,np,NK];exact and_assoc
theorem oJ(m:aL)(f t:Nat)(x:List dy)(y:List Int)(g:f<m.U.length)(h:t<m.a0.length):∀n:Nat,bt ⟨m.U.set f x,m.a0.set t y⟩ n=bt m n+(if f<n then(x.length:Int) - ((nth m.U f).length:Nat) else 0)+(if t<n then(y.length:Int) - ((nth m.a0 t).length:Nat) else 0)
 | 0=>by simp[bt]
 | n+1=>by
  have i:=oJ m f t x y g h n;have j:(nth (m.U.set f x) n).length=if f=n then x.length else(nth m.U n).length:=by
   rw[bB];by_cases e:f=n
   ·rw[C9 ⟨e,ω⟩,C9 e]
   rw[C8 λz=>e z.1,C8 e]
  have k:(nth (m.a0.set t y) n).length=if t=n then y.length else(nth m.a0 n).length:=by
   rw[bB];by_cases e:t=n
   ·rw[C9 ⟨e,ω⟩,C9 e]
   rw[C8 λz=>e z.1,C8 e]
  simp only[bt,i,j,k];by_cases d:f=n
  ·subst d
   by_cases b:t=f
   ·subst b
    simp only[if_true,Nat.lt_irrefl,if_false,Nat.lt_succ_self];omega
   simp only[if_true,Nat.lt_irrefl,if_false,Nat.lt_succ_self,C8 b];by_cases a:t<f
   ·rw[C9 a,C9 (show t<f+1 by omega)];omega
   rw[C8 a,C8 (show ¬t<f+1 by omega)];omega
  by_cases b:t=n
  ·subst b
   simp only[if_true,Nat.lt_irrefl,if_false,Nat.lt_succ_self,C8 d];by_cases a:f<t
   ·rw[C9 a,C9 (show f<t+1 by omega)];omega
   rw[C8 a,C8 (show ¬f<t+1 by omega)];omega
  simp only[C8 d,C8 b];by_cases a:f<n
  ·rw[C9 a,C9 (show f<n+1 by omega)]
   by_cases c:t<n
   ·rw[C9 c,C9 (show t<n+1 by omega)];omega
   rw[C8 c,C8 (show ¬t<n+1 by omega)];omega
  rw[C8 a,C8 (show ¬f<n+1 by omega)];by_cases c:t<n
  ·rw[C9 c,C9 (show t<n+1 by omega)];omega
  rw[C8 c,C8 (show ¬t<n+1 by omega)];omega
theorem Nw{α:Type}[Inhabited α]{xs:List α}{i:Nat}(h:i<xs.length):xs.set i (nth xs i)=xs:=by
 rw[<-C2.1 (ao h) |>.2];exact List.set_getElem_self h
theorem Ea{m:aL}(h:bI m=true){f:Nat}(d:f<m.U.length)(n:0<(nth m.U f).length):bI (fJ m f)=true:=by
 obtain⟨⟨o,q,r⟩,g,y⟩:=dH.1 h;obtain⟨t,A⟩:=g f d;have c:=t _ (am n);have u:(nth (nth m.U f) 0).To.toNat<m.a0.length:=ω
 refine dH.2 ⟨⟨?_,?_,?_⟩,λi j=>?_,?_⟩
 ·simp only[fJ,O1];exact o
 ·simp only[fJ,O1];exact q
 ·simp only[fJ,O1];exact r
 ·simp only[fJ,O1]at j |-
  obtain⟨k,l⟩:=g i j;simp only[bB];refine⟨λp c=>?_,λa b=>?_⟩
  ·split at c
   ·rename_i e;rw[<-e.1]at k
    refine(g f d).1 p (List.mem_of_mem_drop c)
   exact k p c
  split at b
  ·rename_i e
   rcases W2.1 b with b|b
   ·rw[e.1]at b;exact l a b
   rw[I1.1 b];exact c.2.2
  exact l a b
 have w:=oJ m f (nth (nth m.U f) 0).To.toNat ((nth m.U f).drop 1) (nth m.a0 (nth (nth m.U f) 0).To.toNat++[(nth (nth m.U f) 0).Addr]) d u m.U.length;simp only[fJ,O1];rw[w,C9 d,C9 ω,C3,z3,List.length_singleton];omega
theorem Ps{m:aL}(h:bI m=true){t:Nat}(d:t<m.a0.length):bI (kR m t)=true:=by
 obtain⟨⟨e,f,g⟩,j,o⟩:=dH.1 h;refine dH.2 ⟨⟨e,f,?_⟩,λi k=>?_,?_⟩
 ·simp only[kR,O1];exact g
 ·obtain⟨l,n⟩:=j i k
  simp only[kR,bB];refine⟨l,λa b=>?_⟩;split at b
  ·cases b
  exact n a b
 have c:=oJ m t t (nth m.U t) [] ω d m.U.length;rw[Nw ω]at c;show bt ⟨m.U,m.a0.set t []⟩ m.U.length<=30;rw[c,C9 ω,C9 ω,List.length_nil];omega
theorem kM{m:aL}(h:bI m=true)(b:Int):(aF m).count b=(m.U.flatMap λl=>l.map (·.Addr)).count b+(m.a0.flatMap λx=>x).count b:=by
 unfold aF;rw[C9 h,C5,kQ]
theorem aZ.mailed{h:ab}{E c:List Int}{m:aL}(d:aZ h E)(i:bI m=true)(j:m.U.length=h.q.U.length)(k:∀b,c.count b+(aF m).count b=E.count b+(aF h.q).count b)(f:∀a,a∈c\/a∈aF m->jP h.K a (-1)):aZ {h with q:=m} c:=by
 have g:(E++holders h).Perm (c++holders {h with q:=m}):=by
  refine List.perm_iff_count.2 λb=>?_
  have l:=k b;simp only[holders,cy,C5];omega
 exact {d with
   mail:=i
   nc:=d.nc.trans j.symm
   hfl:=λa e=>f a (.inr e)
   hin:=λa e=>f a (.inl e)
   nd:=g.nodup_iff.1 d.nd
   mem:=λb=>by rw[<-g.mem_iff];exact d.mem b}
theorem Fj{h:ab}{E d:List Int}{m:aL}(f:aZ h E)(g:∀b,d.count b+(aF m).count b=E.count b+(aF h.q).count b):∀a,a∈d\/a∈aF m->jP h.K a (-1):=λa c=>by
 have i:=g a;have j:0<d.count a+(aF m).count a:=by
  rcases c with c|c
  ·have:=List.count_pos_iff.2 c;omega
  have:=List.count_pos_iff.2 c;omega
 by_cases e:0<E.count a
 ·exact f.hin a (List.count_pos_iff.1 e)
 exact f.hfl a (List.count_pos_iff.1 ω)
theorem aZ.deliv{h:ab}{E:List Int}{f:Nat}(a:aZ h E)(e:f<h.q.U.length)(d:0<(nth h.q.U f).length):aZ {h with q:=fJ h.q f} E:=by
 have c:=Ea a.mail e d;obtain⟨⟨q,r,t⟩,j,u⟩:=dH.1 a.mail;have k:=(j f e).1 _ (am d);have g:∀b,E.count b+(aF (fJ h.q f)).count b=E.count b+(aF h.q).count b:=λb=>by
  rw[kM c,kM a.mail];have i:=iC (λl:List dy=>l.map (·.Addr)) b h.q.U f ((nth h.q.U f).drop 1) e;have n:=iC (λx:List Int=>x) b h.q.a0 (nth (nth h.q.U f) 0).To.toNat (nth h.q.a0 (nth (nth h.q.U f) 0).To.toNat++[(nth (nth h.q.U f) 0).Addr]) ω;have o:(nth h.q.U f).map (·.Addr)=(nth (nth h.q.U f) 0).Addr::((nth h.q.U f).drop 1).map (·.Addr):=by
   generalize nth h.q.U f=l at d
   match l,d with
   | p::l,_=>rfl
  simp only[fJ];rw[o]at i;simp only[List.count_cons]at i;simp only[C5,List.count_singleton]at n;omega
 exact a.mailed c (by simp[fJ]) g (Fj a g)
theorem aZ.coll{h:ab}{E:List Int}{t:Nat}(c:aZ h E)(d:t<h.q.a0.length):aZ {h with q:=kR h.q t} (nth h.q.a0 t++E):=by
 have a:=Ps c.mail d;have e:∀b,(nth h.q.a0 t++E).count b+(aF (kR h.q t)).count b=E.count b+(aF h.q).count b:=λb=>by
  rw[kM a,kM c.mail];have f:=iC (λx:List Int=>x) b h.q.a0 t [] d;simp only[List.count_nil]at f;simp only[kR,C5];omega
 exact c.mailed a rfl e (Fj c e)
theorem aZ.send{h:ab}{E:List Int}{f:Nat}{p:dy}(c:aZ h (p.Addr::E))(e:f<h.q.U.length)(a:bI (ia h.q f p)=true):aZ {h with q:=ia h.q f p} E:=by
 have d:∀b,E.count b+(aF (ia h.q f p)).count b=(p.Addr::E).count b+(aF h.q).count b:=λb=>by
  rw[kM a,kM c.mail];have g:=iC (λl:List dy=>l.map (·.Addr)) b h.q.U f (nth h.q.U f++[p]) e;simp only[t5,z5,List.map_nil,C5,List.count_singleton]at g;simp only[ia,List.count_cons];omega
 exact c.mailed a (by simp[ia]) d (Fj c d)
def rM(now:Int):List aO->Nat
 | []=>0
 | x::xs=>if x.b7<now - 100 then rM now xs+1 else 0
def aged(h:ab)(n:Int):ab:={h with b3:=h.b3+n,a9:=⟨h.a9.c1,h.a9.a6.drop (rM (h.b3+n) h.a9.a6)⟩}
def nu(h:ab)(n:Int):List Int:=(h.a9.a6.take (rM (h.b3+n) h.a9.a6)).map (·.Addr)
def tick(h:ab)(n:Int):ab:=freeAs (aged h n) (nu h n)
theorem oY(x:aO)(xs:List aO):∀n,quarCells (x::xs) (n+1)=csz x.a+quarCells xs n
 | 0=>by simp only[quarCells];show 0+csz x.a=csz x.a+0;omega
 | n+1=>by
  rw[iR,oY x xs n,iR];show csz x.a+quarCells xs n+csz (nth xs n).a=_;omega
theorem PT(k:Int):0<=csz k:=by
 unfold csz;split
 ·exact Int.le_of_lt (Int.pow_pos (by decide))
 decide
theorem GX:∀(l:List aO)(k:Nat),qc (l.drop k)<=qc l
 | [],k=>by simp
 | x::xs,0=>T4 _
 | x::xs,k+1=>by
  have a:=GX xs k;have b:=PT x.a;have c:qc (x::xs)=csz x.a+qc xs:=oY x xs xs.length;show qc (xs.drop k)<=qc (x::xs);omega
theorem aZ.aged{h:ab}{E:List Int}{n:Int}(a:aZ h E)(t:0<=n)(u:h.b3+n<=1000000):aZ (aged h n) (nu h n++E):=by
 obtain⟨i,j,k,o,p,q⟩:=jM.1 a.quar;have c:=a.nums;unfold cn at c;rw[C0]at c;have e:=List.drop_sublist (rM (h.b3+n) h.a9.a6) h.a9.a6;have g:(E++holders h).Perm ((nu h n++E)++holders (Ab.aged h n)):=by
  refine List.perm_iff_count.2 λb=>?_
  have r:=W0 (λl:List aO=>(l.map (·.Addr)).count b) (List.take_append_drop (rM (h.b3+n) h.a9.a6) h.a9.a6);simp only[t5,C5]at r;simp only[holders,cy,Ab.aged,nu,C5];omega
 exact {a with
   nums:=by unfold cn;rw[C0];simp only[Ab.aged];omega
   quar:=jM.2 ⟨λy d=>i y (e.subset d),j.sublist e,k.sublist (e.map _),o,p,Int.le_trans (GX _ _) q⟩
   snc:=λy d=>by
     have:=a.snc y (e.subset d);show y.b7<=h.b3+n;omega
   hqu:=λy d=>a.hqu y (e.subset d)
   hin:=λb f=>by
     rcases W2.1 f with f|f
     · obtain⟨y,d,rfl⟩:=t4.1 f
       exact(a.hqu y (List.mem_of_mem_take d)).any
     exact a.hin b f
   nd:=g.nodup_iff.1 a.nd
   mem:=λb=>by rw[<-g.mem_iff];exact a.mem b}
theorem aZ.tick{h:ab}{n:Int}(a:aZ h [])(b:0<=n)(c:h.b3+n<=1000000):aZ (tick h n) []/\JK h (tick h n):=by
 have h1:=a.aged b c;exact⟨aZ.freeAs h1,JK.trans (h1:=Ab.aged h n) (JK.eq rfl rfl rfl rfl) (JK.freeAs h1)⟩
def collect(h:ab)(t:Nat):ab:=recycs t {h with q:=kR h.q t} (nth h.q.a0 t)
theorem aZ.collect{h:ab}{t:Nat}(a:aZ h [])(b:t<h.S.length):aZ (collect h t) []/\JK h (collect h t):=by
 have h1:=a.coll (t:=t) (by rw[(dH.1 a.mail).1.2.2,<-a.nc];exact b);exact⟨aZ.recycs h1 b,JK.trans (h1:={h with q:=kR h.q t}) (JK.eq rfl rfl rfl rfl) (JK.recycs h1 b)⟩
def L9(h:ab)(t i:Nat):ab:={h with G:=eP h.G (nth h.O i).Addr (csz (aJ (nth h.O i).o)).toNat,O:=dele h.O i,q:=ia h.q t ⟨(nth h.O i).a4,(nth h.O i).Addr⟩}
def freeT(h:ab)(t i:Nat):ab × Int:=
 if aJ (nth h.O i).o<0 then(freeL h i (yz h (nth h.O i).Addr),0)
 else if(ac (tbl h) ((nth h.O i).Addr / 16)).e=1 then(h,5)
 else if(nth h.O i).a4=t then(EH h t i,0)
 else if bI (ia h.q t ⟨(nth h.O i).a4,(nth h.O i).Addr⟩)=true then(L9 h t i,0) else(h,5)
theorem Ad{h:ab}{t i:Nat}(e:(nth h.O i).a4=t):freeT h t i=freeOb h t i:=by
 unfold freeT freeOb;rw[C9 e]
theorem aZ.freeT{h:ab}{t i:Nat}(a:aZ h [])(b:i<h.O.length)(c:t<h.S.length):aZ (freeT h t i).1 []/\JK h (freeT h t i).1:=by
 by_cases e:(nth h.O i).a4=t
 ·rw[Ad e];exact⟨a.freeOb b c,JK.freeOb a b c⟩
 have d:=a.freeOb b c;have f:=JK.freeOb a b c;unfold Ab.freeOb at d f;unfold Ab.freeT;split
 ·rename_i g
  rw[C9 g]at d f;exact⟨d,f⟩
 rename_i g;rw[C8 g]at d f;split
 ·exact⟨a,JK.refl h⟩
 split
 ·rename_i j
  obtain⟨⟨s,l,n,o⟩,u⟩:=(dK a (am b)).2 g;have q:=a.dropO b (jP.any ⟨s,l,n,.inr o⟩);have r:=q.cells (k:=eP h.G (nth h.O i).Addr (csz (aJ (nth h.O i).o)).toNat) (Da a.ker _ _) rfl;exact⟨aZ.send (p:=⟨(nth h.O i).a4,(nth h.O i).Addr⟩) r (by show t<h.q.U.length;rw[<-a.nc];exact c) j,JK.eq rfl rfl rfl rfl⟩
 exact⟨a,JK.refl h⟩
def dD(k:ah)(a v:Int):ah:=setCell k (cN k a) (a % 16) v
theorem xd{k:ah}(h:a8 k=true){a v:Int}(b:(ac k.F.R (a / 16)).e≠0)(c:0<=v/\v<=999):a8 (dD k a v)=true:=by
 obtain⟨d,e,-⟩:=gn h b;exact qR h (f:=cN k a) d e c
theorem aZ.store{h:ab}{a v:Int}(b:aZ h [])(c:(ac h.G.F.R (a / 16)).e≠0)(d:0<=v/\v<=999):aZ {h with G:=dD h.G a v} []/\JK h {h with G:=dD h.G a v}:=
 ⟨b.cells (xd b.ker c d) rfl,JK.eq rfl rfl rfl rfl⟩
open Go.RowKit
set_option maxRecDepth 20000
set_option maxHeartbeats 4000000
theorem Px{α:Type}[Inhabited α]{a b:List α}(d:a.length=b.length)(h:∀j,j<a.length->nth a j=nth b j):a=b:=by
 refine List.ext_getElem d λj c e=>?_
 have:=h j c
 rwa [bj (Z1 c),bj (Z1 e)]at this
theorem NR{xs:List Int}{x:Int}(h:cQ xs.length (λj=>decide (nth xs j≠x))=true):x∉xs:=λb=>by
 obtain⟨j,a⟩:=List.mem_iff_getElem?.1 b;have:=dL h (C2.1 a).1;rw[bj a]at this;simp at this
theorem DQ(xs:List Int)(x:Int)(g:xs.length<=4611686018427387904):ar Tryz.prog 367 false [.val none (aG .V xs),.val none [I x]] .one [B (decide (x∈xs))]:=by
 refine fO 18 [] Tryz.func367 rfl ?_
 repeat'(first|refine gO ?_|fail)
 (conv=>whnf)
 refine CF (ι:=Nat) (λi=>[(0,.H .one (aG .V xs)),(1,.H .one [I (x)]),(5,.H .one [I ((i:Nat):Int)])]) (λi=>i<=xs.length/\cQ i (λj=>decide (nth xs j≠x))=true) (λi=>xs.length - i) 0 ?_ ⟨U0 _,rfl⟩ λi a=>?_
 ·exact wB
 obtain⟨a,b⟩:=a;by_cases c:i<xs.length
 ·have d:=ao c
  by_cases e:nth xs i=x
  ·repeat'(first|refine gA ?_|(conv=>whnf);first|with_reducible refine CD (aa d) ?_)
   exact W0 (λz=>[B z]) ((by symm;exact O0 (by rw[<-e];exact am c)))
  repeat'(first|refine gA ?_|(conv=>whnf);first|with_reducible refine CD (aa d) ?_)
  ((conv=>whnf);refine CE (i+1) ⟨ω,bJ b (O0 e)⟩ ω ?_;(exact wB))
 repeat'(first|refine gD ?_|fail)
 obtain rfl:i=xs.length:=ω
 exact W0 (λz=>[B z]) ((by symm;exact T0 (NR b)))
theorem EA(xs:List Int)(x:Int)(h:xs.length<=4611686018427387904):ar Tryz.prog 395 false [.val none (aG .V xs),.val none [I x]] .one [I (dJ (λy=>decide (y=x)) xs)]:=by
 refine fO 19 [] Tryz.func395 rfl ?_
 repeat'(first|refine gO ?_|fail)
 (conv=>whnf)
 refine CF (ι:=Nat) (λi=>[(0,.H .one (aG .V xs)),(1,.H .one [I (x)]),(7,.H .one [I (xs.length)]),(8,.H .one [I ((i:Nat):Int)])]) (λi=>i<=xs.length/\∀(j:Nat)(z:Int),j<i->xs[j]? = some z->decide (z=x)=false) (λi=>xs.length - i) (0) ?_ (⟨U0 _,λj z d _=>absurd d (Nat.not_lt_zero _)⟩) λi c=>?_
 ·exact wB
 obtain⟨c,b⟩:=c;by_cases g:i<xs.length
 ·have a:=ao g
  by_cases e:nth xs i=x
  ·repeat'(first|refine gD ?_|(conv=>whnf);first|with_reducible refine CD (aa a) ?_|refine Bf.t (by simp[e]) ?_)
   exact W0 (λz=>[I z]) (dX a (O0 e) b).symm
  repeat'(first|refine gD ?_|(conv=>whnf);first|with_reducible refine CD (aa a) ?_|refine Bf.f (by simp[Ne.symm e]) ?_)
  ((conv=>whnf);refine CE (i+1) ⟨ω,d8 a (T0 e) b⟩ ω ?_;(exact wB))
 repeat'(first|refine gD ?_|fail)
 exact W0 (λz=>[I z]) (gv ω b).symm
theorem wG(xs:List Int)(x:Int)(a:xs.length<=4611686018427387904):ar Tryz.prog 257 false [.val none (aG .V xs),.val none [I x]] .one [B (decide (x∈xs))]:=by
 refine fO 9 [] Tryz.func257 rfl ?_
 repeat'(first|refine gO ?_|(conv=>whnf);first|refine C7 (EA xs x a) ?_)
 exact W0 (λz=>[B z]) ((by rw[kN];rw[O4];simp))
theorem bV.more{M f:af}{w g:World}(h:bV M w g)(e:∀b o,M b o->f b o):bV f w g:=
 ⟨h.os,h.tape,h.output,h.size,λb a c=>h.blk b a λo d=>c o (e b o d),λb o a c=>h.cel b o a λd=>c (e b o d),λb o a c=>h.fro b o a λd=>c (e b o d)⟩
theorem aS.wk{P:Program}{f:Nat}{sh:Bool}{c u:List C}{A B:List MA}{k:Kd}{rcs:List C}(h:aS P f sh A (.ptr c::B) k rcs)(y:LF c u):aS P f sh A (.ptr u::B) k rcs:=by
 refine⟨h.has,λw S V i E F l G=>(h.run w S V i E F l G).mono λe w1 H=>?_⟩;obtain⟨v,J,K,X,L,M,N,n,p,a,q,r,b,O,Q,D⟩:=H;refine⟨v,J,K,X,L,M,N,n,p,a,q,r,b,O,Q,?_⟩;cases i with
 | nil=>exact D.elim
 | cons v0 i=>
  obtain⟨⟨R,Y,T,U,W,⟨g,o,Z,e2⟩,d⟩,t⟩:=D;refine⟨⟨R,Y,T,U,W,⟨g,o,Z,λj hj=>e2 j (by rw[(rW y).1];exact hj)⟩,B9 y d⟩,t⟩
theorem aS.frame{P:Program}{f:Nat}{sh:Bool}{c c' r:List C}{A B:List MA}{k:Kd}{rcs:List C}(h:aS P f sh (.ptr c::A) (.ptr c'::B) k rcs)(hl:c'.length=c.length):aS P f sh (.ptr (c++r)::A) (.ptr (c'++r)::B) k rcs:=by
 refine⟨h.has,λw S V vs hS hV hVd hA=>?_⟩;cases vs with
 | nil=>exact hA.elim
 | cons v0 vs=>
 obtain⟨⟨X1,Y,hX1,hY,O,⟨g,q,rfl,u⟩,ff,hf1,J,hf3⟩,hA'⟩:=hA;have hlen:(c++r).length=c.length+r.length:=z3
 let V0:af:=piece g q ff 0 c.length
 let W:Nat->af:=Ls V0 (λi=>V (i+1))
 have hcX:∀o,q<=o->o<q+(c++r).length->X1 g o:=λo l a=>by
  have:=(u (o - q) ω).1
  rwa [show q+(o - q)=o by omega]at this
 have hV0:∀b o,V0 b o->V 0 b o:=λb o p=>by
  rcases p with⟨rfl,l,a⟩|⟨j,-,a,Q⟩
  ·exact hX1 _ _ (hcX o ω ω)
  exact hY _ _ (J j ω b o Q)
 have K:∀i b o,W i b o->V i b o:=λi b o p=>by
  cases i with
  | zero=>exact hV0 b o p
  | succ i=>exact p
 have hA2:MM w S W (.ptr c::A) (.pointer (some ⟨g,q,none⟩)::vs):=by
  refine⟨?_,hA'⟩;have:=tI (lo:=0) (n:=c.length) (cs:=c++r) ω u hf1 J hf3 O;rw[show bu (c++r) 0 c.length=c by simp[bu]]at this;simp only[X5,Nat.add_zero]at this;exact this
 refine(h.run w S W _ hS (λi b o p=>hV i b o (K i b o p)) (λi i' D b o l a=>hVd i i' D b o (K i b o l) (K i' b o a)) hA2).mono λe w1 hv=>?_
 obtain⟨v,he,hk,X,V',S1,hX,E,hS1,hVd',hXV,hXS,hVS1,hh,hr,hm⟩:=hv;have H:∀b o,(∃i,W i b o)->∃i,V i b o:=λb o ⟨i,Z⟩=>⟨i,K i b o Z⟩
 let R:af:=λb o=>V 0 b o/\¬V0 b o
 have hRW:∀b o,R b o->¬∃i,W i b o:=λb o y ⟨i,Z⟩=>by
  cases i with
  | zero=>exact y.2 Z
  | succ i=>exact hVd 0 (i+1) ω b o y.1 Z
 have F:∀b o,R b o->b<w.heap.size:=λb o y=>(hV 0 b o y.1).1
 have t:∀b o,R b o->¬((∃i,W i b o)\/(b<w1.heap.size/\w.heap.size<=b)):=λb o y p=>by
  rcases p with p|p
  ·exact hRW b o y p
  have:=F b o y;omega
 have hRsame:bn R w w1:=λb o y=>⟨hk.cel b o (F b o y) (hRW b o y),hk.fro b o (F b o y) (hRW b o y)⟩
 have hRS1:∀b o,R b o->¬S1 b o:=λb o y hs=>by
  rcases hS1 b o hs with⟨-,l⟩|l
  ·exact(hV 0 b o y.1).2 l
  exact t b o y l
 have hSsame:bn S w w1:=λb o hb=>⟨hk.cel b o (hS b o hb) (λ⟨i,Z⟩=>(hV i b o (K i b o Z)).2 hb),hk.fro b o (hS b o hb) (λ⟨i,Z⟩=>(hV i b o (K i b o Z)).2 hb)⟩
 have hRc:∀j,c.length<=j->j<(c++r).length->R g (q+j):=λj l a=>by
  refine⟨hX1 _ _ (u j a).1,λp=>?_⟩;rcases p with⟨-,Q,h4⟩|⟨N,Q,h4,h5⟩
  ·omega
  exact O _ _ (u j a).1 (J N ω _ _ h5)
 have L:∀j,c.length<=j->j<(c++r).length->∀b o,ff j b o->R b o:=λj l a b o p=>by
  refine⟨hY _ _ (J j a b o p),λhp=>?_⟩;rcases hp with⟨rfl,Q,h4⟩|⟨N,Q,h4,h5⟩
  ·exact O _ _ (hcX o ω ω) (J j a _ _ p)
  exact hf3 j N a ω ω b o p h5
 let U:Nat->af:=Ls (λb o=>V' 0 b o\/R b o) (λi=>V' (i+1))
 have hU:∀i b o,U i b o->V' i b o\/(i=0/\R b o):=λi b o p=>by
  cases i with
  | zero=>exact p.imp id (λh=>⟨rfl,h⟩)
  | succ i=>exact .inl p
 refine⟨v,he,hk.more H,X,U,S1,λb o p=>(hX b o p).imp (H b o) id,λi b o p=>?_,λb o p=>(hS1 b o p).imp id (Or.imp (H b o) id),λi i' D b o l a=>?_,λi b o l a=>?_,hXS,λi b o l a=>?_,hh,hr,?_,hm.2⟩
 ·rcases hU i b o p with l|⟨-,l⟩
  ·exact(E i b o l).imp (H b o) id
  exact .inl ⟨0,l.1⟩
 ·rcases hU i b o l with l|⟨e1,l⟩
  ·rcases hU i' b o a with a|⟨e2,a⟩
   ·exact hVd' i i' D b o l a
   exact t b o a (E i b o l)
  rcases hU i' b o a with a|⟨e2,a⟩
  ·exact t b o l (E i' b o a)
  exact D ω
 ·rcases hU i b o a with a|⟨-,a⟩
  ·exact hXV i b o l a
  exact t b o a (hX b o l)
 ·rcases hU i b o l with l|⟨-,l⟩
  ·exact hVS1 i b o l a
  exact hRS1 b o l a
 obtain⟨Xa,Ya,ha1,ha2,ha3,⟨ga,oa,hea,ha4⟩,fa,ha5,ha6,ha7⟩:=(show pR w1 (λb o=>S b o\/S1 b o) (V' 0) (.ptr c') (.pointer (some ⟨g,q,none⟩)) from hm.1)
 obtain⟨rfl,rfl⟩ : g=ga/\q=oa:=by simpa using hea
 have G:(c'++r).length=c.length+r.length:=by rw[z3,hl]
 show pR w1 (λb o=>S b o\/S1 b o) (λb o=>V' 0 b o\/R b o) (.ptr (c'++r)) (.pointer (some ⟨g,q,none⟩));have faV:∀j,j<c.length->∀b o,fa j b o->V' 0 b o:=λj M b o p=>ha2 _ _ (ha6 j ω b o p)
 refine⟨λb o=>Xa b o\/(R b o/\∃j,c.length<=j/\j<(c++r).length/\b=g/\o=q+j),λb o=>Ya b o\/∃j,c.length<=j/\j<(c++r).length/\ff j b o,λb o p=>?_,λb o p=>?_,λb o l a=>?_,⟨g,q,rfl,λj M=>?_⟩,λj=>if j<c.length then fa j else ff j,λj d M=>?_,λj M b o p=>?_,λj N M hj' D b o l a=>?_⟩
 ·exact p.imp (ha1 b o) (·.1)
 ·rcases p with p|⟨j,l,a,Q⟩
  ·exact .inl (ha2 b o p)
  exact .inr (L j l a b o Q)
 ·rcases l with l|⟨l,j,j1,j2,rfl,rfl⟩
  ·rcases a with a|⟨j,j1,j2,j3⟩
   ·exact ha3 b o l a
   exact t b o (L j j1 j2 b o j3) (E 0 b o (ha1 b o l))
  rcases a with a|⟨N,j3,j4,j5⟩
  ·exact t _ _ l (E 0 _ _ (ha2 _ _ a))
  exact O _ _ (u j j2).1 (J N j4 _ _ j5)
 ·rw[G]at M
  by_cases hc:j<c.length
  ·have:=ha4 j ω
   exact⟨.inl this.1,this.2⟩
  have y:=hRc j ω ω;have hs:=hRsame _ _ y;have T:=u j ω;refine⟨.inr ⟨y,j,ω,ω,rfl,rfl⟩,?_,?_⟩
  ·rw[hs.1];exact T.2.1
  rw[hs.2];exact T.2.2
 ·dsimp only
  by_cases hc:j<c.length
  ·rw[C9 hc]
   rw[z4 ω]at M;exact ha5 j d M
  rw[C8 hc];rw[C4 ω,hl]at M;have hj2:(c++r)[j]? = some d:=by rw[C4 ω];exact M
  have hjl:=(C2.1 hj2).1;have Q:=(hf1 j d hj2).keep hSsame (λb o p=>hRsame b o (L j ω hjl b o p));have T:=(hRsame _ _ (hRc j ω hjl)).1;have:cg w1 .box (.pointer (some ⟨g,q,none⟩)) j=cg w .box (.pointer (some ⟨g,q,none⟩)) j:=by
   simp only[cg];rw[T]
  rw[this];exact Q.mono (λ_ _ h=>.inl h) (λ_ _ h=>h)
 ·rw[G]at M
  split at p
  ·rename_i hc;exact .inl (ha6 j ω b o p)
  exact .inr ⟨j,ω,ω,p⟩
 rw[G]at M hj';split at l
 ·rename_i c1
  split at a
  ·exact ha7 j N ω ω D b o l a
  exact t b o (L N ω ω b o a) (E 0 b o (faV j c1 b o l))
 split at a
 ·rename_i c1;exact t b o (L j ω ω b o l) (E 0 b o (faV N c1 b o a))
 exact hf3 j N ω ω D b o l a
mutual
theorem Q0:∀c:C,fz (fz c)=fz c
 | .v x=>by simp[fz]
 | .s o rows=>by simp only[fz];rw[Hj rows]
 | .x=>by simp[fz]
 | .z=>by simp[fz]
 | .m _=>by simp[fz]
 | .it _ _=>by simp[fz]
theorem Hj:∀a:List (List C),fzR (fzR a)=fzR a
 | []=>rfl
 | r::a=>by simp only[fzR];rw[rV r,Hj a]
theorem rV:∀cs:List C,ef (ef cs)=ef cs
 | []=>rfl
 | c::cs=>by simp only[ef];rw[Q0 c,rV cs]
end
theorem mP(k:ah)(a:a8 k=true)(e:k.Calls≠100000):aS Tryz.prog 487 false [.ptr (ah.enc .own k)] [.ptr (ah.enc .own (bZ k))] .one [B (!refd k)]:=by
 have b:=bP a;have c:=(aE.1 a).2.2.2.2;have d:=DQ k.y k.Calls (by have:=b.2;omega);refine fM 22 [] [(2,9,[11,12,13,14,15,16,17,18,19])] [(0,0)] Tryz.func487 rfl (λu q=>?_)
 repeat'(first|refine gO ?_|(conv=>whnf);first|refine CH (d) ⟨⟨rfl,dZ _⟩,⟨rfl,W0 (λz=>[I z]) ω⟩,trivial⟩ ?_)
 refine CG rfl ?_ ?_
 ·rfl
 exact wB
theorem nS(k:ah)(p m:Int)(a:a8 k=true)(j:k.Calls≠100000)(d:(ac k.F.R p).e≠0)(l:m=1\/m=2):aS Tryz.prog 585 false [.ptr (ah.enc .own k),.val none [I p],.val none [I m]] [.ptr (ah.enc .own (jA k p m).1),.val none [I p],.val none [I m]] .one [B (jA k p m).2]:=by
 have n:=bP a;have b:=mP k a j;have g:=eU (bZ k) p n.1.2;have c:=aH m 1 2;rw[O0 ω]at c;obtain⟨o,t,w,-⟩:=ce a d;have h:=ao (xs:=k.F.R.J) (i:=p.toNat) ω;have r:¬(ac (bZ k).F.R p).e=0:=d;unfold jA;cases e:refd k<;>rw[e]at b
 ·rw[C8 (by simp),HW]
  refine fM 31 [(487,[2])] [] [(0,0),(0,0),(0,0)] Tryz.func585 rfl (λu q=>?_)
  repeat'(first|refine gA ?_|(conv=>whnf);first|refine CK (b) (.inl rfl) ?_|refine CH (g) ⟨CR (bZ k),⟨rfl,rfl⟩,trivial⟩ ?_|refine C7 (c) ?_|refine CN o (aa h) ?_|refine CP rfl rfl (aa h) rfl (C1 rfl) rfl ?_)
  refine CG rfl ?_ ?_
  ·rfl
  exact wB
 rw[C9 rfl];refine fM 31 [(487,[2])] [] [(0,0),(0,0),(0,0)] Tryz.func585 rfl (λu q=>?_)
 repeat'(first|refine gA ?_|(conv=>whnf);first|refine CK (b) (.inl rfl) ?_|refine CH (g) ⟨CR (bZ k),⟨rfl,rfl⟩,trivial⟩ ?_|refine C7 (c) ?_)
 refine CG rfl ?_ ?_
 ·rfl
 exact wB
theorem Rw.two{c:List C}{off i k j d e b:Nat}{K:List C->Nat->Prop}{o f:dI}{rows rows2:List (List C)}{r a:List C}(h1:c[off]? = some (.s o rows))(g:rows[i]? = some r)(h:r.length=k)(l:r[j]? = some (.s f rows2))(n:rows2[d]? = some a)(p:a.length=e)(q:K a b):Rw c off [(i,k,j),(d,e,b)] K:=
 Rw.mk (r:=a) (j:=b) (by simp[cb,h1,g,h,l,n,p]) q
theorem yD(k:ah)(a b c:Int)(h:a8 k=true)(F:(ac k.F.R a).e≠0)(G:(ac k.F.R b).e≠0)(g:0<=c/\c<=15):aS Tryz.prog 586 false [.ptr (ah.enc .own k),.val none [I a],.val none [I b],.val none (aG .V [c])] [.ptr (ah.enc .own (ri k a b c)),.val none [I a],.val none [I b],.val none (aG .V [c])] .one [B true]:=by
 have w:=bP h;have H:=eU k a w.1.2;have J:=eU k b w.1.2;have y:=aH c 0 15;rw[O0 g]at y;obtain⟨K,O,L,C,P⟩:=ce h F;obtain⟨M,Q,D,E,R⟩:=ce h G;have N:=(aX.1 (aE.1 h).2.1).2.2.1;have S:=row16 h (f:=bF k a) (by unfold bF;omega);have T:=row16 h (f:=bF k b) (by unfold bF;omega);have d:k.F.W.T[(ac k.F.R a).j.toNat]? = some (nth k.F.W.T (bF k a)):=ao ω;have e:k.F.W.T[(ac k.F.R b).j.toNat]? = some (nth k.F.W.T (bF k b)):=ao ω;have l:=ao (xs:=nth k.F.W.T (bF k a)) (i:=c.toNat) ω;have o:=ao (xs:=nth k.F.W.T (bF k b)) (i:=c.toNat) ω;have p:=ao (xs:=k.F.R.J) (i:=a.toNat) ω;have r:=ao (xs:=k.F.R.J) (i:=b.toNat) ω;rw[L]at C d;rw[D]at E e;have t:[c][0]? = some c:=rfl;refine fM 90 [] [(13,28,[61,62,63,64,65,66,67,68,69,70,71,72,73,74,75,76,77,78,79,80,81,82,83,84,85,86,87,88])] [(0,0),(0,0),(0,0),(0,0)] Tryz.func586 rfl (λu q=>?_)
 repeat'(first|refine gA ?_|(conv=>whnf);first|refine CB ?_|refine CH (H) ⟨CR k,⟨rfl,rfl⟩,trivial⟩ ?_|refine CH (J) ⟨CR k,⟨rfl,rfl⟩,trivial⟩ ?_)
 (conv=>whnf)
 refine CF (ι:=Nat) (λn=>[(0,.H .box (ah.enc .own k)),(1,.H .one [I (a)]),(2,.H .one [I (b)]),(3,.H .one (aG .V [c])),(9,.H .one [I ((n:Nat):Int)])]) (λn=>n<=1) (λn=>1 - n) (0) ?_ (U0 _) λn U=>?_
 ·exact wB
 by_cases V:n<1
 ·obtain rfl:n=0:=ω
  repeat'(first|refine gD ?_|(conv=>whnf);first|refine CB ?_|refine CN (by decide) (aa t) ?_|refine C7 (y) ?_)
  ((conv=>whnf);refine CE 1 ω ω ?_;(exact wB))
 obtain rfl:n=1:=ω
 repeat'(first|refine gD ?_|(conv=>whnf);first|refine CB ?_|refine CN K (aa p) ?_|refine CN M (aa r) ?_|refine CJ rfl (aa p) rfl ?_|refine CJ rfl (aa r) rfl ?_)
 (conv=>whnf)
 refine CF (ι:=Nat) (λj=>[(0,.H .box (ah.enc .own (P7 k a b c j))),(3,.H .one (aG .V [c])),(10,.H .one [I ((nth k.F.R.J a.toNat).j)]),(11,.H .one [I ((nth k.F.R.J b.toNat).j)]),(12,.H .one [I ((j:Nat):Int)])]) (λj=>j<=1) (λj=>1 - j) (0) ?_ (U0 _) λj W=>?_
 ·exact wB
 by_cases X:j<1
 ·obtain rfl:j=0:=ω
  repeat'(first|refine gD ?_|(conv=>whnf);first|refine CB ?_|refine CN (by decide) (aa t) ?_|refine CN C (aa d) ?_|refine CN E (aa e) ?_|refine CN g.1 (aa l) ?_|refine CN g.1 (aa o) ?_|refine CJ rfl (aa e) rfl ?_|refine CJ rfl (aa d) rfl ?_|refine Rw.two rfl (aa d) rfl rfl (aa l) rfl ?_|refine Pu.two rfl rfl (aa e) rfl rfl rfl (aa o) rfl (X2 _) rfl ?_)
  ((conv=>whnf);refine CE 1 ω ω ?_)
  rw[show P7 k a b c 1=ri k a b c from rfl];unfold ri;rw[Ep,show bF k b=(nth k.F.R.J b.toNat).j.toNat by unfold bF;rw[D]];exact wB
 obtain rfl:j=1:=ω
 repeat'(first|refine gD ?_|(conv=>whnf);first|refine CB ?_)
 refine CG rfl ?_ ?_
 ·rfl
 exact wB
theorem F9(k:ah)(p o:Int)(a:a8 k=true)(y:k.Calls≠100000)(g:(ac k.F.R p).e≠0)(h:(ac k.F.R o).e≠0)(C:p≠o):aS Tryz.prog 587 false [.ptr (ah.enc .own k),.val none [I p],.val none [I o]] [.ptr (ah.enc .own (vc k p o).1),.val none [I p],.val none [I o]] .one [B (vc k p o).2]:=by
 have b:=bP a;have c:=mP k a y;have j:=eU (bZ k) p b.1.2;have l:=eU (bZ k) o b.1.2;obtain⟨D,K,E,n,r⟩:=ce a g;obtain⟨F,L,M,N,O⟩:=ce a h;have G:=(aX.1 (aE.1 a).2.1).2.2.1;have d:=ao (xs:=k.F.R.J) (i:=p.toNat) ω;have t:=ao (xs:=k.F.R.J) (i:=o.toNat) ω;have H:¬(ac (bZ k).F.R p).e=0:=g;have J:¬(ac (bZ k).F.R o).e=0:=h;rw[E]at n r;have w:=Bm (vh (bZ k) p.toNat ⟨2,(nth k.F.R.J o.toNat).j⟩) (nth k.F.R.J p.toNat).j (MK _ _ b.1.2) ⟨n,by show _<((k.F.W.T.length:Nat):Int);omega,r⟩;rw[M9]at w;unfold vc;cases e:refd k<;>rw[e]at c
 ·rw[C8 (by simp)]
  refine fM 60 [(487,[2]),(489,[2,0])] [(4,274,[38,39,40,41,42,43,44,45,46,47,48,49,50,51,52,53,54,56,0,1,2,3,4,5,6,7,8,9,10,11,12,13,14,15,16,17,1000,1001,1002,1003,1004,1005,1006,18,19])] [(0,0),(0,0),(0,0)] Tryz.func587 rfl (λu q=>?_)
  repeat'(first|refine gA ?_|(conv=>whnf);first|refine CB ?_|refine CK (c) (.inl rfl) ?_|refine CH (j) ⟨CR (bZ k),⟨rfl,rfl⟩,trivial⟩ ?_|refine CH (l) ⟨CR (bZ k),⟨rfl,rfl⟩,trivial⟩ ?_|refine CN D (aa d) ?_|refine CN F (aa t) ?_|refine CJ rfl (aa d) rfl ?_|refine CJ rfl (aa t) rfl ?_|refine CP rfl rfl (aa d) rfl (C1 rfl) rfl ?_|refine CK (w) (.inl rfl) ?_)
  refine CG rfl ?_ ?_
  ·rfl
  exact wB
 rw[C9 rfl];refine fM 60 [(487,[2]),(489,[2,0])] [(4,274,[38,39,40,41,42,43,44,45,46,47,48,49,50,51,52,53,54,56,0,1,2,3,4,5,6,7,8,9,10,11,12,13,14,15,16,17,1000,1001,1002,1003,1004,1005,1006,18,19])] [(0,0),(0,0),(0,0)] Tryz.func587 rfl (λu q=>?_)
 repeat'(first|refine gA ?_|(conv=>whnf);first|refine CB ?_|refine CK (c) (.inl rfl) ?_|refine CH (j) ⟨CR (bZ k),⟨rfl,rfl⟩,trivial⟩ ?_|refine CH (l) ⟨CR (bZ k),⟨rfl,rfl⟩,trivial⟩ ?_)
 refine CG rfl ?_ ?_
 ·rfl
 exact wB
theorem ye(m:aU)(a:Int)(d:aU.sml m)(c:0<=a/\a<512):ar Tryz.prog 591 false [.val (some 3) (aU.enc .V m),.val none [I a]] (.tup [some 2,none]) (bi.enc .own (ac m.R (a / 16))++[I (a % 16)]):=by
 have e:=dl m.R (a / 16) d.2;have b:a.tmod 16=a % 16:=gw c.1;refine fO 16 [] Tryz.func591 rfl ?_ (.inr ⟨trivial,trivial,trivial,trivial⟩)
 repeat'(first|refine gD ?_|(conv=>whnf);first|refine CB ?_|refine C7 (e) ?_|refine CM (qp c) ?_|refine CO (by decide) ?_|refine CU b ?_)
 rfl
theorem Gm(m:aU)(a v:Int)(o:dz m=true)(e:aU.sml m)(p:0<=a/\a<512)(q:0<=v/\v<=999)(r:(ac m.R (a / 16)).e≠0->0<=(ac m.R (a / 16)).j/\(ac m.R (a / 16)).j<m.W.T.length/\(nth m.W.T (ac m.R (a / 16)).j.toNat).length=16):ar Tryz.prog 590 false [.val (some 3) (aU.enc .V m),.val none [I a],.val none [I v]] (.tup [some 3,none]) (aU.enc .own (iV m a v).1++[I (iV m a v).2]):=by
 have c:=ot m e;rw[o]at c;have g:=sB m e;have h:=ye m a e p;have d:=aH v 0 999;rw[O0 q]at d;have b:=aU.enc_fr (iV m a v).1;unfold iV at b |-;by_cases j:(ac m.R (a / 16)).e=0
 ·rw[C9 j]at b |-
  refine fO 47 [] Tryz.func590 rfl ?_ (.inr (bf b ⟨trivial,trivial⟩))
  repeat'(first|refine gA ?_|(conv=>whnf);first|refine CB ?_|refine C7 (c) ?_|refine C7 (g) ?_|refine C7 (h) ?_|refine C7 (d) ?_)
  rfl
 rw[C8 j]at b |-;by_cases l:(ac m.R (a / 16)).e=1
 ·rw[C9 l]at b |-
  refine fO 47 [] Tryz.func590 rfl ?_ (.inr (bf b ⟨trivial,trivial⟩))
  repeat'(first|refine gA ?_|(conv=>whnf);first|refine CB ?_|refine C7 (c) ?_|refine C7 (g) ?_|refine C7 (h) ?_|refine C7 (d) ?_)
  rfl
 rw[C8 l]at b |-;obtain⟨t,u,w⟩:=r j;have k:=ao (xs:=m.W.T) (i:=(ac m.R (a / 16)).j.toNat) ω;have n:=ao (xs:=nth m.W.T (ac m.R (a / 16)).j.toNat) (i:=(a % 16).toNat) ω;simp only at b |-;rw[Ge]at b |-;refine fO 47 [] Tryz.func590 rfl ?_ (.inr (bf b ⟨trivial,trivial⟩))
 repeat'(first|refine gA ?_|(conv=>whnf);first|refine CB ?_|refine C7 (c) ?_|refine C7 (g) ?_|refine C7 (h) ?_|refine C7 (d) ?_|refine CN t (aa k) ?_|refine CN ω (aa n) ?_|refine CJ rfl (aa k) rfl ?_|refine Pu.two rfl rfl (aa k) rfl rfl rfl (aa n) rfl (X2 _) rfl ?_)
 rfl
theorem m8{k:ah}{j:cM} : jmay k j=true↔(a8 k=true/\k.Calls≠100000)/\jH j=true/\(ac k.F.R j.X.a3).e≠0/\(ac k.F.R j.X.a1).e≠0/\(ac k.F.R j.X.a3).j≠(ac k.F.R j.X.a1).j:=by
 unfold jmay;simp only[I0,C0]
theorem mD{p:cP}(h:eH p=true):p.T.length<=16:=by
 unfold eH at h;simp only[I0]at h;have a:∀i,i<p.T.length->(i:Int)<=nth p.T i:=λi=>by
  induction i with
  | zero=>
   intro a;have:=dL h.1 a;unfold lY at this;rw[C0]at this;exact this.1
  | succ i b=>
   intro a;have c:=b ω;have:=dL h.1 a;unfold lY at this;rw[C0]at this;have d:=this.2.2.resolve_left ω;rw[Nat.add_sub_cancel]at d;omega
 by_cases e:p.T.length<=16
 ·exact e
 exfalso;have c:=a 16 ω;have:=dL h.1 (show 16<p.T.length by omega);unfold lY at this;rw[C0]at this;omega
theorem JA{j:cM}(h:jH j=true):cM.sml j:=by
 have:=mD (dw.1 h).1;show j.X.T.length<=1048576;omega
theorem tV{k:ah}(h:a8 k=true):dz k.F=true:=by
 unfold a8 at h;simp only[I0]at h;exact h.1.2
theorem Av(k:ah)(j:cM)(p:jmay k j=true)(g:j.b2=3):aS Tryz.prog 588 false [.ptr (ah.enc .own k),.ptr (xu j)] [.ptr (ah.enc .own (jstep k j).1),.ptr (xu (jstep k j).2)] (.tup []) []:=by
 obtain⟨⟨a,r⟩,t,c,d,w⟩:=m8.1 p;obtain⟨h,H,J,K,L⟩:=dw.1 t;have y:=bP a;obtain⟨M,N,O,B,P⟩:=ce a c;have l:=(bv.1 (aE.1 a).2.2.1).2.2;have C:=mD h;have D:=(aX.1 (aE.1 a).2.1).2.2.1;unfold jstep;rw[C8 ω,C8 ω,C8 ω,C9 g];by_cases n:0<j.d
 ·rw[C9 n]
  have o:=fW h (i:=(j.d - 1).toNat) ω;have E:=ao (xs:=j.X.T) (i:=(j.d - 1).toNat) ω;have F:0<=j.X.a3*16+nth j.X.T (j.d - 1).toNat/\j.X.a3*16+nth j.X.T (j.d - 1).toNat<512:=ω
  have G:(j.X.a3*16+nth j.X.T (j.d - 1).toNat) / 16=j.X.a3:=ω
  have b:=Gm k.F (j.X.a3*16+nth j.X.T (j.d - 1).toNat) 0 (tV a) y.1 F ω (λ_=>by rw[G];exact⟨B,ω,row16 a (f:=bF k j.X.a3) (by unfold bF;omega)⟩);generalize (iV k.F (j.X.a3*16+nth j.X.T (j.d - 1).toNat) 0).1=m at b |-;generalize (iV k.F (j.X.a3*16+nth j.X.T (j.d - 1).toNat) 0).2=e at b;refine fM 59 [(585,[2,0,0])] [(2,283,[20,21,22,23,24,25,26,27,28,29,30,31,32,33,34,35,36,37,38,39,40,41,42,19,43,44,4,0,1,2,3,4,5,6,7,8,9,10,11,12,13,14,15,16,17,18,19,20,21,22,23,24,25,26,27,1025,28])] [(0,0),(1,0)] Tryz.func588 rfl (λu q=>?_) (.inr trivial)
  repeat'(first|refine gD ?_|(conv=>whnf);first|refine CB ?_|refine CH (b) ⟨⟨rfl,aU.enc_fz k.F⟩,⟨rfl,rfl⟩,⟨rfl,rfl⟩,trivial⟩ ?_|refine CN ω (aa E) ?_|refine CB ?_)
  refine CG rfl rfl ?_;exact wC
 rw[C8 n];have b:=nS k j.X.a1 2 a r d (.inr rfl);cases e:(jA k j.X.a1 2).2<;>rw[e]at b
 ·refine fM 59 [(585,[2,0,0])] [(2,283,[20,21,22,23,24,25,26,27,28,29,30,31,32,33,34,35,36,37,38,39,40,41,42,19,43,44,4,0,1,2,3,4,5,6,7,8,9,10,11,12,13,14,15,16,17,18,19,20,21,22,23,24,25,26,27,1025,28])] [(0,0),(1,0)] Tryz.func588 rfl (λu q=>?_) (.inr trivial)
  repeat'(first|refine gD ?_|(conv=>whnf);first|refine CB ?_|refine CK (b) (.inl rfl) ?_)
  refine CG rfl rfl ?_;rw[<-g];exact wC
 refine fM 59 [(585,[2,0,0])] [(2,283,[20,21,22,23,24,25,26,27,28,29,30,31,32,33,34,35,36,37,38,39,40,41,42,19,43,44,4,0,1,2,3,4,5,6,7,8,9,10,11,12,13,14,15,16,17,18,19,20,21,22,23,24,25,26,27,1025,28])] [(0,0),(1,0)] Tryz.func588 rfl (λu q=>?_) (.inr trivial)
 repeat'(first|refine gD ?_|(conv=>whnf);first|refine CB ?_|refine CK (b) (.inl rfl) ?_)
 refine CG rfl rfl ?_;exact wC
theorem AI(k:ah)(j:cM)(g:jmay k j=true):aS Tryz.prog 572 false [.ptr (ah.enc .own k),.ptr (xu j)] [.ptr (ah.enc .own (jstep k j).1),.ptr (xu (jstep k j).2)] (.tup []) []:=by
 obtain⟨⟨h,p⟩,B,c,b,l⟩:=m8.1 g;obtain⟨r,F,G,H,J⟩:=dw.1 B;have n:j.X.a1≠j.X.a3:=λe=>l (by rw[e])
 have C:=mD r;by_cases d:j.b2=0
 ·have a:=nS k j.X.a1 1 h p b (.inl rfl)
  unfold jstep;rw[C9 d];cases e:(jA k j.X.a1 1).2<;>rw[e]at a
  ·refine fM 80 [(585,[2,0,0]),(586,[2,0,0,0]),(587,[2,0,0]),(588,[2,2])] [(7,7,[27,28,29,30,31,32,33]),(9,14,[38,39,40,41,42,43,44,45,46,47,48,49,50,51])] [(0,0),(1,0)] Tryz.func572 rfl (λu q=>?_) (.inr trivial)
   repeat'(first|refine gA ?_|(conv=>whnf);first|refine CB ?_|refine CK (a) (.inl rfl) ?_)
   refine CG rfl rfl ?_;exact wC
  refine fM 80 [(585,[2,0,0]),(586,[2,0,0,0]),(587,[2,0,0]),(588,[2,2])] [(7,7,[27,28,29,30,31,32,33]),(9,14,[38,39,40,41,42,43,44,45,46,47,48,49,50,51])] [(0,0),(1,0)] Tryz.func572 rfl (λu q=>?_) (.inr trivial)
  repeat'(first|refine gA ?_|(conv=>whnf);first|refine CB ?_|refine CK (a) (.inl rfl) ?_)
  refine CG rfl rfl ?_;exact wC
 by_cases o:j.b2=1
 ·unfold jstep
  rw[C8 d,C9 o];by_cases t:j.d=j.X.T.length
  ·rw[C9 t]
   refine fM 80 [(585,[2,0,0]),(586,[2,0,0,0]),(587,[2,0,0]),(588,[2,2])] [(7,7,[27,28,29,30,31,32,33]),(9,14,[38,39,40,41,42,43,44,45,46,47,48,49,50,51])] [(0,0),(1,0)] Tryz.func572 rfl (λu q=>?_) (.inr trivial)
   repeat'(first|refine gA ?_|(conv=>whnf);first|refine CB ?_|refine CB ?_)
   refine CG rfl rfl ?_;exact wC
  rw[C8 t];have D:=ao (xs:=j.X.T) (i:=j.d.toNat) ω;have a:=yD k j.X.a1 j.X.a3 (nth j.X.T j.d.toNat) h b c (fW r ω);have E:=(m8.1 g).2.1;refine fM 80 [(585,[2,0,0]),(586,[2,0,0,0]),(587,[2,0,0]),(588,[2,2])] [(7,7,[27,28,29,30,31,32,33]),(9,14,[38,39,40,41,42,43,44,45,46,47,48,49,50,51])] [(0,0),(1,0)] Tryz.func572 rfl (λu q=>?_) (.inr trivial)
  repeat'(first|refine gA ?_|(conv=>whnf);first|refine CB ?_|refine CK a (.inr ⟨rfl,ah.enc_fr _,trivial⟩) ?_|refine CN ω (aa D) ?_|refine CB ?_)
  refine CG rfl rfl ?_;exact wC
 by_cases w:j.b2=2
 ·have a:=F9 k j.X.a1 j.X.a3 h p b c n
  unfold jstep;rw[C8 d,C8 o,C9 w];cases e:(vc k j.X.a1 j.X.a3).2<;>rw[e]at a
  ·refine fM 80 [(585,[2,0,0]),(586,[2,0,0,0]),(587,[2,0,0]),(588,[2,2])] [(7,7,[27,28,29,30,31,32,33]),(9,14,[38,39,40,41,42,43,44,45,46,47,48,49,50,51])] [(0,0),(1,0)] Tryz.func572 rfl (λu q=>?_) (.inr trivial)
   repeat'(first|refine gA ?_|(conv=>whnf);first|refine CB ?_|refine CK (a) (.inl rfl) ?_)
   refine CG rfl rfl ?_;exact wC
  refine fM 80 [(585,[2,0,0]),(586,[2,0,0,0]),(587,[2,0,0]),(588,[2,2])] [(7,7,[27,28,29,30,31,32,33]),(9,14,[38,39,40,41,42,43,44,45,46,47,48,49,50,51])] [(0,0),(1,0)] Tryz.func572 rfl (λu q=>?_) (.inr trivial)
  repeat'(first|refine gA ?_|(conv=>whnf);first|refine CB ?_|refine CK (a) (.inl rfl) ?_)
  refine CG rfl rfl ?_;exact wC
 by_cases y:j.b2=3
 ·have a:=Av k j g y
  refine fM 80 [(585,[2,0,0]),(586,[2,0,0,0]),(587,[2,0,0]),(588,[2,2])] [(7,7,[27,28,29,30,31,32,33]),(9,14,[38,39,40,41,42,43,44,45,46,47,48,49,50,51])] [(0,0),(1,0)] Tryz.func572 rfl (λu q=>?_) (.inr trivial)
  repeat'(first|refine gA ?_|(conv=>whnf);first|refine CB ?_|refine CK (a) (.inl rfl) ?_)
  refine CG rfl rfl ?_;exact wC
 unfold jstep;rw[C8 d,C8 o,C8 w,C8 y];refine fM 80 [(585,[2,0,0]),(586,[2,0,0,0]),(587,[2,0,0]),(588,[2,2])] [(7,7,[27,28,29,30,31,32,33]),(9,14,[38,39,40,41,42,43,44,45,46,47,48,49,50,51])] [(0,0),(1,0)] Tryz.func572 rfl (λu q=>?_) (.inr trivial)
 repeat'(first|refine gA ?_|(conv=>whnf);first|refine CB ?_)
 refine CG rfl rfl ?_;exact wC
theorem DH(k:ah)(j:cM)(e:a8 k=true)(i:jH j=true):ar Tryz.prog 571 false [.val (some 5) (ah.enc .V k),.val (some 5) (cM.enc .V j)] .one [B (jmay k j)]:=by
 have c:=bP e;have b:ef (ah.enc .V k)=ah.enc .V k:=by rw[<-CR k,rV]
 have r:=(aE.1 e).2.2.2.2;have a:=lP k c;rw[e]at a;have d:=xi j (JA i);rw[i]at d;have l:=eU k j.X.a3 c.1.2;have n:=eU k j.X.a1 c.1.2;have t:=dl k.F.R j.X.a3 c.1.2;have u:=dl k.F.R j.X.a1 c.1.2;by_cases o:k.Calls=100000
 ·rw[T0 ω]at a
  rw[show jmay k j=false by rw[<-X4,m8];exact λh=>h.1.2 o];refine fO 44 [(3,16,[27,28,29,30,31,32,33,34,35,36,37,38,39,40,41,42])] Tryz.func571 rfl ?_
  repeat'(first|refine gO ?_|(conv=>whnf);first|refine CB ?_|refine C7 (a) ?_|refine C7 (d) ?_)
  rfl
 rw[O0 ω]at a;by_cases p:(ac k.F.R j.X.a3).e=0
 ·rw[show jmay k j=false by rw[<-X4,m8];exact λh=>h.2.2.1 p]
  refine fO 44 [(3,16,[27,28,29,30,31,32,33,34,35,36,37,38,39,40,41,42])] Tryz.func571 rfl ?_
  repeat'(first|refine gA ?_|(conv=>whnf);first|refine CB ?_|refine C7 (a) ?_|refine C7 (d) ?_|refine CH (l) ⟨b,⟨rfl,rfl⟩,trivial⟩ ?_|refine CH (n) ⟨b,⟨rfl,rfl⟩,trivial⟩ ?_)
  rfl
 by_cases q:(ac k.F.R j.X.a1).e=0
 ·rw[show jmay k j=false by rw[<-X4,m8];exact λh=>h.2.2.2.1 q]
  refine fO 44 [(3,16,[27,28,29,30,31,32,33,34,35,36,37,38,39,40,41,42])] Tryz.func571 rfl ?_
  repeat'(first|refine gA ?_|(conv=>whnf);first|refine CB ?_|refine C7 (a) ?_|refine C7 (d) ?_|refine CH (l) ⟨b,⟨rfl,rfl⟩,trivial⟩ ?_|refine CH (n) ⟨b,⟨rfl,rfl⟩,trivial⟩ ?_)
  rfl
 refine fO 44 [(3,16,[27,28,29,30,31,32,33,34,35,36,37,38,39,40,41,42])] Tryz.func571 rfl ?_
 repeat'(first|refine gA ?_|(conv=>whnf);first|refine CB ?_|refine C7 (a) ?_|refine C7 (d) ?_|refine CH (l) ⟨b,⟨rfl,rfl⟩,trivial⟩ ?_|refine CH (n) ⟨b,⟨rfl,rfl⟩,trivial⟩ ?_|refine C7 (t) ?_|refine C7 (u) ?_|refine CB ?_)
 exact W0 (λz=>[B z]) (by
   unfold jmay;rw[e,i,O0 o];by_cases g:(ac k.F.R j.X.a3).j=(ac k.F.R j.X.a1).j
   · rw[T0 (λh=>h.2.2 g)];simp[g]
   rw[O0 ⟨p,q,g⟩];simp[g])
theorem AW(j:cM):ar Tryz.prog 573 false [.val (some 5) (cM.enc .V j)] .one [B (over j)]:=by
 by_cases a:j.b2=4
 ·rw[show over j=true from O0 (.inl a)]
  refine fO 11 [] Tryz.func573 rfl ?_
  repeat'(first|refine gA ?_|(conv=>whnf);first|refine CB ?_)
  rfl
 rw[show over j=decide (j.b2=5) from decide_eq_decide.2 ω];refine fO 11 [] Tryz.func573 rfl ?_
 repeat'(first|refine gA ?_|(conv=>whnf);first|refine CB ?_)
 exact W0 (λz=>[B z]) (by rw[O4];simp)
def GI(x:ab):List C:=(bx x).set 21 .z
theorem Eu{x:ab}(h:x.Z.X.T=[]):LF (GI x) (bx x):=by
 unfold GI bx;simp only[List.set,h,List.map_nil]
 repeat'(first|exact trivial|exact eJ _|refine CL ?_ ?_|rfl)
theorem BB(h:ab)(j:aZ h [])(k:h.u=true):aS Tryz.prog 536 false [.ptr (bx h)] [.ptr (bx (mStep h))] .one [B (Ed h)]:=by
 obtain⟨l,-,-⟩:=j.job k;have b:=DH h.G h.Z j.ker l;have a:=AW (gK h.G h.Z).2;unfold Ed mStep;cases e:jmay h.G h.Z with
 | false=>
  rw[e]at b;have d:gK h.G h.Z=(h.G,h.Z):=by unfold gK;rw[e];rfl
  rw[d]at a |-;simp only at a |-;cases g:over h.Z<;>rw[g]at a
  ·refine fM 39 [(572,[3,5,5])] [(1,8,[4,5,6,7,8,9,10,11]),(2,6,[13,14,15,16,17,18])] [(0,0)] Tryz.func536 rfl (λu q=>?_)
   repeat'(first|refine gO ?_|(conv=>whnf);first|refine CH (b) ⟨⟨rfl,CR h.G⟩,⟨rfl,rfl⟩,trivial⟩ ?_|refine C7 (a) ?_|refine CB ?_)
   refine CG rfl ?_ ?_
   ·exact W0 (λz=>[B z]) (by rw[O4];simp)
   exact wC
  refine aS.wk (c:=GI _) ?_ (Eu rfl);refine fM 39 [(572,[3,5,5])] [(1,8,[4,5,6,7,8,9,10,11]),(2,6,[13,14,15,16,17,18])] [(0,0)] Tryz.func536 rfl (λu q=>?_)
  repeat'(first|refine gO ?_|(conv=>whnf);first|refine CH (b) ⟨⟨rfl,CR h.G⟩,⟨rfl,rfl⟩,trivial⟩ ?_|refine C7 (a) ?_|refine CB ?_)
  refine CG rfl ?_ ?_
  ·exact W0 (λz=>[B z]) (by rw[O4];simp)
  exact wC
 | true=>
  rw[e]at b;have d:gK h.G h.Z=jstep h.G h.Z:=by unfold gK;rw[e];rfl
  have i:=AI h.G h.Z e;rw[d]at a |-;generalize jstep h.G h.Z=r at i a |-;cases g:over r.2<;>rw[g]at a
  ·refine fM 39 [(572,[3,5,5])] [(1,8,[4,5,6,7,8,9,10,11]),(2,6,[13,14,15,16,17,18])] [(0,0)] Tryz.func536 rfl (λu q=>?_)
   repeat'(first|refine gO ?_|(conv=>whnf);first|refine CH (b) ⟨⟨rfl,CR h.G⟩,⟨rfl,rfl⟩,trivial⟩ ?_|refine C7 (a) ?_|refine CK (i) (.inl rfl) ?_|refine CB ?_)
   refine CG rfl ?_ ?_
   ·exact W0 (λz=>[B z]) (by rw[O4];simp)
   exact wC
  refine aS.wk (c:=GI _) ?_ (Eu rfl);refine fM 39 [(572,[3,5,5])] [(1,8,[4,5,6,7,8,9,10,11]),(2,6,[13,14,15,16,17,18])] [(0,0)] Tryz.func536 rfl (λu q=>?_)
  repeat'(first|refine gO ?_|(conv=>whnf);first|refine CH (b) ⟨⟨rfl,CR h.G⟩,⟨rfl,rfl⟩,trivial⟩ ?_|refine C7 (a) ?_|refine CK (i) (.inl rfl) ?_|refine CB ?_)
  refine CG rfl ?_ ?_
  ·exact W0 (λz=>[B z]) (by rw[O4];simp)
  exact wC
theorem GK{k:Int} : ∀{l s s2 c:List Int}(n:Nat),(∀x∈s2,x∈s)->rg k s l=some c->∃d,rg k s2 (l.take n)=some d/\∀x∈d,x∈c
 | [],s,s2,c,n,h,e=>by
  simp only[rg,X0,List.take_nil]at e |-;subst e;exact⟨s2,rfl,h⟩
 | a::l,s,s2,c,0,h,e=>⟨s2,rfl,λx b=>(pb (λ_ y=>y) e).1 x (h x b)⟩
 | a::l,s,s2,c,n+1,h,e=>by
  simp only[List.take_succ_cons,rg]at e |-;split at e
  ·rename_i g
   rw[C9 (show good k s2 a from⟨g.1,g.2.1,g.2.2.1,λx=>g.2.2.2 (h a x)⟩)];exact GK (l:=l) (s:=s++[a]) (s2:=s2++[a]) n (λx b=>by
     rcases W2.1 b with b|b
     · exact W2.2 (.inl (h x b))
     exact W2.2 (.inr b)) e
  cases e
theorem Dy:∀{a:List (List Int)}{k:Nat}{s s2:List Int}(i n:Nat),(∀x∈s2,x∈s)->(gk k s a).isSome=true->(gk k s2 (a.set i ((nth a i).take n))).isSome=true
 | [],_,_,_,_,_,_,_=>rfl
 | l::a,k,s,s2,i,n,h,e=>by
  simp only[gk,eM]at e;split at e
  ·rename_i g
   cases b:rg k s l with
   | none=>rw[b]at e;cases e
   | some j=>
    rw[b]at e;cases i with
    | zero=>
     obtain⟨c,d,f⟩:=GK n h b;simp only[List.set_cons_zero,gk,eM];rw[C9 ⟨by have:=g.1;simp only[nth,List.getD_cons_zero,R1];omega,g.2⟩];show((rg (k:Nat) s2 (l.take n)).bind λj=>gk (k+1) j a).isSome=true;rw[d];exact sO f e
    | succ i=>
     obtain⟨o,c,d,f⟩:=pb h b;simp only[List.set_cons_succ,gk,eM];rw[C9 g,d];exact Dy i n f e
  cases e
theorem MS{c:aD}(h:bp c=true)(k:Nat):bp (rT c k)=true:=by
 unfold bp at h |-;simp only[I0,C0]at h |-;exact⟨by simp only[rT,O1];exact h.1,Dy k _ (λ_ h=>h) h.2⟩
def oA(b:Int):Nat->List Int
 | 0=>[]
 | j+1=>if aQ b (j:Nat)=true then oA b j else oA b j++[((j:Nat):Int)]
theorem ta{b:Int} : ∀{n:Nat}{z:Int},z∈oA b n->0<=z/\z<n/\aQ b z=false
 | 0,_,h=>by cases h
 | n+1,z,h=>by
  unfold oA at h;split at h
  ·have:=ta h;exact⟨this.1,ω,this.2.2⟩
  rename_i e;rcases W2.1 h with h|h
  ·have:=ta h;exact⟨this.1,ω,this.2.2⟩
  rw[I1.1 h];exact⟨ω,ω,by simpa using e⟩
theorem sW(b:Int):∀n,(oA b n).length<=n
 | 0=>X2 _
 | n+1=>by have:=sW b n;unfold oA;split<;>simp<;>omega
def qE(k b:Int):List Int:=if KV k b=true then oA b (slots k).toNat else []
def nD(h:ab)(i:Nat):List Int:=qE (nth h.K i).a (hB h i)
theorem xW{k b z:Int}(h:z∈qE k b):0<=z/\z<slots k/\aQ b z=false:=by
 unfold qE at h;split at h
 ·have:=ta h;exact⟨this.1,ω,this.2.2⟩
 cases h
theorem Gp(k b:Int):(qE k b).length<=16:=by
 unfold qE;split
 ·rename_i h
  unfold KV at h;rw[C0]at h;have:=(gz (k:=k) ⟨h.1,h.2.1⟩).2.2.1;have:=sW b (slots k).toNat;omega
 exact U0 _
def pZ(h:ab)(i:Nat):Int:=nth (nD h i) (KD h.c0 ((nD h i).length:Nat)).toNat
def slotT(h:ab)(i:Nat):ab:={h with c0:=H4 h.c0,K:=h.K.set i (qQ (nth h.K i) (pZ h i))}
def uB(h:ab)(i:Nat):Int:=16*(nth h.K i).Q+pZ h i*csz (nth h.K i).a
theorem zM{h:ab}{i:Nat}(a:0<(nD h i).length):pZ h i∈nD h i:=by
 have:=xE h.c0 (n:=((nD h i).length:Nat)) ω;exact am ω
theorem aZ.slotT{h:ab}{E:List Int}{i:Nat}(a:aZ h E)(b:i<h.K.length)(e:0<(nD h i).length):aZ (slotT h i) (uB h i::E)/\jP (slotT h i).K (uB h i) (nth h.K i).a:=by
 obtain⟨c,d,f⟩:=xW (zM e);exact⟨a.take b ⟨c,d⟩ f (FV _),(jP.setS a.L b ⟨c,d⟩ _ _).2 (.inr ⟨rfl,.inr rfl⟩)⟩
def so(h:ab)(c:Int)(i:Nat):Bool:=decide ((nth h.K i).a=c)&&(!fT h (nth h.K i).Q&&decide (0<(nD h i).length))
def sS(h:ab)(c:Int):Option Nat:=(List.range h.K.length).find? (so h c)
def q8(h:ab)(c:Int):ab:=addS h (newK h.G (au h.w 1).2.1).1 (au h.w 1).1 (au h.w 1).2.1 c
def rc(h:ab):Nat:=kB (Gw (au h.w 1).2.1) h.K
def qk(h:ab)(i:Nat):ab × Int:=if(nD h i).length=0 then(h,-1) else(slotT h i,uB h i)
def smallA(h:ab)(t c:Nat):ab × Int:=
 if 0<(nth (nth h.S t).b c).length then({h with S:=h.S.set t (rT (nth h.S t) c)},nth (nth (nth h.S t).b c) ((nth (nth h.S t).b c).length - 1))
 else match sS h c with
 | some i=>(slotT h i,uB h i)
 | none=>if(au h.w 1).2.2=false then(h,-1)
  else if(newK h.G (au h.w 1).2.1).2=false then({h with G:=(newK h.G (au h.w 1).2.1).1},-1)
  else qk (q8 h c) (rc h)
theorem Au{α:Type}[Inhabited α](p:α->Bool)(xs:List α)(y:α):kB p xs<(jf p xs y).length/\nth (jf p xs y) (kB p xs)=y:=by
 have b:=NT p xs;have a:(xs.take (kB p xs)).length=kB p xs:=by rw[R1];omega
 refine⟨by rw[(kL p xs y).length_eq,List.length_cons];omega,bj ?_⟩;unfold jf;rw[C4 ω,a,Nat.sub_self]
 rfl
theorem aZ.tEq{h:ab}{E:List Int}(a:aZ h E){k:ah}(c:a8 k=true)(b:tEq (tbl h) k.F.R):aZ {h with G:=k} E/\JK h {h with G:=k}:=
 ⟨a.step (j:=h.Z) (m:=h.u) c b.1 (a.pg.tEq b) a.job a.noj,⟨rfl,rfl,λs d _=>⟨s,d,rfl,λ_ z=>z⟩,λq e=>.inl ⟨(b.2 q).1.1 e,(b.2 q).2⟩⟩⟩
structure Q3(h:ab)(c:Int)(r:ab × Int):Prop where
 no:r.2<0->aZ r.1 []
 yes:0<=r.2->aZ r.1 [r.2]/\jP r.1.K r.2 c
 jk:JK h r.1
 nx:r.1.d=h.d
 cl:r.1.S.length=h.S.length
theorem jP.nn{h:ab}{E:List Int}(b:aZ h E){a c:Int}(d:jP h.K a c):0<=a:=(jP.bd b d).1
theorem Q3.slot{h h':ab}{i:Nat}{c:Int}(g:aZ h' [])(j:i<h'.K.length)(k:0<(nD h' i).length)(l:(nth h'.K i).a=c)(n:JK h h')(a:fT h' (nth h'.K i).Q=false)(h1:h'.d=h.d)(o:h'.S.length=h.S.length):Q3 h c (slotT h' i,uB h' i):=by
 obtain⟨d,f⟩:=g.slotT j k;have b:=jP.nn d f;exact⟨λe=>absurd b (by simp only at e;omega),λ_=>⟨d,by rw[<-l];exact f⟩,n.trans (JK.take a),h1,o⟩
theorem uj{h:ab}{t c:Nat}(a:aZ h [])(q:t<h.S.length)(P:c<=3)(B:h.G.Calls<=90000):Q3 h c (smallA h t c):=by
 have f:=a.cach _ (am q);have C:=pn f;unfold smallA;split
 ·rename_i D
  obtain⟨d,b⟩:=a.pop q ω D (MS f c);have l:=jP.nn a b;exact⟨λe=>absurd l (by simp only at e;omega),λ_=>⟨d,b⟩,JK.eq rfl rfl rfl rfl,rfl,O1 ..⟩
 split
 ·rename_i i r
  have g:=List.find?_some r;have E:=List.mem_range.1 (List.mem_of_find?_eq_some r);unfold so at g;simp only[I0,C0,Bool.not_eq_true']at g;exact Q3.slot a E g.2.2 g.1 (JK.refl h) g.2.1 rfl rfl
 split
 ·exact⟨λ_=>a,λe=>absurd e (by show ¬(0:Int)<=-1;decide),JK.refl h,rfl,rfl⟩
 rename_i F;have j:(au h.w 1).2.2=true:=by simpa using F
 obtain⟨G,H,J,u⟩:=jr a (T4 1) j;have s:=uT.of (p:=(au h.w 1).2.1) a.ker ω ⟨G,by have:(au h.w 1).2.1+1<=(h.G.F.R.J.length:Nat):=H;omega⟩ (J _ ω ω);split
 ·rename_i n
  rw[s.no n];obtain⟨d,b⟩:=a.tEq (m9 a.ker ω) (tEq.refl _);exact⟨λ_=>d,λe=>absurd e (by show ¬(0:Int)<=-1;decide),b,rfl,rfl⟩
 rename_i n;have o:(newK h.G (au h.w 1).2.1).2=true:=by simpa using n
 have w:uT h.G (au h.w 1).2.1 ((newK h.G (au h.w 1).2.1).1,true):=by rw[<-o];exact s
 have d:=a.addS (c:=c) ⟨ω,ω⟩ j w;have b:JK h (q8 h c):=JK.addS w;obtain⟨K,A⟩:=Au (Gw (au h.w 1).2.1) h.K ⟨(au h.w 1).2.1,c,0⟩;unfold qk;split
 ·exact⟨λ_=>d,λe=>absurd e (by show ¬(0:Int)<=-1;decide),b,rfl,rfl⟩
 refine Q3.slot (h':=q8 h c) (i:=rc h) d K ω (by show(nth (jf (Gw (au h.w 1).2.1) h.K ⟨(au h.w 1).2.1,c,0⟩) (rc h)).a=_;unfold rc;rw[A]) b ?_ rfl rfl;show fT (q8 h c) (nth (jf (Gw (au h.w 1).2.1) h.K ⟨(au h.w 1).2.1,c,0⟩) (rc h)).Q=false;unfold rc;rw[A,b.pg];rw[<-X4];intro k;unfold fT at k;simp only[I0,O5,C0]at k;obtain⟨-,⟨y,L,M⟩,⟨z,N,O⟩⟩:=a.job k.1;rcases k.2 with e|e
 ·exact u _ (T4 _) ω (by rw[e,<-M];exact d7 L)
 exact u _ (T4 _) ω (by rw[e,<-O];exact d7 N)
def gT(size:Int):Nat:=((size+15) / 16).toNat
def dG(h:ab)(size:Int):ah × Nat:=newsK h.G (au h.w (gT size:Nat)).2.1 (gT size)
def largeA(h:ab)(t size:Int):ab × Int × Int:=
 if(au h.w (gT size:Nat)).2.2=false then(h,-1,4)
 else if(dG h size).2=gT size then(addL h (dG h size).1 (au h.w (gT size:Nat)).1 (au h.w (gT size:Nat)).2.1 (gT size:Nat) size t,16*(au h.w (gT size:Nat)).2.1,0)
 else({h with G:=unmN (dG h size).1 (au h.w (gT size:Nat)).2.1 (dG h size).2},-1,4)
def tq(xs:List bz):Nat->Int
 | 0=>0
 | i+1=>tq xs i+(nth xs i).o
def tE(h:ab):Int:=tq h.O h.O.length
def allocH(h:ab)(t size:Int):ab × Int × Int:=
 if 1000000<=h.d\/90000<h.G.Calls then(h,-1,5)
 else if ¬(0<=t/\t<=h.S.length - 1) then(h,-1,1)
 else if ¬(1<=size/\size<=1000) then(h,-1,2)
 else if h.c3<tE h+size then(h,-1,3)
 else if 0<=aJ size then(if(smallA h t.toNat (aJ size).toNat).2<0 then((smallA h t.toNat (aJ size).toNat).1,-1,4) else(addO (smallA h t.toNat (aJ size).toNat).1 (smallA h t.toNat (aJ size).toNat).2 size t,(smallA h t.toNat (aJ size).toNat).2,0))
 else largeA h t size
theorem zj{h:ab}{t size:Int}(a:aZ h [])(g:9<=size/\size<=1000)(i:h.d<1000000)(j:h.G.Calls<=90000)(k:0<=t/\t<=h.S.length - 1):aZ (largeA h t size).1 []/\JK h (largeA h t size).1:=by
 have l:(gT size:Int)=(size+15) / 16:=by unfold gT;omega
 unfold largeA;split
 ·exact⟨a,JK.refl h⟩
 rename_i o;have b:(au h.w (gT size:Nat)).2.2=true:=by simpa using o
 obtain⟨c,d,e,w⟩:=jr a (show(1:Int)<=(gT size:Nat) by omega) b;have s:=lR.of (p:=(au h.w (gT size:Nat)).2.1) (n:=gT size) a.ker ω ⟨c,d⟩ e (gT size) (X2 _);split
 ·rename_i q
  have f:lR h.G (au h.w (gT size:Nat)).2.1 (gT size) ((dG h size).1,gT size):=by
   have:((dG h size).1,gT size)=dG h size:=by rw[<-q]
   rw[this];exact s
  exact⟨a.addL g l b f i k,JK.addL f⟩
 obtain⟨r,u⟩:=s.undo a.ker ⟨c,d⟩ e;exact a.tEq r u
theorem Aa{h:ab}{t size:Int}(a:aZ h []):aZ (allocH h t size).1 []/\JK h (allocH h t size).1:=by
 unfold allocH;split
 ·exact⟨a,JK.refl h⟩
 rename_i d;rw[not_or]at d;split
 ·exact⟨a,JK.refl h⟩
 rename_i n;split
 ·exact⟨a,JK.refl h⟩
 rename_i o;split
 ·exact⟨a,JK.refl h⟩
 split
 ·rename_i b
  have f:aJ size<=3:=by unfold aJ;repeat' split<;>omega
  have s:=uj (t:=t.toNat) (c:=(aJ size).toNat) a ω ω ω;generalize smallA h t.toNat (aJ size).toNat=r at s;split
  ·rename_i e;exact⟨s.no e,s.jk⟩
  rename_i e;obtain⟨g,i⟩:=s.yes ω;refine⟨g.addO (.inl ?_) (by rw[s.nx];omega) (by rw[s.cl];omega),s.jk.trans (JK.eq rfl rfl rfl rfl)⟩;obtain⟨z,j,k,p⟩:=i;exact⟨z,j,k,by show z.a=aJ size;omega⟩
 rename_i b;have l:9<=size:=by
  unfold aJ at b
  repeat' split at b<;>omega
 exact zj a ⟨l,ω⟩ ω ω ω
theorem kE{α β:Type}[Inhabited α]{f:α->β}{xs:List α}{i:Nat}{y:α}(a:i<xs.length)(e:f y=f (nth xs i)):(xs.set i y).map f=xs.map f:=by
 rw[I5];refine List.ext_getElem (by simp) λj b c=>?_
 rw[List.getElem_set];split
 ·rename_i g;subst g
  rw[List.getElem_map,e,bj (Z1 a)]
 rfl
theorem nX{α β:Type}[Inhabited α](f:α->List β):∀(xs:List α)(i:Nat)(y:α),i<xs.length->(f y).Sublist (f (nth xs i))->((xs.set i y).flatMap f).Sublist (xs.flatMap f)
 | [],_,_,h,_=>absurd h (Nat.not_lt_zero _)
 | x::xs,0,y,_,a=>by
  rw[List.set_cons_zero,V5,V5];exact List.Sublist.append a (List.Sublist.refl _)
 | x::xs,i+1,y,h,a=>by
  rw[List.set_cons_succ,V5,V5];exact List.Sublist.append (List.Sublist.refl _) (nX f xs i y (by simpa using h) a)
def zK(k:ah)(a:Int):Nat->ah
 | 0=>k
 | m+1=>dD (zK k a m) (a+m) 0
theorem ov(k:ah)(a:Int):∀m,(zK k a m).F.R=k.F.R/\(zK k a m).Calls=k.Calls/\(zK k a m).y=k.y
 | 0=>⟨rfl,rfl,rfl⟩
 | m+1=>ov k a m
theorem KZ{k:ah}(h:a8 k=true){a:Int} : ∀{m:Nat},(∀j:Nat,j<m->(ac k.F.R ((a+j) / 16)).e≠0)->a8 (zK k a m)=true
 | 0,_=>h
 | m+1,b=>xd (KZ h λj c=>b j ω) (by rw[(ov k a m).1];exact b m ω) ⟨ω,ω⟩
theorem Ft{h:ab}{E:List Int}(j:aZ h E){sp:List ax}{la:List a7}{o:List aA}{p:Int}{n:Nat}(y:p+n<=h.G.F.R.J.length)(A:sp.Sublist h.K)(M:∀l∈la,∀q∈lpgs l l.a2.toNat,∃w∈h.M,q∈lpgs w w.a2.toNat)(N:0<=p)(B:∀q,q∈pgs sp la↔q∈pgs h.K h.M/\¬(p<=q/\q<p+n))(O:∀q,RH o q↔RH h.w q\/(p<=q/\q<p+n)) :
  Pg (unmN h.G p n).F.R o sp la:=by
 have b:=(fx h.G p n).1;have d:=mB j.ker N n y;have f:∀q:Nat,(q:Int)∈pgs sp la->nth (unmN h.G p n).F.R.J q=nth (tbl h).J q:=λq c=>by rw[d,C8 ((B q).1 c).2];rfl
 have a:∀q:Nat,(nth (unmN h.G p n).F.R.J q).e≠0↔(nth (tbl h).J q).e≠0/\¬(p<=q/\(q:Int)<p+n):=λq=>by
  rw[d];by_cases e:p<=q/\(q:Int)<p+n
  ·rw[C9 e];exact⟨λx=>absurd rfl x,λx=>absurd e x.2⟩
  rw[C8 e];exact⟨λx=>⟨x,e⟩,λx=>x.1⟩
 refine⟨λl g q c r J C k=>?_,λq c=>?_,λq c=>?_,λq c=>?_,λs g u D F K=>?_⟩
 ·have t:=(a r).1 C
  rw[b]at J;rw[f q (fQ g c),d,C8 t.2]at k;obtain⟨w,G,H⟩:=M l g _ c;exact j.pg.one w G q H r J t.1 k
 ·rw[b];exact j.pg.bnd q ((B q).1 c).1
 ·rw[b]at c
  rw[a,B,j.pg.own q c]
 ·rw[b]at c
  rw[a,O,j.pg.fre q c]
  grind
 have i:∀s∈sp,0<=s.Q:=λs g=>(aB (j.L.sok s (A.subset g))).1
 have P:=f s.Q.toNat (by rw[Int.toNat_of_nonneg (i s g)];exact d7 g);have Q:=f u.Q.toNat (by rw[Int.toNat_of_nonneg (i u D)];exact d7 D);rw[P,Q]at K;exact j.pg.mesh s (A.subset g) u (A.subset D) F K
def trimL(l:a7)(size:Int):a7:=⟨l.Q,(size+15) / 16,size⟩
def d4(l:a7)(size:Int):Nat:=(l.a2 - (size+15) / 16).toNat
theorem aZ.trimL{h:ab}{E:List Int}{i k:Nat}{size:Int}(t:aZ h E)(T:i<h.O.length)(H:k<h.M.length)(Y:(nth h.O i).Addr=16*(nth h.M k).Q)(N:9<=size/\size<=(nth h.M k).o) :
  ∃o,(d4 (nth h.M k) size=0->o=h.w)/\(0<d4 (nth h.M k) size->dE (dC h) h.w ⟨(nth h.M k).Q+(size+15) / 16,(d4 (nth h.M k) size:Nat)⟩ = some o)/\
   aZ {h with G:=unmN h.G ((nth h.M k).Q+(size+15) / 16) (d4 (nth h.M k) size),M:=h.M.set k (trimL (nth h.M k) size),O:=h.O.set i {nth h.O i with o:=size},w:=o} E:=by
 have U:=t.L;have C:=U.lok _ (am H);have hf:=aM C;unfold bC at C;rw[C0]at C;obtain⟨b1,b2⟩:=tX t H;have O:=U.dis;have G:=λj n=>U.one j k n H
 have y:=(am H:nth h.M k∈h.M)
 have d:∀z∈h.M.set k (Ab.trimL (nth h.M k) size),z=Ab.trimL (nth h.M k) size\/∃j,j<h.M.length/\j≠k/\nth h.M j=z:=λz N=>dN N
 have p:Ab.trimL (nth h.M k) size∈h.M.set k (Ab.trimL (nth h.M k) size):=iG _ H;have u:∀j,j<h.M.length->j≠k->nth h.M j∈h.M.set k (Ab.trimL (nth h.M k) size):=λj n e=>jJ _ n e
 have hpageM:(h.M.set k (Ab.trimL (nth h.M k) size)).map (·.Q)=h.M.map (·.Q):=kE H rfl;have w:(pgs h.K (h.M.set k (Ab.trimL (nth h.M k) size))).Sublist (pgs h.K h.M):=by
  unfold pgs;refine List.Sublist.append (List.Sublist.refl _) (nX _ _ _ _ H ?_);unfold lpgs;exact(List.range_sublist.2 (by simp only[Ab.trimL];omega)).map _
 obtain⟨l,V⟩ : ∃l,nth h.M k=l:=⟨_,rfl⟩
 rw[V]at C hf b1 b2 G y d p u hpageM w Y N |-;generalize hla:h.M.set k (Ab.trimL l size)=la at d p u hpageM w |-;have hn1:(1:Int)<=(size+15) / 16/\(size+15) / 16+(d4 l size:Nat)=l.a2:=by unfold d4;omega
 have D:∀q,q∈lpgs l l.a2.toNat↔l.Q<=q/\q<l.Q+l.a2:=λq=>by
  rw[dx];constructor
  ·rintro⟨j,n,rfl⟩;omega
  rintro⟨Z,q2⟩;exact⟨(q - l.Q).toNat,ω,ω⟩
 have J:∀q,q∈lpgs (Ab.trimL l size) (Ab.trimL l size).a2.toNat↔l.Q<=q/\q<l.Q+(size+15) / 16:=λq=>by
  rw[dx];simp only[Ab.trimL];constructor
  ·rintro⟨j,n,rfl⟩;omega
  rintro⟨Z,q2⟩;exact⟨(q - l.Q).toNat,ω,ω⟩
 have hpe:l.Q+(size+15) / 16+(d4 l size:Nat)=l.Q+l.a2:=ω
 have P:∀q,q∈pgs h.K la↔q∈pgs h.K h.M/\¬(l.Q+(size+15) / 16<=q/\q<l.Q+(size+15) / 16+(d4 l size:Nat)):=λq=>by
  rw[pD,pD,hpe];constructor
  ·rintro(⟨s,W,rfl⟩|⟨z,c,B⟩)
   ·exact⟨.inl ⟨s,W,rfl⟩,λe=>O s W l y (s.Q - l.Q).toNat ω ω⟩
   rcases d z c with rfl|⟨j,n,hjk,rfl⟩
   ·have:=(J q).1 B
    exact⟨.inr ⟨l,y,(D q).2 ⟨ω,ω⟩⟩,ω⟩
   refine⟨.inr ⟨_,am n,B⟩,λe=>?_⟩;obtain⟨m,hm,rfl⟩:=dx.1 B;exact hjk (G j n m ((nth h.M j).Q+(m:Int) - l.Q).toNat hm ω ω)
  rintro⟨⟨s,W,rfl⟩|⟨z,c,B⟩,hne⟩
  ·exact .inl ⟨s,W,rfl⟩
  obtain⟨j,n,rfl⟩:=aK c;by_cases e:j=k
  ·subst e
   rw[V]at B;have:=(D q).1 B;exact .inr ⟨_,p,(J q).2 ⟨ω,ω⟩⟩
  exact .inr ⟨_,u j n e,B⟩
 have K:∃o,(d4 l size=0->o=h.w)/\(0<d4 l size->dE (dC h) h.w ⟨l.Q+(size+15) / 16,(d4 l size:Nat)⟩ = some o)/\b8 (dC h) o=true/\∀q,RH o q↔RH h.w q\/(l.Q+(size+15) / 16<=q/\q<l.Q+(size+15) / 16+(d4 l size:Nat)):=by
  by_cases e:d4 l size=0
  ·refine⟨h.w,λ_=>rfl,λg=>absurd g ω,t.rng,λq=>⟨.inl,λg=>g.resolve_right ω⟩⟩
  obtain⟨o,o1,o2,o3⟩:=uP (r:=⟨l.Q+(size+15) / 16,(d4 l size:Nat)⟩) t.rng ⟨by simp only;omega,by simp only;omega,by show l.Q+(size+15) / 16+(d4 l size:Nat)<=(dC h:Int);have:((tbl h).J.length:Int)=(dC h:Int):=rfl;omega⟩ λq Z q2=>by
   simp only at Z q2;obtain⟨m,rfl⟩:=U2 (show 0<=q by omega);have Q:m<(tbl h).J.length:=ω
   exact(t.pg.fre m Q).1 ((t.pg.own m Q).2 (fQ y ((D _).2 ⟨ω,ω⟩)))
  exact⟨o,λg=>absurd g e,λ_=>o1,o2,o3⟩
 obtain⟨o,o0,o1,o2,o3⟩:=K;have R:=(fx h.G (l.Q+(size+15) / 16) (d4 l size)).1;have M:∀z∈h.O.set i {nth h.O i with o:=size},z = {nth h.O i with o:=size}\/∃j,j<h.O.length/\j≠i/\nth h.O j=z:=λz N=>dN N
 have F:(h.O.set i {nth h.O i with o:=size}).map (·.Addr)=h.O.map (·.Addr):=kE T rfl;have S:(h.O.set i {nth h.O i with o:=size}).map (·.Id)=h.O.map (·.Id):=kE T rfl;have hli:=(am T:nth h.O i∈h.O)
 generalize h.O.set i {nth h.O i with o:=size} = ob at M F S |-;refine⟨o,o0,o1,{t with
   ker:=iB t.ker _ _
   rng:=by show b8 (((unmN h.G (l.Q+(size+15) / 16) (d4 l size)).F.R.J.length:Nat):Int) o=true;rw[R];exact o2
   lay:=?_
   srl:=?_
   pg:=Ft t (by have:((tbl h).J.length:Int)=(h.G.F.R.J.length:Int):=rfl;omega) (List.Sublist.refl _) (λz c q B=>?_) ω P o3
   osr:=?_
   onu:=λz c=>?_
   oid:=by show(ob.map (·.Id)).Nodup;rw[S];exact t.oid
   oow:=λz c=>?_
   nd:=?_
   mem:=λb=>?_}⟩
 ·obtain⟨l1,l2,l3⟩:=dh t.lay
  unfold bm;simp only[I0,C0];refine⟨⟨l1,W3.2 λz c=>?_⟩,l3.sublist w⟩;rcases d z c with rfl|⟨j,n,-,rfl⟩
  ·exact O0 ⟨N.1,by show size<=1000;omega,rfl,by show 0<=l.Q;omega,by show l.Q<=32 - (size+15) / 16;omega⟩
  exact U.lok _ (am n)
 ·have A:(h.M.map (·.Q)).Pairwise (λa b=>a<b):=List.pairwise_map.2 t.srl
  rw[<-hpageM]at A;exact List.pairwise_map.1 A
 ·rcases d z c with rfl|⟨j,n,-,rfl⟩
  ·have:=(J q).1 B
   exact⟨l,y,(D q).2 ⟨ω,ω⟩⟩
  exact⟨_,am n,B⟩
 ·have A:(h.O.map (·.Addr)).Pairwise (λa b=>a<b):=List.pairwise_map.2 t.osr
  rw[<-F]at A;exact List.pairwise_map.1 A
 ·rcases M z c with rfl|⟨j,n,-,rfl⟩
  ·exact t.onu (nth h.O i) hli
  exact t.onu _ (am n)
 ·rcases M z c with rfl|⟨j,n,hji,rfl⟩
  ·exact .inr ⟨_,p,Y,rfl⟩
  rcases t.oow _ (am n) with A|⟨l',hl',e1,X⟩
  ·exact .inl A
  obtain⟨m,hm,rfl⟩:=aK hl';by_cases e:m=k
  ·subst e
   rw[V]at e1;exact absurd (cG (f:=(·.Addr)) (dd t.osr) n T (e1.trans Y.symm)) hji
  exact .inr ⟨_,u m hm e,e1,X⟩
 ·have hh:holders {h with G:=unmN h.G (l.Q+(size+15) / 16) (d4 l size),M:=la,O:=ob,w:=o} = holders h:=by
   show((ob.map (·.Addr)++cy h)++h.a9.a6.map (·.Addr))++aF h.q=_;rw[F];rfl
  rw[hh];exact t.nd
 have hh:holders {h with G:=unmN h.G (l.Q+(size+15) / 16) (d4 l size),M:=la,O:=ob,w:=o} = holders h:=by
  show((ob.map (·.Addr)++cy h)++h.a9.a6.map (·.Addr))++aF h.q=_;rw[F];rfl
 rw[hh,t.mem b];show Live h.K h.M b↔Live h.K la b;unfold Live;constructor
 ·rintro(A|⟨z,c,e⟩)
  ·exact .inl A
  obtain⟨j,n,rfl⟩:=aK c;by_cases X:j=k
  ·subst X
   rw[V]at e;exact .inr ⟨_,p,e⟩
  exact .inr ⟨_,u j n X,e⟩
 rintro(A|⟨z,c,e⟩)
 ·exact .inl A
 rcases d z c with rfl|⟨j,n,-,rfl⟩
 ·exact .inr ⟨l,y,e⟩
 exact .inr ⟨_,am n,e⟩
def kn(h:ab)(k:Nat)(size:Int):ah:=zK h.G (16*(nth h.M k).Q+size) (16*((size+15) / 16) - size).toNat
def GV(h:ab)(k:Nat)(size:Int):List aA:=if 0<d4 (nth h.M k) size then(dE (dC h) h.w ⟨(nth h.M k).Q+(size+15) / 16,(d4 (nth h.M k) size:Nat)⟩).getD h.w else h.w
def trimH(h:ab)(i k:Nat)(size:Int):ab:={h with G:=unmN (kn h k size) ((nth h.M k).Q+(size+15) / 16) (d4 (nth h.M k) size),M:=h.M.set k (trimL (nth h.M k) size),O:=h.O.set i {nth h.O i with o:=size},w:=GV h k size}
theorem j8{h:ab}{E:List Int}(b:aZ h E){k:Nat}(c:k<h.M.length){a:Int}(g:16*(nth h.M k).Q<=a/\a<16*(nth h.M k).Q+16*(nth h.M k).a2):(ac h.G.F.R (a / 16)).e≠0:=by
 obtain⟨i,j⟩:=tX b c;have l:=aM (b.L.lok _ (am c));have d:(a / 16)∈pgs h.K h.M:=fQ (am c) (dx.2 ⟨(a / 16 - (nth h.M k).Q).toNat,ω,ω⟩);have e:=b.pg.bnd _ d;have f:=(b.pg.own (a / 16).toNat ω).2 (by rw[show(((a / 16).toNat:Nat):Int)=a / 16 by omega];exact d);unfold ac;rw[C9 ⟨ω,e⟩];exact f
theorem x9{h:ab}{E:List Int}(b:aZ h E){k:Nat}(c:k<h.M.length){size:Int}(d:9<=size/\size<=(nth h.M k).o):∀{m:Nat},m<=(16*((size+15) / 16) - size).toNat->a8 (zK h.G (16*(nth h.M k).Q+size) m)=true:=fun {m} hm=>by
 have a:=b.L.lok _ (am c);unfold bC at a;rw[C0]at a;exact KZ b.ker λj e=>j8 b c ⟨ω,ω⟩
theorem aZ.trimH{h:ab}{i k:Nat}{size:Int}(d:aZ h [])(A:i<h.O.length)(f:k<h.M.length)(B:(nth h.O i).Addr=16*(nth h.M k).Q)(r:9<=size/\size<=(nth h.M k).o):aZ (trimH h i k size) []/\JK h (trimH h i k size):=by
 have t:=x9 d f r (X2 _);have l:=(ov h.G (16*(nth h.M k).Q+size) (16*((size+15) / 16) - size).toNat).1;have C:=d.cells t l;obtain⟨o,u,w,y⟩:=C.trimL (i:=i) (k:=k) (size:=size) A f B r;simp only at u w y;have n:dC {h with G:=zK h.G (16*(nth h.M k).Q+size) (16*((size+15) / 16) - size).toNat} = dC h:=by
  unfold dC;simp only[l]
 have D:GV h k size=o:=by
  unfold GV;split
  ·rename_i g;have:=w g;rw[n]at this;rw[this];rfl
  exact(u ω).symm
 have E:Ab.trimH h i k size = {h with G:=unmN (kn h k size) ((nth h.M k).Q+(size+15) / 16) (d4 (nth h.M k) size),M:=h.M.set k (Ab.trimL (nth h.M k) size),O:=h.O.set i {nth h.O i with o:=size},w:=o}:=by unfold Ab.trimH;rw[D]
 refine⟨by rw[E];exact y,JK.less rfl rfl rfl λq j=>?_⟩;have a:=d.L.lok _ (am f);unfold bC at a;rw[C0]at a;obtain⟨F,G⟩:=tX d f;have b:(kn h k size).F.R=h.G.F.R:=l;have c:=mB (k:=kn h k size) t (p:=(nth h.M k).Q+(size+15) / 16) ω (d4 (nth h.M k) size) (by rw[b];have:((tbl h).J.length:Int)=(h.G.F.R.J.length:Int):=rfl;unfold d4;omega) q;change (nth (unmN (kn h k size) ((nth h.M k).Q+(size+15) / 16) (d4 (nth h.M k) size)).F.R.J q).e≠0 at j;show nth (unmN (kn h k size) ((nth h.M k).Q+(size+15) / 16) (d4 (nth h.M k) size)).F.R.J q=nth h.G.F.R.J q;rw[c]at j |-;split at j
 ·exact absurd rfl j
 rename_i e;rw[C8 e,b]
theorem Gv{t:Nat}(h:1<=t/\t<=4):bI (dU t)=true:=by
 have f:∀n,n<=t->bt (dU t) n=0:=λn=>by
  induction n with
  | zero=>intro _;rfl
  | succ n g=>
   intro j;have a:nth (dU t).U n=[]:=cL ω;have b:nth (dU t).a0 n=[]:=cL ω;simp only[bt,g ω,a,b,List.length_nil]
   decide
 have e:(dU t).U.length=t:=R3 ..;refine dH.2 ⟨⟨ω,ω,by simp[dU]⟩,λi c=>?_,by rw[e,f t (X2 _)];omega⟩;rw[e]at c;have a:nth (dU t).U i=[]:=cL c;have b:nth (dU t).a0 i=[]:=cL c;rw[a,b];exact⟨λp d=>(by cases d),λp d=>(by cases d)⟩
theorem uO(t:Nat):aF (dU t)=[]:=by
 unfold aF;split
 ·simp[dU]
 rfl
def rd(k:ah)(t:Nat)(sd ck lim:Int):ab:=⟨k,[⟨0,(k.F.R.J.length:Nat)⟩],[],[],[],List.replicate t fo,dU t,⟨16,[]⟩,sd,ck,lim,1,false,⟨⟨0,0,[]⟩,0,0⟩⟩
theorem Du:bp fo=true:=by decide
theorem aZ.fresh{k:ah}{t:Nat}{lim sd ck:Int}(A:a8 k=true)(B:∀q,q<k.F.R.J.length->(nth k.F.R.J q).e=0)(E:1<=t/\t<=4)(g:0<=lim/\lim<=1000)(h:0<=sd/\sd<=1073741823)(d:0<=ck/\ck<=1000000):aZ (rd k t sd ck lim) []:=by
 obtain⟨G,H,J⟩:=bv.1 (aE.1 A).2.2.1;have hca:cy (rd k t sd ck lim)=[]:=by
  unfold cy;refine List.flatMap_eq_nil_iff.2 λc d=>?_
  rw[(List.mem_replicate.1 d).2]
  rfl
 have C:holders (rd k t sd ck lim)=[]:=by
  unfold holders;rw[hca];show(([]++[])++[])++aF (dU t)=[];rw[uO];rfl
 have i:∀a,¬Live (rd k t sd ck lim).K (rd k t sd ck lim).M a:=λa=>by
  rintro(⟨s,h,-⟩|⟨l,g,-⟩)
  ·cases h
  cases g
 exact {
   ker:=A
   rng:=fC.2 ⟨⟨List.pairwise_singleton ..,λy n=>by rw[I1.1 n];show(1:Int)<=(k.F.R.J.length:Nat);omega⟩,λy n=>by
       rw[I1.1 n];refine⟨T4 _,by show(1:Int)<=(k.F.R.J.length:Nat);omega,?_⟩;show(0:Int)+(k.F.R.J.length:Nat)<=(k.F.R.J.length:Nat);omega,by show(1:Int)<=(k.F.R.J.length:Nat);omega,by show((k.F.R.J.length:Nat):Int)<=32;omega⟩
   lay:=by show bm [] []=true;decide
   srs:=List.Pairwise.nil
   srl:=List.Pairwise.nil
   pg:=⟨λl g=>(by cases g),λp f=>(by cases f),λp f=>⟨λe=>absurd (B p f) e,λe=>by cases e⟩,λp f=>⟨λe=>absurd (B p f) e,λe=>absurd ⟨_,I1.2 rfl,by show(0:Int)<=p;omega,by
       show(p:Int)<0+(k.F.R.J.length:Nat);have F:p<k.F.R.J.length:=f;omega⟩ e⟩,λs h=>by cases h⟩
   mail:=Gv E
   nc:=by show(List.replicate t fo).length=(List.replicate t _).length;simp
   quar:=by show fE ⟨16,[]⟩ = true;decide
   snc:=λx r=>by cases r
   cach:=λc d=>by rw[(List.mem_replicate.1 d).2];exact Du
   nums:=by unfold cn;rw[C0];simp only[rd];omega
   osr:=List.Pairwise.nil
   onu:=λo u=>by cases u
   oid:=List.nodup_nil
   oow:=λo u=>by cases u
   hca:=λc d j D a b=>by
     rw[(List.mem_replicate.1 d).2]at D b;have w:j<4:=D;have:nth fo.b j=[]:=cL w;rw[this]at b;cases b
   hqu:=λx r=>by cases r
   hfl:=λa b=>by
     have:aF (dU t)=[]:=uO t;change a∈aF (dU t) at b;rw[this]at b;cases b
   hin:=λa b=>by cases b
   nd:=by rw[C];exact List.nodup_nil
   mem:=λa=>by rw[C];exact⟨λe=>(by cases e),λe=>absurd e (i a)⟩
   job:=λe=>by cases e
   noj:=λ_=>by show ss ⟨⟨0,0,[]⟩,0,0⟩ = true;decide}
theorem JI.no{h:ab}(a:h.u=false):JI h:=⟨λe=>(by rw[a]at e;cases e),λe=>(by rw[a]at e;cases e),λe=>(by rw[a]at e;cases e),λe=>(by rw[a]at e;cases e)⟩
theorem qm{p f:Nat}{a:List Int}(d:1<=p/\p<=32)(e:1<=f/\f<=32)(b:a.length<=40/\∀x∈a,0<=x):a8 (bH p f a)=true:=by
 obtain⟨-,g,h,i,c⟩:=aE.1 (Bh d e);exact aE.2 ⟨λj k=>b.2 _ (am k),g,h,i,c.1,c.2.1,b.1⟩
theorem EC{p f t:Nat}{lim:Int}{a:List Int}(c:1<=p/\p<=32)(d:1<=f/\f<=32)(g:1<=t/\t<=4)(i:0<=lim/\lim<=1000)(j:a.length<=40/\∀x∈a,0<=x):aZ (newHeap p f t lim a) []:=by
 have h:=aZ.fresh (k:=bH p f a) (t:=t) (lim:=lim) (sd:=0) (ck:=0) (qm c d j) (λq l=>by
   have b:q<p:=by simpa[bH,eK] using l
   rw[show nth (bH p f a).F.R.J q = ⟨0,0⟩ from cL b]) g i ω ω
 have e:(bH p f a).F.R.J.length=p:=by simp[bH,eK]
 unfold rd at h;rw[e]at h;exact h
structure eE where
 b6:Int
 a4:Int
 N:Int
 At:Int
 Value:Int
deriving DecidableEq,Inhabited
def eE.enc(_:dI)(x:eE):List C:=[I x.b6,I x.a4,I x.N,I x.At,I x.Value]
def mW(id:Int)(o:b9):Bool:=decide (o.Id=id)
def oo(r:ay)(id:Int):Int:=dJ (mW id) r.O
def iD(r:ay)(n:Int):ay:=if 1<=n/\n<=1000 then {r with d:=r.d+1,O:=r.O++[⟨r.d,List.replicate n.toNat 0⟩]} else r
def js(r:ay)(id:Int):ay:=if oo r id<0 then r else {r with O:=dele r.O (oo r id).toNat}
def ee(r:ay)(id at_ v:Int):ay:=if 0<=oo r id/\(0<=at_/\at_<=(nth r.O (oo r id).toNat).T.length - 1)/\0<=v/\v<=999 then {r with O:=r.O.set (oo r id).toNat ⟨(nth r.O (oo r id).toNat).Id,(nth r.O (oo r id).toNat).T.set at_.toNat v⟩} else r
def fm(r:ay)(id n:Int):ay:=if 0<=oo r id/\1<=n/\n<=(nth r.O (oo r id).toNat).T.length then {r with O:=r.O.set (oo r id).toNat ⟨(nth r.O (oo r id).toNat).Id,(nth r.O (oo r id).toNat).T.take n.toNat⟩} else r
structure sj(r:ay)(m:Nat):Prop where
 len:r.O.length<=m
 cel:∀o∈r.O,o.T.length<=1000
 nx:0<=r.d/\r.d<=m+1
theorem sj.more{r:ay}{m n:Nat}(h:sj r m)(a:m<=n):sj r n:=⟨by have:=h.len;omega,h.cel,h.nx.1,by have:=h.nx.2;omega⟩
theorem sj.sml{r:ay}{m:Nat}(h:sj r m)(b:m<=1000):ay.sml r:=⟨by have:=h.len;omega,λo a=>by have:=h.cel o a;show o.T.length<=1048576;omega⟩
theorem sj.alloc{r:ay}{m:Nat}(h:sj r m)(n:Int):sj (iD r n) (m+1):=by
 unfold iD;split
 ·refine⟨by have:=h.len;simp only[z3,List.length_singleton];omega,λo a=>?_,by have:=h.nx.1;simp only;omega,by have:=h.nx.2;simp only;omega⟩
  rcases W2.1 a with a|a
  ·exact h.cel o a
  rw[I1.1 a];simp only[R3];omega
 exact h.more ω
theorem sj.free{r:ay}{m:Nat}(h:sj r m)(id:Int):sj (js r id) m:=by
 unfold js;split
 ·exact h
 have a:=f6 r.O (oo r id).toNat;exact⟨R4 a.length_le h.len,λo b=>h.cel o (a.subset b),h.nx⟩
theorem sj.set{r:ay}{m i:Nat}{x:b9}(h:sj r m)(b:x.T.length<=1000):sj {r with O:=r.O.set i x} m:=
 ⟨by simp only[O1];exact h.len,λo a=>by
   rcases T5 a with a|rfl
   · exact h.cel o a
   exact b,h.nx⟩
theorem fp{α:Type}[Inhabited α](p:α->Bool)(xs:List α)(h:0<=dJ p xs):(dJ p xs).toNat<xs.length/\p (nth xs (dJ p xs).toNat)=true/\dJ p xs=((dJ p xs).toNat:Nat):=by
 rcases oQ p xs with e|⟨n,a,e,b⟩
 ·omega
 rw[e,R2];exact⟨a,b,rfl⟩
theorem sj.store{r:ay}{m:Nat}(h:sj r m)(id a v:Int):sj (ee r id a v) m:=by
 unfold ee;split
 ·rename_i e
  refine h.set ?_;simp only[O1];exact h.cel (nth r.O (oo r id).toNat) (am (fp _ _ e.1).1)
 exact h
theorem sj.trim{r:ay}{m:Nat}(h:sj r m)(id n:Int):sj (fm r id n) m:=by
 unfold fm;split
 ·rename_i e
  refine h.set ?_;have:=h.cel (nth r.O (oo r id).toNat) (am (fp _ _ e.1).1);simp only[R1];omega
 exact h
def Kv(id:Int)(o:bz):Bool:=decide (o.Id=id)
def qr(h:ab)(id:Int):Int:=dJ (Kv id) h.O
def Hq(a:Int)(l:a7):Bool:=decide (l.Q*16=a)
def yC(h:ab)(a:Int):Int:=dJ (Hq a) h.M
def mZ(h:ab)(a:eE):Prop:=0<=a.a4/\a.a4<=h.S.length - 1
instance (h:ab) (a:eE):Decidable (mZ h a):=by unfold mZ;infer_instance
def ro(w:bo)(a:eE)(i:Nat):bo × Int:=
 if w.Y.G.Calls=100000 then(w,6)
 else if mZ w.Y a then(⟨(freeT w.Y a.a4.toNat i).1,if(freeT w.Y a.a4.toNat i).2=0 then js w.b5 (nth w.Y.O i).Id else w.b5⟩,(freeT w.Y a.a4.toNat i).2)
 else(w,1)
def oP(w:bo)(a:eE)(i:Nat):bo × Int:=
 if ¬(0<=a.At/\a.At<=(nth w.Y.O i).o - 1) then(w,90)
 else if(ac w.Y.G.F.R (((nth w.Y.O i).Addr+a.At) / 16)).e=1 then(w,2)
 else if ¬(0<=a.Value/\a.Value<=999) then(w,3)
 else(⟨{w.Y with G:=dD w.Y.G ((nth w.Y.O i).Addr+a.At) a.Value},ee w.b5 (nth w.Y.O i).Id a.At a.Value⟩,0)
def lD(h:ab)(i:Nat)(n:Int):Prop:=0<=yC h (nth h.O i).Addr/\9<=n/\n<=(nth h.M (yC h (nth h.O i).Addr).toNat).o
instance (h:ab) (i:Nat) (n:Int):Decidable (lD h i n):=by unfold lD;infer_instance
def rL(w:bo)(a:eE)(i:Nat):bo × Int:=
 if w.Y.G.Calls≠100000/\lD w.Y i a.Value then(⟨trimH w.Y i (yC w.Y (nth w.Y.O i).Addr).toNat a.Value,fm w.b5 (nth w.Y.O i).Id a.Value⟩,0) else(w,90)
def mY(w:bo)(a:eE)(i:Nat):bo × Int:=if a.b6=2 then ro w a i else if a.b6=3 then oP w a i else rL w a i
def fU(h:ab)(a:eE):ab × Int:=
 if a.b6=5 then(if mZ h a/\0<(nth h.q.U a.a4.toNat).length then({h with q:=fJ h.q a.a4.toNat},0) else(h,90))
 else if ¬(h.G.Calls≠100000/\mZ h a) then(h,0)
 else if a.b6=6 then(collect h a.a4.toNat,((nth h.q.a0 a.a4.toNat).length:Nat))
 else((flushN a.a4.toNat h 4).1,((flushN a.a4.toNat h 4).2:Nat))
def pL(h:ab)(n:Int):ab × Int:=if h.G.Calls≠100000/\(0<=n/\n<=1000)/\h.b3+n<=1000000 then(tick h n,((nu h n).length:Nat)) else(h,0)
def tF(h:ab):Bool:=h.u&&decide (h.G.Calls<=99000)
def stN(h:ab):Nat->ab × Nat
 | 0=>(h,0)
 | i+1=>if tF (stN h i).1=true then(mStep (stN h i).1,(stN h i).2+1) else stN h i
def pF(h:ab):ab × Int:=if h.u=true then(h,90) else((started h).1,if(started h).2=true then 0 else 90)
def o9(w:bo)(a:eE):bo × Int:=
 if a.b6=1 then(⟨(allocH w.Y a.a4 a.N).1,if(allocH w.Y a.a4 a.N).2.2=0 then iD w.b5 a.N else w.b5⟩,(allocH w.Y a.a4 a.N).2.2)
 else if a.b6=2\/a.b6=3\/a.b6=4 then(if qr w.Y a.N<0 then(w,90) else mY w a (qr w.Y a.N).toNat)
 else if a.b6=5\/a.b6=6\/a.b6=7 then(⟨(fU w.Y a).1,w.b5⟩,(fU w.Y a).2)
 else if a.b6=8 then(⟨(pL w.Y a.N).1,w.b5⟩,(pL w.Y a.N).2)
 else if a.b6=9 then(⟨(pF w.Y).1,w.b5⟩,(pF w.Y).2)
 else if a.b6=10/\0<=a.N/\a.N<=50 then(⟨(stN w.Y a.N.toNat).1,w.b5⟩,((stN w.Y a.N.toNat).2:Nat))
 else(w,90)
structure rz(w:bo)(m:Nat):Prop where
 inv:aZ w.Y []
 ji:JI w.Y
 ref:sj w.b5 m
theorem rz.more{w:bo}{m n:Nat}(h:rz w m)(a:m<=n):rz w n:=⟨h.inv,h.ji,h.ref.more a⟩
theorem rz.jk{w:bo}{m:Nat}(h:rz w m){g:ab}{r:ay}(a:aZ g []/\JK w.Y g)(b:sj r m):rz ⟨g,r⟩ m:=⟨a.1,h.ji.keep a.1 a.2,b⟩
theorem cI{h:ab}{E:List Int}(a:aZ h E){o:bz}(p:o∈h.O){k:Int}(D:0<=k/\k<=o.o - 1):(ac h.G.F.R ((o.Addr+k) / 16)).e≠0/\0<=o.Addr/\o.Addr+k<512:=by
 rcases a.oow o p with⟨s,g,q,r⟩|⟨l,i,F,G⟩
 ·have b:=a.L.sok s g
  have t:=aB b;obtain⟨u,w,y⟩:=a.mapped g;have d:=bE t.2.2;obtain⟨H,J,A,-⟩:=q;have f:o.o<=csz s.a:=by
   have K:=ik (n:=o.o) ω;rw[r];have:o.o=1\/o.o=2\/o.o=3\/o.o=4\/o.o=5\/o.o=6\/o.o=7\/o.o=8:=ω
   rcases this with e|e|e|e|e|e|e|e<;>rw[e]<;>decide
  have B:(o.Addr+k) / 16=s.Q:=by
   rcases d with e|e|e|e<;>rw[e]at A f<;>omega
  rw[B];refine⟨?_,ω,ω⟩;unfold ac;rw[C9 ⟨u,w⟩];exact y
 obtain⟨j,C,rfl⟩:=aK i;have c:=a.L.lok _ i;unfold bC at c;rw[C0]at c;exact⟨j8 a C ⟨ω,ω⟩,ω,ω⟩
theorem rz.obj{w:bo}{m:Nat}(h:rz w m)(a:eE){i:Nat}(b:i<w.Y.O.length):rz (mY w a i).1 m:=by
 unfold mY;split
 ·unfold ro
  split
  ·exact h
  split
  ·rename_i d
   unfold mZ at d;refine h.jk (h.inv.freeT b ω) ?_;split
   ·exact h.ref.free _
   exact h.ref
  exact h
 split
 ·unfold oP
  split
  ·exact h
  rename_i l;split
  ·exact h
  split
  ·exact h
  rename_i n;exact h.jk (h.inv.store (cI h.inv (am b) ω).1 ω) (h.ref.store _ _ _)
 unfold rL;split
 ·rename_i e
  obtain⟨-,f,g⟩:=e;obtain⟨j,k,o⟩:=fp _ _ f;have c:=of_decide_eq_true k;exact h.jk (h.inv.trimH b j (c.symm.trans (Int.mul_comm _ _)) g) (h.ref.trim _ _)
 exact h
theorem rz.thread{w:bo}{m:Nat}(h:rz w m)(a:eE):rz ⟨(fU w.Y a).1,w.b5⟩ m:=by
 unfold fU;split
 ·split
  ·rename_i e
   obtain⟨b,i⟩:=e;unfold mZ at b;exact h.jk (g:={w.Y with q:=fJ w.Y.q a.a4.toNat}) ⟨h.inv.deliv (by rw[<-h.inv.nc];omega) i,JK.eq rfl rfl rfl rfl⟩ h.ref
  exact h
 split
 ·exact h
 rename_i e;have e:=Classical.not_not.1 e;obtain⟨-,b⟩:=e;unfold mZ at b;split
 ·exact h.jk (g:=collect w.Y a.a4.toNat) (h.inv.collect ω) h.ref
 have c:a.a4.toNat<w.Y.S.length:=ω
 have d:=(je h.inv c (X2 4)).1;have f:=JK.flushN h.inv c (X2 4);generalize flushN a.a4.toNat w.Y 4=r at d f |-;exact h.jk (g:=r.1) ⟨d,f⟩ h.ref
theorem wm{h:ab}(a:aZ h [])(b:JI h):∀n,aZ (stN h n).1 []/\JI (stN h n).1
 | 0=>⟨a,b⟩
 | n+1=>by
  obtain⟨c,d⟩:=wm a b n;unfold stN;split
  ·rename_i e
   unfold tF at e;rw[I0]at e;exact c.mStep d e.1
  exact⟨c,d⟩
theorem rz.act{w:bo}{m:Nat}(h:rz w m)(a:eE):rz (o9 w a).1 (m+1):=by
 unfold o9;split
 ·have b:=Aa (t:=a.a4) (size:=a.N) h.inv
  refine⟨b.1,h.ji.keep b.1 b.2,?_⟩;show sj (if _ then _ else _) (m+1);split
  ·exact h.ref.alloc _
  exact h.ref.more ω
 refine rz.more (m:=m) ?_ ω;split
 ·split
  ·exact h
  rename_i e;exact h.obj a (fp _ _ (by unfold qr at e;omega)).1
 split
 ·exact h.thread a
 split
 ·unfold pL
  split
  ·rename_i e
   exact h.jk (h.inv.tick e.2.1.1 e.2.2) h.ref
  exact h
 split
 ·unfold pF
  split
  ·exact h
  rename_i e;have b:=Gn h.inv (by simpa using e);exact⟨b.1,b.2,h.ref⟩
 split
 ·have b:=wm h.inv h.ji a.N.toNat
  exact⟨b.1,b.2,h.ref⟩
 exact h
structure cE where
 a2:Nat
 W:Nat
 c7:Nat
 c3:Int
 y:List Int
deriving Inhabited
structure Fw(c:cE):Prop where
 p:1<=c.a2/\c.a2<=32
 f:1<=c.W/\c.W<=32
 t:1<=c.c7/\c.c7<=4
 l:0<=c.c3/\c.c3<=1000
 r:c.y.length<=40/\∀x∈c.y,0<=x
def world0(c:cE):bo:=⟨newHeap c.a2 c.W c.c7 c.c3 c.y,{d:=1,O:=[]}⟩
def AX(c:cE)(acts:List eE):Nat->bo × List Int
 | 0=>(world0 c,[])
 | i+1=>((o9 (AX c acts i).1 (nth acts i)).1,(AX c acts i).2++[(o9 (AX c acts i).1 (nth acts i)).2])
theorem Jv{c:cE}(h:Fw c):rz (world0 c) 0:=
 ⟨EC h.p h.f h.t h.l h.r,JI.no rfl,⟨X2 _,λo a=>(by cases a),by show(0:Int)<=1;omega,by show(1:Int)<=((0:Nat):Int)+1;omega⟩⟩
theorem vS{c:cE}(h:Fw c)(acts:List eE):∀n,rz (AX c acts n).1 n
 | 0=>Jv h
 | n+1=>(vS h acts n).act _
theorem tQ(t:aI)(d:aI.sml t):ar Tryz.prog 25 false [.val (some 1) (aI.enc .V t)] .one [I (dv t)]:=by
 have k:t.J.length<=1048576:=d.1;refine fO 22 [] Tryz.func25 rfl ?_
 repeat'(first|refine gO ?_|fail)
 (conv=>whnf)
 refine CF (ι:=Nat) (λi=>[(1,.H .box (aI.enc .V t)),(3,.H .one [I (fh bN t.J i)]),(4,.H .one [I ((i:Nat):Int)])]) (λi=>i<=t.J.length) (λi=>t.J.length - i) (0) ?_ (U0 _) λi g=>?_
 ·exact wB
 have h:=lE (f:=bN) (xs:=t.J) (b:=1) (λe _=>uC e) i g;by_cases j:i<t.J.length
 ·have c:=ao j
  have a:fh bN t.J (i+1)=fh bN t.J i+bN (nth t.J i):=rfl;by_cases e:(nth t.J i).e=0
  ·rw[show bN (nth t.J i)=0 by unfold bN;rw[C8 (by simpa using e)]]at a
   repeat'(first|refine gA ?_|(conv=>whnf);first|with_reducible refine CD (aa c) ?_)
   ((conv=>whnf);refine CE (i+1) ω ω ?_;(exact wB))
  rw[show bN (nth t.J i)=1 by unfold bN;rw[C9 e]]at a
  repeat'(first|refine gA ?_|(conv=>whnf);first|with_reducible refine CD (aa c) ?_)
  ((conv=>whnf);refine CE (i+1) ω ω ?_;(exact wB))
 obtain rfl:i=t.J.length:=ω
 repeat'(first|refine gD ?_|fail)
 rfl
theorem tn(t:aI)(d:aI.sml t):ar Tryz.prog 90 false [.val (some 1) (aI.enc .V t)] .one [I (dv t)]:=by
 have k:t.J.length<=1048576:=d.1;refine fO 20 [] Tryz.func90 rfl ?_
 repeat'(first|refine gO ?_|fail)
 (conv=>whnf)
 refine CF (ι:=Nat) (λi=>[(3,.H .one [I (fh bN t.J i)]),(7,.H .one (wN .V t.J)),(8,.H .one [I (t.J.length)]),(9,.H .one [I ((i:Nat):Int)])]) (λi=>i<=t.J.length) (λi=>t.J.length - i) (0) ?_ (U0 _) λi g=>?_
 ·exact wB
 have h:=lE (f:=bN) (xs:=t.J) (b:=1) (λe _=>uC e) i g;by_cases j:i<t.J.length
 ·have c:=ao j
  have a:fh bN t.J (i+1)=fh bN t.J i+bN (nth t.J i):=rfl;by_cases e:(nth t.J i).e=0
  ·rw[show bN (nth t.J i)=0 by unfold bN;rw[C8 (by simpa using e)]]at a
   repeat'(first|refine gA ?_|(conv=>whnf);first|with_reducible refine CD (aa c) ?_)
   ((conv=>whnf);refine CE (i+1) ω ω ?_;(exact wB))
  rw[show bN (nth t.J i)=1 by unfold bN;rw[C9 e]]at a
  repeat'(first|refine gA ?_|(conv=>whnf);first|with_reducible refine CD (aa c) ?_)
  ((conv=>whnf);refine CE (i+1) ω ω ?_;(exact wB))
 obtain rfl:i=t.J.length:=ω
 repeat'(first|refine gD ?_|fail)
 rfl
theorem JV(s:ax)(a:bg s=true):ar Tryz.prog 426 false [.val (some 3) (ax.enc .V s)] .one (aG .own (iX s 16)):=by
 have b:=fA s;rw[a]at b;have g:=aB a;have n:=bE g.2.2;refine fO 27 [(5,7,[14,15,16,17,18,19,20])] Tryz.func426 rfl ?_ (.inr (bM _))
 repeat'(first|refine gO ?_|fail)
 (conv=>whnf)
 refine CF (ι:=Nat) (λi=>[(1,.H .box (ax.enc .V s)),(3,.H .one (aG .own (iX s i))),(4,.H .one [I ((i:Nat):Int)])]) (λi=>i<=16) (λi=>16 - i) (0) ?_ (U0 _) λi o=>?_
 ·exact wB
 have h:=oK s i;by_cases j:i<16
 ·have k:=EN a j
  have d:IntKind.i64.wrap (((i:Nat):Int).tdiv (csz s.a))=((i:Nat):Int) / csz s.a:=by rw[lg ω];exact eQ ω ω
  have c:=g9 s.b1 (((i:Nat):Int) / csz s.a) (eB a).2;cases e:ku s i
  ·rw[show aQ s.b1 (((i:Nat):Int) / csz s.a)=false from e]at c
   repeat'(first|refine gD ?_|(conv=>whnf);first|refine C7 (b) ?_|refine C7 (de _) ?_|refine CO ω ?_|refine CM d ?_|refine C7 (c) ?_)
   ((conv=>whnf);refine CE (i+1) ω ω ?_)
   rw[H8 e];exact wB
  rw[show aQ s.b1 (((i:Nat):Int) / csz s.a)=true from e]at c
  repeat'(first|refine gD ?_|(conv=>whnf);first|refine C7 (b) ?_|refine C7 (de _) ?_|refine CO ω ?_|refine CM d ?_|refine C7 (c) ?_|refine CT cA (λr l=>by rw[I1.1 l];rfl) (by simp[aW,dP]) (by simp;omega) (by simp only[Z0];exact xY (by simp;omega) (by decide)) rfl ?_)
  ((conv=>whnf);refine CE (i+1) ω ω ?_)
  rw[BX e]
  (repeat'(first|exact trivial|rfl|exact CL rfl (CL (W0 (C.s dI.own) (by simp[rI])) trivial)|refine CL ?_ ?_))
 obtain rfl:i=16:=ω
 repeat'(first|refine gD ?_|(conv=>whnf);first|refine C7 (b) ?_)
 rfl
theorem nZ(s:ax)(a:bg s=true):ar Tryz.prog 258 false [.val (some 3) (ax.enc .V s)] .one (aG .own (iX s 16)):=by
 have c:=i6 s;rw[a]at c;have g:=aB a;have n:=bE g.2.2;refine fO 26 [(7,7,[13,14,15,16,17,18,19])] Tryz.func258 rfl ?_ (.inr (bM _))
 repeat'(first|refine gO ?_|(conv=>whnf);first|refine C7 (c) ?_)
 (conv=>whnf)
 refine CF (ι:=Nat) (λi=>[(1,.H .box (ax.enc .V s)),(3,.H .one (aG .own (iX s i))),(4,.H .one [I ((i:Nat):Int)])]) (λi=>i<=16) (λi=>16 - i) (0) ?_ (U0 _) λi o=>?_
 ·exact wB
 have h:=oK s i;by_cases j:i<16
 ·have k:=EN a j
  have d:IntKind.i64.wrap (((i:Nat):Int).tdiv (csz s.a))=((i:Nat):Int) / csz s.a:=by rw[lg ω];exact eQ ω ω
  have b:=ny s.b1 (((i:Nat):Int) / csz s.a) (eB a).2;cases e:ku s i
  ·rw[show aQ s.b1 (((i:Nat):Int) / csz s.a)=false from e]at b
   repeat'(first|refine gD ?_|(conv=>whnf);first|refine C7 (cJ _) ?_|refine CO ω ?_|refine CM d ?_|refine C7 (b) ?_)
   ((conv=>whnf);refine CE (i+1) ω ω ?_)
   rw[H8 e];exact wB
  rw[show aQ s.b1 (((i:Nat):Int) / csz s.a)=true from e]at b
  repeat'(first|refine gD ?_|(conv=>whnf);first|refine C7 (cJ _) ?_|refine CO ω ?_|refine CM d ?_|refine C7 (b) ?_|refine CT cA (λr l=>by rw[I1.1 l];rfl) (by simp[aW,dP]) (by simp;omega) (by simp only[Z0];exact xY (by simp;omega) (by decide)) rfl ?_)
  ((conv=>whnf);refine CE (i+1) ω ω ?_)
  rw[BX e]
  (repeat'(first|exact trivial|rfl|exact CL rfl (CL (W0 (C.s dI.own) (by simp[rI])) trivial)|refine CL ?_ ?_))
 obtain rfl:i=16:=ω
 repeat'(first|refine gD ?_|fail)
 rfl
theorem w5(sp:List ax)(la:List a7)(c:d9 sp)(d:d6 la)(a:bm sp la=true):ar Tryz.prog 92 false [.val none (bY .V sp),.val none (bS .V la)] .one [I (tp sp la)]:=by
 have o:=c.1;have p:=d.1;have j:=lT sp la c d;rw[a]at j;have q:=qx.of a;have e:=Nj (dh a).2.1;refine fO 38 [] Tryz.func92 rfl ?_
 repeat'(first|refine gO ?_|(conv=>whnf);first|refine C7 (j) ?_)
 (conv=>whnf)
 refine CF (ι:=Nat) (λi=>[(1,.H .one (bS .V la)),(5,.H .one [I (fh Pb sp i)]),(14,.H .one (bY .V sp)),(15,.H .one [I (sp.length)]),(16,.H .one [I ((i:Nat):Int)])]) (λi=>i<=sp.length) (λi=>sp.length - i) (0) ?_ (U0 _) λi r=>?_
 ·exact wB
 have t:=lE (f:=Pb) (xs:=sp) (b:=16) (λs _=>Qo s) i r;by_cases l:i<sp.length
 ·have g:=ao l
  have h:fh Pb sp (i+1)=fh Pb sp i+((iX (nth sp i) 16).length:Nat):=rfl;have u:=oK (nth sp i) 16
  repeat'(first|refine gD ?_|(conv=>whnf);first|with_reducible refine CD (aa g) ?_|refine C7 (nZ (nth sp i) (q.sok _ (am l))) ?_)
  ((conv=>whnf);refine CE (i+1) ω ω ?_;(exact wB))
 obtain rfl:i=sp.length:=ω
 have w:fh (·.o) la 0=0:=rfl
 repeat'(first|refine gD ?_|fail)
 (conv=>whnf)
 refine CF (ι:=Nat) (λk=>[(5,.H .one [I (fh Pb sp sp.length+fh (·.o) la k)]),(26,.H .one (bS .V la)),(27,.H .one [I (la.length)]),(28,.H .one [I ((k:Nat):Int)])]) (λk=>k<=la.length) (λk=>la.length - k) (0) ?_ (U0 _) λk y=>?_
 ·exact wB
 have B:=lE (f:=(·.o)) (xs:=la) (b:=1000) e k y;by_cases n:k<la.length
 ·have g:=ao n
  have C:=e _ (am n);have h:fh (·.o) la (k+1)=fh (·.o) la k+(nth la k).o:=rfl
  repeat'(first|refine gD ?_|(conv=>whnf);first|with_reducible refine CD (aa g) ?_)
  ((conv=>whnf);refine CE (k+1) ω ω ?_;(exact wB))
 obtain rfl:k=la.length:=ω
 repeat'(first|refine gD ?_|fail)
 rfl
theorem yN(h:ab):ar Tryz.prog 68 false [.val (some 24) (ab.enc .V h)] .one [I (dC h:Nat)]:=by
 refine fO 9 [] Tryz.func68 rfl ?_
 repeat'(first|refine gO ?_|fail)
 rfl
theorem uV(c:aD)(e:aD.sml c):ar Tryz.prog 95 false [.val (some 1) (aD.enc .V c)] .one [I (d5 c)]:=by
 have r:=e.1;cases d:bp c with
 | false=>
  have a:=nG c e;rw[d]at a;refine fO 26 [] Tryz.func95 rfl ?_
  repeat'(first|refine gO ?_|(conv=>whnf);first|refine C7 a ?_)
  exact W0 (λz=>[I z]) (by unfold d5;rw[d];rfl)
 | true=>
  obtain⟨o,g⟩:=lL d;have a:=nG c e;rw[d]at a;refine fO 26 [] Tryz.func95 rfl ?_
  repeat'(first|refine gO ?_|(conv=>whnf);first|refine C7 a ?_)
  (conv=>whnf)
  refine CF (ι:=Nat) (λi=>[(1,.H .box (aD.enc .V c)),(3,.H .one [I (dQ 0 (c.b.take i))]),(10,.H .one (kU .V c.b)),(11,.H .one [I c.b.length]),(12,.H .one [I (i:Nat)])]) (λi=>i<=c.b.length/\0<=dQ 0 (c.b.take i)/\dQ 0 (c.b.take i)<=64*(i:Nat)) (λi=>c.b.length - i) 0 ?_ ⟨U0 _,by simp[dQ],by simp[dQ]⟩ λi k=>?_
  ·exact wB
  obtain⟨k,p,q⟩:=k;by_cases h:i<c.b.length
  ·obtain⟨l,b⟩ : ∃l,c.b[i]? = some l:=⟨_,Z1 h⟩
   have j:=g l (V1 b);have n:=Kz i;have t:=Ha j n.1 n.2
   repeat'(first|refine gD ?_|(conv=>whnf);first|with_reducible refine CD (aa b) ?_|refine C7 (cJ (i:Nat)) ?_)
   (conv=>whnf)
   refine CE (i+1) ⟨ω,by rw[lS b];omega,by rw[lS b];omega⟩ ω ?_;rw[lS b];exact wB
  repeat'(first|refine gD ?_|fail)
  rw[Z5 ω];exact W0 (λz=>[I z]) (by unfold d5;rw[d];rfl)
theorem EL{o:bz}(h:0<=aJ o.o):fL o=csz (aJ o.o):=by unfold fL;rw[C9 h]
theorem Fh{o:bz}(h:¬0<=aJ o.o):fL o=o.o:=by unfold fL;rw[C8 h]
theorem wI(h:ab)(G:ab.sml h)(l:dM h=true):ar Tryz.prog 31 false [.val (some 24) (ab.enc .V h)] .agg (jB.enc .own (pN h)):=by
 have cH:=oH h G;rw[tG,l]at cH;obtain⟨k1,R,-,-,H,⟨k6,k6b⟩,-⟩:=m7 l;have S:=kA H;have T:=nv H;have u:=BR l;have w:=Gu l;obtain⟨n,-,o,p,⟨V,-⟩,⟨W,q⟩,y,r,-⟩:=G;have X:h.a9.a6.length<=1048576:=r.1;have J:=tn h.G.F.R n.1.2;have K:=uZ h.G.F.W n.1.1;have N:=w5 h.K h.M o p R;have P:=oD h.a9.a6 r;have Y:=pX h.q y;have Z:fh fL h.O 0=0:=rfl;have hc0:fh d5 h.S 0=0:=rfl;have hp0:fh (iT h) (aF h.q) 0=0:=rfl;generalize hM:dv h.G.F.R=M at J;generalize hU:gu h.G.F.W=U at K;generalize hL:tp h.K h.M=L at N;generalize hQ:quarCells h.a9.a6 h.a9.a6.length=Q at P;refine fO 103 [(3,23,[15,16,17,18,19,20,21,22,23,24,25,26,27,28,29,30,31,32,33,34,35,36,3]),(9,4,[49,50,51,52]),(15,4,[69,70,71,72]),(20,15,[84,85,86,87,88,89,90,91,92,93,94,95,96,97,98])] Tryz.func31 rfl ?_ (.inr (jB.enc_fr _))
 repeat'(first|refine gO ?_|(conv=>whnf);first|refine C7 (cH) ?_|refine C7 (yN h) ?_|refine C7 (J) ?_|refine C7 (K) ?_|refine C7 (N) ?_|refine C7 (P) ?_)
 (conv=>whnf)
 refine CF (ι:=Nat) (λi=>[(1,.H .box (ab.enc .V h)),(2,.H .box ([I 0,I 0,I 0,I 0,I 0,I 0,I 0,I 0])),(3,.H .box ([I (dC h:Nat),I M,I U,I L,I (fh fL h.O i),I 0,I Q,I 0])),(38,.H .one (mT .V h.O)),(39,.H .one [I (h.O.length)]),(40,.H .one [I ((i:Nat):Int)])]) (λi=>i<=h.O.length) (λi=>h.O.length - i) (0) ?_ (U0 _) λi t=>?_
 ·exact wB
 have hb:=lE (f:=fL) (xs:=h.O) (b:=1000) w i t;by_cases g:i<h.O.length
 ·have k:=ao g
  have hsz:=u _ (am g);have d:fh fL h.O (i+1)=fh fL h.O i+fL (nth h.O i):=rfl;have B:=sQ (aJ (nth h.O i).o);by_cases e:0<=aJ (nth h.O i).o
  ·rw[EL e]at d
   repeat'(first|refine gD ?_|(conv=>whnf);first|with_reducible refine CD (aa k) ?_|refine C7 (nr _) ?_|refine C7 (cJ _) ?_)
   ((conv=>whnf);refine CE (i+1) ω ω ?_;(exact wB))
  rw[Fh e]at d
  repeat'(first|refine gD ?_|(conv=>whnf);first|with_reducible (first|refine CD (aa k) ?_|refine Bf.D (λhq=>?_) (λhq=>?_))|refine C7 (nr _) ?_)
  ((conv=>whnf);refine CE (i+1) ω ω ?_;(exact wB))
 obtain rfl:i=h.O.length:=ω
 generalize hO:fh fL h.O h.O.length=O at hb
 repeat'(first|refine gD ?_|fail)
 (conv=>whnf)
 refine CF (ι:=Nat) (λi=>[(1,.H .box (ab.enc .V h)),(2,.H .box ([I 0,I 0,I 0,I 0,I 0,I 0,I 0,I 0])),(3,.H .box ([I (dC h:Nat),I M,I U,I L,I O,I (fh d5 h.S i),I Q,I 0])),(63,.H .one (o6 .V h.S)),(64,.H .one [I (h.S.length)]),(65,.H .one [I ((i:Nat):Int)])]) (λi=>i<=h.S.length) (λi=>h.S.length - i) (0) ?_ (U0 _) λi t=>?_
 ·exact wB
 have C:=lE (f:=d5) (xs:=h.S) (b:=256) (λc _=>pY c) i t;by_cases g:i<h.S.length
 ·have k:=ao g
  have hcb:=pY (nth h.S i);have d:fh d5 h.S (i+1)=fh d5 h.S i+d5 (nth h.S i):=rfl
  repeat'(first|refine gD ?_|(conv=>whnf);first|with_reducible refine CD (aa k) ?_|refine C7 (uV (nth h.S i) (q _ (am g))) ?_)
  ((conv=>whnf);refine CE (i+1) ω ω ?_;(exact wB))
 obtain rfl:i=h.S.length:=ω
 generalize hC:fh d5 h.S h.S.length=CC at C
 repeat'(first|refine gD ?_|(conv=>whnf);first|refine C7 (Y) ?_)
 (conv=>whnf)
 refine CF (ι:=Nat) (λi=>[(1,.H .box (ab.enc .V h)),(2,.H .box ([I 0,I 0,I 0,I 0,I 0,I 0,I 0,I 0])),(3,.H .box ([I (dC h:Nat),I M,I U,I L,I O,I CC,I Q,I (fh (iT h) (aF h.q) i)])),(78,.H .one (aG .own (aF h.q))),(79,.H .one [I ((aF h.q).length)]),(80,.H .one [I ((i:Nat):Int)])]) (λi=>i<=(aF h.q).length) (λi=>(aF h.q).length - i) (0) ?_ (U0 _) λi t=>?_
 ·exact wB
 have hb3:=lE (f:=iT h) (xs:=aF h.q) (b:=8) (λa _=>sQ _) i t;by_cases g:i<(aF h.q).length
 ·have k:=ao g
  obtain⟨j,hj,E,F,ha0,ha1⟩:=PM l (am g);have d:fh (iT h) (aF h.q) (i+1)=fh (iT h) (aF h.q) i+iT h (nth (aF h.q) i):=rfl;rw[show iT h (nth (aF h.q) i)=csz (nth h.K j).a by unfold iT;rw[F,R2]]at d;have hy:h.K[(denotes h.K h.M (nth (aF h.q) i)).c4.toNat]? = some (nth h.K j):=by rw[E,R2];exact ao hj
  have B:=sQ (nth h.K j).a
  repeat'(first|refine gD ?_|(conv=>whnf);first|with_reducible refine CD (aa k) ?_|refine CJ rfl (aa k) rfl ?_|refine C7 (nE h.K h.M (nth (aF h.q) i) o p) ?_|refine CN ω (aa hy) ?_|refine C7 (cJ _) ?_)
  ((conv=>whnf);refine CE (i+1) ω ω ?_;(exact wB))
 obtain rfl:i=(aF h.q).length:=ω
 repeat'(first|refine gD ?_|fail)
 unfold pN;rw[hM,hU,hL,hO,hC,hQ]
 rfl
theorem or64{z1 z2:Int}(h1:0<=z1/\z1<=65535)(a:0<=z2/\z2<=65535):IntKind.i64.wrap ((BitVec.ofInt IntKind.i64.bits z1 ||| BitVec.ofInt IntKind.i64.bits z2).toNat:Nat)=bor z1 z2:=by
 rw[BitVec.toNat_or,nj ω,nj ω];have b:=KT h1 a;unfold bor at b |-;exact eQ ω ω
theorem yB(h:ab)(i:Nat)(n:d9 h.K)(d:vo h)(a:∀s∈h.K,bg s=true)(y:i<h.K.length):ar Tryz.prog 482 false [.val (some 24) (ab.enc .V h),.val none [I (i:Nat)]] .one [I (hB h i)]:=by
 have F:=n.1;have G:=ao y;have g:=vr a y;have B:=aH ((i:Nat):Int) 0 ((h.K.length:Int) - 1);rw[O0 (show(0:Int)<=(i:Nat)/\((i:Nat):Int)<=(h.K.length:Int) - 1 by omega)]at B;have C:=ic h (nth h.K i).Q d;have o:=fX h (nth h.K i).Q;have H:dC h<=1048576:=d.1;have c:hB h i=ko h.K (aN h (nth h.K i).Q) (nth h.K i).b1 (aN h (nth h.K i).Q).length:=rfl;obtain⟨ps,q⟩ : ∃ps,aN h (nth h.K i).Q=ps:=⟨_,rfl⟩
 obtain⟨b,r⟩ : ∃b,(nth h.K i).b1=b:=⟨_,rfl⟩
 rw[q]at C o c;rw[r]at c g;rw[c];have J:ko h.K ps b 0=b:=rfl;refine fO 63 [(4,7,[22,23,24,25,26,27,28]),(11,10,[43,44,45,46,47,48,49,50,51,52])] Tryz.func482 rfl ?_
 repeat'(first|refine gO ?_|(conv=>whnf);first|with_reducible refine CD (aa G) ?_|refine C7 (B) ?_|refine C7 (C) ?_)
 (conv=>whnf)
 refine CF (ι:=Nat) (λu=>[(2,.H .box (ab.enc .V h)),(5,.H .one [I (ko h.K ps b u)]),(6,.H .one (aG .own ps)),(7,.H .one [I ((u:Nat):Int)])]) (λu=>u<=ps.length) (λu=>ps.length - u) (0) ?_ (U0 _) λu M=>?_
 ·exact wB
 by_cases K:u<ps.length
 ·have l:=ao K
  have t:=sA a (ps:=ps) g u
  repeat'(first|refine gD ?_|fail)
  (conv=>whnf)
  refine CF (ι:=Nat) (λj=>[(2,.H .box (ab.enc .V h)),(5,.H .one [I (sF h.K (nth ps u) (ko h.K ps b u) j)]),(6,.H .one (aG .own ps)),(7,.H .one [I ((u:Nat):Int)]),(8,.H .one [I ((j:Nat):Int)])]) (λj=>j<=h.K.length) (λj=>h.K.length - j) (0) ?_ (U0 _) λj L=>?_
  ·exact wB
  by_cases D:j<h.K.length
  ·have E:=ao D
   have w:=vu a (p:=nth ps u) t j L;by_cases e:(nth h.K j).Q=nth ps u
   ·have k:sF h.K (nth ps u) (ko h.K ps b u) (j+1)=bor (sF h.K (nth ps u) (ko h.K ps b u) j) (nth h.K j).b1:=C9 e
    repeat'(first|refine gA ?_|(conv=>whnf);first|with_reducible (first|refine CD (aa l) ?_|refine CD (aa E) ?_)|refine CJ rfl (aa l) rfl ?_|refine CM (or64 w (vr a D)) ?_)
    ((conv=>whnf);refine CE (j+1) ω ω ?_;(exact wB))
   have k:sF h.K (nth ps u) (ko h.K ps b u) (j+1)=sF h.K (nth ps u) (ko h.K ps b u) j:=C8 e
   repeat'(first|refine gA ?_|(conv=>whnf);first|with_reducible (first|refine CD (aa l) ?_|refine CD (aa E) ?_)|refine CJ rfl (aa l) rfl ?_)
   ((conv=>whnf);refine CE (j+1) ω ω ?_;(exact wB))
  obtain rfl:j=h.K.length:=ω
  repeat'(first|refine gD ?_|fail)
  ((conv=>whnf);refine CE (u+1) ω ω ?_;(exact wB))
 obtain rfl:u=ps.length:=ω
 repeat'(first|refine gD ?_|fail)
 rfl
theorem tH{xs:List bz}(h:∀o∈xs,0<=o.o/\o.o<=1000):∀k:Nat,k<=xs.length->0<=tq xs k/\tq xs k<=1000*k
 | 0,_=>⟨T4 _,T4 _⟩
 | k+1,a=>by
  have b:=tH h k ω;have c:=h _ (am (xs:=xs) (i:=k) ω);simp only[tq];omega
theorem vI(h:ab)(a:∀o∈h.O,0<=o.o/\o.o<=1000)(e:h.O.length<=1048576):ar Tryz.prog 20 false [.val (some 24) (ab.enc .V h)] .one [I (tE h)]:=by
 refine fO 21 [] Tryz.func20 rfl ?_
 repeat'(first|refine gO ?_|fail)
 (conv=>whnf)
 refine CF (ι:=Nat) (λk=>[(1,.H .box (ab.enc .V h)),(3,.H .one [I (tq h.O k)]),(4,.H .one [I ((k:Nat):Int)])]) (λk=>k<=h.O.length) (λk=>h.O.length - k) (0) ?_ (U0 _) λk c=>?_
 ·exact wB
 have g:=tH a k c;by_cases b:k<h.O.length
 ·have d:=ao b
  have i:=a _ (am b)
  repeat'(first|refine gD ?_|(conv=>whnf);first|refine CD (aa d) ?_)
  ((conv=>whnf);refine CE (k+1) ω ω ?_;(exact wB))
 obtain rfl:k=h.O.length:=ω
 repeat'(first|refine gD ?_|fail)
 rfl
theorem wb(k b:Int)(h:b<=9223372036854775807):ar Tryz.prog 481 false [.val none [I (slots k)],.val none [I b]] .one (aG .own (qE k b)):=by
 have c:=qt k b;have p:0<=slots k/\slots k<=16:=by unfold slots;repeat' split<;>omega
 unfold qE;cases e:KV k b<;>rw[e]at c
 ·rw[C8 (by simp)]
  refine fO 27 [] Tryz.func481 rfl ?_ (.inr (bM _))
  repeat'(first|refine gO ?_|fail)
  (conv=>whnf)
  refine CF (ι:=Nat) (λj=>[(0,.H .one [I (slots k)]),(1,.H .one [I (b)]),(5,.H .one (aG .own [])),(6,.H .one [I ((j:Nat):Int)])]) (λj=>j=0) (λj=>1 - j) (0) ?_ (rfl) λj g=>?_
  ·exact wB
  subst g
  repeat'(first|refine gD ?_|(conv=>whnf);first|with_reducible refine Bf.D (λi=>?_) (λi=>?_)|refine C7 (c) ?_)
  all_goals rfl
 rw[C9 rfl];refine fO 27 [] Tryz.func481 rfl ?_ (.inr (bM _))
 repeat'(first|refine gO ?_|fail)
 (conv=>whnf)
 refine CF (ι:=Nat) (λj=>[(0,.H .one [I (slots k)]),(1,.H .one [I (b)]),(5,.H .one (aG .own (oA b j))),(6,.H .one [I ((j:Nat):Int)])]) (λj=>j<=(slots k).toNat) (λj=>(slots k).toNat - j) (0) ?_ (U0 _) λj g=>?_
 ·exact wB
 have l:=sW b j;by_cases q:j<(slots k).toNat
 ·have d:=g9 b (j:Nat) h
  have a:oA b (j+1)=if aQ b (j:Nat)=true then oA b j else oA b j++[((j:Nat):Int)]:=rfl
  cases n:aQ b (j:Nat)<;>rw[n]at d a
  ·rw[C8 (by simp)]at a
   repeat'(first|refine gD ?_|(conv=>whnf);first|refine C7 (c) ?_|refine C7 (d) ?_|refine CT cA (λr o=>by rw[I1.1 o];rfl) (by simp[aW,dP]) (by simp;omega) (by simp only[Z0];exact xY (by simp;omega) (by decide)) rfl ?_)
   ((conv=>whnf);refine CE (j+1) ω ω ?_)
   rw[a]
   repeat'(first|exact trivial|rfl|exact CL rfl (CL (W0 (C.s dI.own) (by simp[rI])) trivial)|refine CL ?_ ?_|(exact E4 (by first|omega|(simp only;omega)|(simp;omega))))
  rw[C9 rfl]at a
  repeat'(first|refine gD ?_|(conv=>whnf);first|refine C7 (c) ?_|refine C7 (d) ?_)
  ((conv=>whnf);refine CE (j+1) ω ω ?_)
  rw[a];exact wB
 obtain rfl:j=(slots k).toNat:=ω
 repeat'(first|refine gD ?_|fail)
 rfl
theorem Jt(b i:Int):bor b (2 ^ i.toNat)=gS b i:=by
 unfold bor gS;have:((2 ^ i.toNat:Nat):Int)=(2:Int) ^ i.toNat:=Int.natCast_pow 2 i.toNat;rw[<-this,R2]
theorem ya(b i:Int)(d:0<=b/\b<=65535)(a:0<=i/\i<=15):ar Tryz.prog 484 false [.val none [I b],.val none [I i]] .one [I (gS b i)]:=by
 have c:=pK b i;rw[O0 ω]at c;have e:IntKind.u64.wrap i=i:=by unfold IntKind.wrap;simp[IntKind.signed,IntKind.bits];omega
 have h:=(shl64 a).2;have g:=(or64 (z1:=b) (z2:=2 ^ i.toNat) d ω).trans (Jt b i);refine fO 15 [] Tryz.func484 rfl ?_
 repeat'(first|refine gO ?_|(conv=>whnf);first|refine C7 (c) ?_|refine CO ω ?_|refine CM e ?_|refine CM (shl64 a).1 ?_|refine CM g ?_)
 rfl
theorem LT{s:ax}(b:bg s=true){k:Int}(d:0<=k/\k<slots s.a):0<=k*csz s.a/\k*csz s.a<=15:=by
 have a:=aB b;have c:=gz a.2.2;rcases bE a.2.2 with e|e|e|e<;>rw[e]at c |-<;>omega
theorem yt(s:ax)(k:Int)(a:bg s=true)(d:0<=k/\k<slots s.a):ar Tryz.prog 485 false [.val (some 3) (ax.enc .V s),.val none [I k]] .one [I (16*s.Q+k*csz s.a)]:=by
 have e:=aB a;have i:=LT a d;have j:=gz e.2.2;have b:=fA s;rw[a]at b;have g:=n7 s.a;have c:=aH k 0 (slots s.a - 1);rw[O0 ω]at c;have h:=de s.a;refine fO 26 [(3,8,[17,18,19,20,21,22,23,24])] Tryz.func485 rfl ?_
 repeat'(first|refine gO ?_|(conv=>whnf);first|refine C7 (b) ?_|refine C7 (g) ?_|refine C7 (c) ?_|refine C7 (h) ?_|refine CB ?_)
 exact W0 (λz=>[I z]) ω
theorem Bp(f:aV)(g:f.a5.length<=1048576):ar Tryz.prog 486 false [.val (some 2) (aV.enc .V f)] .one [I (dJ (λu=>!u) f.a5)]:=by
 refine fO 18 [] Tryz.func486 rfl ?_
 repeat'(first|refine gO ?_|fail)
 (conv=>whnf)
 refine CF (ι:=Nat) (λi=>[(1,.H .box (aV.enc .V f)),(3,.H .one [I ((i:Nat):Int)])]) (λi=>i<=f.a5.length/\∀(j:Nat)(z:Bool),j<i->f.a5[j]? = some z->(!z)=false) (λi=>f.a5.length - i) (0) ?_ (⟨U0 _,λj z h=>ω⟩) λi c=>?_
 ·exact wB
 obtain⟨c,b⟩:=c;by_cases d:i<f.a5.length
 ·have a:=ao d
  cases e:nth f.a5 i<;>rw[e]at a
  ·repeat'(first|refine gD ?_|(conv=>whnf);first|with_reducible refine CD (aa a) ?_)
   exact W0 (λz=>[I z]) (dX a rfl b).symm
  repeat'(first|refine gD ?_|(conv=>whnf);first|with_reducible refine CD (aa a) ?_)
  ((conv=>whnf);refine CE (i+1) ⟨ω,d8 a rfl b⟩ ω ?_;(exact wB))
 repeat'(first|refine gD ?_|fail)
 exact W0 (λz=>[I z]) (gv ω b).symm
theorem n6(m:aL):∀(n i:Nat),i<n->((nth m.U i).length:Int)+(nth m.a0 i).length<=bt m n/\0<=bt m n
 | 0,i,h=>absurd h (Nat.not_lt_zero i)
 | n+1,i,h=>by
  have a:0<=bt m n:=by
   cases n with
   | zero=>exact T4 _
   | succ k=>exact(n6 m (k+1) 0 ω).2
  simp only[bt];by_cases e:i=n
  ·subst e;omega
  have:=(n6 m n i ω).1;omega
structure lB(m:aL):Prop where
 b4:1<=m.U.length/\m.U.length<=4
 i4:m.a0.length=m.U.length
 bl:∀i,i<m.U.length->(nth m.U i).length<=30
 il:∀i,i<m.U.length->(nth m.a0 i).length<=30
theorem lB.of{m:aL}(h:bI m=true):lB m:=by
 obtain⟨⟨b,c,d⟩,-,e⟩:=dH.1 h;exact⟨⟨b,c⟩,d,λi a=>by have:=(n6 m m.U.length i a).1;omega,λi a=>by have:=(n6 m m.U.length i a).1;omega⟩
theorem lB.sml{m:aL}(h:lB m):aL.sml m:=by
 have c:=h.b4;have d:=h.i4;refine⟨⟨ω,λl a=>?_⟩,⟨ω,λl a=>?_⟩⟩
 ·obtain⟨i,b,rfl⟩:=aK a
  have:=h.bl i b;exact⟨ω,λ_ _=>trivial⟩
 obtain⟨i,b,rfl⟩:=aK a;have:=h.il i ω;show(nth m.a0 i).length<=1048576;omega
theorem rD(m:aL)(k:Int)(a:aL.sml m):ar Tryz.prog 569 false [.val (some 2) (aL.enc .V m),.val none [I k]] .one [B (bI m&&decide (0<=k/\k<=m.U.length - 1))]:=by
 have b:=lA m a;have c:m.U.length<=1048576:=a.1.1;cases e:bI m<;>rw[e]at b
 all_goals
  refine fO 15 [] Tryz.func569 rfl ?_
  repeat'(first|refine gO ?_|(conv=>whnf);first|refine CB ?_|refine C7 (b) ?_|refine C7 (aH k 0 (m.U.length - 1:Int)) ?_)
  all_goals rfl
theorem QB{m:aL}{f:Nat}(a:f<m.U.length):m.U[f]? = some (nth m.U f):=ao a
theorem Jk(m:aL)(f:Nat)(p:dy):aL.enc .own (ia m f p)=[.s .own ((m.U.map (dm .own)).set f (dm .own (nth m.U f++[p]))),.s .own (m.a0.map (aG .own))]:=by simp[aL.enc,ia,I5]
theorem HQ{m:aL}(h:lB m){f:Nat}(c:f<m.U.length)(p:dy):aL.sml (ia m f p):=by
 have d:=h.b4;have b:=h.sml;refine⟨⟨by simp only[ia,O1];omega,λl a=>?_⟩,b.2⟩;rcases T5 a with a|rfl
 ·exact b.1.2 l a
 have:=h.bl f c;exact⟨by simp;omega,λ_ _=>trivial⟩
theorem Je(m:aL)(f:Nat)(p:dy)(j:bI m=true)(g:f<m.U.length):ar Tryz.prog 561 false [.val (some 2) (aL.enc .V m),.val none [I (f:Nat)],.val (some 2) (dy.enc .V p)] (.tup [some 2,none]) (aL.enc .own (if bI (ia m f p)=true then ia m f p else m)++[B (bI (ia m f p))]):=by
 have c:=lB.of j;have k:=c.sml;have q:=c.b4;have h:=rD m f k;rw[j,O0 ω]at h;have l:=fG m k;have b:=HQ c g p;have i:=lA (ia m f p) b;have n:=fG (ia m f p) b;have a:=QB g;have o:=c.bl f g;have d:=aL.enc_fz (ia m f p);rw[Jk]at d;cases e:bI (ia m f p)<;>rw[e]at i
 ·rw[C8 (by simp)]
  refine fO 35 [(4,267,[16,17,18,19,20,21,22,23,24,25,27,0,1,2,3,4,5,6,7,8,9,10,1000,1001,1002,11,12])] Tryz.func561 rfl ?_ (.inr (bf (aL.enc_fr _) ⟨trivial,trivial⟩))
  repeat'(first|refine gO ?_|(conv=>whnf);first|with_reducible refine CD (aa a) ?_|refine CB ?_|refine CD (gq a) ?_|refine CJ rfl (gq a) rfl ?_|refine C7 (h) ?_|refine C7 (l) ?_|refine Lq.one rfl rfl (aa a) rfl (C1 rfl) rfl rfl ?_|refine CJ rfl (aa a) rfl ?_|refine CP rfl rfl (gq a) rfl (C1 rfl) (show [C.s dI.own ((m.U.map (dm .own)).set f (dm .own (nth m.U f++[p]))),C.s .own (m.a0.map (aG .own))]=_ from by simp only[List.set_cons_zero,List.set_set,R2];rfl) ?_|refine Ap.sm (aT λ_=>rfl) rfl (by simp;omega) (by decide) (iK _ _ _) ?_|refine CH (i) ⟨⟨rfl,d⟩,trivial⟩ ?_)
  rfl
 rw[C9 rfl];refine fO 35 [(4,267,[16,17,18,19,20,21,22,23,24,25,27,0,1,2,3,4,5,6,7,8,9,10,1000,1001,1002,11,12])] Tryz.func561 rfl ?_ (.inr (bf (aL.enc_fr _) ⟨trivial,trivial⟩))
 repeat'(first|refine gO ?_|(conv=>whnf);first|with_reducible refine CD (aa a) ?_|refine CB ?_|refine CD (gq a) ?_|refine CJ rfl (gq a) rfl ?_|refine C7 (h) ?_|refine C7 (l) ?_|refine Lq.one rfl rfl (aa a) rfl (C1 rfl) rfl rfl ?_|refine CJ rfl (aa a) rfl ?_|refine CP rfl rfl (gq a) rfl (C1 rfl) (show [C.s dI.own ((m.U.map (dm .own)).set f (dm .own (nth m.U f++[p]))),C.s .own (m.a0.map (aG .own))]=_ from by simp only[List.set_cons_zero,List.set_set,R2];rfl) ?_|refine Ap.sm (aT λ_=>rfl) rfl (by simp;omega) (by decide) (iK _ _ _) ?_|refine CH (i) ⟨⟨rfl,d⟩,trivial⟩ ?_|refine CH (n) ⟨⟨rfl,d⟩,trivial⟩ ?_)
 rfl
theorem Gi(m:aL)(f:Int)(a:bI m=true)(d:¬(0<=f/\f<=m.U.length - 1)):ar Tryz.prog 533 false [.val (some 2) (aL.enc .V m),.val none [I f]] (.tup [some 2,none]) (aL.enc .own m++[B false]):=by
 have e:=lB.of a;have b:=e.sml;have c:=rD m f b;rw[a,T0 d]at c;have g:=fG m b;refine fO 60 [(5,267,[31,32,33,34,35,36,37,38,39,40,42,0,1,2,3,4,5,6,7,8,9,10,1000,1001,1002,11,12]),(6,270,[43,44,45,46,47,48,49,50,51,52,53,54,55,57,0,1,2,3,4,5,6,7,8,9,10,11,12,13,1000,1001,1002,1003,14,15])] Tryz.func533 rfl ?_ (.inr (bf (aL.enc_fr _) ⟨trivial,trivial⟩))
 repeat'(first|refine gO ?_|(conv=>whnf);first|refine CB ?_|refine C7 (c) ?_|refine C7 (g) ?_)
 rfl
theorem FR(m:aL)(f t:Nat)(a:(nth (nth m.U f) 0).To=t):aL.enc .own (fJ m f)=[.s .own ((m.U.map (dm .own)).set f [.s .own (((nth m.U f).drop 1).map (dy.enc .V))]),.s .own ((m.a0.map (aG .own)).set t (aG .own (nth m.a0 t++[(nth (nth m.U f) 0).Addr])))]:=by
 unfold aL.enc fJ;simp only[I5,a,R2]
 rfl
theorem Dv(m:aL)(f:Nat)(h:bI m=true)(i:f<m.U.length):ar Tryz.prog 533 false [.val (some 2) (aL.enc .V m),.val none [I (f:Nat)]] (.tup [some 2,none]) (aL.enc .own (if 0<(nth m.U f).length then fJ m f else m)++[B (decide (0<(nth m.U f).length))]):=by
 have d:=lB.of h;have u:=d.sml;have K:=d.b4;have D:=d.i4;have j:=rD m f u;rw[h,O0 ω]at j;have w:=fG m u;have a:=QB i;have F:=d.bl f i;by_cases e:0<(nth m.U f).length
 ·rw[C9 e,O0 e]
  have g:=((dH.1 h).2.1 f i).1 _ (am e);obtain⟨t,k⟩:=U2 g.1;have l:t<m.a0.length:=ω
  have y:=ao e;have c:=ao l;have G:=d.il t ω;have n:=(lB.of (Ea h i e)).sml;have H:=fG (fJ m f) n;have o:=aL.enc_fz (fJ m f);rw[FR m f t k]at o;have q:=bf (b:=[B true]) (aL.enc_fr (fJ m f)) ⟨trivial,trivial⟩;generalize L:nth (nth m.U f) 0=p at *;obtain⟨M,J⟩:=p;simp only at k g o;subst k;refine fO 60 [(5,267,[31,32,33,34,35,36,37,38,39,40,42,0,1,2,3,4,5,6,7,8,9,10,1000,1001,1002,11,12]),(6,270,[43,44,45,46,47,48,49,50,51,52,53,54,55,57,0,1,2,3,4,5,6,7,8,9,10,11,12,13,1000,1001,1002,1003,14,15])] Tryz.func533 rfl ?_ (.inr q)
  repeat'(first|refine gA ?_|(conv=>whnf);first|with_reducible (first|refine CD (aa a) ?_|refine CD (aa c) ?_|refine Bf.E (λr=>?_) (λr=>?_))|refine CB ?_|refine CN (by decide) (aa y) ?_|refine CD (gq a) ?_|refine CD (gq c) ?_|refine CJ rfl (gq a) rfl ?_|refine CJ rfl (gq c) rfl ?_|refine C7 (j) ?_|refine C7 (w) ?_|refine CJ rfl (aa a) rfl ?_|refine CJ rfl (aa c) rfl ?_|refine CJ rfl (aa y) rfl ?_|refine Lq.one rfl rfl (aa c) rfl (C1 rfl) rfl rfl ?_|refine Sl.suf 1 rfl (by rw[Z0];omega) (aT λ_=>rfl) Z3 ?_|refine CV (λ_=>rfl) (λ_=>rfl) (by rw[C3];omega) (by decide) ?_|refine CS (λ_=>rfl) (λ_=>rfl) (by rw[C3];omega) (by decide) ?_|refine CP rfl rfl (aa a) rfl (C1 rfl) rfl ?_|refine CP rfl rfl (gq c) rfl (C1 rfl) (show [C.s dI.own ((m.U.map (dm .own)).set f [.s .own (((nth m.U f).drop 1).map (dy.enc .V))]),C.s .own ((m.a0.map (aG .own)).set t (aG .own (nth m.a0 t++[J])))]=_ from by simp only[List.set_cons_zero,List.set_cons_succ,List.set_set,R2];rfl) ?_|refine Ap.sm (aT λ_=>rfl) rfl (by simp;omega) (by decide) (iK _ _ _) ?_|refine CB ?_|refine CH (H) ⟨⟨rfl,o⟩,trivial⟩ ?_)
  rfl
 rw[C8 e,T0 e];refine fO 60 [(5,267,[31,32,33,34,35,36,37,38,39,40,42,0,1,2,3,4,5,6,7,8,9,10,1000,1001,1002,11,12]),(6,270,[43,44,45,46,47,48,49,50,51,52,53,54,55,57,0,1,2,3,4,5,6,7,8,9,10,11,12,13,1000,1001,1002,1003,14,15])] Tryz.func533 rfl ?_ (.inr (bf (aL.enc_fr _) ⟨trivial,trivial⟩))
 repeat'(first|refine gA ?_|(conv=>whnf);first|with_reducible (first|refine CD (aa a) ?_|refine Bf.E (λr=>?_) (λr=>?_))|refine CB ?_|refine C7 (j) ?_|refine C7 (w) ?_|refine CJ rfl (aa a) rfl ?_)
 rfl
theorem JU.set(rows:List (List C))(i:Nat){r n:List C}(h:M7 r n):JU (.s .own (rows.set i r)) (.s .own (rows.set i n)):=by
 refine .own_ _ _ (by simp) (λj a b d f=>?_) (λj l a b c p d f o g=>?_)
 ·by_cases e:i=j
  ·subst e
   have k:i<rows.length:=by have:=(C2.1 d).1;simpa using this
   rw[O3 k]at d f;cases d;cases f;exact h.1
  rw[List.getElem?_set_ne e]at d f;rw[d]at f;cases f;rfl
 by_cases e:i=j
 ·subst e
  have k:i<rows.length:=by have:=(C2.1 d).1;simpa using this
  rw[O3 k]at d f;cases d;cases f;exact h.2 l c p o g
 rw[List.getElem?_set_ne e]at d f;rw[d]at f;cases f;rw[o]at g;cases g;exact .rfl_ _
theorem Bv(m:aL)(t:Nat)(d:bI m=true)(h:t<m.U.length):ar Tryz.prog 570 false [.val (some 2) (aL.enc .V m),.val none [I (t:Nat)]] (.tup [some 2,none]) (aL.enc .own (kR m t)++aG .own (nth m.a0 t)):=by
 have b:=lB.of d;have e:=b.sml;have o:=b.b4;have j:=b.i4;have g:=rD m t e;rw[d,O0 ω]at g;have k:=fG m e;have c:=ao (xs:=m.a0) (i:=t) ω;have l:=b.il t h;have a:=bf (aL.enc_fr (kR m t)) (bM (nth m.a0 t));have n:aL.enc .own (kR m t)=[.s .own (m.U.map (dm .own)),.s .own ((m.a0.map (aG .own)).set t [.s .own []])]:=by simp[aL.enc,kR,I5];rfl
 rw[n]at a |-;refine fO 28 [(5,263,[20,21,22,23,24,25,26,0,1,2,3,4,5,6,7,1000,8,9])] Tryz.func570 rfl ?_ (.inr a)
 repeat'((conv=>whnf);first|with_reducible (first|refine Lm ?_|refine Wm ω ?_|refine CD (aa c) ?_|refine Bn ?_|refine kg.dk rfl ?_)|refine Bt ?_|refine Bu ?_|refine CB ?_|refine C7 (g) ?_|refine C7 (k) ?_|refine CJ rfl (aa c) rfl ?_|refine CP rfl rfl (aa c) rfl (C1 rfl) rfl ?_|refine CV (λ_=>rfl) (λ_=>rfl) ω (by decide) ?_|refine CS (λ_=>rfl) (λ_=>rfl) ω (by decide) ?_|refine CB ?_)
 exact .cons (.rfl_ _) (.cons (JU.set _ _ (.cons .z_ .nil)) (.cons (.rfl_ _) .nil))
end Go.Proofs.YtecefhjnejfheaaGreat.Ab
