/- A slot taken, an address taken out of a cache, an object begun: a heap stays whole. No condition. -/
import Derived.Test.YtiopgblagimpmaaGreatKrd
import Derived.Test.YtiopgblagimpmaaGreatKrf
import Derived.Test.YtiopgblagimpmaaGreatKrc
import Derived.Test.YtiopgblagimpmaaGreatKre
set_option linter.unusedVariables false
set_option linter.defProp false
set_option linter.unusedSimpArgs false
set_option linter.constructorNameAsVariable false
namespace Go.Proofs.YtiopgblagimpmaaGreat.Ab
variable{α:Type}
def lv(p:α->Bool)(xs:List α):Nat:=(xs.findIdx? p).getD xs.length
def jV(p:α->Bool)(xs:List α)(y:α):List α:=xs.take (lv p xs)++y::xs.drop (lv p xs)
def QL(p:α->Bool)(xs:List α):lv p xs<=xs.length:=by
 unfold lv;cases e:xs.findIdx? p with
 | none=>exact X3 _
 | some i=>exact Nat.le_of_lt (S8.1 e).1
def l8(p:α->Bool)(xs:List α)(y:α):(jV p xs y).Perm (y::xs):=by
 unfold jV;refine List.perm_middle.trans ?_;rw[List.take_append_drop]
def cK{p:α->Bool}{xs:List α}{y z:α} : z∈jV p xs y↔z=y\/z∈xs:=by
 rw[(l8 p xs y).mem_iff,List.mem_cons]
variable{i:Nat}
def wX{p:α->Bool}{xs:List α}(c:i<=xs.length)(a:∀(j:Nat)(z:α),j<i->xs[j]? = some z->p z=false)(b:∀z,xs[i]? = some z->p z=true):lv p xs=i:=by
 unfold lv;by_cases e:i<xs.length
 ·rw[wP (X2 e) (b _ (X2 e)) a];rfl
 rw[E6 ω a];show xs.length=i;omega
def mr{f:α->Int}{xs:List α}{y:α}(h:xs.Pairwise λa b=>f a<f b)(p:∀z∈xs,f z≠f y):(jV (λz=>decide (f y<=f z)) xs y).Pairwise λa b=>f a<f b:=by
 have q:∀z∈xs.drop (lv (λz=>decide (f y<=f z)) xs),f y<f z:=λz g=>by
  obtain⟨j,k,rfl⟩:=List.mem_drop_iff_getElem.1 g;have C:=p _ (List.getElem_mem k);cases e:xs.findIdx? (λz=>decide (f y<=f z)) with
  | none=>
   have l:lv (λz=>decide (f y<=f z)) xs=xs.length:=by unfold lv;rw[e];rfl
   rw[l]at k;omega
  | some i=>
   have l:lv (λz=>decide (f y<=f z)) xs=i:=by unfold lv;rw[e];rfl
   obtain⟨r,t,-⟩:=S8.1 e;rw[C0]at t;have c:i+j<xs.length:=by rw[<-l];omega
   have n:f xs[i+j]≠f y:=p _ (List.getElem_mem c);have d:f y<f xs[i+j]:=by
    cases j with
    | zero=>simp only[Nat.add_zero]at n |-;omega
    | succ j=>
     have:=List.pairwise_iff_getElem.1 h i (i+(j+1)) r c ω;omega
   have w:xs[lv (λz=>decide (f y<=f z)) xs+j]? = xs[i+j]?:=by rw[l]
   rw[X2 ω,X2 c]at w;rw[Option.some.inj w];exact d
 have A:∀z∈xs.take (lv (λz=>decide (f y<=f z)) xs),f z<f y:=λz g=>by
  obtain⟨j,k,rfl⟩:=List.mem_take_iff_getElem.1 g;unfold lv at k;cases e:xs.findIdx? (λz=>decide (f y<=f z)) with
  | none=>
   have:=List.findIdx?_eq_none_iff.1 e _ (List.getElem_mem (show j<xs.length by omega));simp only[Y5]at this;omega
  | some i=>
   obtain⟨r,t,B⟩:=S8.1 e;simp only[e,Option.getD_some]at k;have:=B j ω;simp only[C0]at this;omega
 unfold jV;refine List.pairwise_append.2 ⟨h.sublist (List.take_sublist ..),List.pairwise_cons.2 ⟨q,h.sublist (List.drop_sublist ..)⟩,λz g u o=>?_⟩;rcases List.mem_cons.1 o with rfl|o
 ·exact A z g
 exact Int.lt_trans (A z g) (q u o)
def i9(b i:Int):Int:=((b.toNat ||| 2 ^ i.toNat:Nat):Int)
def ry(s:au)(i:Int):au:={s with b2:=i9 s.b2 i}
def y5(b i:Int)(j:Nat):(i9 b i).toNat.testBit j=(b.toNat.testBit j || decide (i.toNat=j)):=by
 unfold i9;rw[O3,Nat.testBit_or,Nat.testBit_two_pow]
def HH{b i:Int}(g:0<=b)(e:0<=i/\i<=15)(j:Int):aX (i9 b i) j=true↔aX b j=true\/j=i:=by
 rw[eS,eS,y5,W7,C0];have f:0<=i9 b i:=by unfold i9;omega
 constructor
 ·rintro⟨h,c,d,a|a⟩
  ·exact .inl ⟨g,c,d,a⟩
  exact .inr ω
 rintro(⟨h,c,d,a⟩|rfl)
 ·exact⟨f,c,d,.inl a⟩
 exact⟨f,e.1,e.2,.inr rfl⟩
variable{k:Int}
def iu(h:0<=k/\k<=3):lim k=2 ^ (slots k).toNat - 1/\0<=slots k/\slots k<=16/\slots k*csz k=16:=by
 obtain rfl|rfl|rfl|rfl:k=0\/k=1\/k=2\/k=3:=ω
 all_goals decide
variable{s:au}
def EL(h:bf s=true){i:Int}(k:0<=i/\i<slots s.e):bf (ry s i)=true:=by
 have b:=aE h;obtain⟨c,l,o,-⟩:=iu b.2.2;unfold bf at h;rw[C0]at h;obtain⟨d,e,f,g,p,a⟩:=h;refine O0 ⟨d,e,f,g,by show 0<=i9 s.b2 i;unfold i9;omega,?_⟩;show i9 s.b2 i<=lim s.e;rw[c]at a |-;have j:((2 ^ (slots s.e).toNat:Nat):Int)=(2:Int) ^ (slots s.e).toNat:=by norm_cast
 rw[<-j]at a |-;have:=Nat.or_lt_two_pow (x:=s.b2.toNat) (y:=2 ^ i.toNat) (n:=(slots s.e).toNat) ω (Nat.pow_lt_pow_right ω ω);unfold i9;omega
def BD{u:au}{i:Int}(b:0<=i/\i<slots s.e)(c:aX u.b2 i=false)(h:meshable s u=true):meshable (ry s i) u=true:=by
 unfold meshable at h |-;simp only[I0,C0]at h |-;obtain⟨⟨d,f⟩,k,l,o⟩:=h;have p:=aE d;obtain⟨r,t,w,-⟩:=iu p.2.2;have a:=eK f;refine⟨⟨EL d b,f⟩,k,l,?_⟩;refine Nat.eq_of_testBit_eq λj=>?_
 have g:=Z0 (λn=>Nat.testBit n j) o;simp only[Nat.testBit_and,Nat.zero_testBit,ry,y5]at g |-;by_cases e:i.toNat=j
 ·have:u.b2.toNat.testBit j=false:=by
   rw[<-X6];intro q;have:=(eS u.b2 i).2 ⟨a.1,b.1,ω,by rw[e];exact q⟩;rw[this]at c;cases c
  rw[this];simp
 rw[W0 e,Bool.or_false];exact g
def u5(h:bf s=true){i:Int}(n:0<=i/\i<slots s.e)(b:Int):eJ (ry s i) b↔eJ s b\/b=16*s.R+i*csz s.e:=by
 have g:=aE h;obtain⟨o,p,k,l⟩:=iu g.2.2;have j:=bV g.2.2;unfold eJ;simp only[ry];rw[HH (eK h).1 ω];constructor
 ·rintro⟨d,f,c,a|a⟩
  ·exact .inl ⟨d,f,c,a⟩
  right
  rcases j with e|e|e|e<;>rw[e]at c a |-<;>omega
 rintro(⟨d,f,c,a⟩|rfl)
 ·exact⟨d,f,c,.inl a⟩
 have q:slots s.e<=16:=k;rcases j with e|e|e|e<;>rw[e]at l |-<;>refine⟨?_,?_,?_,.inr ?_⟩<;>omega
variable{sp:List au}
def Mi(k:Int)(a:i<sp.length):(sp.set i (ry (nth sp i) k)).map (·.R)=sp.map (·.R):=by
 rw[V7];refine List.ext_getElem (by simp) λj b c=>?_
 rw[List.getElem_set];split
 ·rename_i e;subst e
  rw[List.getElem_map];show(nth sp i).R=_;rw[bh (X2 a)]
 rfl
variable{la:List aB}
def ku.setS(p:oT sp la)(g:i<sp.length)(h:0<=k/\k<slots (nth sp i).e)(b c:Int):ku (sp.set i (ry (nth sp i) k)) b c↔ku sp b c\/(b=16*(nth sp i).R+k*csz (nth sp i).e/\(c<0\/(nth sp i).e=c)):=by
 have d:=p.sok _ (am g);constructor
 ·rintro⟨s,l,f,a⟩
  rcases eA l with rfl|⟨j,n,q,rfl⟩
  ·rcases(u5 d h b).1 f with o|o
   ·exact .inl ⟨_,am g,o,a⟩
   exact .inr ⟨o,a⟩
  exact .inl ⟨_,am n,f,a⟩
 rintro(⟨s,l,f,a⟩|⟨f,a⟩)
 ·obtain⟨j,n,rfl⟩:=aN l
  by_cases e:j=i
  ·subst e
   exact⟨_,jj _ g,(u5 d h b).2 (.inl f),a⟩
  exact⟨_,ky _ n e,f,a⟩
 exact⟨_,jj _ g,(u5 d h b).2 (.inr f),a⟩
variable{E:List Int}{h:ab}
def QX(d:aU h E)(l:i<h.J.length)(p:0<=k/\k<=15)(b:aX (iI h i) k=false):aX (nth h.J i).b2 k=false/\∀u∈h.J,(nth (tbl h).K u.R.toNat).d=(nth (tbl h).K (nth h.J i).R.toNat).d->aX u.b2 k=false:=by
 have e:=d.L;have q:=eK (e.sok _ (am l));unfold iI at b;rw[<-X6,AO e.sok q p]at b;rw[not_or]at b;have r:aX (nth h.J i).b2 k=false:=by simpa using b.1
 have a:∀s∈h.J,s.R.toNat<eZ h/\(nth (tbl h).K s.R.toNat).j≠0/\((s.R.toNat:Nat):Int)=s.R:=λs f=>by
  have K:=aE (e.sok s f);have M:=d.pg.bnd s.R (dH f);have n:s.R.toNat<(tbl h).K.length:=ω
  have o:((s.R.toNat:Nat):Int)=s.R:=ω
  exact⟨n,(d.pg.own _ n).2 (by rw[o];exact dH f),o⟩
 refine⟨r,λu c t=>?_⟩;rw[<-X6];intro w;obtain⟨y,A,B⟩:=a _ (am l);obtain⟨C,D,F⟩:=a u c;have G:u.R∈aY h (nth h.J i).R:=by
  rw[<-B,fJ y A,<-F];exact eY.2 ⟨C,D,t⟩
 obtain⟨v,H,g⟩:=aN G;obtain⟨j,J,rfl⟩:=aN c;exact b.2 ⟨v,H,j,J,g.symm,w⟩
variable{sd:Int}
def aU.take(g:aU h E)(C:i<h.J.length)(D:0<=k/\k<slots (nth h.J i).e)(r:aX (iI h i) k=false)(M:0<=sd/\sd<=1073741823) :
  aU {h with b8:=sd,J:=h.J.set i (ry (nth h.J i) k)} ((16*(nth h.J i).R+k*csz (nth h.J i).e)::E):=by
 have F:=g.L;have T:=F.sok _ (am C);have Q:=aE T;obtain⟨l1,l2,l3,l4⟩:=iu Q.2.2;have hz:=bV Q.2.2;obtain⟨u1,u2⟩:=QX g C ⟨D.1,ω⟩ r;have n:=λb c=>ku.setS F C D b c
 have w:=Mi k C;generalize ha:16*(nth h.J i).R+k*csz (nth h.J i).e=a at n |-;have G:¬eJ (nth h.J i) a:=by
  rintro⟨-,-,-,h4⟩
  have:(a - 16*(nth h.J i).R) / csz (nth h.J i).e=k:=by
   rw[<-ha];rcases hz with e|e|e|e<;>rw[e]<;>omega
  rw[this,u1]at h4;cases h4
 have hrange:16*(nth h.J i).R<=a/\a<=16*(nth h.J i).R+15:=by
  rcases hz with e|e|e|e<;>rw[e]at ha l4<;>omega
 have U:¬nt h.J h.M a:=by
  rintro(⟨s,p,d,-⟩|⟨l,hl,e⟩)
  ·obtain⟨j,V,rfl⟩:=aN p
   have:=cR (f:=(·.R)) F.nd V C (by have a1:=d.1;have a2:=d.2.1;omega);subst this;exact G d
  exact(yk F hl).1 _ (am C) ω
 have W:a∉E++holders h:=λX=>U ((g.mem a).1 X)
 have q:∀s∈h.J.set i (ry (nth h.J i) k),∃u∈h.J,u.R=s.R/\(s=u\/(u=nth h.J i/\s=ry u k)):=λs p=>by
  rcases eA p with rfl|⟨j,V,hji,rfl⟩
  ·exact⟨_,am C,rfl,.inr ⟨rfl,rfl⟩⟩
  exact⟨_,am V,rfl,.inl rfl⟩
 generalize hsp:h.J.set i (ry (nth h.J i) k)=sp at n w q |-;have t:pgs sp h.M=pgs h.J h.M:=by unfold pgs;rw[w]
 have N:∀u∈h.J,∃s∈sp,s.R=u.R:=λu r=>by
  have:u.R∈sp.map (·.R):=by rw[w];exact O5.2 ⟨u,r,rfl⟩
  obtain⟨s,p,e⟩:=O5.1 this;exact⟨s,p,e⟩
 exact {g with
   lay:=by
     obtain⟨l1,l2,l3⟩:=eE g.lay;unfold bp;simp only[I0,C0];refine⟨⟨Y4.2 λs p=>?_,l2⟩,by rw[t];exact l3⟩;obtain⟨u,r,-,rfl|⟨rfl,rfl⟩⟩:=q s p
     · exact F.sok _ r
     exact EL (F.sok _ r) D
   srs:=by
     have d:(h.J.map (·.R)).Pairwise (λa b=>a<b):=List.pairwise_map.2 g.srs;rw[<-w]at d;exact List.pairwise_map.1 d
   pg:=⟨g.pg.one,by rw[t];exact g.pg.bnd,by rw[t];exact g.pg.own,g.pg.fre,λs p u r O hf=>by
     obtain⟨R,A,Y,Z⟩:=q s p;obtain⟨S,B,eu,P⟩:=q u r;have H:(nth (tbl h).K R.R.toNat).d=(nth (tbl h).K S.R.toNat).d:=by rw[Y,eu];exact hf
     have d:=g.pg.mesh R A S B (by rw[Y,eu];exact O) H;rcases Z with rfl|⟨rfl,rfl⟩
     · rcases P with rfl|⟨rfl,rfl⟩
       · exact d
       rw[iy]at d |-;exact BD D (u2 _ A H) d
     rcases P with rfl|⟨rfl,rfl⟩
     · exact BD D (u2 _ B H.symm) d
     exact absurd (Y.symm.trans eu) O⟩
   nums:=by
     have:=g.nums;unfold cu at this |-;rw[C0]at this |-;exact⟨M.1,M.2,this.2.2⟩
   oow:=λo ho=>by
     rcases g.oow o ho with⟨s,p,d,h2⟩|d
     · obtain⟨u,r,g1,K⟩:=(n o.Addr (aL o.q)).2 (.inl ⟨s,p,d,.inr h2⟩)
       refine .inl ⟨u,r,g1,?_⟩;rcases K with K|K
       · have:=aE (F.sok _ p);omega
       exact K
     exact .inr d
   hca:=λc Q k D b J=>(n b k).2 (.inl (g.hca c Q k D b J))
   hqu:=λy hy=>(n _ _).2 (.inl (g.hqu y hy))
   hfl:=λb J=>(n _ _).2 (.inl (g.hfl b J))
   hin:=λb J=>by
     rcases List.mem_cons.1 J with rfl|J
     · exact(n _ _).2 (.inr ⟨rfl,.inl (by decide)⟩)
     exact(n _ _).2 (.inl (g.hin b J))
   nd:=by
     rw[List.cons_append];exact List.nodup_cons.2 ⟨W,g.nd⟩
   mem:=λb=>by
     show b∈a::E++holders h↔nt sp h.M b;rw[List.cons_append,List.mem_cons,g.mem b];unfold nt;rw[n];constructor
     · rintro(rfl|d|d)
       · exact .inl (.inr ⟨rfl,.inl (by decide)⟩)
       · exact .inl (.inl d)
       exact .inr d
     rintro((d|⟨d,-⟩)|d)
     · exact .inr (.inl d)
     · exact .inl d
     exact .inr (.inr d)
   job:=λX=>by
     obtain⟨j1,⟨s,p,e1⟩,⟨u,r,e2⟩⟩:=g.job X;obtain⟨R,A,g1⟩:=N s p;obtain⟨S,B,K⟩:=N u r;exact⟨j1,⟨R,A,g1.trans e1⟩,⟨S,B,K.trans e2⟩⟩}
def tF(c:aC)(k:Nat):aC:=⟨c.a.set k ((nth c.a k).take ((nth c.a k).length - 1))⟩
def PU{l:List Int}(h:0<l.length):l=l.take (l.length - 1)++[nth l (l.length - 1)]:=by
 have a:l.drop (l.length - 1)=[nth l (l.length - 1)]:=by
  rw[iD ω,show l.length - 1+1=l.length by omega,List.drop_length]
 rw[<-a,List.take_append_drop]
variable{t:Nat}
def aU.pop{k:Nat}(f:aU h E)(l:t<h.S.length)(p:k<(nth h.S t).a.length)(u:0<(nth (nth h.S t).a k).length)(w:bz (tF (nth h.S t) k)=true) :
  aU {h with S:=h.S.set t (tF (nth h.S t) k)} (nth (nth (nth h.S t).a k) ((nth (nth h.S t).a k).length - 1)::E)/\ku h.J (nth (nth (nth h.S t).a k) ((nth (nth h.S t).a k).length - 1)) k:=by
 have q:=PU u;have n:=f.hca _ (am l) k p (nth (nth (nth h.S t).a k) ((nth (nth h.S t).a k).length - 1)) (am ω);refine⟨?_,n⟩;generalize D:nth (nth (nth h.S t).a k) ((nth (nth h.S t).a k).length - 1)=a at q n |-;have r:(E++holders h).Perm (a::E++holders {h with S:=h.S.set t (tF (nth h.S t) k)}):=by
  refine List.perm_iff_count.2 λb=>?_
  have A:=jh (λc:aC=>c.a.flatten) b h.S t (tF (nth h.S t) k) l;have B:=jh (λy:List Int=>y) b (nth h.S t).a k ((nth (nth h.S t).a k).take ((nth (nth h.S t).a k).length - 1)) p;rw[<-lJ,<-lJ]at B;have C:=Z0 (List.count b) q;simp only[S7,List.count_singleton]at C;simp only[tF]at A;simp only[holders,cI,tF,S7,List.cons_append,List.count_cons];omega
 exact {f with
   nc:=by show(h.S.set ..).length=_;rw[Z1];exact f.nc
   cach:=λc d=>by
     rcases Y7 d with d|rfl
     · exact f.cach c d
     exact w
   onu:=by show ∀o∈h.O,1<=o.Id/\o.Id<=h.b - 1/\0<=o.a5/\o.a5<=(h.S.set t _).length - 1;rw[Z1];exact f.onu
   hca:=λc d j i b g=>by
     rcases Y7 d with d|rfl
     · exact f.hca c d j i b g
     simp only[tF,Z1]at i;simp only[tF,bt]at g;by_cases e:k=j
     · subst e
       rw[CD ⟨rfl,i⟩]at g;exact f.hca _ (am l) _ i b (List.mem_of_mem_take g)
     rw[CB λy=>e y.1]at g;exact f.hca _ (am l) _ i b g
   hin:=λb g=>by
     rcases List.mem_cons.1 g with rfl|g
     · exact n.any
     exact f.hin b g
   nd:=r.nodup_iff.1 f.nd
   mem:=λb=>by rw[<-r.mem_iff];exact f.mem b}
def Qz(a:Int)(o:bu):Bool:=decide (a<=o.Addr)
def addO(h:ab)(a size t:Int):ab:={h with O:=jV (Qz a) h.O ⟨h.b,a,size,t⟩,b:=h.b+1}
def Bx(a:cu h=true)(b:h.b<1000000):decide (0<=h.b8/\h.b8<=1073741823/\0<=h.b3/\h.b3<=1000000/\0<=h.c2/\h.c2<=1000/\1<=h.b+1/\h.b+1<=1000000)=true:=by
 unfold cu at a;rw[C0]at a |-;omega
def aU.addO{h:ab}{E:List Int}{a size t:Int}(c:aU h (a::E))(d:NT h.J h.M ⟨h.b,a,size,t⟩)(p:h.b<1000000)(q:0<=t/\t<=h.S.length - 1):aU (addO h a size t) E:=by
 have i:=l8 (Qz a) h.O ⟨h.b,a,size,t⟩;have n:(a::E++holders h).Perm (E++holders (Ab.addO h a size t)):=by
  have r:=i.map (·.Addr);refine List.perm_iff_count.2 λb=>?_
  have u:=r.count_eq b;simp only[O7,List.count_cons]at u;simp only[holders,cI,Ab.addO,S7,List.cons_append,List.count_cons];omega
 have j:=c.nd;rw[List.cons_append]at j;obtain⟨k,-⟩:=List.nodup_cons.1 j;have l:∀o∈h.O,o.Addr≠a:=λo d e=>k (W3.2 (.inr (by unfold holders;simp only[W3];exact .inl (.inl (.inl (O5.2 ⟨o,d,e⟩))))))
 exact {c with
   nums:=Bx c.nums p
   osr:=mr (f:=λo:bu=>o.Addr) (y:=⟨h.b,a,size,t⟩) c.osr l
   onu:=λo d=>by
     rcases cK.1 d with rfl|d
     · have:=c.nums
       unfold cu at this;rw[C0]at this;exact⟨by show 1<=h.b;omega,by show h.b<=h.b+1 - 1;omega,q⟩
     have:=c.onu o d;exact⟨this.1,by show o.Id<=h.b+1 - 1;omega,this.2.2⟩
   oid:=by
     show((jV (Qz a) h.O ⟨h.b,a,size,t⟩).map (·.Id)).Nodup;rw[(i.map _).nodup_iff,O7];refine List.nodup_cons.2 ⟨λw=>?_,c.oid⟩;obtain⟨o,d,e⟩:=O5.1 w;have:=(c.onu o d).2.1;simp only at e;omega
   oow:=λo g=>by
     rcases cK.1 g with rfl|g
     · exact d
     exact c.oow o g
   hin:=λb A=>c.hin b (W6 _ A)
   nd:=n.nodup_iff.1 c.nd
   mem:=λb=>by rw[<-n.mem_iff];exact c.mem b}
def jG(xs:List a8)(n:Int):Nat->Int
 | 0=>-1
 | i+1=>if n<=(nth xs i).b0/\(jG xs n i<0\/(nth xs i).b0<(nth xs (jG xs n i).toNat).b0) then(i:Nat) else jG xs n i
def iB(xs:List a8)(n:Int):Int:=jG xs n xs.length
def ax(xs:List a8)(n:Int):List a8 × Int × Bool:=
 if iB xs n<0 then(xs,-1,false)
 else if(nth xs (iB xs n).toNat).b0=n then(dele xs (iB xs n).toNat,(nth xs (iB xs n).toNat).At,true)
 else(xs.set (iB xs n).toNat ⟨(nth xs (iB xs n).toNat).At+n,(nth xs (iB xs n).toNat).b0 - n⟩,(nth xs (iB xs n).toNat).At,true)
def yw(xs:List a8)(n:Int):∀i,i<=xs.length->jG xs n i = -1\/(0<=jG xs n i/\jG xs n i<i/\n<=(nth xs (jG xs n i).toNat).b0)
 | 0,_=>.inl rfl
 | i+1,b=>by
  have a:=yw xs n i ω;unfold jG;split
  ·rename_i h;right;rw[O3];exact⟨ω,ω,h.1⟩
  rcases a with h|h
  ·exact .inl h
  exact .inr ⟨h.1,ω,h.2.2⟩
variable{xs:List a8}
def y9(h:jJ xs){j:Nat}(a:i<j)(b:j<xs.length):(nth xs i).At+(nth xs i).b0<(nth xs j).At:=by
 have:=List.pairwise_iff_getElem.1 h.1 i j ω b a
 rwa [<-bh (X2 (show i<xs.length by omega)),<-bh (X2 b)]at this
variable{p:Int}
def zr : RH xs p↔∃j,j<xs.length/\(nth xs j).At<=p/\p<(nth xs j).At+(nth xs j).b0:=by
 unfold RH;constructor
 ·rintro⟨r,b,h⟩
  obtain⟨j,a,rfl⟩:=aN b;exact⟨j,a,h⟩
 rintro⟨j,a,h⟩
 exact⟨_,am a,h⟩
def ou{pages:Int}{n:Int}(h:bG pages xs=true)(T:1<=n)(t:(ax xs n).2.2=true) :
  bG pages (ax xs n).1=true/\0<=(ax xs n).2.1/\(ax xs n).2.1+n<=pages/\(∀p,RH (ax xs n).1 p↔RH xs p/\¬((ax xs n).2.1<=p/\p<(ax xs n).2.1+n))/\∀p,(ax xs n).2.1<=p->p<(ax xs n).2.1+n->RH xs p:=by
 obtain⟨o,u,J⟩:=gr.1 h;have K:=yw xs n xs.length (X3 _);unfold ax at t |-;change iB xs n = -1\/_ at K;split at t
 ·cases t
 rename_i w;rw[CB w];obtain⟨O,P,L⟩:=K.resolve_left ω;change 0<=iB xs n at O;change iB xs n<xs.length at P;change n<=(nth xs (iB xs n).toNat).b0 at L;generalize Q:(iB xs n).toNat=b at L |-;have g:b<xs.length:=ω
 have M:=u _ (am g);have q:∀j,j<xs.length->j≠b->(nth xs j).At+(nth xs j).b0<(nth xs b).At\/(nth xs b).At+(nth xs b).b0<(nth xs j).At:=λj a k=>by
  rcases Nat.lt_or_gt_of_ne k with A|B
  ·exact .inl (y9 o A g)
  exact .inr (y9 o B a)
 split
 ·rename_i R
  have C:(dele xs b).Sublist xs:=fh ..;refine⟨gr.2 ⟨⟨o.1.sublist C,λy l=>o.2 y (C.subset l)⟩,λy l=>u y (C.subset l),J⟩,M.1,by show(nth xs b).At+n<=pages;omega,λp=>?_,λp D E=>zr.2 ⟨b,g,D,by show p<_;simp only at E;omega⟩⟩;simp only;rw[zr (xs:=xs)];constructor
  ·rintro⟨r,F,f,d⟩
   obtain⟨j,a,k,rfl⟩:=dv.1 F;refine⟨⟨j,a,f,d⟩,λe=>?_⟩;have:=q j a k;omega
  rintro⟨⟨j,a,f,d⟩,G⟩
  exact⟨_,dv.2 ⟨j,a,λe=>by subst e;omega,rfl⟩,f,d⟩
 rename_i R;have c:∀j,nth (xs.set b ⟨(nth xs b).At+n,(nth xs b).b0 - n⟩) j=if j=b then⟨(nth xs b).At+n,(nth xs b).b0 - n⟩ else nth xs j:=λj=>by
  rw[bt];by_cases e:j=b
  ·rw[CD ⟨e.symm,ω⟩,CD e]
  rw[CB λz=>e z.1.symm,CB e]
 refine⟨gr.2 ⟨⟨?_,λy l=>?_⟩,λy l=>?_,J⟩,M.1,by show(nth xs b).At+n<=pages;omega,λp=>?_,λp D E=>zr.2 ⟨b,g,D,by simp only at E;omega⟩⟩
 ·rw[List.pairwise_iff_getElem]
  intro i j N a H;rw[<-bh (X2 N),<-bh (X2 a),c,c];simp only[Z1]at N a;have S:=y9 o H a;split
  ·rename_i e;subst e
   rw[CB ω];simp only;omega
  split
  ·rename_i e;subst e
   simp only;omega
  exact S
 ·rcases eA l with rfl|⟨j,a,-,rfl⟩
  ·simp only;omega
  exact o.2 _ (am a)
 ·rcases eA l with rfl|⟨j,a,-,rfl⟩
  ·simp only;omega
  exact u _ (am a)
 simp only;rw[zr,zr,Z1];constructor
 ·rintro⟨j,a,f,d⟩
  rw[c]at f d;split at f
  ·rename_i e;subst e
   rw[CD rfl]at d;simp only at f d;exact⟨⟨j,a,ω,ω⟩,ω⟩
  rename_i e;rw[CB e]at d;have:=q j a e;exact⟨⟨j,a,f,d⟩,ω⟩
 rintro⟨⟨j,a,f,d⟩,G⟩
 refine⟨j,a,?_⟩;rw[c];split
 ·rename_i e;subst e
  simp only;omega
 exact⟨f,d⟩
def sI(k:af):Int:=ee (λu=>!u) k.F.U.a3
def sf(k:af)(p:Int)(f:Nat):af:={k with F:=⟨⟨k.F.U.T,k.F.U.a3.set f true⟩,⟨k.F.Q.K.set p.toNat ⟨2,(f:Nat)⟩⟩⟩}
def newK(k:af)(p:Int):af × Bool:=if refd k=true\/sI k<0 then(ce k,false) else(sf (ce k) p (sI k).toNat,true)
def G9{k:af}(h:¬sI k<0):(sI k).toNat<k.F.U.a3.length/\nth k.F.U.a3 (sI k).toNat=false:=by
 unfold sI at h |-;rcases p8 (λu=>!u) k.F.U.a3 with e|⟨n,a,e,b⟩
 ·omega
 rw[e,O3];exact⟨a,by simpa using b⟩
variable{f:Nat}
def BO{k:af}(h:ay k=true)(b:f<k.F.U.a3.length)(c:nth k.F.U.a3 f=false)(q:Nat)(d:q<k.F.Q.K.length)(g:(nth k.F.Q.K q).j≠0):(nth k.F.Q.K q).d≠(f:Nat):=by
 obtain⟨j,l,n,i,o⟩:=a7.1 h;intro e;have a:=i f b;rw[c]at a;have:=of_decide_eq_false a.symm;exact this (dn.2 ⟨q,d,g,e⟩)
def Q5{k:af}(h:ay k=true)(L:0<=p/\p<k.F.Q.K.length)(n:(nth k.F.Q.K p.toNat).j=0)(o:f<k.F.U.a3.length)(r:nth k.F.U.a3 f=false):ay (sf k p f)=true:=by
 have t:=BO h o r;obtain⟨u,w,y,A,B⟩:=a7.1 h;obtain⟨C,D,E,F⟩:=aO.1 w;obtain⟨G,H,J⟩:=bo.1 y;have a:∀q,nth (k.F.Q.K.set p.toNat ⟨2,(f:Nat)⟩) q=if p.toNat=q then⟨2,(f:Nat)⟩ else nth k.F.Q.K q:=λq=>by
  rw[bt];by_cases i:p.toNat=q
  ·rw[CD ⟨i,ω⟩,CD i]
  rw[CB (λe=>i e.1),CB i]
 refine a7.2 ⟨u,aO.2 ⟨C,D,by simp only[sf,Z1];exact E,λj b=>?_⟩,bo.2 ⟨λj b=>?_,?_,?_⟩,λj b=>?_,B⟩
 ·replace b:j<k.F.U.T.length:=b
  show gT (nth k.F.U.T j) (nth (k.F.U.a3.set f true) j)=true;have d:=F j b;rw[bt];split
  ·unfold gT at d |-
   simp only[I0,C0,Y4]at d |-;refine⟨d.1,λv K=>?_⟩;have:=d.2 v K;unfold iZ at this |-;simp only[I0]at this;rw[this.1];rfl
  exact d
 ·simp only[sf,Z1]at b |-
  rw[a];split
  ·unfold kV;rw[C0];simp only;omega
  exact G j b
 ·simp only[sf,Z1];exact H
 ·simp only[sf,Z1];exact J
 simp only[sf,Z1]at b;show nth (k.F.U.a3.set f true) j=_;rw[bt];by_cases e:f=j
 ·subst e
  rw[CD ⟨rfl,b⟩];refine(O0 (dn.2 ⟨p.toNat,?_,?_,?_⟩)).symm
  ·simp only[sf,Z1];omega
  ·simp only[sf,a,CD];decide
  simp only[sf,a,CD]
 rw[CB λz=>e z.1,A j b];refine decide_eq_decide.2 ?_;rw[dn,dn];simp only[sf,Z1,a];constructor
 ·rintro⟨q,l,g,c⟩
  refine⟨q,l,?_⟩;rw[CB λz=>g (by rw[<-z];exact n)];exact⟨g,c⟩
 rintro⟨q,l,g,c⟩
 by_cases z:p.toNat=q
 ·rw[CD z]at c
  simp only at c;omega
 rw[CB z]at g c;exact⟨q,l,g,c⟩
structure wH(k:af)(p:Int)(r:af × Bool):Prop where
 ker:ay r.1=true
 len:r.1.F.Q.K.length=k.F.Q.K.length
 calls:r.1.Calls=k.Calls+1
 ref:r.1.u=k.u
 cells:r.1.F.U.T=k.F.U.T
 no:r.2=false->r.1=ce k
 yes:r.2=true->∃f:Nat,f<k.F.U.a3.length/\nth k.F.U.a3 f=false/\(∀q:Nat,nth r.1.F.Q.K q=if(q:Int)=p then⟨2,(f:Nat)⟩ else nth k.F.Q.K q)/\∀q,q<k.F.Q.K.length->(nth k.F.Q.K q).j≠0->(nth k.F.Q.K q).d≠(f:Nat)
def wH.of{k:af}(h:ay k=true)(c:k.Calls≠100000)(f:0<=p/\p<k.F.Q.K.length)(g:(nth k.F.Q.K p.toNat).j=0):wH k p (newK k p):=by
 unfold newK;split
 ·exact⟨nw h c,rfl,rfl,rfl,rfl,λ_=>rfl,λe=>by cases e⟩
 rename_i d;rw[not_or]at d;obtain⟨a,b⟩:=G9 d.2;refine⟨Q5 (nw h c) f g a b,by simp[sf,ce],rfl,rfl,rfl,λe=>(by cases e),λ_=>⟨_,a,b,λq=>?_,λq=>BO h a b q⟩⟩;simp only[sf,ce,bt];by_cases e:(q:Int)=p
 ·rw[CD ⟨ω,ω⟩,CD e]
 rw[CB λz=>e ω,CB e]
def newsK(k:af)(p:Int):Nat->af × Nat
 | 0=>(k,0)
 | i+1=>if(newsK k p i).2=i then((newK (newsK k p i).1 (p+(i:Nat))).1,if(newK (newsK k p i).1 (p+(i:Nat))).2=true then i+1 else i) else newsK k p i
structure m0(k:af)(p:Int)(i:Nat)(r:af × Nat):Prop where
 ker:ay r.1=true
 len:r.1.F.Q.K.length=k.F.Q.K.length
 calls:k.Calls<=r.1.Calls/\r.1.Calls<=k.Calls+i
 ref:r.1.u=k.u
 cells:r.1.F.U.T=k.F.U.T
 le:r.2<=i
 out:∀q:Nat,¬(p<=q/\(q:Int)<p+r.2)->nth r.1.F.Q.K q=nth k.F.Q.K q
 new:∀q:Nat,p<=q->(q:Int)<p+r.2->(nth r.1.F.Q.K q).j=2/\∀u:Nat,u<k.F.Q.K.length->(nth r.1.F.Q.K u).j≠0->(nth r.1.F.Q.K u).d=(nth r.1.F.Q.K q).d->u=q
def m0.of{k:af}{p:Int}{n:Nat}(h:ay k=true)(G:k.Calls+n<=100000)(H:0<=p/\p+n<=k.F.Q.K.length)(C:∀q:Nat,p<=q->(q:Int)<p+n->(nth k.F.Q.K q).j=0):∀i,i<=n->m0 k p i (newsK k p i)
 | 0,_=>⟨h,rfl,⟨I6 _,by show k.Calls<=k.Calls+((0:Nat):Int);omega⟩,rfl,rfl,X3 _,λ_ _=>rfl,λq o d=>by simp only[newsK]at d;omega⟩
 | i+1,L=>by
  have a:=m0.of h G H C i ω;unfold newsK;split
  case isFalse=>exact⟨a.ker,a.len,⟨a.calls.1,by have:=a.calls.2;omega⟩,a.ref,a.cells,by have:=a.le;omega,a.out,a.new⟩
  rename_i t;generalize newsK k p i=r at a t |-;have J:=a.calls;have y:(nth r.1.F.Q.K (p+(i:Nat)).toNat).j=0:=by
   rw[a.out _ ω];exact C _ ω ω
  have s:=wH.of (p:=p+(i:Nat)) a.ker ω ⟨ω,by rw[a.len];omega⟩ y;generalize newK r.1 (p+(i:Nat))=w at s |-;refine⟨s.ker,s.len.trans a.len,⟨by simp only[s.calls];omega,by simp only[s.calls];omega⟩,s.ref.trans a.ref,s.cells.trans a.cells,by simp only;split<;>omega,λq j=>?_,λq o d=>?_⟩
  ·simp only at j |-
   cases e:w.2 with
   | false=>
    rw[s.no e];rw[e]at j;exact a.out q (by rw[t];simpa using j)
   | true=>
    obtain⟨f,-,-,g,-⟩:=s.yes e;rw[e,CD rfl]at j;rw[g,CB ω];exact a.out q ω
  simp only at d |-;cases e:w.2 with
  | false=>
   rw[s.no e];rw[e]at d;exact a.new q o (by rw[t];simpa using d)
  | true=>
   obtain⟨f,-,-,g,D⟩:=s.yes e;rw[e,CD rfl]at d;have A:q<k.F.Q.K.length:=ω
   rw[g];by_cases E:(q:Int)=p+(i:Nat)
   ·rw[CD E]
    refine⟨rfl,λu B c b=>?_⟩;rw[g]at c b;by_cases l:(u:Int)=p+(i:Nat)
    ·omega
    rw[CB l]at c b;exact absurd b (D u (by rw[a.len];exact B) c)
   rw[CB E];obtain⟨F,K⟩:=a.new q o ω;refine⟨F,λu B c b=>?_⟩;rw[g]at c b;by_cases l:(u:Int)=p+(i:Nat)
   ·rw[CD l]at b
    exact absurd b.symm (D q (by rw[a.len];exact A) (by rw[F];decide))
   rw[CB l]at c b;exact K u B c b
def m0.undo{k:af}{r:af × Nat}(s:m0 k p i r)(h:ay k=true)(d:0<=p/\p+i<=k.F.Q.K.length)(e:∀q:Nat,p<=q->(q:Int)<p+i->(nth k.F.Q.K q).j=0):ay (unmN r.1 p r.2)=true/\tEq k.F.Q (unmN r.1 p r.2).F.Q:=by
 have f:=s.le;have g:=np s.ker d.1 r.2 (by rw[s.len];omega);refine⟨iM s.ker p r.2,((fF r.1 p r.2).1).trans s.len,λq=>?_⟩;rw[g];split
 ·rename_i a
  have c:=e q a.1 ω;obtain⟨-,-,j,-⟩:=a7.1 h;have b:=(bo.1 j).1 q ω;unfold kV at b;rw[C0]at b;exact⟨⟨λz=>absurd rfl z,λz=>absurd c z⟩,(b.2.2.1 c).symm⟩
 rename_i a;rw[s.out q a];exact⟨Iff.rfl,rfl⟩
variable{n:Nat}
def Pg.add{t h:aI}{O r:List a8}{b:List au}{d:List aB}(i:Pg t O sp la)(E:h.K.length=t.K.length)(S:p+n<=t.K.length)(hp:0<=p)(j:∀q:Nat,¬(p<=q/\(q:Int)<p+n)->nth h.K q=nth t.K q)(a:∀q:Nat,p<=q->(q:Int)<p+n->(nth h.K q).j=2/\∀u:Nat,u<t.K.length->(nth h.K u).j≠0->(nth h.K u).d=(nth h.K q).d->u=q)(J:∀q,RH r q↔RH O q/\¬(p<=q/\q<p+n))(F:∀q,q∈pgs b d↔q∈pgs sp la\/(p<=q/\q<p+n))(w:∀s∈b,0<=s.R/\(s∈sp\/(p<=s.R/\s.R<p+n)))(K:∀l∈d,l∈la\/∀q∈lpgs l l.a4.toNat,p<=q/\q<p+n):Pg h r b d:=by
 have f:∀q:Nat,q<t.K.length->((nth h.K q).j≠0↔(q:Int)∈pgs b d):=λq c=>by
  rw[F];by_cases e:p<=q/\(q:Int)<p+n
  ·have:=(a q e.1 e.2).1
   exact⟨λ_=>.inr e,λ_=>by rw[this];decide⟩
  rw[j q e,i.own q c];exact⟨.inl,λz=>z.resolve_right e⟩
 refine⟨λl A q c u k L G=>?_,λq c=>?_,λq c=>f q (by rw[<-E];exact c),λq c=>?_,λs P u k M H=>?_⟩
 ·rw[E]at k
  have B:=gw (sp:=b) A c;have C:q<t.K.length:=by
   rcases(F _).1 B with g|g
   ·have:=i.bnd _ g;omega
   omega
  by_cases e:p<=q/\(q:Int)<p+n
  ·exact(a q e.1 e.2).2 u k L G
  have N:=(K l A).resolve_right λg=>e (g _ c)
  by_cases o:p<=u/\(u:Int)<p+n
  ·exact((a u o.1 o.2).2 q C ((f q C).2 B) G.symm).symm
  rw[j q e,j u o]at G;rw[j u o]at L;exact i.one l N q c u k L G
 ·rw[E]
  rcases(F _).1 c with g|g
  ·exact i.bnd _ g
  omega
 ·rw[E]at c
  rw[J];by_cases e:p<=q/\(q:Int)<p+n
  ·have:=(a q e.1 e.2).1
   exact⟨λ_ z=>z.2 e,λ_=>by rw[this];decide⟩
  rw[j q e,i.fre q c];exact⟨λz y=>z y.1,λz y=>z ⟨y,e⟩⟩
 obtain⟨T,U⟩:=w s P;obtain⟨V,W⟩:=w u k;have D:∀y∈b,0<=y.R->y.R.toNat<t.K.length/\((y.R.toNat:Nat):Int)=y.R/\(nth h.K y.R.toNat).j≠0:=λy X Y=>by
  have g:=dH (la:=d) X;have Q:y.R.toNat<t.K.length:=by
   rcases(F _).1 g with R|R
   ·have:=i.bnd _ R;omega
   omega
  exact⟨Q,ω,(f _ Q).2 (by rw[show((y.R.toNat:Nat):Int)=y.R by omega];exact g)⟩
 obtain⟨Z,sc,sd⟩:=D s P T;obtain⟨ub,uc,ud⟩:=D u k V;by_cases es:p<=s.R/\s.R<p+n
 ·have:=(a s.R.toNat ω ω).2 _ ub ud H.symm
  omega
 by_cases o:p<=u.R/\u.R<p+n
 ·have:=(a u.R.toNat ω ω).2 _ Z sd H
  omega
 rw[j _ ω,j _ ω]at H;exact i.mesh s (U.resolve_right es) u (W.resolve_right o) M H
def FN{a:List au}{b:List aB}(c:a.Perm sp)(d:b.Perm la):(pgs a b).Perm (pgs sp la):=by
 unfold pgs;exact(c.map _).append (d.flatMap_right _)
def H1(p:Int)(s:au):Bool:=decide (p<=s.R)
def RR(p:Int)(l:aB):Bool:=decide (p<=l.R)
def addS(h:ab)(k:af)(a:List a8)(p c:Int):ab:={h with G:=k,w:=a,J:=jV (H1 p) h.J ⟨p,c,0⟩}
def jY(a:aU h E){n:Int}(j:1<=n)(k:(ax h.w n).2.2=true):0<=(ax h.w n).2.1/\(ax h.w n).2.1+n<=(tbl h).K.length/\(∀q:Nat,(ax h.w n).2.1<=q->(q:Int)<(ax h.w n).2.1+n->(nth (tbl h).K q).j=0)/\∀q:Int,(ax h.w n).2.1<=q->q<(ax h.w n).2.1+n->q∉pgs h.J h.M:=by
 obtain⟨r,l,f,t,o⟩:=ou a.rng j k;have g:∀q:Nat,(ax h.w n).2.1<=q->(q:Int)<(ax h.w n).2.1+n->(nth (tbl h).K q).j=0:=λq b c=>by
  have d:q<(tbl h).K.length:=by
   have:(ax h.w n).2.1+n<=((tbl h).K.length:Nat):=f;omega
  by_cases e:(nth (tbl h).K q).j=0
  ·exact e
  exact absurd (o q b c) ((a.pg.fre q d).1 e)
 refine⟨l,f,g,λq b c i=>?_⟩;have u:=a.pg.bnd q i;obtain⟨m,rfl⟩:=V3 (show 0<=q by omega);have p:=(a.pg.own m ω).2 i;exact p (g m b c)
def aU.addS{h:ab}{E:List Int}{c:Int}(a:aU h E)(H:0<=c/\c<=3)(F:(ax h.w 1).2.2=true){k:af}(s:wH h.G (ax h.w 1).2.1 (k,true)):aU (addS h k (ax h.w 1).1 (ax h.w 1).2.1 c) E:=by
 obtain⟨U,G,r3,J,r5⟩:=ou a.rng (I6 _) F;obtain⟨-,V,u3,W⟩:=jY a (I6 _) F;generalize (ax h.w 1).2.1=p at G r3 J r5 V u3 W s |-;generalize (ax h.w 1).1=fr at U J |-;obtain⟨f,f1,f2,K,f4⟩:=s.yes rfl;have M:=(bo.1 (a7.1 a.ker).2.2.1).2.2;change (tbl h).K.length<=32 at M;have X:=a.L;have N:=l8 (H1 p) h.J ⟨p,c,0⟩;have O:=FN N (List.Perm.refl h.M);have w:(pgs (jV (H1 p) h.J ⟨p,c,0⟩) h.M).Perm (p::pgs h.J h.M):=O;have B:p∉pgs h.J h.M:=W p (I6 _) ω;have P:∀z∈h.J,z.R≠p:=λz g e=>B (by rw[<-e];exact dH g)
 have i:∀b d,ku (jV (H1 p) h.J ⟨p,c,0⟩) b d↔ku h.J b d:=λb d=>by
  constructor
  ·rintro⟨s,C,A,Q⟩
   rcases cK.1 C with rfl|C
   ·exact absurd A (wT rfl b)
   exact⟨s,C,A,Q⟩
  rintro⟨s,C,A⟩
  exact⟨s,cK.2 (.inr C),A⟩
 exact {a with
   ker:=s.ker
   rng:=by show bG ((k.F.Q.K.length:Nat):Int) fr=true;rw[s.len];exact U
   lay:=by
     obtain⟨l1,l2,l3⟩:=eE a.lay;unfold bp;simp only[I0,C0];refine⟨⟨Y4.2 λz g=>?_,l2⟩,w.nodup_iff.2 (List.nodup_cons.2 ⟨B,l3⟩)⟩;rcases cK.1 g with rfl|g
     · have R:0<=lim c:=by
         have:=(iu H).1;obtain rfl|rfl|rfl|rfl:c=0\/c=1\/c=2\/c=3:=ω
         all_goals decide
       exact O0 ⟨G,by show p<=31;omega,H.1,H.2,I6 _,R⟩
     exact X.sok z g
   srs:=mr (f:=λz:au=>z.R) (y:=⟨p,c,0⟩) a.srs P
   pg:=by
     refine a.pg.add (p:=p) (n:=1) s.len (by exact V) G (λq Y=>?_) (λq q1 q2=>?_) (λq=>J q) (λq=>?_) (λz g=>?_) (λl hl=>.inl hl)
     · exact(K q).trans (CB ω)
     · have Y:(q:Int)=p:=ω
       have Z:nth k.F.Q.K q = ⟨2,(f:Nat)⟩:=(K q).trans (CD Y);refine⟨Z0 bi.j Z,λu S t r=>?_⟩;have fu:nth k.F.Q.K u=if(u:Int)=p then⟨2,(f:Nat)⟩ else nth h.G.F.Q.K u:=K u
       change (nth k.F.Q.K u).j≠0 at t;change (nth k.F.Q.K u).d=(nth k.F.Q.K q).d at r;rw[fu]at t r;rw[Z]at r;by_cases eu:(u:Int)=p
       · omega
       rw[CB eu]at t r;exact absurd r (f4 u S t)
     · show q∈pgs (jV (H1 p) h.J ⟨p,c,0⟩) h.M↔_
       rw[w.mem_iff,List.mem_cons];constructor
       · rintro(e|e)
         · exact .inr ⟨ω,ω⟩
         exact .inl e
       rintro(e|e)
       · exact .inr e
       exact .inl ω
     rcases cK.1 g with rfl|g
     · exact⟨G,.inr ⟨I6 _,by show p<p+((1:Nat):Int);omega⟩⟩
     exact⟨(aE (X.sok z g)).1,.inl g⟩
   oow:=λo F=>by
     rcases a.oow o F with⟨z,g,A,Q⟩|A
     · exact .inl ⟨z,cK.2 (.inr g),A,Q⟩
     exact .inr A
   hca:=λd hd j hj b D=>(i b j).2 (a.hca d hd j hj b D)
   hqu:=λy T=>(i _ _).2 (a.hqu y T)
   hfl:=λb D=>(i _ _).2 (a.hfl b D)
   hin:=λb D=>(i _ _).2 (a.hin b D)
   mem:=λb=>(a.mem b).trans (by
     show nt h.J h.M b↔nt (jV (H1 p) h.J ⟨p,c,0⟩) h.M b;unfold nt;rw[i])
   job:=λhm=>by
     obtain⟨j1,⟨y,T,e1⟩,⟨u,S,e2⟩⟩:=a.job hm;exact⟨j1,⟨y,cK.2 (.inr T),e1⟩,⟨u,cK.2 (.inr S),e2⟩⟩}
def addL(h:ab)(k:af)(a:List a8)(p n size t:Int):ab:={h with G:=k,w:=a,M:=jV (RR p) h.M ⟨p,n,size⟩,O:=jV (Qz (16*p)) h.O ⟨h.b,16*p,size,t⟩,b:=h.b+1}
def aU.addL{h:ab}{E:List Int}{size t:Int}{n:Nat}(a:aU h E)(g:9<=size/\size<=1000)(J:(n:Int)=(size+15) / 16)(i:(ax h.w n).2.2=true){k:af}(s:m0 h.G (ax h.w n).2.1 n (k,n))(hn:h.b<1000000)(ht:0<=t/\t<=h.S.length - 1) :
  aU (addL h k (ax h.w n).1 (ax h.w n).2.1 n size t) E:=by
 have B:(1:Int)<=n:=ω
 obtain⟨V,K,r3,M,r5⟩:=ou a.rng B i;obtain⟨-,W,u3,H⟩:=jY a B i;generalize (ax h.w n).2.1=p at K r3 M r5 W u3 H s |-;generalize (ax h.w n).1=fr at V M |-;have N:=(bo.1 (a7.1 a.ker).2.2.1).2.2;change (tbl h).K.length<=32 at N;have O:=a.L;have P:=l8 (RR p) h.M ⟨p,n,size⟩;have C:=l8 (Qz (16*p)) h.O ⟨h.b,16*p,size,t⟩;have Q:lpgs ⟨p,n,size⟩ ((n:Nat):Int).toNat=lpgs ⟨p,n,size⟩ n:=by rw[O3]
 have D:(pgs h.J (jV (RR p) h.M ⟨p,n,size⟩)).Perm (lpgs ⟨p,n,size⟩ n++pgs h.J h.M):=by
  refine(FN (List.Perm.refl h.J) P).trans ?_;unfold pgs;rw[C8];simp only[Q];rw[<-Z6,<-Z6];exact List.perm_append_comm.append_right _
 have u:∀q,q∈lpgs ⟨p,n,size⟩ n↔p<=q/\q<p+n:=λq=>by
  rw[dC];constructor
  ·rintro⟨j,hj,rfl⟩;exact⟨by show p<=p+(j:Int);omega,by show p+(j:Int)<_;omega⟩
  rintro⟨X,Y⟩;exact⟨(q - p).toNat,ω,by show q=p+_;omega⟩
 have R:(lpgs ⟨p,n,size⟩ n).Nodup:=by
  unfold lpgs List.Nodup;rw[List.pairwise_map];exact List.nodup_range.imp λr e=>r (by simp only at e;omega)
 have r:∀z∈h.M,z.R≠p:=λz g e=>H p (I6 _) ω (by rw[<-e];exact gw g (dC.2 ⟨0,by have:=aQ (O.lok z g);omega,ω⟩))
 have S:¬nt h.J h.M (16*p):=by
  rintro(⟨z,g,d,-⟩|⟨l,c,e⟩)
  ·exact H p (I6 _) ω (by rw[show p=z.R by have a1:=d.1;have a2:=d.2.1;omega];exact dH g)
  exact r l c ω
 have F:(16*p)∉E++holders h:=λT=>S ((a.mem _).1 T)
 have U:∀o∈h.O,o.Addr≠16*p:=λo i e=>F (W3.2 (.inr (by unfold holders;simp only[W3];exact .inl (.inl (.inl (O5.2 ⟨o,i,e⟩))))))
 have Z:(E++holders (Ab.addL h k fr p n size t)).Perm ((16*p)::(E++holders h)):=by
  have h0:=C.map (·.Addr);refine List.perm_iff_count.2 λb=>?_
  have d:=h0.count_eq b;simp only[O7,List.count_cons]at d;simp only[holders,cI,Ab.addL,S7,List.count_cons];omega
 exact {a with
   ker:=s.ker
   rng:=by show bG ((k.F.Q.K.length:Nat):Int) fr=true;rw[s.len];exact V
   lay:=by
     obtain⟨l1,l2,l3⟩:=eE a.lay;unfold bp;simp only[I0,C0];refine⟨⟨l1,Y4.2 λz w=>?_⟩,D.nodup_iff.2 (List.nodup_append.2 ⟨R,l3,λq G b hb e=>?_⟩)⟩
     · rcases cK.1 w with rfl|w
       · exact O0 ⟨g.1,g.2,J,K,by show p<=32 - (n:Int);omega⟩
       exact O.lok z w
     subst e;have:=(u q).1 G;exact H q this.1 this.2 hb
   srl:=mr (f:=λz:aB=>z.R) (y:=⟨p,n,size⟩) a.srl r
   pg:=by
     refine a.pg.add (p:=p) (n:=n) s.len (by exact W) K (λq G=>s.out q G) (λq X Y=>s.new q X Y) (λq=>M q) (λq=>?_) (λz g=>⟨(aE (O.sok z g)).1,.inl g⟩) (λl c=>?_)
     · show q∈pgs h.J (jV (RR p) h.M ⟨p,n,size⟩)↔_
       rw[D.mem_iff,W3,u];exact Or.comm
     rcases cK.1 c with rfl|c
     · exact .inr λq G=>(u q).1 (by simpa using G)
     exact .inl c
   nums:=Bx a.nums hn
   osr:=mr (f:=λo:bu=>o.Addr) (y:=⟨h.b,16*p,size,t⟩) a.osr U
   onu:=λo i=>by
     rcases cK.1 i with rfl|i
     · have:=a.nums
       unfold cu at this;rw[C0]at this;exact⟨by show 1<=h.b;omega,by show h.b<=h.b+1 - 1;omega,ht⟩
     have:=a.onu o i;exact⟨this.1,by show o.Id<=h.b+1 - 1;omega,this.2.2⟩
   oid:=by
     show((jV (Qz (16*p)) h.O ⟨h.b,16*p,size,t⟩).map (·.Id)).Nodup;rw[(C.map _).nodup_iff,O7];refine List.nodup_cons.2 ⟨λT=>?_,a.oid⟩;obtain⟨o,i,e⟩:=O5.1 T;have:=(a.onu o i).2.1;simp only at e;omega
   oow:=λo A=>by
     rcases cK.1 A with rfl|A
     · exact .inr ⟨_,cK.2 (.inl rfl),rfl,rfl⟩
     rcases a.oow o A with d|⟨l,c,d⟩
     · exact .inl d
     exact .inr ⟨l,cK.2 (.inr c),d⟩
   nd:=Z.nodup_iff.2 (List.nodup_cons.2 ⟨F,a.nd⟩)
   mem:=λb=>by
     rw[Z.mem_iff,List.mem_cons,a.mem b];show _↔nt h.J (jV (RR p) h.M ⟨p,n,size⟩) b;unfold nt;constructor
     · rintro(rfl|d|⟨l,c,e⟩)
       · exact .inr ⟨_,cK.2 (.inl rfl),rfl⟩
       · exact .inl d
       exact .inr ⟨l,cK.2 (.inr c),e⟩
     rintro(d|⟨l,c,e⟩)
     · exact .inr (.inl d)
     rcases cK.1 c with rfl|c
     · exact .inl e
     exact .inr (.inr ⟨l,c,e⟩)}
structure JK(h h':ab):Prop where
 job:h'.Y=h.Y
 msh:h'.o=h.o
 sp:∀s∈h.J,fx h s.R=true->∃s'∈h'.J,s'.R=s.R/\∀u,meshable s u=true->meshable s' u=true
 ent:∀q:Nat,(nth (tbl h').K q).j≠0->((nth (tbl h).K q).j≠0/\(nth (tbl h').K q).d=(nth (tbl h).K q).d)\/∀u:Nat,(nth (tbl h').K u).j≠0->(nth (tbl h').K u).d=(nth (tbl h').K q).d->u=q
def JK.refl(h:ab):JK h h:=⟨rfl,rfl,λs a _=>⟨s,a,rfl,λ_ z=>z⟩,λ_ b=>.inl ⟨b,rfl⟩⟩
variable{h':ab}
def JK.pg(k:JK h h')(p:Int):fx h' p=fx h p:=by unfold fx;rw[k.job,k.msh]
def JK.trans{h1 g:ab}(a:JK h h1)(b:JK h1 g):JK h g:=by
 refine⟨b.job.trans a.job,b.msh.trans a.msh,λs o i=>?_,λq j=>?_⟩
 ·obtain⟨p,r,k,t⟩:=a.sp s o i
  obtain⟨w,y,A,B⟩:=b.sp p r (by rw[a.pg,k];exact i);exact⟨w,y,A.trans k,λu c=>B u (t u c)⟩
 rcases b.ent q j with⟨d,l⟩|d
 ·rcases a.ent q d with⟨e,C⟩|e
  ·exact .inl ⟨e,l.trans C⟩
  refine .inr λu c n=>?_
  rcases b.ent u c with⟨f,D⟩|f
  ·exact e u f (by rw[<-D,<-l];exact n)
  exact(f q j n.symm).symm
 exact .inr d
def oU.keep(f:0<=p)(d:(nth (tbl h').K p.toNat).j≠0)(g:oU (tbl h) p)(k:JK h h'):oU (tbl h') p:=λq e c=>by
 rcases k.ent p.toNat d with⟨n,i⟩|a
 ·rcases k.ent q e with⟨j,l⟩|b
  ·exact g q j (by rw[<-l,c,i])
  have:=b p.toNat d c.symm;omega
 have:=a q e c;omega
def aU.mapped(a:aU h E)(b:s∈h.J):0<=s.R/\s.R<(tbl h).K.length/\(nth (tbl h).K s.R.toNat).j≠0:=by
 have c:=(aE (a.L.sok s b)).1;have d:=a.pg.bnd _ (dH (la:=h.M) b);refine⟨c,d,(a.pg.own s.R.toNat ω).2 ?_⟩;rw[show((s.R.toNat:Nat):Int)=s.R by omega];exact dH b
def JI.keep(l:JI h)(p:aU h' E)(k:JK h h'):JI h':=by
 have d:h.o=true->∃a∈h'.J,∃b∈h'.J,a.R=h.Y.X.a2/\b.R=h.Y.X.a0/\meshable a b=true:=λc=>by
  obtain⟨a,n,b,o,f,g,e⟩:=l.sp c;obtain⟨q,t,u,w⟩:=k.sp a n (by unfold fx;rw[c,f];simp);obtain⟨y,A,B,C⟩:=k.sp b o (by unfold fx;rw[c,g];simp);refine⟨q,t,y,A,u.trans f,B.trans g,?_⟩;have r:=w b e;rw[iy]at r |-;exact C q r
 refine⟨λc=>?_,λc=>?_,λc=>?_,λc=>?_⟩
 ·rw[k.msh]at c;rw[k.job];exact l.ph c
 ·rw[k.msh]at c;rw[k.job];exact d c
 ·rw[k.msh]at c
  obtain⟨a,n,b,o,f,g,e⟩:=d c;obtain⟨i,D,j⟩:=p.mapped n;rw[k.job];rw[f]at i j;exact(l.sk c).keep i j k
 rw[k.msh]at c;obtain⟨a,n,b,o,f,g,e⟩:=d c;obtain⟨i,D,j⟩:=p.mapped o;rw[k.job];rw[g]at i j;exact(l.sm c).keep i j k
def JK.less(h1:h'.Y=h.Y)(c:h'.o=h.o)(d:h'.J=h.J)(b:∀q:Nat,(nth (tbl h').K q).j≠0->nth (tbl h').K q=nth (tbl h).K q):JK h h':=
 ⟨h1,c,λs e _=>⟨s,by rw[d];exact e,rfl,λ_ z=>z⟩,λq a=>.inl ⟨by rw[<-b q a];exact a,by rw[b q a]⟩⟩
def JK.eq(h1:h'.Y=h.Y)(a:h'.o=h.o)(b:h'.J=h.J)(c:tbl h'=tbl h):JK h h':=.less h1 a b λq _=>by rw[c]
def JK.clrS{h:ab}{E:List Int}{a:Int}{i:Nat}(f:aU h E)(c:i<h.J.length)(d:eJ (nth h.J i) a):JK h (clrS h i a):=by
 refine⟨rfl,rfl,λs g _=>?_,λq k=>.inl ⟨k,rfl⟩⟩;obtain⟨j,l,rfl⟩:=aN g;by_cases e:j=i
 ·subst e
  have b:=f.L.sok _ (am c);exact⟨_,jj _ c,rfl,λu n=>BF b (qr b ⟨d.1,d.2.1⟩) n⟩
 exact⟨_,ky _ l e,rfl,λ_ z=>z⟩
def JK.giveP{h:ab}{E:List Int}{i:Nat}(d:aU h E)(f:i<h.J.length)(c:fx h (nth h.J i).R=false):JK h (giveP h i):=by
 obtain⟨g,k,-⟩:=d.mapped (am f);refine⟨rfl,rfl,λs l a=>?_,λq b=>.inl ?_⟩
 ·obtain⟨j,n,rfl⟩:=aN l
  exact⟨_,dv.2 ⟨j,n,λe=>(by subst e;rw[c]at a;cases a),rfl⟩,rfl,λ_ z=>z⟩
 have o:=rQ d.ker (p:=(nth h.J i).R) ⟨g,k⟩ q;change (nth (cg h.G (nth h.J i).R).F.Q.K q).j≠0 at b;show(nth h.G.F.Q.K q).j≠0/\(nth (cg h.G (nth h.J i).R).F.Q.K q).d=(nth h.G.F.Q.K q).d;rw[o]at b |-;split at b
 ·exact absurd rfl b
 rename_i e;rw[CB e];exact⟨b,rfl⟩
def JK.freeS{h:ab}{E:List Int}{a:Int}{i:Nat}(c:aU h (a::E))(b:i<h.J.length)(d:eJ (nth h.J i) a):JK h (freeS h i a):=by
 have g:=c.give b d;have f:=JK.clrS c b d;unfold Ab.freeS;split
 ·rename_i e
  have j:nth (Ab.clrS h i a).J i=kL (nth h.J i) (cM (nth h.J i) a):=by unfold Ab.clrS;simp only[bt,true_and];rw[CD b]
  exact f.trans (JK.giveP (h:=Ab.clrS h i a) g (by unfold Ab.clrS;simp only[Z1];exact b) (by rw[j];exact e.2))
 exact f
def JK.freeA{h:ab}{E:List Int}{a:Int}(b:aU h (a::E)):JK h (freeA h a):=by
 obtain⟨c,d,-⟩:=b.at (b.hin a (I2 ..));exact JK.freeS b c d
def JK.recyc{h:ab}{E:List Int}{a:Int}{t:Nat}(b:aU h (a::E)):JK h (recyc t h a):=by
 unfold Ab.recyc;split
 ·exact JK.eq rfl rfl rfl rfl
 exact JK.freeA b
def JK.recycs{t:Nat}{E:List Int} : ∀{az:List Int}{h:ab},aU h (az++E)->t<h.S.length->JK h (recycs t h az)
 | [],h,_,_=>JK.refl h
 | a::az,h,b,c=>(JK.recyc (t:=t) b).trans (JK.recycs (az:=az) (h:=Ab.recyc t h a) (b.recyc c) (by rw[(nG t h a).1];exact c))
def JK.freeAs{E:List Int} : ∀{az:List Int}{h:ab},aU h (az++E)->JK h (freeAs h az)
 | [],h,_=>JK.refl h
 | a::az,h,b=>(JK.freeA b).trans (JK.freeAs (az:=az) (h:=Ab.freeA h a) b.freeA)
def JK.flushN{t:Nat}{h:ab}(c:aU h [])(d:t<h.S.length):∀{k:Nat},k<=4->JK h (flushN t h k).1
 | 0,_=>JK.refl h
 | k+1,e=>by
  obtain⟨h1,f,-⟩:=fS c d (k:=k) ω;have a:t<(Ab.flushN t h k).1.S.length:=ω
  have b:k<(nth (Ab.flushN t h k).1.S t).a.length:=by rw[(eQ (h1.cach _ (am a))).1];omega
  exact JK.trans (h1:=Ab.spilt (Ab.flushN t h k).1 t k) ((JK.flushN c d (k:=k) ω).trans (JK.eq rfl rfl rfl rfl)) (JK.freeAs (h1.spilt a b))
def um(a:aU h E){k:Nat}(b:k<h.M.length):0<=(nth h.M k).R/\(nth h.M k).R+((nth h.M k).a4.toNat:Nat)<=(tbl h).K.length:=by
 have c:=aQ (a.L.lok _ (am b));have d:=a.pg.bnd _ (gw (sp:=h.J) (am b) (dC.2 ⟨(nth h.M k).a4.toNat - 1,ω,rfl⟩));exact⟨ω,ω⟩
def JK.freeL{h:ab}{E:List Int}{i k:Nat}(b:aU h E)(c:k<h.M.length):JK h (freeL h i k):=by
 obtain⟨d,f⟩:=um b c;refine JK.less rfl rfl rfl λq a=>?_
 have g:=np b.ker d (nth h.M k).a4.toNat f q;change (nth (unmN h.G (nth h.M k).R (nth h.M k).a4.toNat).F.Q.K q).j≠0 at a;show nth (unmN h.G (nth h.M k).R (nth h.M k).a4.toNat).F.Q.K q=nth h.G.F.Q.K q;rw[g]at a |-;split at a
 ·exact absurd rfl a
 rename_i e;rw[CB e]
def JK.freeOb{h:ab}{t i:Nat}(a:aU h [])(c:i<h.O.length)(d:t<h.S.length):JK h (freeOb h t i).1:=by
 unfold Ab.freeOb;split
 ·rename_i b
  obtain⟨l,e,h1,-⟩:=(ef a (am c)).1 b;exact JK.freeL a (wK e h1).1
 rename_i b;split
 ·exact JK.refl h
 have h1:=a.inQuar c b;exact JK.trans (h1:=Ab.inQuar h i) (JK.eq rfl rfl rfl rfl) (JK.recycs (E:=[]) (by rw[List.append_nil];exact h1) d)
def JK.take(b:fx h (nth h.J i).R=false):JK h {h with b8:=sd,J:=h.J.set i (ry (nth h.J i) k)}:=by
 refine⟨rfl,rfl,λs c a=>?_,λq d=>.inl ⟨d,rfl⟩⟩;obtain⟨j,f,rfl⟩:=aN c;exact⟨_,ky _ f λe=>(by subst e;rw[b]at a;cases a),rfl,λ_ z=>z⟩
def q7{t:aI}{q:Nat}(h:(nth t.K q).j≠0):q<t.K.length:=by
 by_cases e:q<t.K.length
 ·exact e
 exfalso;apply h;unfold nth;rw[I3,C3 ω]
 rfl
def JK.addS{h:ab}{k:af}{l:List a8}{p c:Int}(s:wH h.G p (k,true)):JK h (addS h k l p c):=by
 obtain⟨f,t,w,d,n⟩:=s.yes rfl;have b:k.F.Q.K.length=h.G.F.Q.K.length:=s.len;refine⟨rfl,rfl,λz o _=>⟨z,cK.2 (.inr o),rfl,λ_ y=>y⟩,λq g=>?_⟩;change (nth k.F.Q.K q).j≠0 at g;show((nth h.G.F.Q.K q).j≠0/\(nth k.F.Q.K q).d=(nth h.G.F.Q.K q).d)\/∀u:Nat,(nth k.F.Q.K u).j≠0->(nth k.F.Q.K u).d=(nth k.F.Q.K q).d->u=q
 by_cases e:(q:Int)=p
 ·refine .inr λu i a=>?_
  have j:=q7 i;have f3u:=d u;have f3q:=d q;simp only at f3u f3q;rw[CD e]at f3q;rw[f3q]at a;by_cases r:(u:Int)=p
  ·omega
  rw[CB r]at f3u;rw[f3u]at i a;exact absurd a (n u (by rw[<-b];exact j) i)
 have f3q:=d q;simp only at f3q;rw[CB e]at f3q;rw[f3q]at g |-;exact .inl ⟨g,rfl⟩
def JK.addL{h:ab}{k:af}{g:List a8}{p size t:Int}{n:Nat}(s:m0 h.G p n (k,n)):JK h (addL h k g p n size t):=by
 have a:k.F.Q.K.length=h.G.F.Q.K.length:=s.len;refine⟨rfl,rfl,λz i _=>⟨z,i,rfl,λ_ y=>y⟩,λq b=>?_⟩;change (nth k.F.Q.K q).j≠0 at b;show((nth h.G.F.Q.K q).j≠0/\(nth k.F.Q.K q).d=(nth h.G.F.Q.K q).d)\/∀u:Nat,(nth k.F.Q.K u).j≠0->(nth k.F.Q.K u).d=(nth k.F.Q.K q).d->u=q
 by_cases e:p<=q/\(q:Int)<p+n
 ·exact .inr λu d c=>(s.new q e.1 e.2).2 u (by rw[<-a];exact q7 d) d c
 have f:=s.out q e;simp only at f;rw[f]at b |-;exact .inl ⟨b,rfl⟩
def uh(h:ab):∀{n:Nat},n<=h.J.length->∀s∈jq h n,(aY h s.R).length=1
 | 0,_,s,a=>by cases a
 | n+1,b,s,a=>by
  unfold jq at a;split at a
  ·rename_i e
   rcases W3.1 a with a|a
   ·exact uh h ω s a
   unfold qM at e;simp only[I0,C0]at e;rw[V1.1 a];exact e.2
  exact uh h ω s a
def aU.sole(e:aU h E)(f:s∈h.J)(h1:(aY h s.R).length=1):oU (tbl h) s.R:=λq a g=>by
 obtain⟨k,l,b⟩:=e.mapped f;have i:s.R=((s.R.toNat:Nat):Int):=ω
 rw[i,fJ (by show s.R.toNat<(tbl h).K.length;omega) b]at h1;obtain⟨z,j⟩:=List.length_eq_one_iff.1 h1;have c:(s.R.toNat:Int)∈pagesOn (tbl h) (nth (tbl h).K s.R.toNat).d:=eY.2 ⟨ω,b,rfl⟩;have d:(q:Int)∈pagesOn (tbl h) (nth (tbl h).K s.R.toNat).d:=eY.2 ⟨q7 a,a,g⟩;rw[j]at c d;simp only[V1]at c d;omega
def yl(hi:aU h [])(l:h.o=false):aU (started h).1 []/\JI (started h).1:=by
 have F:=hi.nums;unfold cu at F;rw[C0]at F;have L:=(ko (bg h).length (show 0<=h.b8/\h.b8<=1073741823 by omega) ((bg h).length - 1)).2;have n:=lS (bg h) (show 0<=h.b8/\h.b8<=1073741823 by omega);have c:cu {h with b8:=(shuf (bg h).length h.b8).2} = true:=by
  unfold cu;rw[C0];unfold shuf;simp only;omega
 cases o:jr (bg h) h.b8 with
 | nil=>
  have f:Ab.started h=({h with b8:=(shuf (bg h).length h.b8).2},false):=by unfold Ab.started;rw[o]
  rw[f];exact⟨{hi with nums:=c},⟨λe=>by simp[l]at e,λe=>by simp[l]at e,λe=>by simp[l]at e,λe=>by simp[l]at e⟩⟩
 | cons q Q=>
  obtain⟨R,S,g⟩:=n q (by rw[o];exact I2 ..);have f:Ab.started h=({h with b8:=(shuf (bg h).length h.b8).2,o:=true,Y:=tt (db (nth (bg h) q.A.toNat) (nth (bg h) q.B.toNat))},true):=by unfold Ab.started;rw[o]
  rw[f];have d:∀s∈bg h,s∈h.J/\oU (tbl h) s.R:=λs M=>by
   have G:=List.mem_of_mem_take M;have H:=ng h (X3 _) s G;exact⟨H,hi.sole H (uh h (X3 _) s G)⟩
  have j:=d _ (am (xs:=bg h) (i:=q.A.toNat) ω);have k:=d _ (am (xs:=bg h) (i:=q.B.toNat) ω);generalize nth (bg h) q.A.toNat=a at g j |-;generalize nth (bg h) q.B.toNat=b at g k |-;obtain⟨N,T,U⟩:=qt g;have p:(db a b).a2=a.R/\(db a b).a0=b.R\/(db a b).a2=b.R/\(db a b).a0=a.R:=by
   unfold db;split
   ·exact .inr ⟨rfl,rfl⟩
   exact .inl ⟨rfl,rfl⟩
  have r:jH (tt (db a b))=true:=cN.2 ⟨N,by show(0:Int)<=0;omega,by show(0:Int)<=5;omega,by show(0:Int)<=0;omega,by show(0:Int)<=(((db a b).T.length:Nat):Int);omega⟩;have t:∃x∈h.J,∃y∈h.J,x.R=(db a b).a2/\y.R=(db a b).a0/\meshable x y=true/\oU (tbl h) x.R/\oU (tbl h) y.R:=by
   rcases p with⟨u,w⟩|⟨u,w⟩
   ·exact⟨a,j.1,b,k.1,u.symm,w.symm,g,j.2,k.2⟩
   exact⟨b,k.1,a,j.1,u.symm,w.symm,by rw[iy];exact g,k.2,j.2⟩
  obtain⟨x,J,y,K,C,D,E,O,P⟩:=t;exact⟨{hi with nums:=c,job:=λ_=>⟨r,⟨x,J,C⟩,⟨y,K,D⟩⟩,noj:=λe=>by cases e},⟨λ_=>⟨by show(0:Int)<=0;omega,by show(0:Int)<=3;omega⟩,λ_=>⟨x,J,y,K,C,D,E⟩,λ_=>by show oU (tbl h) (db a b).a2;rw[<-C];exact O,λ_=>by show oU (tbl h) (db a b).a0;rw[<-D];exact P⟩⟩
def gu(m:aJ)(f:Nat):aJ:=⟨m.V.set f ((nth m.V f).drop 1),m.a1.set (nth (nth m.V f) 0).To.toNat (nth m.a1 (nth (nth m.V f) 0).To.toNat++[(nth (nth m.V f) 0).Addr])⟩
def lP(m:aJ)(t:Nat):aJ:=⟨m.V,m.a1.set t []⟩
def iH(m:aJ)(f:Nat)(p:dB):aJ:=⟨m.V.set f (nth m.V f++[p]),m.a1⟩
def dZ{m:aJ} : bQ m=true↔(1<=m.V.length/\m.V.length<=4/\m.a1.length=m.V.length)/\(∀i,i<m.V.length->(∀p∈nth m.V i,0<=p.To/\p.To<=(m.V.length:Int) - 1/\0<=p.Addr)/\∀a∈nth m.a1 i,0<=a)/\bC m m.V.length<=30:=by
 unfold bQ;simp only[I0,C0,cA,ip,Y4,nK,Rd];exact and_assoc
def pf(m:aJ)(f t:Nat)(x:List dB)(y:List Int)(g:f<m.V.length)(h:t<m.a1.length):∀n:Nat,bC ⟨m.V.set f x,m.a1.set t y⟩ n=bC m n+(if f<n then(x.length:Int) - ((nth m.V f).length:Nat) else 0)+(if t<n then(y.length:Int) - ((nth m.a1 t).length:Nat) else 0)
 | 0=>by simp[bC]
 | n+1=>by
  have i:=pf m f t x y g h n;have j:(nth (m.V.set f x) n).length=if f=n then x.length else(nth m.V n).length:=by
   rw[bt];by_cases e:f=n
   ·rw[CD ⟨e,ω⟩,CD e]
   rw[CB λz=>e z.1,CB e]
  have k:(nth (m.a1.set t y) n).length=if t=n then y.length else(nth m.a1 n).length:=by
   rw[bt];by_cases e:t=n
   ·rw[CD ⟨e,ω⟩,CD e]
   rw[CB λz=>e z.1,CB e]
  simp only[bC,i,j,k];by_cases d:f=n
  ·subst d
   by_cases b:t=f
   ·subst b
    simp only[if_true,Nat.lt_irrefl,if_false,Nat.lt_succ_self];omega
   simp only[if_true,Nat.lt_irrefl,if_false,Nat.lt_succ_self,CB b];by_cases a:t<f
   ·rw[CD a,CD (show t<f+1 by omega)];omega
   rw[CB a,CB (show ¬t<f+1 by omega)];omega
  by_cases b:t=n
  ·subst b
   simp only[if_true,Nat.lt_irrefl,if_false,Nat.lt_succ_self,CB d];by_cases a:f<t
   ·rw[CD a,CD (show f<t+1 by omega)];omega
   rw[CB a,CB (show ¬f<t+1 by omega)];omega
  simp only[CB d,CB b];by_cases a:f<n
  ·rw[CD a,CD (show f<n+1 by omega)]
   by_cases c:t<n
   ·rw[CD c,CD (show t<n+1 by omega)];omega
   rw[CB c,CB (show ¬t<n+1 by omega)];omega
  rw[CB a,CB (show ¬f<n+1 by omega)];by_cases c:t<n
  ·rw[CD c,CD (show t<n+1 by omega)];omega
  rw[CB c,CB (show ¬t<n+1 by omega)];omega
def R9[Inhabited α]{xs:List α}(h:i<xs.length):xs.set i (nth xs i)=xs:=by
 rw[<-Z2.1 (ao h) |>.2];exact List.set_getElem_self h
def EV{m:aJ}(h:bQ m=true)(d:f<m.V.length)(n:0<(nth m.V f).length):bQ (gu m f)=true:=by
 obtain⟨⟨o,q,r⟩,g,y⟩:=dZ.1 h;obtain⟨t,A⟩:=g f d;have c:=t _ (am n);have u:(nth (nth m.V f) 0).To.toNat<m.a1.length:=ω
 refine dZ.2 ⟨⟨?_,?_,?_⟩,λi j=>?_,?_⟩
 ·simp only[gu,Z1];exact o
 ·simp only[gu,Z1];exact q
 ·simp only[gu,Z1];exact r
 ·simp only[gu,Z1]at j |-
  obtain⟨k,l⟩:=g i j;simp only[bt];refine⟨λp c=>?_,λa b=>?_⟩
  ·split at c
   ·rename_i e;rw[<-e.1]at k
    refine(g f d).1 p (List.mem_of_mem_drop c)
   exact k p c
  split at b
  ·rename_i e
   rcases W3.1 b with b|b
   ·rw[e.1]at b;exact l a b
   rw[V1.1 b];exact c.2.2
  exact l a b
 have w:=pf m f (nth (nth m.V f) 0).To.toNat ((nth m.V f).drop 1) (nth m.a1 (nth (nth m.V f) 0).To.toNat++[(nth (nth m.V f) 0).Addr]) d u m.V.length;simp only[gu,Z1];rw[w,CD d,CD ω,C4,Z3,List.length_singleton];omega
def QP{m:aJ}(h:bQ m=true)(d:t<m.a1.length):bQ (lP m t)=true:=by
 obtain⟨⟨e,f,g⟩,j,o⟩:=dZ.1 h;refine dZ.2 ⟨⟨e,f,?_⟩,λi k=>?_,?_⟩
 ·simp only[lP,Z1];exact g
 ·obtain⟨l,n⟩:=j i k
  simp only[lP,bt];refine⟨l,λa b=>?_⟩;split at b
  ·cases b
  exact n a b
 have c:=pf m t t (nth m.V t) [] ω d m.V.length;rw[R9 ω]at c;show bC ⟨m.V,m.a1.set t []⟩ m.V.length<=30;rw[c,CD ω,CD ω,List.length_nil];omega
def lC{m:aJ}(h:bQ m=true)(b:Int):(aP m).count b=(m.V.flatMap λl=>l.map (·.Addr)).count b+(m.a1.flatMap λx=>x).count b:=by
 unfold aP;rw[CD h,S7,lJ]
def aU.mailed{c:List Int}{m:aJ}(d:aU h E)(i:bQ m=true)(j:m.V.length=h.y.V.length)(k:∀b,c.count b+(aP m).count b=E.count b+(aP h.y).count b)(f:∀a,a∈c\/a∈aP m->ku h.J a (-1)):aU {h with y:=m} c:=by
 have g:(E++holders h).Perm (c++holders {h with y:=m}):=by
  refine List.perm_iff_count.2 λb=>?_
  have l:=k b;simp only[holders,cI,S7];omega
 exact {d with
   mail:=i
   nc:=d.nc.trans j.symm
   hfl:=λa e=>f a (.inr e)
   hin:=λa e=>f a (.inl e)
   nd:=g.nodup_iff.1 d.nd
   mem:=λb=>by rw[<-g.mem_iff];exact d.mem b}
def Jq{d:List Int}{m:aJ}(f:aU h E)(g:∀b,d.count b+(aP m).count b=E.count b+(aP h.y).count b):∀a,a∈d\/a∈aP m->ku h.J a (-1):=λa c=>by
 have i:=g a;have j:0<d.count a+(aP m).count a:=by
  rcases c with c|c
  ·have:=List.count_pos_iff.2 c;omega
  have:=List.count_pos_iff.2 c;omega
 by_cases e:0<E.count a
 ·exact f.hin a (List.count_pos_iff.1 e)
 exact f.hfl a (List.count_pos_iff.1 ω)
def aU.deliv(a:aU h E)(e:f<h.y.V.length)(d:0<(nth h.y.V f).length):aU {h with y:=gu h.y f} E:=by
 have c:=EV a.mail e d;obtain⟨⟨q,r,t⟩,j,u⟩:=dZ.1 a.mail;have k:=(j f e).1 _ (am d);have g:∀b,E.count b+(aP (gu h.y f)).count b=E.count b+(aP h.y).count b:=λb=>by
  rw[lC c,lC a.mail];have i:=jh (λl:List dB=>l.map (·.Addr)) b h.y.V f ((nth h.y.V f).drop 1) e;have n:=jh (λx:List Int=>x) b h.y.a1 (nth (nth h.y.V f) 0).To.toNat (nth h.y.a1 (nth (nth h.y.V f) 0).To.toNat++[(nth (nth h.y.V f) 0).Addr]) ω;have o:(nth h.y.V f).map (·.Addr)=(nth (nth h.y.V f) 0).Addr::((nth h.y.V f).drop 1).map (·.Addr):=by
   generalize nth h.y.V f=l at d
   match l,d with
   | p::l,_=>rfl
  simp only[gu];rw[o]at i;simp only[List.count_cons]at i;simp only[S7,List.count_singleton]at n;omega
 exact a.mailed c (by simp[gu]) g (Jq a g)
def aU.coll(c:aU h E)(d:t<h.y.a1.length):aU {h with y:=lP h.y t} (nth h.y.a1 t++E):=by
 have a:=QP c.mail d;have e:∀b,(nth h.y.a1 t++E).count b+(aP (lP h.y t)).count b=E.count b+(aP h.y).count b:=λb=>by
  rw[lC a,lC c.mail];have f:=jh (λx:List Int=>x) b h.y.a1 t [] d;simp only[List.count_nil]at f;simp only[lP,S7];omega
 exact c.mailed a rfl e (Jq c e)
def aU.send{p:dB}(c:aU h (p.Addr::E))(e:f<h.y.V.length)(a:bQ (iH h.y f p)=true):aU {h with y:=iH h.y f p} E:=by
 have d:∀b,E.count b+(aP (iH h.y f p)).count b=(p.Addr::E).count b+(aP h.y).count b:=λb=>by
  rw[lC a,lC c.mail];have g:=jh (λl:List dB=>l.map (·.Addr)) b h.y.V f (nth h.y.V f++[p]) e;simp only[C7,O7,List.map_nil,S7,List.count_singleton]at g;simp only[iH,List.count_cons];omega
 exact c.mailed a (by simp[iH]) d (Jq c d)
def tY(now:Int):List aR->Nat
 | []=>0
 | x::xs=>if x.b7<now - 100 then tY now xs+1 else 0
def aged(h:ab)(n:Int):ab:={h with b3:=h.b3+n,a9:=⟨h.a9.c0,h.a9.a6.drop (tY (h.b3+n) h.a9.a6)⟩}
def nS(h:ab)(n:Int):List Int:=(h.a9.a6.take (tY (h.b3+n) h.a9.a6)).map (·.Addr)
def tick(h:ab)(n:Int):ab:=freeAs (aged h n) (nS h n)
def pN(x:aR)(xs:List aR):∀n,quarCells (x::xs) (n+1)=csz x.e+quarCells xs n
 | 0=>by simp only[quarCells];show 0+csz x.e=csz x.e+0;omega
 | n+1=>by
  rw[jx,pN x xs n,jx];show csz x.e+quarCells xs n+csz (nth xs n).e=_;omega
def TM(k:Int):0<=csz k:=by
 unfold csz;split
 ·exact Int.le_of_lt (Int.pow_pos (by decide))
 decide
def Kk:∀(l:List aR)(k:Nat),qc (l.drop k)<=qc l
 | [],k=>by simp
 | x::xs,0=>I6 _
 | x::xs,k+1=>by
  have a:=Kk xs k;have b:=TM x.e;have c:qc (x::xs)=csz x.e+qc xs:=pN x xs xs.length;show qc (xs.drop k)<=qc (x::xs);omega
def aU.aged{h:ab}{E:List Int}{n:Int}(a:aU h E)(t:0<=n)(u:h.b3+n<=1000000):aU (aged h n) (nS h n++E):=by
 obtain⟨i,j,k,o,p,q⟩:=k6.1 a.quar;have c:=a.nums;unfold cu at c;rw[C0]at c;have e:=List.drop_sublist (tY (h.b3+n) h.a9.a6) h.a9.a6;have g:(E++holders h).Perm ((nS h n++E)++holders (Ab.aged h n)):=by
  refine List.perm_iff_count.2 λb=>?_
  have r:=Z0 (λl:List aR=>(l.map (·.Addr)).count b) (List.take_append_drop (tY (h.b3+n) h.a9.a6) h.a9.a6);simp only[C7,S7]at r;simp only[holders,cI,Ab.aged,nS,S7];omega
 exact {a with
   nums:=by unfold cu;rw[C0];simp only[Ab.aged];omega
   quar:=k6.2 ⟨λy d=>i y (e.subset d),j.sublist e,k.sublist (e.map _),o,p,Int.le_trans (Kk _ _) q⟩
   snc:=λy d=>by
     have:=a.snc y (e.subset d);show y.b7<=h.b3+n;omega
   hqu:=λy d=>a.hqu y (e.subset d)
   hin:=λb f=>by
     rcases W3.1 f with f|f
     · obtain⟨y,d,rfl⟩:=O5.1 f
       exact(a.hqu y (List.mem_of_mem_take d)).any
     exact a.hin b f
   nd:=g.nodup_iff.1 a.nd
   mem:=λb=>by rw[<-g.mem_iff];exact a.mem b}
def aU.tick{h:ab}{n:Int}(a:aU h [])(b:0<=n)(c:h.b3+n<=1000000):aU (tick h n) []/\JK h (tick h n):=by
 have h1:=a.aged b c;exact⟨aU.freeAs h1,JK.trans (h1:=Ab.aged h n) (JK.eq rfl rfl rfl rfl) (JK.freeAs h1)⟩
def collect(h:ab)(t:Nat):ab:=recycs t {h with y:=lP h.y t} (nth h.y.a1 t)
def aU.collect{h:ab}{t:Nat}(a:aU h [])(b:t<h.S.length):aU (collect h t) []/\JK h (collect h t):=by
 have h1:=a.coll (t:=t) (by rw[(dZ.1 a.mail).1.2.2,<-a.nc];exact b);exact⟨aU.recycs h1 b,JK.trans (h1:={h with y:=lP h.y t}) (JK.eq rfl rfl rfl rfl) (JK.recycs h1 b)⟩
def Qf(h:ab)(t i:Nat):ab:={h with G:=fH h.G (nth h.O i).Addr (csz (aL (nth h.O i).q)).toNat,O:=dele h.O i,y:=iH h.y t ⟨(nth h.O i).a5,(nth h.O i).Addr⟩}
def freeT(h:ab)(t i:Nat):ab × Int:=
 if aL (nth h.O i).q<0 then(freeL h i (Au h (nth h.O i).Addr),0)
 else if(ac (tbl h) ((nth h.O i).Addr / 16)).j=1 then(h,5)
 else if(nth h.O i).a5=t then(Gm h t i,0)
 else if bQ (iH h.y t ⟨(nth h.O i).a5,(nth h.O i).Addr⟩)=true then(Qf h t i,0) else(h,5)
def AS(e:(nth h.O i).a5=t):freeT h t i=freeOb h t i:=by
 unfold freeT freeOb;rw[CD e]
def aU.freeT{h:ab}{t i:Nat}(a:aU h [])(b:i<h.O.length)(c:t<h.S.length):aU (freeT h t i).1 []/\JK h (freeT h t i).1:=by
 by_cases e:(nth h.O i).a5=t
 ·rw[AS e];exact⟨a.freeOb b c,JK.freeOb a b c⟩
 have d:=a.freeOb b c;have f:=JK.freeOb a b c;unfold Ab.freeOb at d f;unfold Ab.freeT;split
 ·rename_i g
  rw[CD g]at d f;exact⟨d,f⟩
 rename_i g;rw[CB g]at d f;split
 ·exact⟨a,JK.refl h⟩
 split
 ·rename_i j
  obtain⟨⟨s,l,n,o⟩,u⟩:=(ef a (am b)).2 g;have q:=a.dropO b (ku.any ⟨s,l,n,.inr o⟩);have r:=q.cells (k:=fH h.G (nth h.O i).Addr (csz (aL (nth h.O i).q)).toNat) (Hb a.ker _ _) rfl;exact⟨aU.send (p:=⟨(nth h.O i).a5,(nth h.O i).Addr⟩) r (by show t<h.y.V.length;rw[<-a.nc];exact c) j,JK.eq rfl rfl rfl rfl⟩
 exact⟨a,JK.refl h⟩
def dO(k:af)(a v:Int):af:=setCell k (cY k a) (a % 16) v
variable{a v:Int}
def xZ{k:af}(h:ay k=true)(b:(ac k.F.Q (a / 16)).j≠0)(c:0<=v/\v<=999):ay (dO k a v)=true:=by
 obtain⟨d,e,-⟩:=gn h b;exact rL h (f:=cY k a) d e c
def aU.store(b:aU h [])(c:(ac h.G.F.Q (a / 16)).j≠0)(d:0<=v/\v<=999):aU {h with G:=dO h.G a v} []/\JK h {h with G:=dO h.G a v}:=
 ⟨b.cells (xZ b.ker c d) rfl,JK.eq rfl rfl rfl rfl⟩
open Go.RowKit
set_option maxRecDepth 20000
set_option maxHeartbeats 4000000
def QE{xs:List Int}{x:Int}(h:dr xs.length (λj=>decide (nth xs j≠x))=true):x∉xs:=λb=>by
 obtain⟨j,a⟩:=List.mem_iff_getElem?.1 b;have:=fk h (Z2.1 a).1;rw[bh a]at this;simp at this
def Gr(xs:List Int)(x:Int)(g:xs.length<=4611686018427387904):zzA 353 false [.val none (aF .W xs),.val none [I x]] .one [B (decide (x∈xs))]:=by
 refine fO 18 [] Tryz.func353 rfl ?_
 repeat'(first|refine gP ?_|fail)
 (conv=>whnf)
 refine CG (ι:=Nat) (λi=>[(0,.H .one (aF .W xs)),(1,.H .one [I (x)]),(5,.H .one [I ((i:Nat):Int)])]) (λi=>i<=xs.length/\dr i (λj=>decide (nth xs j≠x))=true) (λi=>xs.length - i) 0 ?_ ⟨X0 _,rfl⟩ λi a=>?_
 ·exact wB
 obtain⟨a,b⟩:=a;by_cases c:i<xs.length
 ·have d:=ao c
  by_cases e:nth xs i=x
  ·repeat'(first|refine gB ?_|(conv=>whnf);first|with_reducible refine CE (aa d) ?_)
   exact Z0 (λz=>[B z]) ((by symm;exact O0 (by rw[<-e];exact am c)))
  repeat'(first|refine gB ?_|(conv=>whnf);first|with_reducible refine CE (aa d) ?_)
  ((conv=>whnf);refine CF (i+1) ⟨ω,bU b (O0 e)⟩ ω ?_;(exact wB))
 repeat'(first|refine gE ?_|fail)
 obtain rfl:i=xs.length:=ω
 exact Z0 (λz=>[B z]) ((by symm;exact W0 (QE b)))
theorem bA.more{M c:ah}{w d:World}(h:bA M w d)(f:∀b o,M b o->c b o):bA c w d:=
 ⟨h.os,h.tape,h.output,h.size,λb a e=>h.blk b a ψ,λb o a e=>h.cel b o a ψ,λb o a e=>h.fro b o a ψ⟩
variable{rcs c:List C}
theorem aT.wk{P:Program}{sh:Bool}{u:List C}{A B:List MA}{k:Kd}(h:aT P f sh A (.ptr c::B) k rcs)(D:NH c u):aT P f sh A (.ptr u::B) k rcs:=by
 refine⟨h.has,λw S V i E F l G=>(h.run w S V i E F l G).mono λe w1 H=>?_⟩;obtain⟨v,J,K,X,L,M,N,n,p,a,q,r,b,O,Q,y⟩:=H;refine⟨v,J,K,X,L,M,N,n,p,a,q,r,b,O,Q,?_⟩;cases i with
 | nil=>exact y.elim
 | cons v0 i=>
  obtain⟨⟨R,Y,T,U,W,⟨g,o,Z,e2⟩,d⟩,t⟩:=y;refine⟨⟨R,Y,T,U,W,⟨g,o,Z,λj hj=>e2 j (by grind [sX])⟩,Ef D d⟩,t⟩
def aT.frame{P:Program}{sh:Bool}{c' r:List C}{A B:List MA}{k:Kd}(h:aT P f sh (.ptr c::A) (.ptr c'::B) k rcs)(hl:c'.length=c.length):aT P f sh (.ptr (c++r)::A) (.ptr (c'++r)::B) k rcs:=by
 refine⟨h.has,λw S V vs hS hV hVd hA=>?_⟩;cases vs with
 | nil=>exact hA.elim
 | cons v0 vs=>
 obtain⟨⟨X1,Y,hX1,hY,O,⟨g,q,rfl,u⟩,ff,hf1,J,hf3⟩,hA'⟩:=hA;have hlen:(c++r).length=c.length+r.length:=Z3
 let V0:ah:=piece g q ff 0 c.length
 let W:Nat->ah:=NU V0 (λi=>V (i+1))
 have hcX:∀o,q<=o->o<q+(c++r).length->X1 g o:=λo l a=>by
  have:=(u (o - q) ω).1
  rwa [show q+(o - q)=o by omega]at this
 have hV0:∀b o,V0 b o->V 0 b o:=λb o p=>by
  rcases p with⟨rfl,l,a⟩|⟨j,-,a,Q⟩
  ·exact hX1 _ _ (hcX o ω ω)
  exact hY _ _ (J j ω b o Q)
 have K:∀i b o,W i b o->V i b o:=λi b o p=>by
  cases i with
  | zero=>exact hV0 b o p
  | succ i=>exact p
 have hA2:MD w S W (.ptr c::A) (.pointer (some ⟨g,q,none⟩)::vs):=by
  refine⟨?_,hA'⟩;have:=vc (lo:=0) (n:=c.length) (cs:=c++r) ω u hf1 J hf3 O;rw[show bJ (c++r) 0 c.length=c by simp[bJ]]at this;simp only[O8,Nat.add_zero]at this;exact this
 refine(h.run w S W _ hS (λi b o p=>hV i b o (K i b o p)) (λi i' D b o l a=>hVd i i' D b o (K i b o l) (K i' b o a)) hA2).mono λe w1 hv=>?_
 obtain⟨v,he,hk,X,V',S1,hX,E,hS1,hVd',hXV,hXS,hVS1,hh,hr,hm⟩:=hv;have H:∀b o,(∃i,W i b o)->∃i,V i b o:=λb o ⟨i,Z⟩=>⟨i,K i b o Z⟩
 let R:ah:=λb o=>V 0 b o/\¬V0 b o
 have hRW:∀b o,R b o->¬∃i,W i b o:=λb o y ⟨i,Z⟩=>by
  cases i with
  | zero=>exact y.2 Z
  | succ i=>exact hVd 0 (i+1) ω b o y.1 Z
 have F:∀b o,R b o->b<w.heap.size:=λb o y=>(hV 0 b o y.1).1
 have t:∀b o,R b o->¬((∃i,W i b o)\/(b<w1.heap.size/\w.heap.size<=b)):=λb o y p=>by
  rcases p with p|p
  ·exact hRW b o y p
  have:=F b o y;omega
 have hRsame:bn R w w1:=λb o y=>⟨hk.cel b o (F b o y) (hRW b o y),hk.fro b o (F b o y) (hRW b o y)⟩
 have hRS1:∀b o,R b o->¬S1 b o:=λb o y hs=>by
  rcases hS1 b o hs with⟨-,l⟩|l
  ·exact(hV 0 b o y.1).2 l
  exact t b o y l
 have hSsame:bn S w w1:=λb o hb=>⟨hk.cel b o (hS b o hb) (λ⟨i,Z⟩=>(hV i b o (K i b o Z)).2 hb),hk.fro b o (hS b o hb) (λ⟨i,Z⟩=>(hV i b o (K i b o Z)).2 hb)⟩
 have hRc:∀j,c.length<=j->j<(c++r).length->R g (q+j):=λj l a=>by
  refine⟨hX1 _ _ (u j a).1,λp=>?_⟩;rcases p with⟨-,Q,h4⟩|⟨N,Q,h4,h5⟩
  ·omega
  exact O _ _ (u j a).1 (J N ω _ _ h5)
 have L:∀j,c.length<=j->j<(c++r).length->∀b o,ff j b o->R b o:=λj l a b o p=>by
  refine⟨hY _ _ (J j a b o p),λhp=>?_⟩;rcases hp with⟨rfl,Q,h4⟩|⟨N,Q,h4,h5⟩
  ·exact O _ _ (hcX o ω ω) (J j a _ _ p)
  exact hf3 j N a ω ω b o p h5
 let U:Nat->ah:=NU (λb o=>V' 0 b o\/R b o) (λi=>V' (i+1))
 have hU:∀i b o,U i b o->V' i b o\/(i=0/\R b o):=λi b o p=>by
  cases i with
  | zero=>exact p.imp id (λh=>⟨rfl,h⟩)
  | succ i=>exact .inl p
 refine⟨v,he,hk.more H,X,U,S1,λb o p=>(hX b o p).imp (H b o) id,λi b o p=>?_,λb o p=>(hS1 b o p).imp id (Or.imp (H b o) id),λi i' D b o l a=>?_,λi b o l a=>?_,hXS,λi b o l a=>?_,hh,hr,?_,hm.2⟩
 ·rcases hU i b o p with l|⟨-,l⟩
  ·exact(E i b o l).imp (H b o) id
  exact .inl ⟨0,l.1⟩
 ·rcases hU i b o l with l|⟨e1,l⟩
  ·rcases hU i' b o a with a|⟨e2,a⟩
   ·exact hVd' i i' D b o l a
   exact t b o a (E i b o l)
  rcases hU i' b o a with a|⟨e2,a⟩
  ·exact t b o l (E i' b o a)
  exact D ω
 ·rcases hU i b o a with a|⟨-,a⟩
  ·exact hXV i b o l a
  exact t b o a (hX b o l)
 ·rcases hU i b o l with l|⟨-,l⟩
  ·exact hVS1 i b o l a
  exact hRS1 b o l a
 obtain⟨Xa,Ya,ha1,ha2,ha3,⟨ga,oa,hea,ha4⟩,fa,ha5,ha6,ha7⟩:=(show pF w1 (λb o=>S b o\/S1 b o) (V' 0) (.ptr c') (.pointer (some ⟨g,q,none⟩)) from hm.1)
 obtain⟨rfl,rfl⟩ : g=ga/\q=oa:=by simpa using hea
 have G:(c'++r).length=c.length+r.length:=by rw[Z3,hl]
 show pF w1 (λb o=>S b o\/S1 b o) (λb o=>V' 0 b o\/R b o) (.ptr (c'++r)) (.pointer (some ⟨g,q,none⟩));have faV:∀j,j<c.length->∀b o,fa j b o->V' 0 b o:=λj M b o p=>ha2 _ _ (ha6 j ω b o p)
 refine⟨λb o=>Xa b o\/(R b o/\∃j,c.length<=j/\j<(c++r).length/\b=g/\o=q+j),λb o=>Ya b o\/∃j,c.length<=j/\j<(c++r).length/\ff j b o,λb o p=>?_,λb o p=>?_,λb o l a=>?_,⟨g,q,rfl,λj M=>?_⟩,λj=>if j<c.length then fa j else ff j,λj d M=>?_,λj M b o p=>?_,λj N M hj' D b o l a=>?_⟩
 ·exact p.imp (ha1 b o) (·.1)
 ·rcases p with p|⟨j,l,a,Q⟩
  ·exact .inl (ha2 b o p)
  exact .inr (L j l a b o Q)
 ·rcases l with l|⟨l,j,j1,j2,rfl,rfl⟩
  ·rcases a with a|⟨j,j1,j2,j3⟩
   ·exact ha3 b o l a
   exact t b o (L j j1 j2 b o j3) (E 0 b o (ha1 b o l))
  rcases a with a|⟨N,j3,j4,j5⟩
  ·exact t _ _ l (E 0 _ _ (ha2 _ _ a))
  exact O _ _ (u j j2).1 (J N j4 _ _ j5)
 ·rw[G]at M
  by_cases hc:j<c.length
  ·have:=ha4 j ω
   exact⟨.inl this.1,this.2⟩
  have y:=hRc j ω ω;have hs:=hRsame _ _ y;have T:=u j ω;refine⟨.inr ⟨y,j,ω,ω,rfl,rfl⟩,?_,?_⟩
  ·rw[hs.1];exact T.2.1
  rw[hs.2];exact T.2.2
 ·dsimp only
  by_cases hc:j<c.length
  ·rw[CD hc]
   rw[W5 ω]at M;exact ha5 j d M
  rw[CB hc];rw[X5 ω,hl]at M;have hj2:(c++r)[j]? = some d:=by rw[X5 ω];exact M
  have hjl:=(Z2.1 hj2).1;have Q:=(hf1 j d hj2).keep hSsame (λb o p=>hRsame b o (L j ω hjl b o p));have T:=(hRsame _ _ (hRc j ω hjl)).1;have:ch w1 .box (.pointer (some ⟨g,q,none⟩)) j=ch w .box (.pointer (some ⟨g,q,none⟩)) j:=by
   simp only[ch];rw[T]
  rw[this];exact Q.mono (λ_ _ h=>.inl h) (λ_ _ h=>h)
 ·rw[G]at M
  split at p
  ·rename_i hc;exact .inl (ha6 j ω b o p)
  exact .inr ⟨j,ω,ω,p⟩
 rw[G]at M hj';split at l
 ·rename_i c1
  split at a
  ·exact ha7 j N ω ω D b o l a
  exact t b o (L N ω ω b o a) (E 0 b o (faV j c1 b o l))
 split at a
 ·rename_i c1;exact t b o (L j ω ω b o l) (E 0 b o (faV N c1 b o a))
 exact hf3 j N ω ω D b o l a
mutual
def Ue:∀c:C,fz (fz c)=fz c
 | .v x=>by simp[fz]
 | .s o rows=>by simp only[fz];rw[KE rows]
 | .x=>by simp[fz]
 | .z=>by simp[fz]
 | .m _=>by simp[fz]
 | .it _ _=>by simp[fz]
def KE:∀a:List (List C),fzR (fzR a)=fzR a
 | []=>rfl
 | r::a=>by simp only[fzR];rw[tD r,KE a]
def tD:∀cs:List C,eg (eg cs)=eg cs
 | []=>rfl
 | c::cs=>by simp only[eg];rw[Ue c,tD cs]
end
def o9(k:af)(a:ay k=true)(e:k.Calls≠100000):zzB 484 false [.ptr (af.enc .own k)] [.ptr (af.enc .own (ce k))] .one [B (!refd k)]:=by
 have b:=bj a;have c:=(a7.1 a).2.2.2.2;have d:=Gr k.u k.Calls (by have:=b.2;omega);refine fM 22 [] [(2,9,[11,12,13,14,15,16,17,18,19])] [(0,0)] Tryz.func484 rfl (λu q=>?_)
 repeat'(first|refine gP ?_|(conv=>whnf);first|refine CH (d) ⟨⟨rfl,eM _⟩,⟨rfl,Z0 (λz=>[I z]) ω⟩,trivial⟩ ?_)
 refine CJ rfl ?_ ?_
 ·rfl
 exact wB
def oM(k:af)(p m:Int)(a:ay k=true)(j:k.Calls≠100000)(d:(ac k.F.Q p).j≠0)(l:m=1\/m=2):zzB 575 false [.ptr (af.enc .own k),.val none [I p],.val none [I m]] [.ptr (af.enc .own (fw k p m).1),.val none [I p],.val none [I m]] .one [B (fw k p m).2]:=by
 have n:=bj a;have b:=o9 k a j;have g:=eP (ce k) p n.1.2;have c:=aH m 1 2;rw[O0 ω]at c;obtain⟨o,t,w,-⟩:=bD a d;have h:=ao (xs:=k.F.Q.K) (i:=p.toNat) ω;have r:¬(ac (ce k).F.Q p).j=0:=d;unfold fw;cases e:refd k<;>rw[e]at b
 ·rw[CB (by simp),uX]
  refine fM 31 [(484,[2])] [] [(0,0),(0,0),(0,0)] Tryz.func575 rfl (λu q=>?_)
  repeat'(first|refine gB ?_|(conv=>whnf);first|refine CL (b) (.inl rfl) ?_|refine CH (g) ⟨CT (ce k),⟨rfl,rfl⟩,trivial⟩ ?_|refine C9 (c) ?_|refine CN o (aa h) ?_|refine CQ rfl rfl (aa h) rfl (O1 rfl) rfl ?_)
  refine CJ rfl ?_ ?_
  ·rfl
  exact wB
 rw[CD rfl];refine fM 31 [(484,[2])] [] [(0,0),(0,0),(0,0)] Tryz.func575 rfl (λu q=>?_)
 repeat'(first|refine gB ?_|(conv=>whnf);first|refine CL (b) (.inl rfl) ?_|refine CH (g) ⟨CT (ce k),⟨rfl,rfl⟩,trivial⟩ ?_|refine C9 (c) ?_)
 refine CJ rfl ?_ ?_
 ·rfl
 exact wB
variable{rows:List (List C)}
def Rw.two{off k j d e b:Nat}{K:List C->Nat->Prop}{o f:dM}{rows2:List (List C)}{r a:List C}(h1:c[off]? = some (.s o rows))(g:rows[i]? = some r)(h:r.length=k)(l:r[j]? = some (.s f rows2))(n:rows2[d]? = some a)(p:a.length=e)(q:K a b):Rw c off [(i,k,j),(d,e,b)] K:=
 Rw.mk (r:=a) (j:=b) (by simp[cq,h1,g,h,l,n,p]) q
def A5(k:af)(a b c:Int)(h:ay k=true)(F:(ac k.F.Q a).j≠0)(G:(ac k.F.Q b).j≠0)(g:0<=c/\c<=15):zzB 576 false [.ptr (af.enc .own k),.val none [I a],.val none [I b],.val none (aF .W [c])] [.ptr (af.enc .own (oK k a b c)),.val none [I a],.val none [I b],.val none (aF .W [c])] .one [B true]:=by
 have w:=bj h;have H:=eP k a w.1.2;have J:=eP k b w.1.2;have y:=aH c 0 15;rw[O0 g]at y;obtain⟨K,O,L,C,P⟩:=bD h F;obtain⟨M,Q,D,E,R⟩:=bD h G;have N:=(aO.1 (a7.1 h).2.1).2.2.1;have S:=row16 h (f:=b9 k a) (by unfold b9;omega);have T:=row16 h (f:=b9 k b) (by unfold b9;omega);have d:k.F.U.T[(ac k.F.Q a).d.toNat]? = some (nth k.F.U.T (b9 k a)):=ao ω;have e:k.F.U.T[(ac k.F.Q b).d.toNat]? = some (nth k.F.U.T (b9 k b)):=ao ω;have l:=ao (xs:=nth k.F.U.T (b9 k a)) (i:=c.toNat) ω;have o:=ao (xs:=nth k.F.U.T (b9 k b)) (i:=c.toNat) ω;have p:=ao (xs:=k.F.Q.K) (i:=a.toNat) ω;have r:=ao (xs:=k.F.Q.K) (i:=b.toNat) ω;rw[L]at C d;rw[D]at E e;have t:[c][0]? = some c:=rfl;refine fM 90 [] [(13,28,[61,62,63,64,65,66,67,68,69,70,71,72,73,74,75,76,77,78,79,80,81,82,83,84,85,86,87,88])] [(0,0),(0,0),(0,0),(0,0)] Tryz.func576 rfl (λu q=>?_)
 repeat'(first|refine gB ?_|(conv=>whnf);first|refine CC ?_|refine CH (H) ⟨CT k,⟨rfl,rfl⟩,trivial⟩ ?_|refine CH (J) ⟨CT k,⟨rfl,rfl⟩,trivial⟩ ?_)
 (conv=>whnf)
 refine CG (ι:=Nat) (λn=>[(0,.H .box (af.enc .own k)),(1,.H .one [I (a)]),(2,.H .one [I (b)]),(3,.H .one (aF .W [c])),(9,.H .one [I ((n:Nat):Int)])]) (λn=>n<=1) (λn=>1 - n) (0) ?_ (X0 _) λn U=>?_
 ·exact wB
 by_cases V:n<1
 ·obtain rfl:n=0:=ω
  repeat'(first|refine gE ?_|(conv=>whnf);first|refine CC ?_|refine CN (by decide) (aa t) ?_|refine C9 (y) ?_)
  ((conv=>whnf);refine CF 1 ω ω ?_;(exact wB))
 obtain rfl:n=1:=ω
 repeat'(first|refine gE ?_|(conv=>whnf);first|refine CC ?_|refine CN K (aa p) ?_|refine CN M (aa r) ?_|refine CK rfl (aa p) rfl ?_|refine CK rfl (aa r) rfl ?_)
 (conv=>whnf)
 refine CG (ι:=Nat) (λj=>[(0,.H .box (af.enc .own (KG k a b c j))),(3,.H .one (aF .W [c])),(10,.H .one [I ((nth k.F.Q.K a.toNat).d)]),(11,.H .one [I ((nth k.F.Q.K b.toNat).d)]),(12,.H .one [I ((j:Nat):Int)])]) (λj=>j<=1) (λj=>1 - j) (0) ?_ (X0 _) λj W=>?_
 ·exact wB
 by_cases X:j<1
 ·obtain rfl:j=0:=ω
  repeat'(first|refine gE ?_|(conv=>whnf);first|refine CC ?_|refine CN (by decide) (aa t) ?_|refine CN C (aa d) ?_|refine CN E (aa e) ?_|refine CN g.1 (aa l) ?_|refine CN g.1 (aa o) ?_|refine CK rfl (aa e) rfl ?_|refine CK rfl (aa d) rfl ?_|refine Rw.two rfl (aa d) rfl rfl (aa l) rfl ?_|refine Pu.two rfl rfl (aa e) rfl rfl rfl (aa o) rfl (X3 _) rfl ?_)
  ((conv=>whnf);refine CF 1 ω ω ?_)
  rw[show KG k a b c 1=oK k a b c from rfl];unfold oK;rw[vX,show b9 k b=(nth k.F.Q.K b.toNat).d.toNat by unfold b9;rw[D]];exact wB
 obtain rfl:j=1:=ω
 repeat'(first|refine gE ?_|(conv=>whnf);first|refine CC ?_)
 refine CJ rfl ?_ ?_
 ·rfl
 exact wB
def Hy(k:af)(p o:Int)(a:ay k=true)(y:k.Calls≠100000)(g:(ac k.F.Q p).j≠0)(h:(ac k.F.Q o).j≠0)(C:p≠o):zzB 577 false [.ptr (af.enc .own k),.val none [I p],.val none [I o]] [.ptr (af.enc .own (qT k p o).1),.val none [I p],.val none [I o]] .one [B (qT k p o).2]:=by
 have b:=bj a;have c:=o9 k a y;have j:=eP (ce k) p b.1.2;have l:=eP (ce k) o b.1.2;obtain⟨D,K,E,n,r⟩:=bD a g;obtain⟨F,L,M,N,O⟩:=bD a h;have G:=(aO.1 (a7.1 a).2.1).2.2.1;have d:=ao (xs:=k.F.Q.K) (i:=p.toNat) ω;have t:=ao (xs:=k.F.Q.K) (i:=o.toNat) ω;have H:¬(ac (ce k).F.Q p).j=0:=g;have J:¬(ac (ce k).F.Q o).j=0:=h;rw[E]at n r;have w:=tw (uW (ce k) p.toNat ⟨2,(nth k.F.Q.K o.toNat).d⟩) (nth k.F.Q.K p.toNat).d (Hd _ _ b.1.2) ⟨n,by show _<((k.F.U.T.length:Nat):Int);omega,r⟩;rw[GB]at w;unfold qT;cases e:refd k<;>rw[e]at c
 ·rw[CB (by simp)]
  refine fM 60 [(484,[2]),(486,[2,0])] [(4,274,[38,39,40,41,42,43,44,45,46,47,48,49,50,51,52,53,54,56,0,1,2,3,4,5,6,7,8,9,10,11,12,13,14,15,16,17,1000,1001,1002,1003,1004,1005,1006,18,19])] [(0,0),(0,0),(0,0)] Tryz.func577 rfl (λu q=>?_)
  repeat'(first|refine gB ?_|(conv=>whnf);first|refine CC ?_|refine CL (c) (.inl rfl) ?_|refine CH (j) ⟨CT (ce k),⟨rfl,rfl⟩,trivial⟩ ?_|refine CH (l) ⟨CT (ce k),⟨rfl,rfl⟩,trivial⟩ ?_|refine CN D (aa d) ?_|refine CN F (aa t) ?_|refine CK rfl (aa d) rfl ?_|refine CK rfl (aa t) rfl ?_|refine CQ rfl rfl (aa d) rfl (O1 rfl) rfl ?_|refine CL (w) (.inl rfl) ?_)
  refine CJ rfl ?_ ?_
  ·rfl
  exact wB
 rw[CD rfl];refine fM 60 [(484,[2]),(486,[2,0])] [(4,274,[38,39,40,41,42,43,44,45,46,47,48,49,50,51,52,53,54,56,0,1,2,3,4,5,6,7,8,9,10,11,12,13,14,15,16,17,1000,1001,1002,1003,1004,1005,1006,18,19])] [(0,0),(0,0),(0,0)] Tryz.func577 rfl (λu q=>?_)
 repeat'(first|refine gB ?_|(conv=>whnf);first|refine CC ?_|refine CL (c) (.inl rfl) ?_|refine CH (j) ⟨CT (ce k),⟨rfl,rfl⟩,trivial⟩ ?_|refine CH (l) ⟨CT (ce k),⟨rfl,rfl⟩,trivial⟩ ?_)
 refine CJ rfl ?_ ?_
 ·rfl
 exact wB
def A8(m:aS)(a:Int)(d:aS.sml m)(c:0<=a/\a<512):zzA 590 false [.val (some 3) (aS.enc .W m),.val none [I a]] (.tup [some 2,none]) (bi.enc .own (ac m.Q (a / 16))++[I (a % 16)]):=by
 have e:=du m.Q (a / 16) d.2;have b:a.tmod 16=a % 16:=dP c.1;refine fO 16 [] Tryz.func590 rfl ?_ (.inr ⟨trivial,trivial,trivial,trivial⟩)
 repeat'(first|refine gE ?_|(conv=>whnf);first|refine CC ?_|refine C9 (e) ?_|refine CO (pp c) ?_|refine CP (by decide) ?_|refine CS b ?_)
 rfl
def Jt(m:aS)(a v:Int)(o:cZ m=true)(e:aS.sml m)(p:0<=a/\a<512)(q:0<=v/\v<=999)(r:(ac m.Q (a / 16)).j≠0->0<=(ac m.Q (a / 16)).d/\(ac m.Q (a / 16)).d<m.U.T.length/\(nth m.U.T (ac m.Q (a / 16)).d.toNat).length=16):zzA 588 false [.val (some 3) (aS.enc .W m),.val none [I a],.val none [I v]] (.tup [some 3,none]) (aS.enc .own (fQ m a v).1++[I (fQ m a v).2]):=by
 have c:=pn m e;rw[o]at c;have g:=tp m e;have h:=A8 m a e p;have d:=aH v 0 999;rw[O0 q]at d;have b:=aS.enc_fr (fQ m a v).1;unfold fQ at b |-;by_cases j:(ac m.Q (a / 16)).j=0
 ·rw[CD j]at b |-
  refine fO 47 [] Tryz.func588 rfl ?_ (.inr (aG b ⟨trivial,trivial⟩))
  repeat'(first|refine gB ?_|(conv=>whnf);first|refine CC ?_|refine C9 (c) ?_|refine C9 (g) ?_|refine C9 (h) ?_|refine C9 (d) ?_)
  rfl
 rw[CB j]at b |-;by_cases l:(ac m.Q (a / 16)).j=1
 ·rw[CD l]at b |-
  refine fO 47 [] Tryz.func588 rfl ?_ (.inr (aG b ⟨trivial,trivial⟩))
  repeat'(first|refine gB ?_|(conv=>whnf);first|refine CC ?_|refine C9 (c) ?_|refine C9 (g) ?_|refine C9 (h) ?_|refine C9 (d) ?_)
  rfl
 rw[CB l]at b |-;obtain⟨t,u,w⟩:=r j;have k:=ao (xs:=m.U.T) (i:=(ac m.Q (a / 16)).d.toNat) ω;have n:=ao (xs:=nth m.U.T (ac m.Q (a / 16)).d.toNat) (i:=(a % 16).toNat) ω;simp only at b |-;rw[xu]at b |-;refine fO 47 [] Tryz.func588 rfl ?_ (.inr (aG b ⟨trivial,trivial⟩))
 repeat'(first|refine gB ?_|(conv=>whnf);first|refine CC ?_|refine C9 (c) ?_|refine C9 (g) ?_|refine C9 (h) ?_|refine C9 (d) ?_|refine CN t (aa k) ?_|refine CN ω (aa n) ?_|refine CK rfl (aa k) rfl ?_|refine Pu.two rfl rfl (aa k) rfl rfl rfl (aa n) rfl (X3 _) rfl ?_)
 rfl
def hC{k:af}{j:co} : jmay k j=true↔(ay k=true/\k.Calls≠100000)/\jH j=true/\(ac k.F.Q j.X.a2).j≠0/\(ac k.F.Q j.X.a0).j≠0/\(ac k.F.Q j.X.a2).d≠(ac k.F.Q j.X.a0).d:=by
 unfold jmay;simp only[I0,C0]
def lD{p:bY}(h:eO p=true):p.T.length<=16:=by
 unfold eO at h;simp only[I0]at h;have a:∀i,i<p.T.length->(i:Int)<=nth p.T i:=λi=>by
  induction i with
  | zero=>
   intro a;have:=fk h.1 a;unfold mU at this;rw[C0]at this;exact this.1
  | succ i b=>
   intro a;have c:=b ω;have:=fk h.1 a;unfold mU at this;rw[C0]at this;have d:=this.2.2.resolve_left ω;rw[Nat.add_sub_cancel]at d;omega
 by_cases e:p.T.length<=16
 ·exact e
 exfalso;have c:=a 16 ω;have:=fk h.1 (show 16<p.T.length by omega);unfold mU at this;rw[C0]at this;omega
def vj{j:co}(h:jH j=true):co.sml j:=by
 have:=lD (cN.1 h).1;show j.X.T.length<=1048576;omega
def nr{k:af}(h:ay k=true):cZ k.F=true:=by
 unfold ay at h;simp only[I0]at h;exact h.1.2
def D1(k:af)(j:co)(p:jmay k j=true)(g:j.b1=3):zzB 578 false [.ptr (af.enc .own k),.ptr (zA j)] [.ptr (af.enc .own (jstep k j).1),.ptr (zA (jstep k j).2)] (.tup []) []:=by
 obtain⟨⟨a,r⟩,t,c,d,w⟩:=hC.1 p;obtain⟨h,H,J,K,L⟩:=cN.1 t;have y:=bj a;obtain⟨M,N,O,B,P⟩:=bD a c;have l:=(bo.1 (a7.1 a).2.2.1).2.2;have C:=lD h;have D:=(aO.1 (a7.1 a).2.1).2.2.1;unfold jstep;rw[CB ω,CB ω,CB ω,CD g];by_cases n:0<j.b
 ·rw[CD n]
  have o:=f8 h (i:=(j.b - 1).toNat) ω;have E:=ao (xs:=j.X.T) (i:=(j.b - 1).toNat) ω;have F:0<=j.X.a2*16+nth j.X.T (j.b - 1).toNat/\j.X.a2*16+nth j.X.T (j.b - 1).toNat<512:=ω
  have G:(j.X.a2*16+nth j.X.T (j.b - 1).toNat) / 16=j.X.a2:=ω
  have b:=Jt k.F (j.X.a2*16+nth j.X.T (j.b - 1).toNat) 0 (nr a) y.1 F ω (λ_=>by rw[G];exact⟨B,ω,row16 a (f:=b9 k j.X.a2) (by unfold b9;omega)⟩);generalize (fQ k.F (j.X.a2*16+nth j.X.T (j.b - 1).toNat) 0).1=m at b |-;generalize (fQ k.F (j.X.a2*16+nth j.X.T (j.b - 1).toNat) 0).2=e at b;refine fM 59 [(575,[2,0,0])] [(2,283,[20,21,22,23,24,25,26,27,28,29,30,31,32,33,34,35,36,37,38,39,40,41,42,19,43,44,4,0,1,2,3,4,5,6,7,8,9,10,11,12,13,14,15,16,17,18,19,20,21,22,23,24,25,26,27,1025,28])] [(0,0),(1,0)] Tryz.func578 rfl (λu q=>?_) (.inr trivial)
  repeat'(first|refine gE ?_|(conv=>whnf);first|refine CC ?_|refine CH (b) ⟨⟨rfl,aS.enc_fz k.F⟩,⟨rfl,rfl⟩,⟨rfl,rfl⟩,trivial⟩ ?_|refine CN ω (aa E) ?_|refine CC ?_)
  refine CJ rfl rfl ?_;exact wC
 rw[CB n];have b:=oM k j.X.a0 2 a r d (.inr rfl);cases e:(fw k j.X.a0 2).2<;>rw[e]at b
 ·refine fM 59 [(575,[2,0,0])] [(2,283,[20,21,22,23,24,25,26,27,28,29,30,31,32,33,34,35,36,37,38,39,40,41,42,19,43,44,4,0,1,2,3,4,5,6,7,8,9,10,11,12,13,14,15,16,17,18,19,20,21,22,23,24,25,26,27,1025,28])] [(0,0),(1,0)] Tryz.func578 rfl (λu q=>?_) (.inr trivial)
  repeat'(first|refine gE ?_|(conv=>whnf);first|refine CC ?_|refine CL (b) (.inl rfl) ?_)
  refine CJ rfl rfl ?_;rw[<-g];exact wC
 refine fM 59 [(575,[2,0,0])] [(2,283,[20,21,22,23,24,25,26,27,28,29,30,31,32,33,34,35,36,37,38,39,40,41,42,19,43,44,4,0,1,2,3,4,5,6,7,8,9,10,11,12,13,14,15,16,17,18,19,20,21,22,23,24,25,26,27,1025,28])] [(0,0),(1,0)] Tryz.func578 rfl (λu q=>?_) (.inr trivial)
 repeat'(first|refine gE ?_|(conv=>whnf);first|refine CC ?_|refine CL (b) (.inl rfl) ?_)
 refine CJ rfl rfl ?_;exact wC
def DE(k:af)(j:co)(g:jmay k j=true):zzB 529 false [.ptr (af.enc .own k),.ptr (zA j)] [.ptr (af.enc .own (jstep k j).1),.ptr (zA (jstep k j).2)] (.tup []) []:=by
 obtain⟨⟨h,p⟩,B,c,b,l⟩:=hC.1 g;obtain⟨r,F,G,H,J⟩:=cN.1 B;have n:j.X.a0≠j.X.a2:=λe=>l (by rw[e])
 have C:=lD r;by_cases d:j.b1=0
 ·have a:=oM k j.X.a0 1 h p b (.inl rfl)
  unfold jstep;rw[CD d];cases e:(fw k j.X.a0 1).2<;>rw[e]at a
  ·refine fM 80 [(575,[2,0,0]),(576,[2,0,0,0]),(577,[2,0,0]),(578,[2,2])] [(7,7,[27,28,29,30,31,32,33]),(9,14,[38,39,40,41,42,43,44,45,46,47,48,49,50,51])] [(0,0),(1,0)] Tryz.func529 rfl (λu q=>?_) (.inr trivial)
   repeat'(first|refine gB ?_|(conv=>whnf);first|refine CC ?_|refine CL (a) (.inl rfl) ?_)
   refine CJ rfl rfl ?_;exact wC
  refine fM 80 [(575,[2,0,0]),(576,[2,0,0,0]),(577,[2,0,0]),(578,[2,2])] [(7,7,[27,28,29,30,31,32,33]),(9,14,[38,39,40,41,42,43,44,45,46,47,48,49,50,51])] [(0,0),(1,0)] Tryz.func529 rfl (λu q=>?_) (.inr trivial)
  repeat'(first|refine gB ?_|(conv=>whnf);first|refine CC ?_|refine CL (a) (.inl rfl) ?_)
  refine CJ rfl rfl ?_;exact wC
 by_cases o:j.b1=1
 ·unfold jstep
  rw[CB d,CD o];by_cases t:j.b=j.X.T.length
  ·rw[CD t]
   refine fM 80 [(575,[2,0,0]),(576,[2,0,0,0]),(577,[2,0,0]),(578,[2,2])] [(7,7,[27,28,29,30,31,32,33]),(9,14,[38,39,40,41,42,43,44,45,46,47,48,49,50,51])] [(0,0),(1,0)] Tryz.func529 rfl (λu q=>?_) (.inr trivial)
   repeat'(first|refine gB ?_|(conv=>whnf);first|refine CC ?_|refine CC ?_)
   refine CJ rfl rfl ?_;exact wC
  rw[CB t];have D:=ao (xs:=j.X.T) (i:=j.b.toNat) ω;have a:=A5 k j.X.a0 j.X.a2 (nth j.X.T j.b.toNat) h b c (f8 r ω);have E:=(hC.1 g).2.1;refine fM 80 [(575,[2,0,0]),(576,[2,0,0,0]),(577,[2,0,0]),(578,[2,2])] [(7,7,[27,28,29,30,31,32,33]),(9,14,[38,39,40,41,42,43,44,45,46,47,48,49,50,51])] [(0,0),(1,0)] Tryz.func529 rfl (λu q=>?_) (.inr trivial)
  repeat'(first|refine gB ?_|(conv=>whnf);first|refine CC ?_|refine CL a (.inr ⟨rfl,Cf _,trivial⟩) ?_|refine CN ω (aa D) ?_|refine CC ?_)
  refine CJ rfl rfl ?_;exact wC
 by_cases w:j.b1=2
 ·have a:=Hy k j.X.a0 j.X.a2 h p b c n
  unfold jstep;rw[CB d,CB o,CD w];cases e:(qT k j.X.a0 j.X.a2).2<;>rw[e]at a
  ·refine fM 80 [(575,[2,0,0]),(576,[2,0,0,0]),(577,[2,0,0]),(578,[2,2])] [(7,7,[27,28,29,30,31,32,33]),(9,14,[38,39,40,41,42,43,44,45,46,47,48,49,50,51])] [(0,0),(1,0)] Tryz.func529 rfl (λu q=>?_) (.inr trivial)
   repeat'(first|refine gB ?_|(conv=>whnf);first|refine CC ?_|refine CL (a) (.inl rfl) ?_)
   refine CJ rfl rfl ?_;exact wC
  refine fM 80 [(575,[2,0,0]),(576,[2,0,0,0]),(577,[2,0,0]),(578,[2,2])] [(7,7,[27,28,29,30,31,32,33]),(9,14,[38,39,40,41,42,43,44,45,46,47,48,49,50,51])] [(0,0),(1,0)] Tryz.func529 rfl (λu q=>?_) (.inr trivial)
  repeat'(first|refine gB ?_|(conv=>whnf);first|refine CC ?_|refine CL (a) (.inl rfl) ?_)
  refine CJ rfl rfl ?_;exact wC
 by_cases y:j.b1=3
 ·have a:=D1 k j g y
  refine fM 80 [(575,[2,0,0]),(576,[2,0,0,0]),(577,[2,0,0]),(578,[2,2])] [(7,7,[27,28,29,30,31,32,33]),(9,14,[38,39,40,41,42,43,44,45,46,47,48,49,50,51])] [(0,0),(1,0)] Tryz.func529 rfl (λu q=>?_) (.inr trivial)
  repeat'(first|refine gB ?_|(conv=>whnf);first|refine CC ?_|refine CL (a) (.inl rfl) ?_)
  refine CJ rfl rfl ?_;exact wC
 unfold jstep;rw[CB d,CB o,CB w,CB y];refine fM 80 [(575,[2,0,0]),(576,[2,0,0,0]),(577,[2,0,0]),(578,[2,2])] [(7,7,[27,28,29,30,31,32,33]),(9,14,[38,39,40,41,42,43,44,45,46,47,48,49,50,51])] [(0,0),(1,0)] Tryz.func529 rfl (λu q=>?_) (.inr trivial)
 repeat'(first|refine gB ?_|(conv=>whnf);first|refine CC ?_)
 refine CJ rfl rfl ?_;exact wC
def Fp(k:af)(j:co)(e:ay k=true)(i:jH j=true):zzA 528 false [.val (some 5) (af.enc .W k),.val (some 5) (co.enc .W j)] .one [B (jmay k j)]:=by
 have c:=bj e;have b:eg (af.enc .W k)=af.enc .W k:=by rw[<-CT k,tD]
 have r:=(a7.1 e).2.2.2.2;have a:=m6 k c;rw[e]at a;have d:=xz j (vj i);rw[i]at d;have l:=eP k j.X.a2 c.1.2;have n:=eP k j.X.a0 c.1.2;have t:=du k.F.Q j.X.a2 c.1.2;have u:=du k.F.Q j.X.a0 c.1.2;by_cases o:k.Calls=100000
 ·rw[W0 ω]at a
  rw[show jmay k j=false by rw[<-X6,hC];exact λh=>h.1.2 o];refine fO 44 [(3,16,[27,28,29,30,31,32,33,34,35,36,37,38,39,40,41,42])] Tryz.func528 rfl ?_
  repeat'(first|refine gP ?_|(conv=>whnf);first|refine CC ?_|refine C9 (a) ?_|refine C9 (d) ?_)
  rfl
 rw[O0 ω]at a;by_cases p:(ac k.F.Q j.X.a2).j=0
 ·rw[show jmay k j=false by rw[<-X6,hC];exact λh=>h.2.2.1 p]
  refine fO 44 [(3,16,[27,28,29,30,31,32,33,34,35,36,37,38,39,40,41,42])] Tryz.func528 rfl ?_
  repeat'(first|refine gB ?_|(conv=>whnf);first|refine CC ?_|refine C9 (a) ?_|refine C9 (d) ?_|refine CH (l) ⟨b,⟨rfl,rfl⟩,trivial⟩ ?_|refine CH (n) ⟨b,⟨rfl,rfl⟩,trivial⟩ ?_)
  rfl
 by_cases q:(ac k.F.Q j.X.a0).j=0
 ·rw[show jmay k j=false by rw[<-X6,hC];exact λh=>h.2.2.2.1 q]
  refine fO 44 [(3,16,[27,28,29,30,31,32,33,34,35,36,37,38,39,40,41,42])] Tryz.func528 rfl ?_
  repeat'(first|refine gB ?_|(conv=>whnf);first|refine CC ?_|refine C9 (a) ?_|refine C9 (d) ?_|refine CH (l) ⟨b,⟨rfl,rfl⟩,trivial⟩ ?_|refine CH (n) ⟨b,⟨rfl,rfl⟩,trivial⟩ ?_)
  rfl
 refine fO 44 [(3,16,[27,28,29,30,31,32,33,34,35,36,37,38,39,40,41,42])] Tryz.func528 rfl ?_
 repeat'(first|refine gB ?_|(conv=>whnf);first|refine CC ?_|refine C9 (a) ?_|refine C9 (d) ?_|refine CH (l) ⟨b,⟨rfl,rfl⟩,trivial⟩ ?_|refine CH (n) ⟨b,⟨rfl,rfl⟩,trivial⟩ ?_|refine C9 (t) ?_|refine C9 (u) ?_|refine CC ?_)
 exact Z0 (λz=>[B z]) (by
   unfold jmay;rw[e,i,O0 o];by_cases g:(ac k.F.Q j.X.a2).d=(ac k.F.Q j.X.a0).d
   · rw[W0 (λh=>h.2.2 g)];simp[g]
   rw[O0 ⟨p,q,g⟩];simp[g])
def EE(j:co):zzA 530 false [.val (some 5) (co.enc .W j)] .one [B (over j)]:=by
 by_cases a:j.b1=4
 ·rw[show over j=true from O0 (.inl a)]
  refine fO 11 [] Tryz.func530 rfl ?_
  repeat'(first|refine gB ?_|(conv=>whnf);first|refine CC ?_)
  rfl
 rw[show over j=decide (j.b1=5) from decide_eq_decide.2 ω];refine fO 11 [] Tryz.func530 rfl ?_
 repeat'(first|refine gB ?_|(conv=>whnf);first|refine CC ?_)
 exact Z0 (λz=>[B z]) (by rw[Z5];simp)
def KJ(x:ab):List C:=(bE x).set 21 .z
def Gu{x:ab}(h:x.Y.X.T=[]):NH (KJ x) (bE x):=by
 unfold KJ bE;simp only[List.set,h,List.map_nil]
 repeat'(first|exact trivial|exact dK _|refine CM ?_ ?_|rfl)
def EJ(h:ab)(j:aU h [])(k:h.o=true):zzB 431 false [.ptr (bE h)] [.ptr (bE (mStep h))] .one [B (lH h)]:=by
 obtain⟨l,-,-⟩:=j.job k;have b:=Fp h.G h.Y j.ker l;have a:=EE (ed h.G h.Y).2;unfold lH mStep;cases e:jmay h.G h.Y with
 | false=>
  rw[e]at b;have d:ed h.G h.Y=(h.G,h.Y):=by unfold ed;rw[e];rfl
  rw[d]at a |-;simp only at a |-;cases g:over h.Y<;>rw[g]at a
  ·refine fM 39 [(529,[3,5,5])] [(1,8,[4,5,6,7,8,9,10,11]),(2,6,[13,14,15,16,17,18])] [(0,0)] Tryz.func431 rfl (λu q=>?_)
   repeat'(first|refine gP ?_|(conv=>whnf);first|refine CH (b) ⟨⟨rfl,CT h.G⟩,⟨rfl,rfl⟩,trivial⟩ ?_|refine C9 (a) ?_|refine CC ?_)
   refine CJ rfl ?_ ?_
   ·exact Z0 (λz=>[B z]) (by rw[Z5];simp)
   exact wC
  refine aT.wk (c:=KJ _) ?_ (Gu rfl);refine fM 39 [(529,[3,5,5])] [(1,8,[4,5,6,7,8,9,10,11]),(2,6,[13,14,15,16,17,18])] [(0,0)] Tryz.func431 rfl (λu q=>?_)
  repeat'(first|refine gP ?_|(conv=>whnf);first|refine CH (b) ⟨⟨rfl,CT h.G⟩,⟨rfl,rfl⟩,trivial⟩ ?_|refine C9 (a) ?_|refine CC ?_)
  refine CJ rfl ?_ ?_
  ·exact Z0 (λz=>[B z]) (by rw[Z5];simp)
  exact wC
 | true=>
  rw[e]at b;have d:ed h.G h.Y=jstep h.G h.Y:=by unfold ed;rw[e];rfl
  have i:=DE h.G h.Y e;rw[d]at a |-;generalize jstep h.G h.Y=r at i a |-;cases g:over r.2<;>rw[g]at a
  ·refine fM 39 [(529,[3,5,5])] [(1,8,[4,5,6,7,8,9,10,11]),(2,6,[13,14,15,16,17,18])] [(0,0)] Tryz.func431 rfl (λu q=>?_)
   repeat'(first|refine gP ?_|(conv=>whnf);first|refine CH (b) ⟨⟨rfl,CT h.G⟩,⟨rfl,rfl⟩,trivial⟩ ?_|refine C9 (a) ?_|refine CL (i) (.inl rfl) ?_|refine CC ?_)
   refine CJ rfl ?_ ?_
   ·exact Z0 (λz=>[B z]) (by rw[Z5];simp)
   exact wC
  refine aT.wk (c:=KJ _) ?_ (Gu rfl);refine fM 39 [(529,[3,5,5])] [(1,8,[4,5,6,7,8,9,10,11]),(2,6,[13,14,15,16,17,18])] [(0,0)] Tryz.func431 rfl (λu q=>?_)
  repeat'(first|refine gP ?_|(conv=>whnf);first|refine CH (b) ⟨⟨rfl,CT h.G⟩,⟨rfl,rfl⟩,trivial⟩ ?_|refine C9 (a) ?_|refine CL (i) (.inl rfl) ?_|refine CC ?_)
  refine CJ rfl ?_ ?_
  ·exact Z0 (λz=>[B z]) (by rw[Z5];simp)
  exact wC
def Km{k:Int} : ∀{l s s2 c:List Int}(n:Nat),(∀x∈s2,x∈s)->su k s l=some c->∃d,su k s2 (l.take n)=some d/\∀x∈d,x∈c
 | [],s,s2,c,n,h,e=>by
  simp only[su,C1,List.take_nil]at e |-;subst e;exact⟨s2,rfl,h⟩
 | a::l,s,s2,c,0,h,e=>⟨s2,rfl,λx b=>(qa (λ_ y=>y) e).1 x (h x b)⟩
 | a::l,s,s2,c,n+1,h,e=>by
  simp only[List.take_succ_cons,su]at e |-;split at e
  ·rename_i g
   rw[CD (show good k s2 a from⟨g.1,g.2.1,g.2.2.1,λx=>g.2.2.2 (h a x)⟩)];exact Km (l:=l) (s:=s++[a]) (s2:=s2++[a]) n (λx b=>by
     rcases W3.1 b with b|b
     · exact W3.2 (.inl (h x b))
     exact W3.2 (.inr b)) e
  cases e
def Fy:∀{a:List (List Int)}{k:Nat}{s s2:List Int}(i n:Nat),(∀x∈s2,x∈s)->(im k s a).isSome=true->(im k s2 (a.set i ((nth a i).take n))).isSome=true
 | [],_,_,_,_,_,_,_=>rfl
 | l::a,k,s,s2,i,n,h,e=>by
  simp only[im,fL]at e;split at e
  ·rename_i g
   cases b:su k s l with
   | none=>rw[b]at e;cases e
   | some j=>
    rw[b]at e;cases i with
    | zero=>
     obtain⟨c,d,f⟩:=Km n h b;simp only[List.set_cons_zero,im,fL];rw[CD ⟨by have:=g.1;simp only[nth,List.getD_cons_zero,C2];omega,g.2⟩];show((su (k:Nat) s2 (l.take n)).bind λj=>im (k+1) j a).isSome=true;rw[d];exact ux f e
    | succ i=>
     obtain⟨o,c,d,f⟩:=qa h b;simp only[List.set_cons_succ,im,fL];rw[CD g,d];exact Fy i n f e
  cases e
def QN{c:aC}(h:bz c=true)(k:Nat):bz (tF c k)=true:=by
 unfold bz at h |-;simp only[I0,C0]at h |-;exact⟨by simp only[tF,Z1];exact h.1,Fy k _ (λ_ h=>h) h.2⟩
def pG(b:Int):Nat->List Int
 | 0=>[]
 | j+1=>if aX b (j:Nat)=true then pG b j else pG b j++[((j:Nat):Int)]
def vu{b:Int} : ∀{n:Nat}{z:Int},z∈pG b n->0<=z/\z<n/\aX b z=false
 | 0,_,h=>by cases h
 | n+1,z,h=>by
  unfold pG at h;split at h
  ·have:=vu h;exact⟨this.1,ω,this.2.2⟩
  rename_i e;rcases W3.1 h with h|h
  ·have:=vu h;exact⟨this.1,ω,this.2.2⟩
  rw[V1.1 h];exact⟨ω,ω,by simpa using e⟩
def ui(b:Int):∀n,(pG b n).length<=n
 | 0=>X3 _
 | n+1=>by have:=ui b n;unfold pG;split<;>simp<;>omega
def rY(k b:Int):List Int:=if Nf k b=true then pG b (slots k).toNat else []
def nQ(h:ab)(i:Nat):List Int:=rY (nth h.J i).e (iI h i)
def yC{b z:Int}(h:z∈rY k b):0<=z/\z<slots k/\aX b z=false:=by
 unfold rY at h;split at h
 ·have:=vu h;exact⟨this.1,ω,this.2.2⟩
 cases h
def Jy(k b:Int):(rY k b).length<=16:=by
 unfold rY;split
 ·rename_i h
  unfold Nf at h;rw[C0]at h;have:=(iu (k:=k) ⟨h.1,h.2.1⟩).2.2.1;have:=ui b (slots k).toNat;omega
 exact X0 _
def qU(h:ab)(i:Nat):Int:=nth (nQ h i) (GC h.b8 ((nQ h i).length:Nat)).toNat
def slotT(h:ab)(i:Nat):ab:={h with b8:=zY h.b8,J:=h.J.set i (ry (nth h.J i) (qU h i))}
def vL(h:ab)(i:Nat):Int:=16*(nth h.J i).R+qU h i*csz (nth h.J i).e
def B4(a:0<(nQ h i).length):qU h i∈nQ h i:=by
 have:=si h.b8 (n:=((nQ h i).length:Nat)) ω;exact am ω
def aU.slotT{h:ab}{E:List Int}{i:Nat}(a:aU h E)(b:i<h.J.length)(e:0<(nQ h i).length):aU (slotT h i) (vL h i::E)/\ku (slotT h i).J (vL h i) (nth h.J i).e:=by
 obtain⟨c,d,f⟩:=yC (B4 e);exact⟨a.take b ⟨c,d⟩ f (Ei _),(ku.setS a.L b ⟨c,d⟩ _ _).2 (.inr ⟨rfl,.inr rfl⟩)⟩
def tj(h:ab)(c:Int)(i:Nat):Bool:=decide ((nth h.J i).e=c)&&(!fx h (nth h.J i).R&&decide (0<(nQ h i).length))
def vr(h:ab)(c:Int):Option Nat:=(List.range h.J.length).find? (tj h c)
def sq(h:ab)(c:Int):ab:=addS h (newK h.G (ax h.w 1).2.1).1 (ax h.w 1).1 (ax h.w 1).2.1 c
def rv(h:ab):Nat:=lv (H1 (ax h.w 1).2.1) h.J
def qN(h:ab)(i:Nat):ab × Int:=if(nQ h i).length=0 then(h,-1) else(slotT h i,vL h i)
def smallA(h:ab)(t c:Nat):ab × Int:=
 if 0<(nth (nth h.S t).a c).length then({h with S:=h.S.set t (tF (nth h.S t) c)},nth (nth (nth h.S t).a c) ((nth (nth h.S t).a c).length - 1))
 else match vr h c with
 | some i=>(slotT h i,vL h i)
 | none=>if(ax h.w 1).2.2=false then(h,-1)
  else if(newK h.G (ax h.w 1).2.1).2=false then({h with G:=(newK h.G (ax h.w 1).2.1).1},-1)
  else qN (sq h c) (rv h)
def Dt[Inhabited α](p:α->Bool)(xs:List α)(y:α):lv p xs<(jV p xs y).length/\nth (jV p xs y) (lv p xs)=y:=by
 have b:=QL p xs;have a:(xs.take (lv p xs)).length=lv p xs:=by rw[C2];omega
 refine⟨by rw[(l8 p xs y).length_eq,List.length_cons];omega,bh ?_⟩;unfold jV;rw[X5 ω,a,Nat.sub_self]
 rfl
def aU.tEq{h:ab}{E:List Int}(a:aU h E){k:af}(c:ay k=true)(b:tEq (tbl h) k.F.Q):aU {h with G:=k} E/\JK h {h with G:=k}:=
 ⟨a.step (j:=h.Y) (m:=h.o) c b.1 (a.pg.tEq b) a.job a.noj,⟨rfl,rfl,λs d _=>⟨s,d,rfl,λ_ z=>z⟩,λq e=>.inl ⟨(b.2 q).1.1 e,(b.2 q).2⟩⟩⟩
structure U4(h:ab)(c:Int)(r:ab × Int):Prop where
 no:r.2<0->aU r.1 []
 yes:0<=r.2->aU r.1 [r.2]/\ku r.1.J r.2 c
 jk:JK h r.1
 nx:r.1.b=h.b
 cl:r.1.S.length=h.S.length
def ku.nn(b:aU h E){c:Int}(d:ku h.J a c):0<=a:=(ku.bd b d).1
def U4.slot{c:Int}(g:aU h' [])(j:i<h'.J.length)(k:0<(nQ h' i).length)(l:(nth h'.J i).e=c)(n:JK h h')(a:fx h' (nth h'.J i).R=false)(h1:h'.b=h.b)(o:h'.S.length=h.S.length):U4 h c (slotT h' i,vL h' i):=by
 obtain⟨d,f⟩:=g.slotT j k;have b:=ku.nn d f;exact⟨λe=>absurd b (by simp only at e;omega),λ_=>⟨d,by rw[<-l];exact f⟩,n.trans (JK.take a),h1,o⟩
def uF{c:Nat}(a:aU h [])(q:t<h.S.length)(P:c<=3)(B:h.G.Calls<=90000):U4 h c (smallA h t c):=by
 have f:=a.cach _ (am q);have C:=mw f;unfold smallA;split
 ·rename_i D
  obtain⟨d,b⟩:=a.pop q ω D (QN f c);have l:=ku.nn a b;exact⟨λe=>absurd l (by simp only at e;omega),λ_=>⟨d,b⟩,JK.eq rfl rfl rfl rfl,rfl,Z1 ..⟩
 split
 ·rename_i i r
  have g:=List.find?_some r;have E:=List.mem_range.1 (List.mem_of_find?_eq_some r);unfold tj at g;simp only[I0,C0,Bool.not_eq_true']at g;exact U4.slot a E g.2.2 g.1 (JK.refl h) g.2.1 rfl rfl
 split
 ·exact⟨λ_=>a,λe=>absurd e (by show ¬(0:Int)<=-1;decide),JK.refl h,rfl,rfl⟩
 rename_i F;have j:(ax h.w 1).2.2=true:=by simpa using F
 obtain⟨G,H,J,u⟩:=jY a (I6 1) j;have s:=wH.of (p:=(ax h.w 1).2.1) a.ker ω ⟨G,by have:(ax h.w 1).2.1+1<=(h.G.F.Q.K.length:Nat):=H;omega⟩ (J _ ω ω);split
 ·rename_i n
  rw[s.no n];obtain⟨d,b⟩:=a.tEq (nw a.ker ω) (tEq.refl _);exact⟨λ_=>d,λe=>absurd e (by show ¬(0:Int)<=-1;decide),b,rfl,rfl⟩
 rename_i n;have o:(newK h.G (ax h.w 1).2.1).2=true:=by simpa using n
 have w:wH h.G (ax h.w 1).2.1 ((newK h.G (ax h.w 1).2.1).1,true):=by rw[<-o];exact s
 have d:=a.addS (c:=c) ⟨ω,ω⟩ j w;have b:JK h (sq h c):=JK.addS w;obtain⟨K,A⟩:=Dt (H1 (ax h.w 1).2.1) h.J ⟨(ax h.w 1).2.1,c,0⟩;unfold qN;split
 ·exact⟨λ_=>d,λe=>absurd e (by show ¬(0:Int)<=-1;decide),b,rfl,rfl⟩
 refine U4.slot (h':=sq h c) (i:=rv h) d K ω (by show(nth (jV (H1 (ax h.w 1).2.1) h.J ⟨(ax h.w 1).2.1,c,0⟩) (rv h)).e=_;unfold rv;rw[A]) b ?_ rfl rfl;show fx (sq h c) (nth (jV (H1 (ax h.w 1).2.1) h.J ⟨(ax h.w 1).2.1,c,0⟩) (rv h)).R=false;unfold rv;rw[A,b.pg];rw[<-X6];intro k;unfold fx at k;simp only[I0,W7,C0]at k;obtain⟨-,⟨y,L,M⟩,⟨z,N,O⟩⟩:=a.job k.1;rcases k.2 with e|e
 ·exact u _ (I6 _) ω (by rw[e,<-M];exact dH L)
 exact u _ (I6 _) ω (by rw[e,<-O];exact dH N)
def iA(size:Int):Nat:=((size+15) / 16).toNat
def dU(h:ab)(size:Int):af × Nat:=newsK h.G (ax h.w (iA size:Nat)).2.1 (iA size)
def largeA(h:ab)(t size:Int):ab × Int × Int:=
 if(ax h.w (iA size:Nat)).2.2=false then(h,-1,4)
 else if(dU h size).2=iA size then(addL h (dU h size).1 (ax h.w (iA size:Nat)).1 (ax h.w (iA size:Nat)).2.1 (iA size:Nat) size t,16*(ax h.w (iA size:Nat)).2.1,0)
 else({h with G:=unmN (dU h size).1 (ax h.w (iA size:Nat)).2.1 (dU h size).2},-1,4)
def uo(xs:List bu):Nat->Int
 | 0=>0
 | i+1=>uo xs i+(nth xs i).q
def vb(h:ab):Int:=uo h.O h.O.length
def allocH(h:ab)(t size:Int):ab × Int × Int:=
 if 1000000<=h.b\/90000<h.G.Calls then(h,-1,5)
 else if ¬(0<=t/\t<=h.S.length - 1) then(h,-1,1)
 else if ¬(1<=size/\size<=1000) then(h,-1,2)
 else if h.c2<vb h+size then(h,-1,3)
 else if 0<=aL size then(if(smallA h t.toNat (aL size).toNat).2<0 then((smallA h t.toNat (aL size).toNat).1,-1,4) else(addO (smallA h t.toNat (aL size).toNat).1 (smallA h t.toNat (aL size).toNat).2 size t,(smallA h t.toNat (aL size).toNat).2,0))
 else largeA h t size
variable{size:Int}
def BH{t:Int}(a:aU h [])(g:9<=size/\size<=1000)(i:h.b<1000000)(j:h.G.Calls<=90000)(k:0<=t/\t<=h.S.length - 1):aU (largeA h t size).1 []/\JK h (largeA h t size).1:=by
 have l:(iA size:Int)=(size+15) / 16:=by unfold iA;omega
 unfold largeA;split
 ·exact⟨a,JK.refl h⟩
 rename_i o;have b:(ax h.w (iA size:Nat)).2.2=true:=by simpa using o
 obtain⟨c,d,e,w⟩:=jY a (show(1:Int)<=(iA size:Nat) by omega) b;have s:=m0.of (p:=(ax h.w (iA size:Nat)).2.1) (n:=iA size) a.ker ω ⟨c,d⟩ e (iA size) (X3 _);split
 ·rename_i q
  have f:m0 h.G (ax h.w (iA size:Nat)).2.1 (iA size) ((dU h size).1,iA size):=by
   have:((dU h size).1,iA size)=dU h size:=by rw[<-q]
   rw[this];exact s
  exact⟨a.addL g l b f i k,JK.addL f⟩
 obtain⟨r,u⟩:=s.undo a.ker ⟨c,d⟩ e;exact a.tEq r u
def Bo{t:Int}(a:aU h []):aU (allocH h t size).1 []/\JK h (allocH h t size).1:=by
 unfold allocH;split
 ·exact⟨a,JK.refl h⟩
 rename_i d;rw[not_or]at d;split
 ·exact⟨a,JK.refl h⟩
 rename_i n;split
 ·exact⟨a,JK.refl h⟩
 rename_i o;split
 ·exact⟨a,JK.refl h⟩
 split
 ·rename_i b
  have f:aL size<=3:=by unfold aL;repeat' split<;>omega
  have s:=uF (t:=t.toNat) (c:=(aL size).toNat) a ω ω ω;generalize smallA h t.toNat (aL size).toNat=r at s;split
  ·rename_i e;exact⟨s.no e,s.jk⟩
  rename_i e;obtain⟨g,i⟩:=s.yes ω;refine⟨g.addO (.inl ?_) (by rw[s.nx];omega) (by rw[s.cl];omega),s.jk.trans (JK.eq rfl rfl rfl rfl)⟩;obtain⟨z,j,k,p⟩:=i;exact⟨z,j,k,by show z.e=aL size;omega⟩
 rename_i b;have l:9<=size:=by
  unfold aL at b
  repeat' split at b<;>omega
 exact BH a ⟨l,ω⟩ ω ω ω
def lr{β:Type}[Inhabited α]{f:α->β}{xs:List α}{y:α}(a:i<xs.length)(e:f y=f (nth xs i)):(xs.set i y).map f=xs.map f:=by
 rw[V7];refine List.ext_getElem (by simp) λj b c=>?_
 rw[List.getElem_set];split
 ·rename_i g;subst g
  rw[List.getElem_map,e,bh (X2 a)]
 rfl
def oI{α β:Type}[Inhabited α](f:α->List β):∀(xs:List α)(i:Nat)(y:α),i<xs.length->(f y).Sublist (f (nth xs i))->((xs.set i y).flatMap f).Sublist (xs.flatMap f)
 | [],_,_,h,_=>absurd h (Nat.not_lt_zero _)
 | x::xs,0,y,_,a=>by
  rw[List.set_cons_zero,C8,C8];exact List.Sublist.append a (List.Sublist.refl _)
 | x::xs,i+1,y,h,a=>by
  rw[List.set_cons_succ,C8,C8];exact List.Sublist.append (List.Sublist.refl _) (oI f xs i y (by simpa using h) a)
def zK(k:af)(a:Int):Nat->af
 | 0=>k
 | m+1=>dO (zK k a m) (a+m) 0
def qb(k:af)(a:Int):∀m,(zK k a m).F.Q=k.F.Q/\(zK k a m).Calls=k.Calls/\(zK k a m).u=k.u
 | 0=>⟨rfl,rfl,rfl⟩
 | m+1=>qb k a m
def Nj{k:af}(h:ay k=true){a:Int} : ∀{m:Nat},(∀j:Nat,j<m->(ac k.F.Q ((a+j) / 16)).j≠0)->ay (zK k a m)=true
 | 0,_=>h
 | m+1,b=>xZ (Nj h λj c=>b j ω) (by rw[(qb k a m).1];exact b m ω) ⟨ω,ω⟩
theorem HA(j:aU h E){o:List a8}(y:p+n<=h.G.F.Q.K.length)(A:sp.Sublist h.J)(M:∀l∈la,∀q∈lpgs l l.a4.toNat,∃w∈h.M,q∈lpgs w w.a4.toNat)(N:0<=p)(B:∀q,q∈pgs sp la↔q∈pgs h.J h.M/\¬(p<=q/\q<p+n))(O:∀q,RH o q↔RH h.w q\/(p<=q/\q<p+n)) :
  Pg (unmN h.G p n).F.Q o sp la:=by
 have b:=(fF h.G p n).1;have d:=np j.ker N n y;have f:∀q:Nat,(q:Int)∈pgs sp la->nth (unmN h.G p n).F.Q.K q=nth (tbl h).K q:=λq c=>by rw[d,CB ((B q).1 c).2];rfl
 have a:∀q:Nat,(nth (unmN h.G p n).F.Q.K q).j≠0↔(nth (tbl h).K q).j≠0/\¬(p<=q/\(q:Int)<p+n):=λq=>by
  rw[d];by_cases e:p<=q/\(q:Int)<p+n
  ·rw[CD e];exact⟨λx=>absurd rfl x,λx=>absurd e x.2⟩
  rw[CB e];exact⟨λx=>⟨x,e⟩,λx=>x.1⟩
 refine⟨λl g q c r J C k=>?_,λq c=>?_,λq c=>?_,λq c=>?_,λs g u D F K=>?_⟩
 ·have t:=(a r).1 C
  rw[b]at J;rw[f q (gw g c),d,CB t.2]at k;obtain⟨w,G,H⟩:=M l g _ c;exact j.pg.one w G q H r J t.1 k
 ·rw[b];exact j.pg.bnd q ((B q).1 c).1
 ·rw[b]at c
  rw[a,B,j.pg.own q c]
 ·rw[b]at c
  rw[a,O,j.pg.fre q c]
  grind
 have i:∀s∈sp,0<=s.R:=λs g=>(aE (j.L.sok s (A.subset g))).1
 have P:=f s.R.toNat (by rw[Int.toNat_of_nonneg (i s g)];exact dH g);have Q:=f u.R.toNat (by rw[Int.toNat_of_nonneg (i u D)];exact dH D);rw[P,Q]at K;exact j.pg.mesh s (A.subset g) u (A.subset D) F K
def trimL(l:aB)(size:Int):aB:=⟨l.R,(size+15) / 16,size⟩
def dI(l:aB)(size:Int):Nat:=(l.a4 - (size+15) / 16).toNat
def aU.trimL{h:ab}{E:List Int}{i k:Nat}{size:Int}(t:aU h E)(T:i<h.O.length)(H:k<h.M.length)(Y:(nth h.O i).Addr=16*(nth h.M k).R)(N:9<=size/\size<=(nth h.M k).q) :
  ∃o,(dI (nth h.M k) size=0->o=h.w)/\(0<dI (nth h.M k) size->cr (eZ h) h.w ⟨(nth h.M k).R+(size+15) / 16,(dI (nth h.M k) size:Nat)⟩ = some o)/\
   aU {h with G:=unmN h.G ((nth h.M k).R+(size+15) / 16) (dI (nth h.M k) size),M:=h.M.set k (trimL (nth h.M k) size),O:=h.O.set i {nth h.O i with q:=size},w:=o} E:=by
 have U:=t.L;have C:=U.lok _ (am H);have hf:=aQ C;unfold bL at C;rw[C0]at C;obtain⟨b1,b2⟩:=um t H;have O:=U.dis;have G:=λj n=>U.one j k n H
 have y:=(am H:nth h.M k∈h.M)
 have d:∀z∈h.M.set k (Ab.trimL (nth h.M k) size),z=Ab.trimL (nth h.M k) size\/∃j,j<h.M.length/\j≠k/\nth h.M j=z:=λz N=>eA N
 have p:Ab.trimL (nth h.M k) size∈h.M.set k (Ab.trimL (nth h.M k) size):=jj _ H;have u:∀j,j<h.M.length->j≠k->nth h.M j∈h.M.set k (Ab.trimL (nth h.M k) size):=λj n e=>ky _ n e
 have hpageM:(h.M.set k (Ab.trimL (nth h.M k) size)).map (·.R)=h.M.map (·.R):=lr H rfl;have w:(pgs h.J (h.M.set k (Ab.trimL (nth h.M k) size))).Sublist (pgs h.J h.M):=by
  unfold pgs;refine List.Sublist.append (List.Sublist.refl _) (oI _ _ _ _ H ?_);unfold lpgs;exact(List.range_sublist.2 (by simp only[Ab.trimL];omega)).map _
 obtain⟨l,V⟩ : ∃l,nth h.M k=l:=⟨_,rfl⟩
 rw[V]at C hf b1 b2 G y d p u hpageM w Y N |-;generalize hla:h.M.set k (Ab.trimL l size)=la at d p u hpageM w |-;have hn1:(1:Int)<=(size+15) / 16/\(size+15) / 16+(dI l size:Nat)=l.a4:=by unfold dI;omega
 have D:∀q,q∈lpgs l l.a4.toNat↔l.R<=q/\q<l.R+l.a4:=λq=>by
  rw[dC];constructor
  ·rintro⟨j,n,rfl⟩;omega
  rintro⟨Z,q2⟩;exact⟨(q - l.R).toNat,ω,ω⟩
 have J:∀q,q∈lpgs (Ab.trimL l size) (Ab.trimL l size).a4.toNat↔l.R<=q/\q<l.R+(size+15) / 16:=λq=>by
  rw[dC];simp only[Ab.trimL];constructor
  ·rintro⟨j,n,rfl⟩;omega
  rintro⟨Z,q2⟩;exact⟨(q - l.R).toNat,ω,ω⟩
 have hpe:l.R+(size+15) / 16+(dI l size:Nat)=l.R+l.a4:=ω
 have P:∀q,q∈pgs h.J la↔q∈pgs h.J h.M/\¬(l.R+(size+15) / 16<=q/\q<l.R+(size+15) / 16+(dI l size:Nat)):=λq=>by
  rw[qm,qm,hpe];constructor
  ·rintro(⟨s,W,rfl⟩|⟨z,c,B⟩)
   ·exact⟨.inl ⟨s,W,rfl⟩,λe=>O s W l y (s.R - l.R).toNat ω ω⟩
   rcases d z c with rfl|⟨j,n,hjk,rfl⟩
   ·have:=(J q).1 B
    exact⟨.inr ⟨l,y,(D q).2 ⟨ω,ω⟩⟩,ω⟩
   refine⟨.inr ⟨_,am n,B⟩,λe=>?_⟩;obtain⟨m,hm,rfl⟩:=dC.1 B;exact hjk (G j n m ((nth h.M j).R+(m:Int) - l.R).toNat hm ω ω)
  rintro⟨⟨s,W,rfl⟩|⟨z,c,B⟩,hne⟩
  ·exact .inl ⟨s,W,rfl⟩
  obtain⟨j,n,rfl⟩:=aN c;by_cases e:j=k
  ·subst e
   rw[V]at B;have:=(D q).1 B;exact .inr ⟨_,p,(J q).2 ⟨ω,ω⟩⟩
  exact .inr ⟨_,u j n e,B⟩
 have K:∃o,(dI l size=0->o=h.w)/\(0<dI l size->cr (eZ h) h.w ⟨l.R+(size+15) / 16,(dI l size:Nat)⟩ = some o)/\bG (eZ h) o=true/\∀q,RH o q↔RH h.w q\/(l.R+(size+15) / 16<=q/\q<l.R+(size+15) / 16+(dI l size:Nat)):=by
  by_cases e:dI l size=0
  ·refine⟨h.w,λ_=>rfl,λg=>absurd g ω,t.rng,λq=>⟨.inl,λg=>g.resolve_right ω⟩⟩
  obtain⟨o,o1,o2,o3⟩:=vz (r:=⟨l.R+(size+15) / 16,(dI l size:Nat)⟩) t.rng ⟨by simp only;omega,by simp only;omega,by show l.R+(size+15) / 16+(dI l size:Nat)<=(eZ h:Int);have:((tbl h).K.length:Int)=(eZ h:Int):=rfl;omega⟩ λq Z q2=>by
   simp only at Z q2;obtain⟨m,rfl⟩:=V3 (show 0<=q by omega);have Q:m<(tbl h).K.length:=ω
   exact(t.pg.fre m Q).1 ((t.pg.own m Q).2 (gw y ((D _).2 ⟨ω,ω⟩)))
  exact⟨o,λg=>absurd g e,λ_=>o1,o2,o3⟩
 obtain⟨o,o0,o1,o2,o3⟩:=K;have R:=(fF h.G (l.R+(size+15) / 16) (dI l size)).1;have M:∀z∈h.O.set i {nth h.O i with q:=size},z = {nth h.O i with q:=size}\/∃j,j<h.O.length/\j≠i/\nth h.O j=z:=λz N=>eA N
 have F:(h.O.set i {nth h.O i with q:=size}).map (·.Addr)=h.O.map (·.Addr):=lr T rfl;have S:(h.O.set i {nth h.O i with q:=size}).map (·.Id)=h.O.map (·.Id):=lr T rfl;have hli:=(am T:nth h.O i∈h.O)
 generalize h.O.set i {nth h.O i with q:=size} = ob at M F S |-;refine⟨o,o0,o1,{t with
   ker:=iM t.ker _ _
   rng:=by show bG (((unmN h.G (l.R+(size+15) / 16) (dI l size)).F.Q.K.length:Nat):Int) o=true;rw[R];exact o2
   lay:=?_
   srl:=?_
   pg:=HA t (by have:((tbl h).K.length:Int)=(h.G.F.Q.K.length:Int):=rfl;omega) (List.Sublist.refl _) (λz c q B=>?_) ω P o3
   osr:=?_
   onu:=λz c=>?_
   oid:=by show(ob.map (·.Id)).Nodup;rw[S];exact t.oid
   oow:=λz c=>?_
   nd:=?_
   mem:=λb=>?_}⟩
 ·obtain⟨l1,l2,l3⟩:=eE t.lay
  unfold bp;simp only[I0,C0];refine⟨⟨l1,Y4.2 λz c=>?_⟩,l3.sublist w⟩;rcases d z c with rfl|⟨j,n,-,rfl⟩
  ·exact O0 ⟨N.1,by show size<=1000;omega,rfl,by show 0<=l.R;omega,by show l.R<=32 - (size+15) / 16;omega⟩
  exact U.lok _ (am n)
 ·have A:(h.M.map (·.R)).Pairwise (λa b=>a<b):=List.pairwise_map.2 t.srl
  rw[<-hpageM]at A;exact List.pairwise_map.1 A
 ·rcases d z c with rfl|⟨j,n,-,rfl⟩
  ·have:=(J q).1 B
   exact⟨l,y,(D q).2 ⟨ω,ω⟩⟩
  exact⟨_,am n,B⟩
 ·have A:(h.O.map (·.Addr)).Pairwise (λa b=>a<b):=List.pairwise_map.2 t.osr
  rw[<-F]at A;exact List.pairwise_map.1 A
 ·rcases M z c with rfl|⟨j,n,-,rfl⟩
  ·exact t.onu (nth h.O i) hli
  exact t.onu _ (am n)
 ·rcases M z c with rfl|⟨j,n,hji,rfl⟩
  ·exact .inr ⟨_,p,Y,rfl⟩
  rcases t.oow _ (am n) with A|⟨l',hl',e1,X⟩
  ·exact .inl A
  obtain⟨m,hm,rfl⟩:=aN hl';by_cases e:m=k
  ·subst e
   rw[V]at e1;exact absurd (cR (f:=(·.Addr)) (dt t.osr) n T (e1.trans Y.symm)) hji
  exact .inr ⟨_,u m hm e,e1,X⟩
 ·have hh:holders {h with G:=unmN h.G (l.R+(size+15) / 16) (dI l size),M:=la,O:=ob,w:=o} = holders h:=by
   show((ob.map (·.Addr)++cI h)++h.a9.a6.map (·.Addr))++aP h.y=_;rw[F];rfl
  rw[hh];exact t.nd
 have hh:holders {h with G:=unmN h.G (l.R+(size+15) / 16) (dI l size),M:=la,O:=ob,w:=o} = holders h:=by
  show((ob.map (·.Addr)++cI h)++h.a9.a6.map (·.Addr))++aP h.y=_;rw[F];rfl
 rw[hh,t.mem b];show nt h.J h.M b↔nt h.J la b;unfold nt;constructor
 ·rintro(A|⟨z,c,e⟩)
  ·exact .inl A
  obtain⟨j,n,rfl⟩:=aN c;by_cases X:j=k
  ·subst X
   rw[V]at e;exact .inr ⟨_,p,e⟩
  exact .inr ⟨_,u j n X,e⟩
 rintro(A|⟨z,c,e⟩)
 ·exact .inl A
 rcases d z c with rfl|⟨j,n,-,rfl⟩
 ·exact .inr ⟨l,y,e⟩
 exact .inr ⟨_,am n,e⟩
def kS(h:ab)(k:Nat)(size:Int):af:=zK h.G (16*(nth h.M k).R+size) (16*((size+15) / 16) - size).toNat
def Kx(h:ab)(k:Nat)(size:Int):List a8:=if 0<dI (nth h.M k) size then(cr (eZ h) h.w ⟨(nth h.M k).R+(size+15) / 16,(dI (nth h.M k) size:Nat)⟩).getD h.w else h.w
def trimH(h:ab)(i k:Nat)(size:Int):ab:={h with G:=unmN (kS h k size) ((nth h.M k).R+(size+15) / 16) (dI (nth h.M k) size),M:=h.M.set k (trimL (nth h.M k) size),O:=h.O.set i {nth h.O i with q:=size},w:=Kx h k size}
def kC(b:aU h E){k:Nat}(c:k<h.M.length)(g:16*(nth h.M k).R<=a/\a<16*(nth h.M k).R+16*(nth h.M k).a4):(ac h.G.F.Q (a / 16)).j≠0:=by
 obtain⟨i,j⟩:=um b c;have l:=aQ (b.L.lok _ (am c));have d:(a / 16)∈pgs h.J h.M:=gw (am c) (dC.2 ⟨(a / 16 - (nth h.M k).R).toNat,ω,ω⟩);have e:=b.pg.bnd _ d;have f:=(b.pg.own (a / 16).toNat ω).2 (by rw[show(((a / 16).toNat:Nat):Int)=a / 16 by omega];exact d);unfold ac;rw[CD ⟨ω,e⟩];exact f
def yS(b:aU h E){k:Nat}(c:k<h.M.length)(d:9<=size/\size<=(nth h.M k).q):∀{m:Nat},m<=(16*((size+15) / 16) - size).toNat->ay (zK h.G (16*(nth h.M k).R+size) m)=true:=fun {m} hm=>by
 have a:=b.L.lok _ (am c);unfold bL at a;rw[C0]at a;exact Nj b.ker λj e=>kC b c ⟨ω,ω⟩
def aU.trimH{h:ab}{i k:Nat}{size:Int}(d:aU h [])(A:i<h.O.length)(f:k<h.M.length)(B:(nth h.O i).Addr=16*(nth h.M k).R)(r:9<=size/\size<=(nth h.M k).q):aU (trimH h i k size) []/\JK h (trimH h i k size):=by
 have t:=yS d f r (X3 _);have l:=(qb h.G (16*(nth h.M k).R+size) (16*((size+15) / 16) - size).toNat).1;have C:=d.cells t l;obtain⟨o,u,w,y⟩:=C.trimL (i:=i) (k:=k) (size:=size) A f B r;simp only at u w y;have n:eZ {h with G:=zK h.G (16*(nth h.M k).R+size) (16*((size+15) / 16) - size).toNat} = eZ h:=by
  unfold eZ;simp only[l]
 have D:Kx h k size=o:=by
  unfold Kx;split
  ·rename_i g;have:=w g;rw[n]at this;rw[this];rfl
  exact(u ω).symm
 have E:Ab.trimH h i k size = {h with G:=unmN (kS h k size) ((nth h.M k).R+(size+15) / 16) (dI (nth h.M k) size),M:=h.M.set k (Ab.trimL (nth h.M k) size),O:=h.O.set i {nth h.O i with q:=size},w:=o}:=by unfold Ab.trimH;rw[D]
 refine⟨by rw[E];exact y,JK.less rfl rfl rfl λq j=>?_⟩;have a:=d.L.lok _ (am f);unfold bL at a;rw[C0]at a;obtain⟨F,G⟩:=um d f;have b:(kS h k size).F.Q=h.G.F.Q:=l;have c:=np (k:=kS h k size) t (p:=(nth h.M k).R+(size+15) / 16) ω (dI (nth h.M k) size) (by rw[b];have:((tbl h).K.length:Int)=(h.G.F.Q.K.length:Int):=rfl;unfold dI;omega) q;change (nth (unmN (kS h k size) ((nth h.M k).R+(size+15) / 16) (dI (nth h.M k) size)).F.Q.K q).j≠0 at j;show nth (unmN (kS h k size) ((nth h.M k).R+(size+15) / 16) (dI (nth h.M k) size)).F.Q.K q=nth h.G.F.Q.K q;rw[c]at j |-;split at j
 ·exact absurd rfl j
 rename_i e;rw[CB e,b]
def H5(h:1<=t/\t<=4):bQ (eH t)=true:=by
 have f:∀n,n<=t->bC (eH t) n=0:=λn=>by
  induction n with
  | zero=>intro _;rfl
  | succ n g=>
   intro j;have a:nth (eH t).V n=[]:=dG ω;have b:nth (eH t).a1 n=[]:=dG ω;simp only[bC,g ω,a,b,List.length_nil]
   decide
 have e:(eH t).V.length=t:=V4 ..;refine dZ.2 ⟨⟨ω,ω,by simp[eH]⟩,λi c=>?_,by rw[e,f t (X3 _)];omega⟩;rw[e]at c;have a:nth (eH t).V i=[]:=dG c;have b:nth (eH t).a1 i=[]:=dG c;rw[a,b];exact⟨λp d=>(by cases d),λp d=>(by cases d)⟩
def wb(t:Nat):aP (eH t)=[]:=by
 unfold aP;split
 ·simp[eH]
 rfl
def rD(k:af)(t:Nat)(sd ck lim:Int):ab:=⟨k,[⟨0,(k.F.Q.K.length:Nat)⟩],[],[],[],List.replicate t fZ,eH t,⟨16,[]⟩,sd,ck,lim,1,false,⟨⟨0,0,[]⟩,0,0⟩⟩
def FO:bz fZ=true:=by decide
def aU.fresh{k:af}{lim ck:Int}(A:ay k=true)(B:∀q,q<k.F.Q.K.length->(nth k.F.Q.K q).j=0)(E:1<=t/\t<=4)(g:0<=lim/\lim<=1000)(h:0<=sd/\sd<=1073741823)(d:0<=ck/\ck<=1000000):aU (rD k t sd ck lim) []:=by
 obtain⟨G,H,J⟩:=bo.1 (a7.1 A).2.2.1;have hca:cI (rD k t sd ck lim)=[]:=by
  unfold cI;refine List.flatMap_eq_nil_iff.2 λc d=>?_
  rw[(List.mem_replicate.1 d).2]
  rfl
 have C:holders (rD k t sd ck lim)=[]:=by
  unfold holders;rw[hca];show(([]++[])++[])++aP (eH t)=[];rw[wb];rfl
 have i:∀a,¬nt (rD k t sd ck lim).J (rD k t sd ck lim).M a:=λa=>by
  rintro(⟨s,h,-⟩|⟨l,g,-⟩)
  ·cases h
  cases g
 exact {
   ker:=A
   rng:=gr.2 ⟨⟨List.pairwise_singleton ..,λy n=>by rw[V1.1 n];show(1:Int)<=(k.F.Q.K.length:Nat);omega⟩,λy n=>by
       rw[V1.1 n];refine⟨I6 _,by show(1:Int)<=(k.F.Q.K.length:Nat);omega,?_⟩;show(0:Int)+(k.F.Q.K.length:Nat)<=(k.F.Q.K.length:Nat);omega,by show(1:Int)<=(k.F.Q.K.length:Nat);omega,by show((k.F.Q.K.length:Nat):Int)<=32;omega⟩
   lay:=by show bp [] []=true;decide
   srs:=List.Pairwise.nil
   srl:=List.Pairwise.nil
   pg:=⟨λl g=>(by cases g),λp f=>(by cases f),λp f=>⟨λe=>absurd (B p f) e,λe=>by cases e⟩,λp f=>⟨λe=>absurd (B p f) e,λe=>absurd ⟨_,V1.2 rfl,by show(0:Int)<=p;omega,by
       show(p:Int)<0+(k.F.Q.K.length:Nat);have F:p<k.F.Q.K.length:=f;omega⟩ e⟩,λs h=>by cases h⟩
   mail:=H5 E
   nc:=by show(List.replicate t fZ).length=(List.replicate t _).length;simp
   quar:=by show gK ⟨16,[]⟩ = true;decide
   snc:=λx r=>by cases r
   cach:=λc d=>by rw[(List.mem_replicate.1 d).2];exact FO
   nums:=by unfold cu;rw[C0];simp only[rD];omega
   osr:=List.Pairwise.nil
   onu:=λo u=>by cases u
   oid:=List.nodup_nil
   oow:=λo u=>by cases u
   hca:=λc d j D a b=>by
     rw[(List.mem_replicate.1 d).2]at D b;have w:j<4:=D;have:nth fZ.a j=[]:=dG w;rw[this]at b;cases b
   hqu:=λx r=>by cases r
   hfl:=λa b=>by
     have:aP (eH t)=[]:=wb t;change a∈aP (eH t) at b;rw[this]at b;cases b
   hin:=λa b=>by cases b
   nd:=by rw[C];exact List.nodup_nil
   mem:=λa=>by rw[C];exact⟨λe=>(by cases e),λe=>absurd e (i a)⟩
   job:=λe=>by cases e
   noj:=λ_=>by show re ⟨⟨0,0,[]⟩,0,0⟩ = true;decide}
def JI.no(a:h.o=false):JI h:=⟨λe=>(by rw[a]at e;cases e),λe=>(by rw[a]at e;cases e),λe=>(by rw[a]at e;cases e),λe=>(by rw[a]at e;cases e)⟩
def rp{p:Nat}{a:List Int}(d:1<=p/\p<=32)(e:1<=f/\f<=32)(b:a.length<=40/\∀x∈a,0<=x):ay (bZ p f a)=true:=by
 obtain⟨-,g,h,i,c⟩:=a7.1 (EC d e);exact a7.2 ⟨λj k=>b.2 _ (am k),g,h,i,c.1,c.2.1,b.1⟩
def Hl{p:Nat}{lim:Int}{a:List Int}(c:1<=p/\p<=32)(d:1<=f/\f<=32)(g:1<=t/\t<=4)(i:0<=lim/\lim<=1000)(j:a.length<=40/\∀x∈a,0<=x):aU (newHeap p f t lim a) []:=by
 have h:=aU.fresh (k:=bZ p f a) (t:=t) (lim:=lim) (sd:=0) (ck:=0) (rp c d j) (λq l=>by
   have b:q<p:=by simpa[bZ,gf] using l
   rw[show nth (bZ p f a).F.Q.K q = ⟨0,0⟩ from dG b]) g i ω ω
 have e:(bZ p f a).F.Q.K.length=p:=by simp[bZ,gf]
 unfold rD at h;rw[e]at h;exact h
structure fg where
 b6:Int
 a5:Int
 N:Int
 At:Int
 Value:Int
deriving DecidableEq,Inhabited
def fg.enc(_:dM)(x:fg):List C:=[I x.b6,I x.a5,I x.N,I x.At,I x.Value]
def nY(id:Int)(o:bI):Bool:=decide (o.Id=id)
def oY(r:aA)(id:Int):Int:=ee (nY id) r.O
def jA(r:aA)(n:Int):aA:=if 1<=n/\n<=1000 then {r with b:=r.b+1,O:=r.O++[⟨r.b,List.replicate n.toNat 0⟩]} else r
def kb(r:aA)(id:Int):aA:=if oY r id<0 then r else {r with O:=dele r.O (oY r id).toNat}
def eL(r:aA)(id at_ v:Int):aA:=if 0<=oY r id/\(0<=at_/\at_<=(nth r.O (oY r id).toNat).T.length - 1)/\0<=v/\v<=999 then {r with O:=r.O.set (oY r id).toNat ⟨(nth r.O (oY r id).toNat).Id,(nth r.O (oY r id).toNat).T.set at_.toNat v⟩} else r
def fV(r:aA)(id n:Int):aA:=if 0<=oY r id/\1<=n/\n<=(nth r.O (oY r id).toNat).T.length then {r with O:=r.O.set (oY r id).toNat ⟨(nth r.O (oY r id).toNat).Id,(nth r.O (oY r id).toNat).T.take n.toNat⟩} else r
structure ue(r:aA)(m:Nat):Prop where
 len:r.O.length<=m
 cel:∀o∈r.O,o.T.length<=1000
 nx:0<=r.b/\r.b<=m+1
variable{m:Nat}{r:aA}
def ue.more(h:ue r m)(a:m<=n):ue r n:=⟨by have:=h.len;omega,h.cel,h.nx.1,by have:=h.nx.2;omega⟩
def ue.sml(h:ue r m)(b:m<=1000):aA.sml r:=⟨by have:=h.len;omega,λo a=>by have:=h.cel o a;show o.T.length<=1048576;omega⟩
def ue.alloc(h:ue r m)(n:Int):ue (jA r n) (m+1):=by
 unfold jA;split
 ·refine⟨by have:=h.len;simp only[Z3,List.length_singleton];omega,λo a=>?_,by have:=h.nx.1;simp only;omega,by have:=h.nx.2;simp only;omega⟩
  rcases W3.1 a with a|a
  ·exact h.cel o a
  rw[V1.1 a];simp only[V4];omega
 exact h.more ω
def ue.free(h:ue r m)(id:Int):ue (kb r id) m:=by
 unfold kb;split
 ·exact h
 have a:=fh r.O (oY r id).toNat;exact⟨C6 a.length_le h.len,λo b=>h.cel o (a.subset b),h.nx⟩
def ue.set{x:bI}(h:ue r m)(b:x.T.length<=1000):ue {r with O:=r.O.set i x} m:=
 ⟨by simp only[Z1];exact h.len,λo a=>by
   rcases Y7 a with a|rfl
   · exact h.cel o a
   exact b,h.nx⟩
def fX[Inhabited α](p:α->Bool)(xs:List α)(h:0<=ee p xs):(ee p xs).toNat<xs.length/\p (nth xs (ee p xs).toNat)=true/\ee p xs=((ee p xs).toNat:Nat):=by
 rcases p8 p xs with e|⟨n,a,e,b⟩
 ·omega
 rw[e,O3];exact⟨a,b,rfl⟩
def ue.store(h:ue r m)(id a v:Int):ue (eL r id a v) m:=by
 unfold eL;split
 ·rename_i e
  refine h.set ?_;simp only[Z1];exact h.cel (nth r.O (oY r id).toNat) (am (fX _ _ e.1).1)
 exact h
def ue.trim(h:ue r m)(id n:Int):ue (fV r id n) m:=by
 unfold fV;split
 ·rename_i e
  refine h.set ?_;have:=h.cel (nth r.O (oY r id).toNat) (am (fX _ _ e.1).1);simp only[C2];omega
 exact h
def MR(id:Int)(o:bu):Bool:=decide (o.Id=id)
def qX(h:ab)(id:Int):Int:=ee (MR id) h.O
def Ku(a:Int)(l:aB):Bool:=decide (l.R*16=a)
def Al(h:ab)(a:Int):Int:=ee (Ku a) h.M
def oq(h:ab)(a:fg):Prop:=0<=a.a5/\a.a5<=h.S.length - 1
instance (h:ab) (a:fg):Decidable (oq h a):=by unfold oq;infer_instance
def tJ(w:br)(a:fg)(i:Nat):br × Int:=
 if w.Z.G.Calls=100000 then(w,6)
 else if oq w.Z a then(⟨(freeT w.Z a.a5.toNat i).1,if(freeT w.Z a.a5.toNat i).2=0 then kb w.b5 (nth w.Z.O i).Id else w.b5⟩,(freeT w.Z a.a5.toNat i).2)
 else(w,1)
def p9(w:br)(a:fg)(i:Nat):br × Int:=
 if ¬(0<=a.At/\a.At<=(nth w.Z.O i).q - 1) then(w,90)
 else if(ac w.Z.G.F.Q (((nth w.Z.O i).Addr+a.At) / 16)).j=1 then(w,2)
 else if ¬(0<=a.Value/\a.Value<=999) then(w,3)
 else(⟨{w.Z with G:=dO w.Z.G ((nth w.Z.O i).Addr+a.At) a.Value},eL w.b5 (nth w.Z.O i).Id a.At a.Value⟩,0)
def mj(h:ab)(i:Nat)(n:Int):Prop:=0<=Al h (nth h.O i).Addr/\9<=n/\n<=(nth h.M (Al h (nth h.O i).Addr).toNat).q
instance (h:ab) (i:Nat) (n:Int):Decidable (mj h i n):=by unfold mj;infer_instance
def sO(w:br)(a:fg)(i:Nat):br × Int:=
 if w.Z.G.Calls≠100000/\mj w.Z i a.Value then(⟨trimH w.Z i (Al w.Z (nth w.Z.O i).Addr).toNat a.Value,fV w.b5 (nth w.Z.O i).Id a.Value⟩,0) else(w,90)
def nJ(w:br)(a:fg)(i:Nat):br × Int:=if a.b6=2 then tJ w a i else if a.b6=3 then p9 w a i else sO w a i
def gG(h:ab)(a:fg):ab × Int:=
 if a.b6=5 then(if oq h a/\0<(nth h.y.V a.a5.toNat).length then({h with y:=gu h.y a.a5.toNat},0) else(h,90))
 else if ¬(h.G.Calls≠100000/\oq h a) then(h,0)
 else if a.b6=6 then(collect h a.a5.toNat,((nth h.y.a1 a.a5.toNat).length:Nat))
 else((flushN a.a5.toNat h 4).1,((flushN a.a5.toNat h 4).2:Nat))
def qz(h:ab)(n:Int):ab × Int:=if h.G.Calls≠100000/\(0<=n/\n<=1000)/\h.b3+n<=1000000 then(tick h n,((nS h n).length:Nat)) else(h,0)
def u9(h:ab):Bool:=h.o&&decide (h.G.Calls<=99000)
def stN(h:ab):Nat->ab × Nat
 | 0=>(h,0)
 | i+1=>if u9 (stN h i).1=true then(mStep (stN h i).1,(stN h i).2+1) else stN h i
def q8(h:ab):ab × Int:=if h.o=true then(h,90) else((started h).1,if(started h).2=true then 0 else 90)
def pv(w:br)(a:fg):br × Int:=
 if a.b6=1 then(⟨(allocH w.Z a.a5 a.N).1,if(allocH w.Z a.a5 a.N).2.2=0 then jA w.b5 a.N else w.b5⟩,(allocH w.Z a.a5 a.N).2.2)
 else if a.b6=2\/a.b6=3\/a.b6=4 then(if qX w.Z a.N<0 then(w,90) else nJ w a (qX w.Z a.N).toNat)
 else if a.b6=5\/a.b6=6\/a.b6=7 then(⟨(gG w.Z a).1,w.b5⟩,(gG w.Z a).2)
 else if a.b6=8 then(⟨(qz w.Z a.N).1,w.b5⟩,(qz w.Z a.N).2)
 else if a.b6=9 then(⟨(q8 w.Z).1,w.b5⟩,(q8 w.Z).2)
 else if a.b6=10/\0<=a.N/\a.N<=50 then(⟨(stN w.Z a.N.toNat).1,w.b5⟩,((stN w.Z a.N.toNat).2:Nat))
 else(w,90)
structure sv(w:br)(m:Nat):Prop where
 inv:aU w.Z []
 ji:JI w.Z
 ref:ue w.b5 m
variable{w:br}
def sv.more(h:sv w m)(a:m<=n):sv w n:=⟨h.inv,h.ji,h.ref.more a⟩
def sv.jk(h:sv w m){g:ab}(a:aU g []/\JK w.Z g)(b:ue r m):sv ⟨g,r⟩ m:=⟨a.1,h.ji.keep a.1 a.2,b⟩
def cU(a:aU h E){o:bu}(p:o∈h.O)(D:0<=k/\k<=o.q - 1):(ac h.G.F.Q ((o.Addr+k) / 16)).j≠0/\0<=o.Addr/\o.Addr+k<512:=by
 rcases a.oow o p with⟨s,g,q,r⟩|⟨l,i,F,G⟩
 ·have b:=a.L.sok s g
  have t:=aE b;obtain⟨u,w,y⟩:=a.mapped g;have d:=bV t.2.2;obtain⟨H,J,A,-⟩:=q;have f:o.q<=csz s.e:=by
   have K:=iO (n:=o.q) ω;rw[r];have:o.q=1\/o.q=2\/o.q=3\/o.q=4\/o.q=5\/o.q=6\/o.q=7\/o.q=8:=ω
   rcases this with e|e|e|e|e|e|e|e<;>rw[e]<;>decide
  have B:(o.Addr+k) / 16=s.R:=by
   rcases d with e|e|e|e<;>rw[e]at A f<;>omega
  rw[B];refine⟨?_,ω,ω⟩;unfold ac;rw[CD ⟨u,w⟩];exact y
 obtain⟨j,C,rfl⟩:=aN i;have c:=a.L.lok _ i;unfold bL at c;rw[C0]at c;exact⟨kC a C ⟨ω,ω⟩,ω,ω⟩
def sv.obj(h:sv w m)(a:fg)(b:i<w.Z.O.length):sv (nJ w a i).1 m:=by
 unfold nJ;split
 ·unfold tJ
  split
  ·exact h
  split
  ·rename_i d
   unfold oq at d;refine h.jk (h.inv.freeT b ω) ?_;split
   ·exact h.ref.free _
   exact h.ref
  exact h
 split
 ·unfold p9
  split
  ·exact h
  rename_i l;split
  ·exact h
  split
  ·exact h
  rename_i n;exact h.jk (h.inv.store (cU h.inv (am b) ω).1 ω) (h.ref.store _ _ _)
 unfold sO;split
 ·rename_i e
  obtain⟨-,f,g⟩:=e;obtain⟨j,k,o⟩:=fX _ _ f;have c:=of_decide_eq_true k;exact h.jk (h.inv.trimH b j (c.symm.trans (Int.mul_comm _ _)) g) (h.ref.trim _ _)
 exact h
def sv.thread(h:sv w m)(a:fg):sv ⟨(gG w.Z a).1,w.b5⟩ m:=by
 unfold gG;split
 ·split
  ·rename_i e
   obtain⟨b,i⟩:=e;unfold oq at b;exact h.jk (g:={w.Z with y:=gu w.Z.y a.a5.toNat}) ⟨h.inv.deliv (by rw[<-h.inv.nc];omega) i,JK.eq rfl rfl rfl rfl⟩ h.ref
  exact h
 split
 ·exact h
 rename_i e;have e:=Classical.not_not.1 e;obtain⟨-,b⟩:=e;unfold oq at b;split
 ·exact h.jk (g:=collect w.Z a.a5.toNat) (h.inv.collect ω) h.ref
 have c:a.a5.toNat<w.Z.S.length:=ω
 have d:=(fS h.inv c (X3 4)).1;have f:=JK.flushN h.inv c (X3 4);generalize flushN a.a5.toNat w.Z 4=r at d f |-;exact h.jk (g:=r.1) ⟨d,f⟩ h.ref
def yY{h:ab}(a:aU h [])(b:JI h):∀n,aU (stN h n).1 []/\JI (stN h n).1
 | 0=>⟨a,b⟩
 | n+1=>by
  obtain⟨c,d⟩:=yY a b n;unfold stN;split
  ·rename_i e
   unfold u9 at e;rw[I0]at e;exact c.mStep d e.1
  exact⟨c,d⟩
def sv.act(h:sv w m)(a:fg):sv (pv w a).1 (m+1):=by
 unfold pv;split
 ·have b:=Bo (t:=a.a5) (size:=a.N) h.inv
  refine⟨b.1,h.ji.keep b.1 b.2,?_⟩;show ue (if _ then _ else _) (m+1);split
  ·exact h.ref.alloc _
  exact h.ref.more ω
 refine sv.more (m:=m) ?_ ω;split
 ·split
  ·exact h
  rename_i e;exact h.obj a (fX _ _ (by unfold qX at e;omega)).1
 split
 ·exact h.thread a
 split
 ·unfold qz
  split
  ·rename_i e
   exact h.jk (h.inv.tick e.2.1.1 e.2.2) h.ref
  exact h
 split
 ·unfold q8
  split
  ·exact h
  rename_i e;have b:=yl h.inv (by simpa using e);exact⟨b.1,b.2,h.ref⟩
 split
 ·have b:=yY h.inv h.ji a.N.toNat
  exact⟨b.1,b.2,h.ref⟩
 exact h
structure cT where
 a4:Nat
 U:Nat
 c6:Nat
 c2:Int
 u:List Int
deriving Inhabited
structure HG(c:cT):Prop where
 p:1<=c.a4/\c.a4<=32
 f:1<=c.U/\c.U<=32
 t:1<=c.c6/\c.c6<=4
 l:0<=c.c2/\c.c2<=1000
 r:c.u.length<=40/\∀x∈c.u,0<=x
def world0(c:cT):br:=⟨newHeap c.a4 c.U c.c6 c.c2 c.u,{b:=1,O:=[]}⟩
def DL(c:cT)(acts:List fg):Nat->br × List Int
 | 0=>(world0 c,[])
 | i+1=>((pv (DL c acts i).1 (nth acts i)).1,(DL c acts i).2++[(pv (DL c acts i).1 (nth acts i)).2])
def M9{c:cT}(h:HG c):sv (world0 c) 0:=
 ⟨Hl h.p h.f h.t h.l h.r,JI.no rfl,⟨X3 _,λo a=>(by cases a),by show(0:Int)<=1;omega,by show(1:Int)<=((0:Nat):Int)+1;omega⟩⟩
def xV{c:cT}(h:HG c)(acts:List fg):∀n,sv (DL c acts n).1 n
 | 0=>M9 h
 | n+1=>(xV h acts n).act _
def gm(o:dM)(x:List dm):List C:=[.s o (x.map (dm.enc o))]
def Ht(x:List dm):eg (gm .own x)=gm .W x:=by simp[eg,gm,dm.enc_fz,<-cn,I7]
def xH(x:List dm):hO (gm .own x):=⟨⟨.inl λh=>(by cases h),bc _ _ λy _=>dm.enc_fr y⟩,trivial⟩
def Ap.sl{b:List (List C)}{r:List C}{sz by_:Nat}{K:List (List C)->Prop}(h1:∀r∈rows,r.length=sz)(c:r.length=sz)(d:rows.length+1<=1073741824)(e:by_<=1000)(a:b=rows++[r])(f:K b):Ap false rows [r] sz by_ K:=
 CU h1 (λg a=>by rw[V1.1 a];exact c) (λh=>by cases h) (by simp;omega) (by
   have h1:(rows.length+[r].length)*by_<=1073741824*1000:=Nat.mul_le_mul (by simpa using d) e;omega) a f
def PG(a:0<=v/\v<=999)(b:0<=k/\k<=1000):0<=k*v/\k*v<=1000000:=by
 have c:0<=k*v:=Int.mul_nonneg b.1 a.1;have d:k*v<=1000*999:=Int.mul_le_mul b.2 a.2 a.1 (by decide);omega
def or64{z1 z2:Int}(h1:0<=z1/\z1<=65535)(a:0<=z2/\z2<=65535):IntKind.i64.wrap ((BitVec.ofInt IntKind.i64.bits z1 ||| BitVec.ofInt IntKind.i64.bits z2).toNat:Nat)=bor z1 z2:=by
 rw[BitVec.toNat_or,qw ω,qw ω];have b:=Nu h1 a;unfold bor at b |-;exact eX ω ω
def zM(h:ab)(i:Nat)(n:dX h.J)(d:zf h)(a:∀s∈h.J,bf s=true)(y:i<h.J.length):zzA 479 false [.val (some 24) (ab.enc .W h),.val none [I (i:Nat)]] .one [I (iI h i)]:=by
 have F:=n.1;have G:=ao y;have g:=wJ a y;have B:=aH ((i:Nat):Int) 0 ((h.J.length:Int) - 1);rw[O0 (show(0:Int)<=(i:Nat)/\((i:Nat):Int)<=(h.J.length:Int) - 1 by omega)]at B;have C:=iL h (nth h.J i).R d;have o:=gI h (nth h.J i).R;have H:eZ h<=1048576:=d.1;have c:iI h i=kR h.J (aY h (nth h.J i).R) (nth h.J i).b2 (aY h (nth h.J i).R).length:=rfl;obtain⟨ps,q⟩ : ∃ps,aY h (nth h.J i).R=ps:=⟨_,rfl⟩
 obtain⟨b,r⟩ : ∃b,(nth h.J i).b2=b:=⟨_,rfl⟩
 rw[q]at C o c;rw[r]at c g;rw[c];have J:kR h.J ps b 0=b:=rfl;refine fO 63 [(4,7,[22,23,24,25,26,27,28]),(11,10,[43,44,45,46,47,48,49,50,51,52])] Tryz.func479 rfl ?_
 repeat'(first|refine gP ?_|(conv=>whnf);first|with_reducible refine CE (aa G) ?_|refine C9 (B) ?_|refine C9 (C) ?_)
 (conv=>whnf)
 refine CG (ι:=Nat) (λu=>[(2,.H .box (ab.enc .W h)),(5,.H .one [I (kR h.J ps b u)]),(6,.H .one (aF .own ps)),(7,.H .one [I ((u:Nat):Int)])]) (λu=>u<=ps.length) (λu=>ps.length - u) (0) ?_ (X0 _) λu M=>?_
 ·exact wB
 by_cases K:u<ps.length
 ·have l:=ao K
  have t:=sP a (ps:=ps) g u
  repeat'(first|refine gE ?_|fail)
  (conv=>whnf)
  refine CG (ι:=Nat) (λj=>[(2,.H .box (ab.enc .W h)),(5,.H .one [I (sR h.J (nth ps u) (kR h.J ps b u) j)]),(6,.H .one (aF .own ps)),(7,.H .one [I ((u:Nat):Int)]),(8,.H .one [I ((j:Nat):Int)])]) (λj=>j<=h.J.length) (λj=>h.J.length - j) (0) ?_ (X0 _) λj L=>?_
  ·exact wB
  by_cases D:j<h.J.length
  ·have E:=ao D
   have w:=wZ a (p:=nth ps u) t j L;by_cases e:(nth h.J j).R=nth ps u
   ·have k:sR h.J (nth ps u) (kR h.J ps b u) (j+1)=bor (sR h.J (nth ps u) (kR h.J ps b u) j) (nth h.J j).b2:=CD e
    repeat'(first|refine gB ?_|(conv=>whnf);first|with_reducible (first|refine CE (aa l) ?_|refine CE (aa E) ?_)|refine CK rfl (aa l) rfl ?_|refine CO (or64 w (wJ a D)) ?_)
    ((conv=>whnf);refine CF (j+1) ω ω ?_;(exact wB))
   have k:sR h.J (nth ps u) (kR h.J ps b u) (j+1)=sR h.J (nth ps u) (kR h.J ps b u) j:=CB e
   repeat'(first|refine gB ?_|(conv=>whnf);first|with_reducible (first|refine CE (aa l) ?_|refine CE (aa E) ?_)|refine CK rfl (aa l) rfl ?_)
   ((conv=>whnf);refine CF (j+1) ω ω ?_;(exact wB))
  obtain rfl:j=h.J.length:=ω
  repeat'(first|refine gE ?_|fail)
  ((conv=>whnf);refine CF (u+1) ω ω ?_;(exact wB))
 obtain rfl:u=ps.length:=ω
 repeat'(first|refine gE ?_|fail)
 rfl
def vo{xs:List bu}(h:∀o∈xs,0<=o.q/\o.q<=1000):∀k:Nat,k<=xs.length->0<=uo xs k/\uo xs k<=1000*k
 | 0,_=>⟨I6 _,I6 _⟩
 | k+1,a=>by
  have b:=vo h k ω;have c:=h _ (am (xs:=xs) (i:=k) ω);simp only[uo];omega
def z8(h:ab)(a:∀o∈h.O,0<=o.q/\o.q<=1000)(e:h.O.length<=1048576):zzA 19 false [.val (some 24) (ab.enc .W h)] .one [I (vb h)]:=by
 refine fO 21 [] Tryz.func19 rfl ?_
 repeat'(first|refine gP ?_|fail)
 (conv=>whnf)
 refine CG (ι:=Nat) (λk=>[(1,.H .box (ab.enc .W h)),(3,.H .one [I (uo h.O k)]),(4,.H .one [I ((k:Nat):Int)])]) (λk=>k<=h.O.length) (λk=>h.O.length - k) (0) ?_ (X0 _) λk c=>?_
 ·exact wB
 have g:=vo a k c;by_cases b:k<h.O.length
 ·have d:=ao b
  have i:=a _ (am b)
  repeat'(first|refine gE ?_|(conv=>whnf);first|refine CE (aa d) ?_)
  ((conv=>whnf);refine CF (k+1) ω ω ?_;(exact wB))
 obtain rfl:k=h.O.length:=ω
 repeat'(first|refine gE ?_|fail)
 rfl
def zy(k b:Int)(h:b<=9223372036854775807):zzA 478 false [.val none [I (slots k)],.val none [I b]] .one (aF .own (rY k b)):=by
 have c:=qJ k b;have p:0<=slots k/\slots k<=16:=by unfold slots;repeat' split<;>omega
 unfold rY;cases e:Nf k b<;>rw[e]at c
 ·rw[CB (by simp)]
  refine fO 27 [] Tryz.func478 rfl ?_ (.inr (bM _))
  repeat'(first|refine gP ?_|fail)
  (conv=>whnf)
  refine CG (ι:=Nat) (λj=>[(0,.H .one [I (slots k)]),(1,.H .one [I (b)]),(5,.H .one (aF .own [])),(6,.H .one [I ((j:Nat):Int)])]) (λj=>j=0) (λj=>1 - j) (0) ?_ (rfl) λj g=>?_
  ·exact wB
  subst g
  repeat'(first|refine gE ?_|(conv=>whnf);first|with_reducible refine Bf.D (λi=>?_) (λi=>?_)|refine C9 (c) ?_)
  all_goals rfl
 rw[CD rfl];refine fO 27 [] Tryz.func478 rfl ?_ (.inr (bM _))
 repeat'(first|refine gP ?_|fail)
 (conv=>whnf)
 refine CG (ι:=Nat) (λj=>[(0,.H .one [I (slots k)]),(1,.H .one [I (b)]),(5,.H .one (aF .own (pG b j))),(6,.H .one [I ((j:Nat):Int)])]) (λj=>j<=(slots k).toNat) (λj=>(slots k).toNat - j) (0) ?_ (X0 _) λj g=>?_
 ·exact wB
 have l:=ui b j;by_cases q:j<(slots k).toNat
 ·have d:=j9 b (j:Nat) h
  have a:pG b (j+1)=if aX b (j:Nat)=true then pG b j else pG b j++[((j:Nat):Int)]:=rfl
  cases n:aX b (j:Nat)<;>rw[n]at d a
  ·rw[CB (by simp)]at a
   repeat'(first|refine gE ?_|(conv=>whnf);first|refine C9 (c) ?_|refine C9 (d) ?_|refine CU cz (λr o=>by rw[V1.1 o];rfl) (by simp[bk,eG]) (by simp;omega) (by simp only[I1];exact zE (by simp;omega) (by decide)) rfl ?_)
   ((conv=>whnf);refine CF (j+1) ω ω ?_)
   rw[a]
   repeat'(first|exact trivial|rfl|exact CM rfl (CM (Z0 (C.s dM.own) (by simp[rI])) trivial)|refine CM ?_ ?_|(exact Ac (by first|omega|(simp only;omega)|(simp;omega))))
  rw[CD rfl]at a
  repeat'(first|refine gE ?_|(conv=>whnf);first|refine C9 (c) ?_|refine C9 (d) ?_)
  ((conv=>whnf);refine CF (j+1) ω ω ?_)
  rw[a];exact wB
 obtain rfl:j=(slots k).toNat:=ω
 repeat'(first|refine gE ?_|fail)
 rfl
def L2(b i:Int):bor b (2 ^ i.toNat)=i9 b i:=by
 unfold bor i9;have:((2 ^ i.toNat:Nat):Int)=(2:Int) ^ i.toNat:=Int.natCast_pow 2 i.toNat;rw[<-this,O3]
def zJ(b i:Int)(d:0<=b/\b<=65535)(a:0<=i/\i<=15):zzA 481 false [.val none [I b],.val none [I i]] .one [I (i9 b i)]:=by
 have c:=qj b i;rw[O0 ω]at c;have e:IntKind.u64.wrap i=i:=by unfold IntKind.wrap;simp[IntKind.signed,IntKind.bits];omega
 have h:=(shl64 a).2;have g:=(or64 (z1:=b) (z2:=2 ^ i.toNat) d ω).trans (L2 b i);refine fO 15 [] Tryz.func481 rfl ?_
 repeat'(first|refine gP ?_|(conv=>whnf);first|refine C9 (c) ?_|refine CP ω ?_|refine CO e ?_|refine CO (shl64 a).1 ?_|refine CO g ?_)
 rfl
def PT(b:bf s=true)(d:0<=k/\k<slots s.e):0<=k*csz s.e/\k*csz s.e<=15:=by
 have a:=aE b;have c:=iu a.2.2;rcases bV a.2.2 with e|e|e|e<;>rw[e]at c |-<;>omega
def Ai(s:au)(k:Int)(a:bf s=true)(d:0<=k/\k<slots s.e):zzA 482 false [.val (some 3) (au.enc .W s),.val none [I k]] .one [I (16*s.R+k*csz s.e)]:=by
 have e:=aE a;have i:=PT a d;have j:=iu e.2.2;have b:=ic s;rw[a]at b;have g:=nN s.e;have c:=aH k 0 (slots s.e - 1);rw[O0 ω]at c;have h:=eB s.e;refine fO 26 [(3,8,[17,18,19,20,21,22,23,24])] Tryz.func482 rfl ?_
 repeat'(first|refine gP ?_|(conv=>whnf);first|refine C9 (b) ?_|refine C9 (g) ?_|refine C9 (c) ?_|refine C9 (h) ?_|refine CC ?_)
 exact Z0 (λz=>[I z]) ω
def Et(f:aW)(g:f.a3.length<=1048576):zzA 483 false [.val (some 2) (aW.enc .W f)] .one [I (ee (λu=>!u) f.a3)]:=by
 refine fO 18 [] Tryz.func483 rfl ?_
 repeat'(first|refine gP ?_|fail)
 (conv=>whnf)
 refine CG (ι:=Nat) (λi=>[(1,.H .box (aW.enc .W f)),(3,.H .one [I ((i:Nat):Int)])]) (λi=>i<=f.a3.length/\∀(j:Nat)(z:Bool),j<i->f.a3[j]? = some z->(!z)=false) (λi=>f.a3.length - i) (0) ?_ (⟨X0 _,λj z h=>ω⟩) λi c=>?_
 ·exact wB
 obtain⟨c,b⟩:=c;by_cases d:i<f.a3.length
 ·have a:=ao d
  cases e:nth f.a3 i<;>rw[e]at a
  ·repeat'(first|refine gE ?_|(conv=>whnf);first|with_reducible refine CE (aa a) ?_)
   exact Z0 (λz=>[I z]) (dS a rfl b).symm
  repeat'(first|refine gE ?_|(conv=>whnf);first|with_reducible refine CE (aa a) ?_)
  ((conv=>whnf);refine CF (i+1) ⟨ω,fY a rfl b⟩ ω ?_;(exact wB))
 repeat'(first|refine gE ?_|fail)
 exact Z0 (λz=>[I z]) (gx ω b).symm
def nR(m:aJ):∀(n i:Nat),i<n->((nth m.V i).length:Int)+(nth m.a1 i).length<=bC m n/\0<=bC m n
 | 0,i,h=>absurd h (Nat.not_lt_zero i)
 | n+1,i,h=>by
  have a:0<=bC m n:=by
   cases n with
   | zero=>exact I6 _
   | succ k=>exact(nR m (k+1) 0 ω).2
  simp only[bC];by_cases e:i=n
  ·subst e;omega
  have:=(nR m n i ω).1;omega
structure lY(m:aJ):Prop where
 b4:1<=m.V.length/\m.V.length<=4
 i4:m.a1.length=m.V.length
 bl:∀i,i<m.V.length->(nth m.V i).length<=30
 il:∀i,i<m.V.length->(nth m.a1 i).length<=30
def lY.of{m:aJ}(h:bQ m=true):lY m:=by
 obtain⟨⟨b,c,d⟩,-,e⟩:=dZ.1 h;exact⟨⟨b,c⟩,d,λi a=>by have:=(nR m m.V.length i a).1;omega,λi a=>by have:=(nR m m.V.length i a).1;omega⟩
def lY.sml{m:aJ}(h:lY m):aJ.sml m:=by
 have c:=h.b4;have d:=h.i4;refine⟨⟨ω,λl a=>?_⟩,⟨ω,λl a=>?_⟩⟩
 ·obtain⟨i,b,rfl⟩:=aN a
  have:=h.bl i b;exact⟨ω,λ_ _=>trivial⟩
 obtain⟨i,b,rfl⟩:=aN a;have:=h.il i ω;show(nth m.a1 i).length<=1048576;omega
def tX(m:aJ)(k:Int)(a:aJ.sml m):zzA 520 false [.val (some 2) (aJ.enc .W m),.val none [I k]] .one [B (bQ m&&decide (0<=k/\k<=m.V.length - 1))]:=by
 have b:=mz m a;have c:m.V.length<=1048576:=a.1.1;cases e:bQ m<;>rw[e]at b
 all_goals
  refine fO 15 [] Tryz.func520 rfl ?_
  repeat'(first|refine gP ?_|(conv=>whnf);first|refine CC ?_|refine C9 (b) ?_|refine C9 (aH k 0 (m.V.length - 1:Int)) ?_)
  all_goals rfl
def Uz{m:aJ}(a:f<m.V.length):m.V[f]? = some (nth m.V f):=ao a
def Mq(m:aJ)(f:Nat)(p:dB):aJ.enc .own (iH m f p)=[.s .own ((m.V.map (cS .own)).set f (cS .own (nth m.V f++[p]))),.s .own (m.a1.map (aF .own))]:=by simp[aJ.enc,iH,V7]
def Mc{m:aJ}(h:lY m)(c:f<m.V.length)(p:dB):aJ.sml (iH m f p):=by
 have d:=h.b4;have b:=h.sml;refine⟨⟨by simp only[iH,Z1];omega,λl a=>?_⟩,b.2⟩;rcases Y7 a with a|rfl
 ·exact b.1.2 l a
 have:=h.bl f c;exact⟨by simp;omega,λ_ _=>trivial⟩
def L0(m:aJ)(f:Nat)(p:dB)(j:bQ m=true)(g:f<m.V.length):zzA 512 false [.val (some 2) (aJ.enc .W m),.val none [I (f:Nat)],.val (some 2) (dB.enc .W p)] (.tup [some 2,none]) (aJ.enc .own (if bQ (iH m f p)=true then iH m f p else m)++[B (bQ (iH m f p))]):=by
 have c:=lY.of j;have k:=c.sml;have q:=c.b4;have h:=tX m f k;rw[j,O0 ω]at h;have l:=gp m k;have b:=Mc c g p;have i:=mz (iH m f p) b;have n:=gp (iH m f p) b;have a:=Uz g;have o:=c.bl f g;have d:=aJ.enc_fz (iH m f p);rw[Mq]at d;cases e:bQ (iH m f p)<;>rw[e]at i
 ·rw[CB (by simp)]
  refine fO 35 [(4,267,[16,17,18,19,20,21,22,23,24,25,27,0,1,2,3,4,5,6,7,8,9,10,1000,1001,1002,11,12])] Tryz.func512 rfl ?_ (.inr (aG (aJ.enc_fr _) ⟨trivial,trivial⟩))
  repeat'(first|refine gP ?_|(conv=>whnf);first|with_reducible refine CE (aa a) ?_|refine CC ?_|refine CE (gW a) ?_|refine CK rfl (gW a) rfl ?_|refine C9 (h) ?_|refine C9 (l) ?_|refine Lq.one rfl rfl (aa a) rfl (O1 rfl) rfl rfl ?_|refine CK rfl (aa a) rfl ?_|refine CQ rfl rfl (gW a) rfl (O1 rfl) (show [C.s dM.own ((m.V.map (cS .own)).set f (cS .own (nth m.V f++[p]))),C.s .own (m.a1.map (aF .own))]=_ from by simp only[List.set_cons_zero,List.set_set,O3];rfl) ?_|refine Ap.sm (aM λ_=>rfl) rfl (by simp;omega) (by decide) (gy _ _ _) ?_|refine CH (i) ⟨⟨rfl,d⟩,trivial⟩ ?_)
  rfl
 rw[CD rfl];refine fO 35 [(4,267,[16,17,18,19,20,21,22,23,24,25,27,0,1,2,3,4,5,6,7,8,9,10,1000,1001,1002,11,12])] Tryz.func512 rfl ?_ (.inr (aG (aJ.enc_fr _) ⟨trivial,trivial⟩))
 repeat'(first|refine gP ?_|(conv=>whnf);first|with_reducible refine CE (aa a) ?_|refine CC ?_|refine CE (gW a) ?_|refine CK rfl (gW a) rfl ?_|refine C9 (h) ?_|refine C9 (l) ?_|refine Lq.one rfl rfl (aa a) rfl (O1 rfl) rfl rfl ?_|refine CK rfl (aa a) rfl ?_|refine CQ rfl rfl (gW a) rfl (O1 rfl) (show [C.s dM.own ((m.V.map (cS .own)).set f (cS .own (nth m.V f++[p]))),C.s .own (m.a1.map (aF .own))]=_ from by simp only[List.set_cons_zero,List.set_set,O3];rfl) ?_|refine Ap.sm (aM λ_=>rfl) rfl (by simp;omega) (by decide) (gy _ _ _) ?_|refine CH (i) ⟨⟨rfl,d⟩,trivial⟩ ?_|refine CH (n) ⟨⟨rfl,d⟩,trivial⟩ ?_)
 rfl
def HB(m:aJ)(f:Int)(a:bQ m=true)(d:¬(0<=f/\f<=m.V.length - 1)):zzA 422 false [.val (some 2) (aJ.enc .W m),.val none [I f]] (.tup [some 2,none]) (aJ.enc .own m++[B false]):=by
 have e:=lY.of a;have b:=e.sml;have c:=tX m f b;rw[a,W0 d]at c;have g:=gp m b;refine fO 60 [(5,267,[31,32,33,34,35,36,37,38,39,40,42,0,1,2,3,4,5,6,7,8,9,10,1000,1001,1002,11,12]),(6,270,[43,44,45,46,47,48,49,50,51,52,53,54,55,57,0,1,2,3,4,5,6,7,8,9,10,11,12,13,1000,1001,1002,1003,14,15])] Tryz.func422 rfl ?_ (.inr (aG (aJ.enc_fr _) ⟨trivial,trivial⟩))
 repeat'(first|refine gP ?_|(conv=>whnf);first|refine CC ?_|refine C9 (c) ?_|refine C9 (g) ?_)
 rfl
def Jh(m:aJ)(f t:Nat)(a:(nth (nth m.V f) 0).To=t):aJ.enc .own (gu m f)=[.s .own ((m.V.map (cS .own)).set f [.s .own (((nth m.V f).drop 1).map (dB.enc .W))]),.s .own ((m.a1.map (aF .own)).set t (aF .own (nth m.a1 t++[(nth (nth m.V f) 0).Addr])))]:=by
 unfold aJ.enc gu;simp only[V7,a,O3]
 rfl
def Fe(m:aJ)(f:Nat)(h:bQ m=true)(i:f<m.V.length):zzA 422 false [.val (some 2) (aJ.enc .W m),.val none [I (f:Nat)]] (.tup [some 2,none]) (aJ.enc .own (if 0<(nth m.V f).length then gu m f else m)++[B (decide (0<(nth m.V f).length))]):=by
 have d:=lY.of h;have u:=d.sml;have K:=d.b4;have D:=d.i4;have j:=tX m f u;rw[h,O0 ω]at j;have w:=gp m u;have a:=Uz i;have F:=d.bl f i;by_cases e:0<(nth m.V f).length
 ·rw[CD e,O0 e]
  have g:=((dZ.1 h).2.1 f i).1 _ (am e);obtain⟨t,k⟩:=V3 g.1;have l:t<m.a1.length:=ω
  have y:=ao e;have c:=ao l;have G:=d.il t ω;have n:=(lY.of (EV h i e)).sml;have H:=gp (gu m f) n;have o:=aJ.enc_fz (gu m f);rw[Jh m f t k]at o;have q:=aG (b:=[B true]) (aJ.enc_fr (gu m f)) ⟨trivial,trivial⟩;generalize L:nth (nth m.V f) 0=p at *;obtain⟨M,J⟩:=p;simp only at k g o;subst k;refine fO 60 [(5,267,[31,32,33,34,35,36,37,38,39,40,42,0,1,2,3,4,5,6,7,8,9,10,1000,1001,1002,11,12]),(6,270,[43,44,45,46,47,48,49,50,51,52,53,54,55,57,0,1,2,3,4,5,6,7,8,9,10,11,12,13,1000,1001,1002,1003,14,15])] Tryz.func422 rfl ?_ (.inr q)
  repeat'(first|refine gB ?_|(conv=>whnf);first|with_reducible (first|refine CE (aa a) ?_|refine CE (aa c) ?_|refine Bf.E (λr=>?_) (λr=>?_))|refine CC ?_|refine CN (by decide) (aa y) ?_|refine CE (gW a) ?_|refine CE (gW c) ?_|refine CK rfl (gW a) rfl ?_|refine CK rfl (gW c) rfl ?_|refine C9 (j) ?_|refine C9 (w) ?_|refine CK rfl (aa a) rfl ?_|refine CK rfl (aa c) rfl ?_|refine CK rfl (aa y) rfl ?_|refine Lq.one rfl rfl (aa c) rfl (O1 rfl) rfl rfl ?_|refine Cb 1 rfl (by rw[I1];omega) (aM λ_=>rfl) I5 ?_|refine CY (λ_=>rfl) (λ_=>rfl) (by rw[C4];omega) (by decide) ?_|refine CR (λ_=>rfl) (λ_=>rfl) (by rw[C4];omega) (by decide) ?_|refine CQ rfl rfl (aa a) rfl (O1 rfl) rfl ?_|refine CQ rfl rfl (gW c) rfl (O1 rfl) (show [C.s dM.own ((m.V.map (cS .own)).set f [.s .own (((nth m.V f).drop 1).map (dB.enc .W))]),C.s .own ((m.a1.map (aF .own)).set t (aF .own (nth m.a1 t++[J])))]=_ from by simp only[List.set_cons_zero,List.set_cons_succ,List.set_set,O3];rfl) ?_|refine Ap.sm (aM λ_=>rfl) rfl (by simp;omega) (by decide) (gy _ _ _) ?_|refine CC ?_|refine CH (H) ⟨⟨rfl,o⟩,trivial⟩ ?_)
  rfl
 rw[CB e,W0 e];refine fO 60 [(5,267,[31,32,33,34,35,36,37,38,39,40,42,0,1,2,3,4,5,6,7,8,9,10,1000,1001,1002,11,12]),(6,270,[43,44,45,46,47,48,49,50,51,52,53,54,55,57,0,1,2,3,4,5,6,7,8,9,10,11,12,13,1000,1001,1002,1003,14,15])] Tryz.func422 rfl ?_ (.inr (aG (aJ.enc_fr _) ⟨trivial,trivial⟩))
 repeat'(first|refine gB ?_|(conv=>whnf);first|with_reducible (first|refine CE (aa a) ?_|refine Bf.E (λr=>?_) (λr=>?_))|refine CC ?_|refine C9 (j) ?_|refine C9 (w) ?_|refine CK rfl (aa a) rfl ?_)
 rfl
def MC.set(rows:List (List C))(i:Nat){r n:List C}(h:Pq r n):MC (.s .own (rows.set i r)) (.s .own (rows.set i n)):=by
 refine .own_ _ _ (by simp) (λj a b d f=>?_) (λj l a b c p d f o g=>?_)
 ·by_cases e:i=j
  ·subst e
   have k:i<rows.length:=by have:=(Z2.1 d).1;simpa using this
   rw[O4 k]at d f;cases d;cases f;exact h.1
  rw[List.getElem?_set_ne e]at d f;rw[d]at f;cases f;rfl
 by_cases e:i=j
 ·subst e
  have k:i<rows.length:=by have:=(Z2.1 d).1;simpa using this
  rw[O4 k]at d f;cases d;cases f;exact h.2 l c p o g
 rw[List.getElem?_set_ne e]at d f;rw[d]at f;cases f;rw[o]at g;cases g;exact .rfl_ _
def Eh(m:aJ)(t:Nat)(d:bQ m=true)(h:t<m.V.length):zzA 521 false [.val (some 2) (aJ.enc .W m),.val none [I (t:Nat)]] (.tup [some 2,none]) (aJ.enc .own (lP m t)++aF .own (nth m.a1 t)):=by
 have b:=lY.of d;have e:=b.sml;have o:=b.b4;have j:=b.i4;have g:=tX m t e;rw[d,O0 ω]at g;have k:=gp m e;have c:=ao (xs:=m.a1) (i:=t) ω;have l:=b.il t h;have a:=aG (aJ.enc_fr (lP m t)) (bM (nth m.a1 t));have n:aJ.enc .own (lP m t)=[.s .own (m.V.map (cS .own)),.s .own ((m.a1.map (aF .own)).set t [.s .own []])]:=by simp[aJ.enc,lP,V7];rfl
 rw[n]at a |-;refine fO 28 [(5,263,[20,21,22,23,24,25,26,0,1,2,3,4,5,6,7,1000,8,9])] Tryz.func521 rfl ?_ (.inr a)
 repeat'((conv=>whnf);first|with_reducible (first|refine Lm ?_|refine Wm ω ?_|refine CE (aa c) ?_|refine Bn ?_|refine jm.dk rfl ?_)|refine Bt ?_|refine Bu ?_|refine CC ?_|refine C9 (g) ?_|refine C9 (k) ?_|refine CK rfl (aa c) rfl ?_|refine CQ rfl rfl (aa c) rfl (O1 rfl) rfl ?_|refine CY (λ_=>rfl) (λ_=>rfl) ω (by decide) ?_|refine CR (λ_=>rfl) (λ_=>rfl) ω (by decide) ?_|refine CC ?_)
 exact .cons (.rfl_ _) (.cons (MC.set _ _ (.cons .z_ .nil)) (.cons (.rfl_ _) .nil))
def Ki(now:Int):∀{l:List aR}{i:Nat},i<=l.length->(∀j,j<i->(nth l j).b7<now - 100)->(i<l.length->¬(nth l i).b7<now - 100)->tY now l=i
 | [],i,h,_,_=>by simp at h;subst h;rfl
 | x::xs,0,_,_,h=>by
  unfold tY;exact CB (h (by simp))
 | x::xs,i+1,b,a,c=>by
  unfold tY;refine(CD (a 0 ω)).trans ?_;rw[Ki now (l:=xs) (i:=i) (by simp at b;omega) (λj d=>a (j+1) ω) (λe=>c (by simp;omega))]
def QV(q:bO)(now:Int):List C:=bO.enc .own ⟨q.c0,q.a6.drop (tY now q.a6)⟩++de .own (q.a6.take (tY now q.a6))
def wF(q:bO)(now:Int)(g:gK q=true)(G:q.a6.length<=4096)(u:0<=now/\now<=1000000):zzA 425 false [.val (some 2) (bO.enc .W q),.val none [I now],.val none [I 100]] (.tup [some 2,none]) (QV q now):=by
 have w:bO.sml q:=⟨ω,λ_ _=>trivial⟩
 have n:=pq q w;rw[g]at n;have o:=aH now 0 1000000;rw[O0 u]at o;have p:=aH 100 0 1000000;rw[O0 (by decide)]at p;have h:=(k6.1 g).1;have a:hO (QV q now):=aG (bO.enc_fr _) (wc _);have y:∀i,i<q.a6.length->0<=(nth q.a6 i).b7:=λi b=>(h _ (am b)).2.2.2
 unfold QV at a |-;generalize B:tY now q.a6=k at a |-;refine fO 59 [(6,270,[44,45,46,47,48,49,50,51,53,54,55,56,57,58,0,1,2,3,4,5,6,7,9,10,11,12,13,14,8,1009,1010,1011,1012,1013,1014,15,16])] Tryz.func425 rfl ?_ (.inr a)
 repeat'(first|refine gP ?_|(conv=>whnf);first|refine CC ?_|refine C9 (n) ?_|refine C9 (o) ?_|refine C9 (p) ?_)
 (conv=>whnf)
 refine CG (ι:=Nat) (λi=>[(1,.H .one [I (now)]),(2,.H .one [I (100)]),(3,.H .box (bO.enc .W q)),(6,.H .box [I 0,.z]),(8,.H .one [I ((i:Nat):Int)])]) (λi=>i<=q.a6.length/\∀j,j<i->(nth q.a6 j).b7<now - 100) (λi=>q.a6.length - i) (0) ?_ (⟨X0 _,λj C=>ω⟩) λi b=>?_
 ·exact wC
 obtain⟨b,r⟩:=b;by_cases l:i<q.a6.length/\(nth q.a6 i).b7<now - 100
 ·have c:=ao l.1
  repeat'(first|refine gE ?_|(conv=>whnf);first|with_reducible refine CE (aa c) ?_|refine CC ?_|refine CK rfl (aa c) rfl ?_)
  ((conv=>whnf);refine CF (i+1) ⟨ω,λj C=>by by_cases e:j=i;(subst e;exact l.2);exact r j ω⟩ ω ?_;(exact wC))
 have d:=Ki now (i:=i) b r (λE F=>l ⟨E,F⟩);rw[B]at d;subst d;by_cases t:k<q.a6.length
 ·have c:=ao t
  have:=y k t
  repeat'(first|refine gE ?_|(conv=>whnf);first|with_reducible (first|refine CE (aa c) ?_|refine Bf.D (λg=>?_) (λg=>?_))|refine CC ?_|refine CK rfl (aa c) rfl ?_|refine CX k rfl (by rw[I1];omega) (aM λ_=>rfl) C5 ?_|refine Cb k rfl (by rw[I1];omega) (aM λ_=>rfl) I5 ?_|refine CY (λ_=>rfl) (λ_=>rfl) (by rw[C2];omega) (by decide) ?_|refine CY (λ_=>rfl) (λ_=>rfl) (by rw[C4];omega) (by decide) ?_|refine CR (λ_=>rfl) (λ_=>rfl) (by rw[C4];omega) (by decide) ?_|refine CC ?_)
  rfl
 repeat'(first|refine gE ?_|(conv=>whnf);first|refine CC ?_|refine CX k rfl (by rw[I1];omega) (aM λ_=>rfl) C5 ?_|refine Cb k rfl (by rw[I1];omega) (aM λ_=>rfl) I5 ?_|refine CY (λ_=>rfl) (λ_=>rfl) (by rw[C2];omega) (by decide) ?_|refine CY (λ_=>rfl) (λ_=>rfl) (by rw[C4];omega) (by decide) ?_|refine CR (λ_=>rfl) (λ_=>rfl) (by rw[C4];omega) (by decide) ?_|refine CC ?_)
 rfl
def DX(h:ab)(n:Int)(g:aU h [])(r:0<=n/\n<=1000)(p:h.b3+n<=1000000):zzB 278 false [.ptr (bE h),.val none [I n]] [.ptr (bE (tick h n)),.val none [I n]] .one [I ((nS h n).length:Nat)]:=by
 have a:=g.nums;unfold cu at a;rw[C0]at a;have t:=g.lens.quar;have i:=wF h.a9 (h.b3+n) g.quar ω ⟨ω,p⟩;have j:=g.aged r.1 p;unfold QV at i;unfold tick nS aged at *;have l:(h.a9.a6.take (tY (h.b3+n) h.a9.a6)).length<=4096:=by rw[C2];omega
 rw[I1];generalize h.a9.a6.take (tY (h.b3+n) h.a9.a6)=out at i j l |-;generalize h.a9.a6.drop (tY (h.b3+n) h.a9.a6)=rest at i j |-;refine fM 48 [(426,[2,0])] [(2,269,[18,19,20,21,22,23,24,25,26,17,27,28,5,0,1,2,3,4,5,6,7,8,9,10,11,12,13,1011,14])] [(0,0),(0,0)] Tryz.func278 rfl (λu q=>?_)
 repeat'(first|refine gP ?_|(conv=>whnf);first|refine CC ?_|refine CH (i) ⟨⟨rfl,bO.enc_fz h.a9⟩,⟨rfl,rfl⟩,⟨rfl,rfl⟩,trivial⟩ ?_|refine CC ?_)
 (conv=>whnf)
 refine CG (ι:=Nat) (λk=>[(0,.H .box (bE (freeAs {h with b3:=h.b3+n,a9:=⟨h.a9.c0,rest⟩} ((out.map (·.Addr)).take k)))),(6,.H .one (de .own out)),(7,.H .one [I ((k:Nat):Int)])]) (λk=>k<=out.length) (λk=>out.length - k) (0) ?_ (X0 _) λk y=>?_
 ·exact wC
 by_cases o:k<out.length
 ·have b:=ao o
  have c:k<(out.map (·.Addr)).length:=by rw[I1];exact o
  have d:nth (out.map (·.Addr)) k=(nth out k).Addr:=bh (by rw[Y3,ao o];rfl);have e:aU (freeAs {h with b3:=h.b3+n,a9:=⟨h.a9.c0,rest⟩} ((out.map (·.Addr)).take k)) (nth (out.map (·.Addr)) k::(out.map (·.Addr)).drop (k+1)):=by
   refine aU.freeAs ?_;rw[<-iD c,List.take_append_drop];rw[List.append_nil]at j;exact j
  rw[d]at e;have w:=o6 _ _ _ e
  repeat'(first|refine gE ?_|(conv=>whnf);first|refine CC ?_|refine CE (aa b) ?_|refine CK rfl (aa b) rfl ?_|refine CL (w) (.inl rfl) ?_)
  ((conv=>whnf);refine CF (k+1) ω ω ?_)
  rw[pT _ _ _ c,d];exact wC
 obtain rfl:k=out.length:=ω
 rw[V8 (by rw[I1];omega)]
 repeat'(first|refine gE ?_|(conv=>whnf);first|refine CC ?_)
 refine CJ rfl rfl ?_;exact wC
def ET(t:Nat)(h:ab)(az:List Int)(k:Nat)(a:k<az.length):recycs t h (az.take (k+1))=recyc t (recycs t h (az.take k)) (nth az k):=by
 unfold recycs;rw[Y6,ao a,Option.toList_some,List.foldl_append];rfl
def w7(h:ab)(t:Nat)(a:aU h [])(i:t<h.S.length):zzB 423 false [.ptr (bE h),.val none [I (t:Nat)]] [.ptr (bE (collect h t)),.val none [I (t:Nat)]] .one [I ((nth h.y.a1 t).length:Nat)]:=by
 have l:=a.nc;have n:=(dZ.1 a.mail).1.2.2;have j:=Eh h.y t a.mail ω;have c:=(lY.of a.mail).il t ω;have d:=a.coll (t:=t) ω;rw[List.append_nil]at d;unfold collect;generalize nth h.y.a1 t=out at j d c |-;refine fM 36 [(515,[2,0,0])] [] [(0,0),(0,0)] Tryz.func423 rfl (λu q=>?_)
 repeat'(first|refine gP ?_|(conv=>whnf);first|refine CC ?_|refine CH (j) ⟨⟨rfl,aJ.enc_fz h.y⟩,⟨rfl,rfl⟩,trivial⟩ ?_)
 (conv=>whnf)
 refine CG (ι:=Nat) (λk=>[(0,.H .box (bE (recycs t {h with y:=lP h.y t} (out.take k)))),(1,.H .one [I ((t:Nat):Int)]),(6,.H .one (aF .own out)),(7,.H .one [I ((k:Nat):Int)])]) (λk=>k<=out.length) (λk=>out.length - k) (0) ?_ (X0 _) λk p=>?_
 ·exact wC
 by_cases e:k<out.length
 ·have b:=ao e
  have g:aU (recycs t {h with y:=lP h.y t} (out.take k)) (nth out k::out.drop (k+1)):=by
   refine aU.recycs ?_ i;rw[<-iD e,List.take_append_drop];exact d
  have o:=oD _ _ t _ g (by rw[(ia t _ _).1];exact i)
  repeat'(first|refine gE ?_|(conv=>whnf);first|refine CC ?_|refine CE (aa b) ?_|refine CK rfl (aa b) rfl ?_|refine CL (o) (.inl rfl) ?_)
  ((conv=>whnf);refine CF (k+1) ω ω ?_)
  rw[ET _ _ _ _ e];exact wC
 obtain rfl:k=out.length:=ω
 rw[O6]
 repeat'(first|refine gE ?_|(conv=>whnf);first|refine CC ?_)
 refine CJ rfl rfl ?_;exact wC
def NE(a:Int)(o:bu):Bool:=decide (o.Addr<=a/\a<o.Addr+o.q)
def HU(h:ab)(E:List Int)(a:Int)(d:aU h E):zzB 517 false [.ptr (bE h),.val none [I a]] [.ptr (bE h),.val none [I a]] .one [I (ee (NE a) h.O)]:=by
 have r:=d.lens.objs;refine fM 47 [] [(4,29,[15,16,17,18,19,20,21,22,23,24,25,26,27,28,29,30,31,32,33,34,35,36,37,38,39,40,41,42,43])] [(0,0),(0,0)] Tryz.func517 rfl (λu q=>?_)
 repeat'(first|refine gP ?_|(conv=>whnf);first|refine CC ?_)
 (conv=>whnf)
 refine CG (ι:=Nat) (λi=>[(0,.H .box (bE h)),(1,.H .one [I (a)]),(5,.H .one [I ((i:Nat):Int)])]) (λi=>i<=h.O.length/\∀(j:Nat)(z:bu),j<i->h.O[j]? = some z->NE a z=false) (λi=>h.O.length - i) (0) ?_ (⟨X0 _,λj z C=>ω⟩) λi d=>?_
 ·exact wC
 obtain⟨t,c⟩:=d;by_cases e:i<h.O.length
 ·have b:=ao e
  have w:=uR ‹aU h E› (am e);have y:0<=(nth h.O i).q/\(nth h.O i).q<=1000:=by
   rcases aU.oow ‹aU h E› _ (am e) with⟨s,B,F,G⟩|⟨l,g,k,o⟩
   ·have H:=aE ((aU.L ‹aU h E›).sok s B)
    have:=iO (n:=(nth h.O i).q) ω;omega
   have J:=cX ((aU.L ‹aU h E›).lok l g);omega
  by_cases k:(nth h.O i).Addr<=a
  ·by_cases o:a<(nth h.O i).Addr+(nth h.O i).q
   ·repeat'(first|refine gE ?_|(conv=>whnf);first|with_reducible refine CE (aa b) ?_|refine CC ?_|refine CK rfl (aa b) rfl ?_|refine CC ?_)
    refine CJ rfl (Z0 (λz=>[I z]) (dS b (O0 ⟨k,o⟩) c).symm) ?_;exact wC
   repeat'(first|refine gE ?_|(conv=>whnf);first|with_reducible (first|refine CE (aa b) ?_|refine Bf.D (λp=>?_) (λp=>?_))|refine CC ?_|refine CK rfl (aa b) rfl ?_|refine CC ?_)
   ((conv=>whnf);refine CF (i+1) ⟨ω,fY b (W0 λx=>o x.2) c⟩ ω ?_;(exact wC))
  repeat'(first|refine gE ?_|(conv=>whnf);first|with_reducible (first|refine CE (aa b) ?_|refine Bf.D (λp=>?_) (λp=>?_))|refine CC ?_|refine CK rfl (aa b) rfl ?_|refine CC ?_)
  ((conv=>whnf);refine CF (i+1) ⟨ω,fY b (W0 λx=>k x.1) c⟩ ω ?_;(exact wC))
 repeat'(first|refine gE ?_|(conv=>whnf);first|refine CC ?_)
 refine CJ rfl (Z0 (λz=>[I z]) (gx ω c).symm) ?_;exact wC
def Kl(h:ab)(a v:Int):bE {h with G:=dO h.G a v} = (bE h).set 0 (.s .own ((h.G.F.U.T.map (aF .own)).set (ac h.G.F.Q (a / 16)).d.toNat ((aF .own (nth h.G.F.U.T (cY h.G a))).set 0 (.s .own (((nth h.G.F.U.T (cY h.G a)).map (rI .own)).set (a % 16).toNat (splice (rI .own (nth (nth h.G.F.U.T (cY h.G a)) (a % 16).toNat)) 0 [I v])))))):=by
 simp[bE,dO,setCell,V7,aF,splice,cY,rI]
def Gx{p:α->Bool}{xs:List α}{x:α}(a:x∈xs)(b:p x=true):0<=ee p xs:=by
 have:=lB p xs;rw[show xs.any p=true from X4.2 ⟨x,a,b⟩,C0]at this;exact this
def Ae(h:ab)(i:Nat)(j v:Int)(e:aU h [])(C:i<h.O.length)(D:0<=j/\j<=(nth h.O i).q - 1):zzB 418 false [.ptr (bE h),.val none [I ((nth h.O i).Addr+j)],.val none [I v]]
  [.ptr (bE (if(ac h.G.F.Q (((nth h.O i).Addr+j) / 16)).j=1\/¬(0<=v/\v<=999) then h else {h with G:=dO h.G ((nth h.O i).Addr+j) v})),.val none [I ((nth h.O i).Addr+j)],.val none [I v]] .one [I (if(ac h.G.F.Q (((nth h.O i).Addr+j) / 16)).j=1 then 2 else if ¬(0<=v/\v<=999) then 3 else 0)]:=by
 obtain⟨E,J,K⟩:=cU e (am C) D;have F:0<=ee (NE ((nth h.O i).Addr+j)) h.O:=Gx (am C) (O0 ω);have p:=HU h [] ((nth h.O i).Addr+j) e;have r:=bj e.ker;have t:=du h.G.F.Q (((nth h.O i).Addr+j) / 16) r.1.2;have n:=aH v 0 999;generalize L:(nth h.O i).Addr+j=a at *;have b:0<=a/\a<512:=ω
 obtain⟨-,-,-,G,M⟩:=bD e.ker E;have H:=(aO.1 (a7.1 e.ker).2.1).2.2.1;have k:cY h.G a<h.G.F.U.T.length:=by unfold cY;omega
 have d:h.G.F.U.T[(ac h.G.F.Q (a / 16)).d.toNat]? = some (nth h.G.F.U.T (cY h.G a)):=ao k;have w:=e.lens.row _ (am k);have l:=ao (xs:=nth h.G.F.U.T (cY h.G a)) (i:=(a % 16).toNat) (by rw[w];omega);have B:a.tmod 16=a % 16:=dP b.1;refine fM 42 [(517,[2,0])] [(8,14,[27,28,29,30,31,32,33,34,35,36,37,38,39,40])] [(0,0),(0,0),(0,0)] Tryz.func418 rfl (λu q=>?_);by_cases o:(ac h.G.F.Q (a / 16)).j=1
 ·rw[CD (Or.inl o),CD o]
  repeat'(first|refine gB ?_|(conv=>whnf);first|refine CC ?_|refine CL (p) (.inl rfl) ?_|refine CH (t) ⟨⟨rfl,Cc _⟩,⟨rfl,rfl⟩,trivial⟩ ?_|refine CP (by decide) ?_|refine CO (pp b) ?_)
  refine CJ rfl rfl ?_;exact wC
 rw[CB (c:=_=(1:Int)) o];by_cases g:0<=v/\v<=999
 ·rw[O0 g]at n
  rw[CB (c:=¬(0<=v/\v<=999)) (Z4 g),CB (c:=_\/¬(0<=v/\v<=999)) (λy=>y.elim o λy=>y g)]
  repeat'(first|refine gB ?_|(conv=>whnf);first|refine CC ?_|refine CL (p) (.inl rfl) ?_|refine CH (t) ⟨⟨rfl,Cc _⟩,⟨rfl,rfl⟩,trivial⟩ ?_|refine C9 (n) ?_|refine CP (by decide) ?_|refine CO (pp b) ?_|refine CS B ?_|refine CN G (aa d) ?_|refine CK rfl (aa d) rfl ?_|refine CN ω (aa l) ?_|refine Pu.two rfl rfl (aa d) rfl rfl rfl (aa l) rfl (X3 _) (Kl h a v) ?_|refine CC ?_)
  refine CJ rfl rfl ?_;exact wC
 rw[W0 g]at n;rw[CD (Or.inr g),CD g]
 repeat'(first|refine gB ?_|(conv=>whnf);first|refine CC ?_|refine CL (p) (.inl rfl) ?_|refine CH (t) ⟨⟨rfl,Cc _⟩,⟨rfl,rfl⟩,trivial⟩ ?_|refine C9 (n) ?_|refine CP (by decide) ?_|refine CO (pp b) ?_)
 refine CJ rfl rfl ?_;exact wC
def za(l:aB)(n:Int):a8:=if(n+15) / 16<l.a4 then⟨l.R+(n+15) / 16,l.a4 - (n+15) / 16⟩ else⟨0,0⟩
def zz(l:aB)(n:Int)(d:bL l=true):zzA 518 false [.val (some 3) (aB.enc .W l),.val none [I n]] (.tup [some 3,some 2,none]) (if 9<=n/\n<=l.q then aB.enc .own (trimL l n)++a8.enc .own (za l n)++[B true] else aB.enc .own l++[I 0,I 0]++[B false]):=by
 have b:=n8 l;rw[d]at b;have a:=aH n 9 l.q;have g:=d;unfold bL at g;rw[C0]at g;by_cases e:9<=n/\n<=l.q
 ·rw[O0 e]at a
  rw[CD e];have c:=mV n;rw[show gi n=(n+15) / 16 by unfold gi;rw[CD ω]]at c;unfold za;by_cases h:(n+15) / 16<l.a4
  ·rw[CD h]
   refine fO 43 [(7,261,[37,38,39,40,42,0,1,2,3,5,4,1005,6,1005,7,8])] Tryz.func518 rfl ?_ (.inr ⟨trivial,trivial,trivial,trivial,trivial,trivial,trivial⟩)
   repeat'(first|refine gE ?_|(conv=>whnf);first|refine CC ?_|refine C9 (b) ?_|refine C9 (a) ?_|refine C9 (c) ?_|refine CC ?_)
   rfl
  rw[CB h];refine fO 43 [(7,261,[37,38,39,40,42,0,1,2,3,5,4,1005,6,1005,7,8])] Tryz.func518 rfl ?_ (.inr ⟨trivial,trivial,trivial,trivial,trivial,trivial,trivial⟩)
  repeat'(first|refine gE ?_|(conv=>whnf);first|refine CC ?_|refine C9 (b) ?_|refine C9 (a) ?_|refine C9 (c) ?_|refine CC ?_)
  rfl
 rw[W0 e]at a;rw[CB e];refine fO 43 [(7,261,[37,38,39,40,42,0,1,2,3,5,4,1005,6,1005,7,8])] Tryz.func518 rfl ?_ (.inr ⟨trivial,trivial,trivial,trivial,trivial,trivial,trivial⟩)
 repeat'(first|refine gP ?_|(conv=>whnf);first|refine CC ?_|refine C9 (b) ?_|refine C9 (a) ?_|refine CC ?_)
 rfl
def Dg(h:ab)(t a:Int)(c:h.S.length<=4)(d:¬(0<=t/\t<=h.S.length - 1)):zzB 416 false [.ptr (bE h),.val none [I t],.val none [I a]] [.ptr (bE h),.val none [I t],.val none [I a]] .one [I 1]:=by
 have b:=aH t 0 (h.S.length - 1:Int);rw[W0 d]at b;refine fM 148 [(511,[2,0]),(513,[2,0]),(515,[2,0,0]),(510,[2,0])] [(15,269,[68,69,70,71,72,73,74,75,77,67,78,79,11,0,1,2,3,4,5,6,7,13,8,1000,1001,1002,1003,1004,1013,9,10,11,12,14,1012,15]),(22,15,[92,93,94,95,96,97,98,99,100,101,102,103,104,105,106]),(25,271,[116,117,118,119,120,121,122,123,124,125,127,115,128,129,14,0,1,2,3,4,5,6,7,8,9,15,10,1000,1001,1002,1003,1015,11,12,13,14,16,1014,17])] [(0,0),(0,0),(0,0)] Tryz.func416 rfl (λu q=>?_)
 repeat'(first|refine gP ?_|(conv=>whnf);first|refine CC ?_|refine C9 (b) ?_)
 refine CJ rfl rfl ?_;exact wC
def Hf(h:ab)(i t:Nat)(a:aU h [])(j:i<h.O.length)(U:t<h.S.length)(K:(nth h.O i).a5≠t):zzB 416 false [.ptr (bE h),.val none [I (t:Nat)],.val none [I (nth h.O i).Addr]] [.ptr (bE (freeT h t i).1),.val none [I (t:Nat)],.val none [I (nth h.O i).Addr]] .one [I (freeT h t i).2]:=by
 have F:=am j;obtain⟨-,L,d⟩:=a.objAt F;have N:qL h (nth h.O i).Addr=i:=by
  have V:=(a.objAt F).1;exact cR (f:=(·.Addr)) (dt a.osr) V j (by rw[L])
 rw[N]at d;have b:=uR a F;have W:=a.onu _ F;have n:=a.lens;have X:=n.objs;have Y:=a.nc;have Z:=lY.of a.mail;have hb4:=Z.b4;have o:=aH (t:Nat) 0 (h.S.length - 1:Int);rw[O0 ω]at o;have p:=r7 h (nth h.O i).Addr ω;rw[d]at p;have e:=ao j;have G:=kZ (nth h.O i).q;have O:=bj a.ker;have P:=du h.G.F.Q ((nth h.O i).Addr / 16) O.1.2;unfold freeT;by_cases H:aL (nth h.O i).q<0
 ·rw[CD H]
  have c3:=qV h i a j H;refine fM 148 [(511,[2,0]),(513,[2,0]),(515,[2,0,0]),(510,[2,0])] [(15,269,[68,69,70,71,72,73,74,75,77,67,78,79,11,0,1,2,3,4,5,6,7,13,8,1000,1001,1002,1003,1004,1013,9,10,11,12,14,1012,15]),(22,15,[92,93,94,95,96,97,98,99,100,101,102,103,104,105,106]),(25,271,[116,117,118,119,120,121,122,123,124,125,127,115,128,129,14,0,1,2,3,4,5,6,7,8,9,15,10,1000,1001,1002,1003,1015,11,12,13,14,16,1014,17])] [(0,0),(0,0),(0,0)] Tryz.func416 rfl (λu q=>?_)
  repeat'(first|refine gE ?_|(conv=>whnf);first|with_reducible refine Bf.D (λc=>?_) (λc=>?_)|refine CC ?_|refine C9 (o) ?_|refine CH (p) ⟨⟨rfl,bK h⟩,⟨rfl,rfl⟩,trivial⟩ ?_|refine CE (aa e) ?_|refine CK rfl (aa e) rfl ?_|refine C9 (G) ?_|refine CL (c3) (.inl rfl) ?_)
  refine CJ rfl rfl ?_;exact wC
 rw[CB H];obtain⟨s1,s2,s3,s4⟩:=UC.of a (am j) H;by_cases J:(ac (tbl h) ((nth h.O i).Addr / 16)).j=1
 ·rw[CD J]
  unfold tbl at J;refine fM 148 [(511,[2,0]),(513,[2,0]),(515,[2,0,0]),(510,[2,0])] [(15,269,[68,69,70,71,72,73,74,75,77,67,78,79,11,0,1,2,3,4,5,6,7,13,8,1000,1001,1002,1003,1004,1013,9,10,11,12,14,1012,15]),(22,15,[92,93,94,95,96,97,98,99,100,101,102,103,104,105,106]),(25,271,[116,117,118,119,120,121,122,123,124,125,127,115,128,129,14,0,1,2,3,4,5,6,7,8,9,15,10,1000,1001,1002,1003,1015,11,12,13,14,16,1014,17])] [(0,0),(0,0),(0,0)] Tryz.func416 rfl (λu q=>?_)
  repeat'(first|refine gB ?_|(conv=>whnf);first|with_reducible refine Bf.D (λc=>?_) (λc=>?_)|refine CC ?_|refine CP (by decide) ?_|refine CO (pp b) ?_|refine C9 (o) ?_|refine CH (p) ⟨⟨rfl,bK h⟩,⟨rfl,rfl⟩,trivial⟩ ?_|refine CE (aa e) ?_|refine CK rfl (aa e) rfl ?_|refine C9 (G) ?_|refine CH (P) ⟨⟨rfl,Cc _⟩,⟨rfl,rfl⟩,trivial⟩ ?_)
  refine CJ rfl rfl ?_;exact wC
 rw[CB J,CB K];unfold tbl at J;have r:=L0 h.y t ⟨(nth h.O i).a5,(nth h.O i).Addr⟩ a.mail ω;by_cases l:bQ (iH h.y t ⟨(nth h.O i).a5,(nth h.O i).Addr⟩)=true;rotate_left
 ·rw[CB l]
  rw[CB l,show bQ (iH h.y t ⟨(nth h.O i).a5,(nth h.O i).Addr⟩)=false by simpa using l]at r;refine fM 148 [(511,[2,0]),(513,[2,0]),(515,[2,0,0]),(510,[2,0])] [(15,269,[68,69,70,71,72,73,74,75,77,67,78,79,11,0,1,2,3,4,5,6,7,13,8,1000,1001,1002,1003,1004,1013,9,10,11,12,14,1012,15]),(22,15,[92,93,94,95,96,97,98,99,100,101,102,103,104,105,106]),(25,271,[116,117,118,119,120,121,122,123,124,125,127,115,128,129,14,0,1,2,3,4,5,6,7,8,9,15,10,1000,1001,1002,1003,1015,11,12,13,14,16,1014,17])] [(0,0),(0,0),(0,0)] Tryz.func416 rfl (λu q=>?_)
  repeat'(first|refine gB ?_|(conv=>whnf);first|with_reducible refine Bf.D (λc=>?_) (λc=>?_)|refine CC ?_|refine CP (by decide) ?_|refine CO (pp b) ?_|refine C9 (o) ?_|refine CH (p) ⟨⟨rfl,bK h⟩,⟨rfl,rfl⟩,trivial⟩ ?_|refine CE (aa e) ?_|refine CK rfl (aa e) rfl ?_|refine C9 (G) ?_|refine CH (P) ⟨⟨rfl,Cc _⟩,⟨rfl,rfl⟩,trivial⟩ ?_|refine CH (r) ⟨⟨rfl,aJ.enc_fz h.y⟩,⟨rfl,rfl⟩,⟨rfl,rfl⟩,trivial⟩ ?_|refine CC ?_)
  refine CJ rfl rfl ?_;exact wC
 rw[CD l];rw[CD l,l]at r;have w:cY h.G (nth h.O i).Addr<h.G.F.U.T.length:=by unfold cY;omega
 have hcz:=PZ s1;have B:=eB (aL (nth h.O i).q);unfold Qf;generalize iH h.y t ⟨(nth h.O i).a5,(nth h.O i).Addr⟩ = M at r;refine fM 148 [(511,[2,0]),(513,[2,0]),(515,[2,0,0]),(510,[2,0])] [(15,269,[68,69,70,71,72,73,74,75,77,67,78,79,11,0,1,2,3,4,5,6,7,13,8,1000,1001,1002,1003,1004,1013,9,10,11,12,14,1012,15]),(22,15,[92,93,94,95,96,97,98,99,100,101,102,103,104,105,106]),(25,271,[116,117,118,119,120,121,122,123,124,125,127,115,128,129,14,0,1,2,3,4,5,6,7,8,9,15,10,1000,1001,1002,1003,1015,11,12,13,14,16,1014,17])] [(0,0),(0,0),(0,0)] Tryz.func416 rfl (λu q=>?_)
 repeat'(first|refine gB ?_|(conv=>whnf);first|with_reducible refine Bf.D (λc=>?_) (λc=>?_)|refine CC ?_|refine CP (by decide) ?_|refine CO (pp b) ?_|refine C9 (o) ?_|refine CH (p) ⟨⟨rfl,bK h⟩,⟨rfl,rfl⟩,trivial⟩ ?_|refine CE (aa e) ?_|refine CK rfl (aa e) rfl ?_|refine C9 (G) ?_|refine CH (P) ⟨⟨rfl,Cc _⟩,⟨rfl,rfl⟩,trivial⟩ ?_|refine CH (r) ⟨⟨rfl,aJ.enc_fz h.y⟩,⟨rfl,rfl⟩,⟨rfl,rfl⟩,trivial⟩ ?_|refine CC ?_)
 have Q:({{h with y:=M} with G:=fH h.G (nth h.O i).Addr 0} : ab) = {h with y:=M}:=Kw {h with y:=M} _ w;have R:=Z0 (λy:ab=>C.s .own (y.G.F.U.T.map (aF .own))) Q
 (conv=>whnf)
 refine CG (ι:=Nat) (λk=>[(0,.H .box (bE {{h with y:=M} with G:=fH h.G (nth h.O i).Addr k})),(1,.H .one [I ((t:Nat):Int)]),(2,.H .one [I ((nth h.O i).Addr)]),(7,.H .one [I ((i:Nat):Int)]),(8,.H .box (bu.enc .own (nth h.O i))),(9,.H .one [I (aL (nth h.O i).q)]),(10,.H .box (bi.enc .own (ac h.G.F.Q ((nth h.O i).Addr / 16)))),(13,.H .one [I ((k:Nat):Int)])]) (λk=>k<=(csz (aL (nth h.O i).q)).toNat) (λk=>(csz (aL (nth h.O i).q)).toNat - k) (0) ?_ (X0 _) λk hk=>?_
 ·repeat'(first|exact trivial|rfl |exact mE R|exact dK _|refine CM ?_ ?_|(exact Ac (by first|omega|(simp only;omega)|(simp;omega))))
 have T:IntKind.i64.wrap 0=0:=rfl;have S:(nth h.O i).Addr.tmod 16=(nth h.O i).Addr % 16:=dP b.1;have g:(fH h.G (nth h.O i).Addr k).F.U.T[(ac h.G.F.Q ((nth h.O i).Addr / 16)).d.toNat]? = some (lF (nth h.G.F.U.T (cY h.G (nth h.O i).Addr)) ((nth h.O i).Addr % 16).toNat k):=O4 w;by_cases lk:k<(csz (aL (nth h.O i).q)).toNat
 ·have E:=ao (xs:=lF (nth h.G.F.U.T (cY h.G (nth h.O i).Addr)) ((nth h.O i).Addr % 16).toNat k) (i:=((nth h.O i).Addr % 16+k).toNat) (by rw[nu,s4];omega)
  repeat'(first|refine gE ?_|(conv=>whnf);first|refine CC ?_|refine CP (by decide) ?_|refine CS S ?_|refine C9 (B) ?_|refine CN s2.1 (aa g) ?_|refine CK rfl (aa g) rfl ?_|refine CN ω (aa E) ?_|refine Pu.two rfl rfl (aa g) rfl rfl rfl (aa E) rfl (X3 _) (FV {h with y:=M} _ k _ b.1) ?_)
  ((conv=>whnf);refine CF (k+1) ω ω ?_;(exact wC))
 obtain rfl:k=(csz (aL (nth h.O i).q)).toNat:=ω
 have c6:=o7 {{h with y:=M} with G:=fH h.G (nth h.O i).Addr (csz (aL (nth h.O i).q)).toNat} i j (by show h.O.length<=_;omega)
 repeat'(first|refine gB ?_|(conv=>whnf);first|with_reducible refine Bf.D (λc=>?_) (λc=>?_)|refine CC ?_|refine C9 (B) ?_|refine CL (c6) (.inl rfl) ?_)
 refine CJ rfl rfl ?_;exact wC
def Rg(h:ab)(i:Nat)(t:Int)(a:aU h [])(d:i<h.O.length):zzB 416 false [.ptr (bE h),.val none [I t],.val none [I (nth h.O i).Addr]] [.ptr (bE (if 0<=t/\t<=h.S.length - 1 then(freeT h t.toNat i).1 else h)),.val none [I t],.val none [I (nth h.O i).Addr]] .one [I (if 0<=t/\t<=h.S.length - 1 then(freeT h t.toNat i).2 else 1)]:=by
 have c:h.S.length<=4:=by have:=(dZ.1 a.mail).1.2.1;have:=a.nc;omega
 by_cases b:0<=t/\t<=h.S.length - 1
 ·rw[CD b,CD b]
  obtain⟨n,rfl⟩:=V3 b.1;simp only[O3];by_cases e:(nth h.O i).a5=n
  ·have:=Js h (nth h.O i) n a (am d) e c
   have g:qL h (nth h.O i).Addr=i:=by
    obtain⟨k,j,-⟩:=a.objAt (am d);exact cR (f:=(·.Addr)) (dt a.osr) k d (by rw[j])
   rw[g,<-AS e]at this;exact this
  exact Hf h i n a d ω e
 rw[CB b,CB b];exact Dg h t _ c b
end Go.Proofs.YtiopgblagimpmaaGreat.Ab
