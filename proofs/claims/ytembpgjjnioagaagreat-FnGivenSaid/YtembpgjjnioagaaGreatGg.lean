/- The cells of an object, the reference's and the program's. No condition. -/
import Derived.Test.YtembpgjjnioagaaGreatGd
import Derived.Test.YtembpgjjnioagaaGreatGe
import Derived.Test.YtembpgjjnioagaaGreatGf
set_option linter.unusedVariables false
set_option linter.unusedSimpArgs false
set_option linter.constructorNameAsVariable false
namespace Go.Proofs.YtembpgjjnioagaaGreat.Ab
open Go.RowKit
set_option maxRecDepth 20000
set_option maxHeartbeats 4000000
def Nm(k:af)(a:Int):Int:=nth (nth k.Machine.Frames.Cells (ar k.Machine.Table (a / 16)).Frame.toNat) (a % 16).toNat
def cellsOf(k:af)(a:Int)(n:Nat):List Int:=(List.range n).map λ(i:Nat)=>Nm k (a+i)
theorem pq{n:Int}(h:0<=aN n):1<=n/\n<=8:=by
 unfold aN at h;split at h
 ·omega
 ·split at h
  ·omega
  ·split at h
   ·omega
   ·split at h
    ·omega
    ·split at h<;>omega
def Pn{α:Type}[Inhabited α](f:α->Int)(xs:List α):Nat->Int
 | 0=>0
 | i+1=>Pn f xs i+f (nth xs i)
def bor(n m:Int):Int:=((n.toNat ||| m.toNat:Nat):Int)
def pL(sp:List au)(p:Int)(b:Int):Nat->Int
 | 0=>b
 | j+1=>if(nth sp j).Page=p then bor (pL sp p b j) (nth sp j).Bits else pL sp p b j
def iZ(sp:List au)(ps:List Int)(b:Int):Nat->Int
 | 0=>b
 | k+1=>pL sp (nth ps k) (iZ sp ps b k) sp.length
def gr(h:ab)(i:Nat):Int:=iZ h.Spans (aS h (nth h.Spans i).Page) (nth h.Spans i).Bits (aS h (nth h.Spans i).Page).length
theorem Jb{n m:Int}(h1:0<=n/\n<=65535)(a:0<=m/\m<=65535):0<=bor n m/\bor n m<=65535:=by
 have b:n.toNat ||| m.toNat<2 ^ 16:=Nat.or_lt_two_pow ω ω
 unfold bor;omega
theorem tq{sp:List au}(h:∀s∈sp,bf s=true){j:Nat}(b:j<sp.length):0<=(nth sp j).Bits/\(nth sp j).Bits<=65535:=by
 have a:=h _ (am b);have c:=DI (nth sp j).Class;unfold bf at a;rw[C0]at a;omega
theorem tE{sp:List au}(h:∀s∈sp,bf s=true){p b:Int}(a:0<=b/\b<=65535):∀j,j<=sp.length->0<=pL sp p b j/\pL sp p b j<=65535
 | 0,_=>a
 | j+1,d=>by
  have c:=tE h (p:=p) a j ω;simp only[pL];split
  ·exact Jb c (tq h ω)
  ·exact c
theorem qI{sp:List au}(h:∀s∈sp,bf s=true){ps:List Int}{b:Int}(a:0<=b/\b<=65535):∀k,0<=iZ sp ps b k/\iZ sp ps b k<=65535
 | 0=>a
 | k+1=>by simp only[iZ];exact tE h (qI h a k) _ (R2 _)
theorem lY{b i:Int}(a:0<=b)(c:0<=i/\i<=15):aX b i=b.toNat.testBit i.toNat:=by
 unfold aX;rw[Nat.testBit_eq_decide_div_mod_eq];refine decide_eq_decide.2 ?_;obtain⟨n,rfl⟩ : ∃n:Nat,b=n:=⟨b.toNat,ω⟩
 rw[I2];have d:((n / 2 ^ i.toNat:Nat):Int)=(n:Int) / 2 ^ i.toNat:=by simp
 omega
theorem E4{n m i:Int}(b:0<=n)(c:0<=m)(a:0<=i/\i<=15):aX (bor n m) i=(aX n i || aX m i):=by
 rw[lY (by unfold bor;omega) a,lY b a,lY c a];unfold bor;rw[I2,Nat.testBit_or]
theorem Bh{sp:List au}(h:∀s∈sp,bf s=true){p b i:Int}(k:0<=b/\b<=65535)(l:0<=i/\i<=15):∀j,j<=sp.length->(aX (pL sp p b j) i=true↔aX b i=true\/∃q,q<j/\(nth sp q).Page=p/\aX (nth sp q).Bits i=true)
 | 0,_=>by simp[pL]
 | j+1,t=>by
  have n:=Bh h (p:=p) k l j ω;have o:=tE h (p:=p) k j ω;have r:=tq h (j:=j) ω;simp only[pL];split
  ·rename_i d
   rw[E4 o.1 r.1 l,v5,n];constructor
   ·rintro((e|⟨q,f,a⟩)|e)
    ·exact .inl e
    ·exact .inr ⟨q,ω,a⟩
    ·exact .inr ⟨j,ω,d,e⟩
   ·rintro(e|⟨q,f,a,c⟩)
    ·exact .inl (.inl e)
    ·by_cases g:q=j
     ·subst g;exact .inr c
     ·exact .inl (.inr ⟨q,ω,a,c⟩)
  ·rename_i d
   rw[n];constructor
   ·rintro(e|⟨q,f,a⟩)
    ·exact .inl e
    ·exact .inr ⟨q,ω,a⟩
   ·rintro(e|⟨q,f,a,c⟩)
    ·exact .inl e
    ·by_cases g:q=j
     ·subst g;exact absurd a d
     ·exact .inr ⟨q,ω,a,c⟩
theorem yv{sp:List au}(h:∀s∈sp,bf s=true){ps:List Int}{b i:Int}(d:0<=b/\b<=65535)(f:0<=i/\i<=15):∀k,(aX (iZ sp ps b k) i=true↔aX b i=true\/∃u,u<k/\∃q,q<sp.length/\(nth sp q).Page=nth ps u/\aX (nth sp q).Bits i=true)
 | 0=>by simp[iZ]
 | k+1=>by
  have g:=yv h (ps:=ps) d f k;have j:=qI h (ps:=ps) d k;simp only[iZ];rw[Bh h j f _ (R2 _),g];constructor
  ·rintro((e|⟨u,c,a⟩)|⟨q,c,a⟩)
   ·exact .inl e
   ·exact .inr ⟨u,ω,a⟩
   ·exact .inr ⟨k,ω,q,c,a⟩
  ·rintro(e|⟨u,c,a⟩)
   ·exact .inl (.inl e)
   ·by_cases l:u=k
    ·subst l;exact .inr a
    ·exact .inl (.inr ⟨u,ω,a⟩)
def jh{α:Type}(p:α->Bool)(xs:List α):Nat:=(xs.findIdx? p).getD xs.length
def iH{α:Type}(p:α->Bool)(xs:List α)(y:α):List α:=xs.take (jh p xs)++y::xs.drop (jh p xs)
theorem Mm{α:Type}(p:α->Bool)(xs:List α):jh p xs<=xs.length:=by
 unfold jh;cases e:xs.findIdx? p with
 | none=>exact R2 _
 | some i=>exact Nat.le_of_lt (T5.1 e).1
theorem jw{α:Type}(p:α->Bool)(xs:List α)(y:α):(iH p xs y).Perm (y::xs):=by
 unfold iH;refine List.perm_middle.trans ?_;rw[List.take_append_drop]
theorem db{α:Type}{p:α->Bool}{xs:List α}{y z:α} : z∈iH p xs y↔z=y\/z∈xs:=by
 rw[(jw p xs y).mem_iff,List.mem_cons]
theorem tp{α:Type}{p:α->Bool}{xs:List α}{i:Nat}(c:i<=xs.length)(a:∀(j:Nat)(z:α),j<i->xs[j]? = some z->p z=false)(b:∀z,xs[i]? = some z->p z=true):jh p xs=i:=by
 unfold jh;by_cases e:i<xs.length
 ·rw[t7 (U1 e) (b _ (U1 e)) a];rfl
 ·rw[um ω a];show xs.length=i;omega
theorem jU{α:Type}{f:α->Int}{xs:List α}{y:α}(h:xs.Pairwise λa b=>f a<f b)(p:∀z∈xs,f z≠f y):(iH (λz=>decide (f y<=f z)) xs y).Pairwise λa b=>f a<f b:=by
 have q:∀z∈xs.drop (jh (λz=>decide (f y<=f z)) xs),f y<f z:=λz g=>by
  obtain⟨j,k,rfl⟩:=List.mem_drop_iff_getElem.1 g;have C:=p _ (List.getElem_mem k);cases e:xs.findIdx? (λz=>decide (f y<=f z)) with
  | none=>
   have l:jh (λz=>decide (f y<=f z)) xs=xs.length:=by unfold jh;rw[e];rfl
   rw[l]at k;omega
  | some i=>
   have l:jh (λz=>decide (f y<=f z)) xs=i:=by unfold jh;rw[e];rfl
   obtain⟨r,t,-⟩:=T5.1 e;rw[C0]at t;have c:i+j<xs.length:=by rw[<-l];omega
   have n:f xs[i+j]≠f y:=p _ (List.getElem_mem c);have d:f y<f xs[i+j]:=by
    cases j with
    | zero=>simp only[Nat.add_zero]at n |-;omega
    | succ j=>
     have:=List.pairwise_iff_getElem.1 h i (i+(j+1)) r c ω;omega
   have w:xs[jh (λz=>decide (f y<=f z)) xs+j]? = xs[i+j]?:=by rw[l]
   rw[U1 ω,U1 c]at w;rw[Option.some.inj w];exact d
 have A:∀z∈xs.take (jh (λz=>decide (f y<=f z)) xs),f z<f y:=λz g=>by
  obtain⟨j,k,rfl⟩:=List.mem_take_iff_getElem.1 g;unfold jh at k;cases e:xs.findIdx? (λz=>decide (f y<=f z)) with
  | none=>
   have:=List.findIdx?_eq_none_iff.1 e _ (List.getElem_mem (show j<xs.length by omega));simp only[Z3]at this;omega
  | some i=>
   obtain⟨r,t,B⟩:=T5.1 e;simp only[e,Option.getD_some]at k;have:=B j ω;simp only[C0]at this;omega
 unfold iH;refine List.pairwise_append.2 ⟨h.sublist (List.take_sublist ..),List.pairwise_cons.2 ⟨q,h.sublist (List.drop_sublist ..)⟩,λz g u o=>?_⟩;rcases List.mem_cons.1 o with rfl|o
 ·exact A z g
 ·exact Int.lt_trans (A z g) (q u o)
def ge(b i:Int):Int:=((b.toNat ||| 2 ^ i.toNat:Nat):Int)
def pp(s:au)(i:Int):au:={s with Bits:=ge s.Bits i}
theorem v6(b i:Int)(j:Nat):(ge b i).toNat.testBit j=(b.toNat.testBit j || decide (i.toNat=j)):=by
 unfold ge;rw[I2,Nat.testBit_or,Nat.testBit_two_pow]
theorem EF{b i:Int}(g:0<=b)(e:0<=i/\i<=15)(j:Int):aX (ge b i) j=true↔aX b j=true\/j=i:=by
 rw[fN,fN,v6,v5,C0];have f:0<=ge b i:=by unfold ge;omega
 constructor
 ·rintro⟨h,c,d,a|a⟩
  ·exact .inl ⟨g,c,d,a⟩
  ·exact .inr ω
 ·rintro(⟨h,c,d,a⟩|rfl)
  ·exact⟨f,c,d,.inl a⟩
  ·exact⟨f,e.1,e.2,.inr rfl⟩
theorem fU{k:Int}(h:0<=k/\k<=3):lim k=2 ^ (slots k).toNat - 1/\0<=slots k/\slots k<=16/\slots k*csz k=16:=by
 obtain rfl|rfl|rfl|rfl:k=0\/k=1\/k=2\/k=3:=ω
 all_goals decide
theorem yy{s:au}(h:bf s=true){i:Int}(k:0<=i/\i<slots s.Class):bf (pp s i)=true:=by
 have b:=aE h;obtain⟨c,l,o,-⟩:=fU b.2.2;unfold bf at h;rw[C0]at h;obtain⟨d,e,f,g,p,a⟩:=h;refine O0 ⟨d,e,f,g,by show 0<=ge s.Bits i;unfold ge;omega,?_⟩;show ge s.Bits i<=lim s.Class;rw[c]at a |-;have j:((2 ^ (slots s.Class).toNat:Nat):Int)=(2:Int) ^ (slots s.Class).toNat:=by norm_cast
 rw[<-j]at a |-;have:=Nat.or_lt_two_pow (x:=s.Bits.toNat) (y:=2 ^ i.toNat) (n:=(slots s.Class).toNat) ω (Nat.pow_lt_pow_right ω ω);unfold ge;omega
theorem x7{s u:au}{i:Int}(b:0<=i/\i<slots s.Class)(c:aX u.Bits i=false)(h:meshable s u=true):meshable (pp s i) u=true:=by
 unfold meshable at h |-;simp only[I0,C0]at h |-;obtain⟨⟨d,f⟩,k,l,o⟩:=h;have p:=aE d;obtain⟨r,t,w,-⟩:=fU p.2.2;have a:=ef f;refine⟨⟨yy d b,f⟩,k,l,?_⟩;refine Nat.eq_of_testBit_eq λj=>?_
 have g:=T0 (λn=>Nat.testBit n j) o;simp only[Nat.testBit_and,Nat.zero_testBit,pp,v6]at g |-;by_cases e:i.toNat=j
 ·have:u.Bits.toNat.testBit j=false:=by
   rw[<-T4];intro q;have:=(fN u.Bits i).2 ⟨a.1,b.1,ω,by rw[e];exact q⟩;rw[this]at c;cases c
  rw[this];simp
 ·rw[Q0 e,Bool.or_false];exact g
theorem rn{s:au}(h:bf s=true){i:Int}(n:0<=i/\i<slots s.Class)(b:Int):eS (pp s i) b↔eS s b\/b=16*s.Page+i*csz s.Class:=by
 have g:=aE h;obtain⟨o,p,k,l⟩:=fU g.2.2;have j:=co g.2.2;unfold eS;simp only[pp];rw[EF (ef h).1 ω];constructor
 ·rintro⟨d,f,c,a|a⟩
  ·exact .inl ⟨d,f,c,a⟩
  ·right
   rcases j with e|e|e|e<;>rw[e]at c a |-<;>omega
 ·rintro(⟨d,f,c,a⟩|rfl)
  ·exact⟨d,f,c,.inl a⟩
  ·have q:slots s.Class<=16:=k
   rcases j with e|e|e|e<;>rw[e]at l |-<;>refine⟨?_,?_,?_,.inr ?_⟩<;>omega
theorem FR{sp:List au}{i:Nat}(k:Int)(a:i<sp.length):(sp.set i (pp (nth sp i) k)).map (·.Page)=sp.map (·.Page):=by
 rw[t5];refine List.ext_getElem (by simp) λj b c=>?_
 rw[List.getElem_set];split
 ·rename_i e;subst e
  rw[List.getElem_map];show(nth sp i).Page=_;rw[bq (U1 a)]
 ·rfl
theorem iR.setS{sp:List au}{la:List a8}(p:qL sp la){i:Nat}(g:i<sp.length){k:Int}(h:0<=k/\k<slots (nth sp i).Class)(b c:Int):iR (sp.set i (pp (nth sp i) k)) b c↔iR sp b c\/(b=16*(nth sp i).Page+k*csz (nth sp i).Class/\(c<0\/(nth sp i).Class=c)):=by
 have d:=p.sok _ (am g);constructor
 ·rintro⟨s,l,f,a⟩
  rcases eJ l with rfl|⟨j,n,q,rfl⟩
  ·rcases(rn d h b).1 f with o|o
   ·exact .inl ⟨_,am g,o,a⟩
   ·exact .inr ⟨o,a⟩
  ·exact .inl ⟨_,am n,f,a⟩
 ·rintro(⟨s,l,f,a⟩|⟨f,a⟩)
  ·obtain⟨j,n,rfl⟩:=bc l
   by_cases e:j=i
   ·subst e
    exact⟨_,hO _ g,(rn d h b).2 (.inl f),a⟩
   ·exact⟨_,iL _ n e,f,a⟩
  ·exact⟨_,hO _ g,(rn d h b).2 (.inr f),a⟩
theorem Lu{h:ab}{E:List Int}(d:bm h E){i:Nat}(l:i<h.Spans.length){k:Int}(p:0<=k/\k<=15)(b:aX (gr h i) k=false):aX (nth h.Spans i).Bits k=false/\∀u∈h.Spans,(nth (tbl h).Entries u.Page.toNat).Frame=(nth (tbl h).Entries (nth h.Spans i).Page.toNat).Frame->aX u.Bits k=false:=by
 have e:=d.L;have q:=ef (e.sok _ (am l));unfold gr at b;rw[<-T4,yv e.sok q p]at b;rw[not_or]at b;have r:aX (nth h.Spans i).Bits k=false:=by simpa using b.1
 have a:∀s∈h.Spans,s.Page.toNat<dE h/\(nth (tbl h).Entries s.Page.toNat).Mode≠0/\((s.Page.toNat:Nat):Int)=s.Page:=λs f=>by
  have K:=aE (e.sok s f);have M:=d.pg.bnd s.Page (dl f);have n:s.Page.toNat<(tbl h).Entries.length:=ω
  have o:((s.Page.toNat:Nat):Int)=s.Page:=ω
  exact⟨n,(d.pg.own _ n).2 (by rw[o];exact dl f),o⟩
 refine⟨r,λu c t=>?_⟩;rw[<-T4];intro w;obtain⟨y,A,B⟩:=a _ (am l);obtain⟨C,D,F⟩:=a u c;have G:u.Page∈aS h (nth h.Spans i).Page:=by
  rw[<-B,ee y A,<-F];exact dv.2 ⟨C,D,t⟩
 obtain⟨v,H,g⟩:=bc G;obtain⟨j,J,rfl⟩:=bc c;exact b.2 ⟨v,H,j,J,g.symm,w⟩
theorem bm.take{h:ab}{E:List Int}{i:Nat}{k sd:Int}(g:bm h E)(C:i<h.Spans.length)(D:0<=k/\k<slots (nth h.Spans i).Class)(r:aX (gr h i) k=false)(M:0<=sd/\sd<=1073741823) :
  bm {h with Seed:=sd,Spans:=h.Spans.set i (pp (nth h.Spans i) k)} ((16*(nth h.Spans i).Page+k*csz (nth h.Spans i).Class)::E):=by
 have F:=g.L;have T:=F.sok _ (am C);have Q:=aE T;obtain⟨l1,l2,l3,l4⟩:=fU Q.2.2;have hz:=co Q.2.2;obtain⟨u1,u2⟩:=Lu g C ⟨D.1,ω⟩ r;have n:=λb c=>iR.setS F C D b c
 have w:=FR k C;generalize ha:16*(nth h.Spans i).Page+k*csz (nth h.Spans i).Class=a at n |-;have G:¬eS (nth h.Spans i) a:=by
  rintro⟨-,-,-,h4⟩
  have:(a - 16*(nth h.Spans i).Page) / csz (nth h.Spans i).Class=k:=by
   rw[<-ha];rcases hz with e|e|e|e<;>rw[e]<;>omega
  rw[this,u1]at h4;cases h4
 have hrange:16*(nth h.Spans i).Page<=a/\a<=16*(nth h.Spans i).Page+15:=by
  rcases hz with e|e|e|e<;>rw[e]at ha l4<;>omega
 have U:¬ll h.Spans h.Larges a:=by
  rintro(⟨s,p,d,-⟩|⟨l,hl,e⟩)
  ·obtain⟨j,V,rfl⟩:=bc p
   have:=gu (f:=(·.Page)) F.nd V C (by have a1:=d.1;have a2:=d.2.1;omega);subst this;exact G d
  ·exact(vJ F hl).1 _ (am C) ω
 have W:a∉E++holders h:=λX=>U ((g.mem a).1 X)
 have q:∀s∈h.Spans.set i (pp (nth h.Spans i) k),∃u∈h.Spans,u.Page=s.Page/\(s=u\/(u=nth h.Spans i/\s=pp u k)):=λs p=>by
  rcases eJ p with rfl|⟨j,V,hji,rfl⟩
  ·exact⟨_,am C,rfl,.inr ⟨rfl,rfl⟩⟩
  ·exact⟨_,am V,rfl,.inl rfl⟩
 generalize hsp:h.Spans.set i (pp (nth h.Spans i) k)=sp at n w q |-;have t:pgs sp h.Larges=pgs h.Spans h.Larges:=by unfold pgs;rw[w]
 have N:∀u∈h.Spans,∃s∈sp,s.Page=u.Page:=λu r=>by
  have:u.Page∈sp.map (·.Page):=by rw[w];exact V3.2 ⟨u,r,rfl⟩
  obtain⟨s,p,e⟩:=V3.1 this;exact⟨s,p,e⟩
 exact {g with
   lay:=by
     obtain⟨l1,l2,l3⟩:=dd g.lay;unfold bj;simp only[I0,C0];refine⟨⟨Q3.2 λs p=>?_,l2⟩,by rw[t];exact l3⟩;obtain⟨u,r,-,rfl|⟨rfl,rfl⟩⟩:=q s p
     · exact F.sok _ r
     · exact yy (F.sok _ r) D
   srs:=by
     have d:(h.Spans.map (·.Page)).Pairwise (λa b=>a<b):=List.pairwise_map.2 g.srs;rw[<-w]at d;exact List.pairwise_map.1 d
   pg:=⟨g.pg.one,by rw[t];exact g.pg.bnd,by rw[t];exact g.pg.own,g.pg.fre,λs p u r O hf=>by
     obtain⟨R,A,Y,Z⟩:=q s p;obtain⟨S,B,eu,P⟩:=q u r;have H:(nth (tbl h).Entries R.Page.toNat).Frame=(nth (tbl h).Entries S.Page.toNat).Frame:=by rw[Y,eu];exact hf
     have d:=g.pg.mesh R A S B (by rw[Y,eu];exact O) H;rcases Z with rfl|⟨rfl,rfl⟩
     · rcases P with rfl|⟨rfl,rfl⟩
       · exact d
       · rw[i6]at d |-
         exact x7 D (u2 _ A H) d
     · rcases P with rfl|⟨rfl,rfl⟩
       · exact x7 D (u2 _ B H.symm) d
       · exact absurd (Y.symm.trans eu) O⟩
   nums:=by
     have:=g.nums;unfold cm at this |-;rw[C0]at this |-;exact⟨M.1,M.2,this.2.2⟩
   oow:=λo ho=>by
     rcases g.oow o ho with⟨s,p,d,h2⟩|d
     · obtain⟨u,r,g1,K⟩:=(n o.Addr (aN o.Size)).2 (.inl ⟨s,p,d,.inr h2⟩)
       refine .inl ⟨u,r,g1,?_⟩;rcases K with K|K
       · have:=aE (F.sok _ p);omega
       · exact K
     · exact .inr d
   hca:=λc Q k D b J=>(n b k).2 (.inl (g.hca c Q k D b J))
   hqu:=λy hy=>(n _ _).2 (.inl (g.hqu y hy))
   hfl:=λb J=>(n _ _).2 (.inl (g.hfl b J))
   hin:=λb J=>by
     rcases List.mem_cons.1 J with rfl|J
     · exact(n _ _).2 (.inr ⟨rfl,.inl (by decide)⟩)
     · exact(n _ _).2 (.inl (g.hin b J))
   nd:=by
     rw[List.cons_append];exact List.nodup_cons.2 ⟨W,g.nd⟩
   mem:=λb=>by
     show b∈a::E++holders h↔ll sp h.Larges b;rw[List.cons_append,List.mem_cons,g.mem b];unfold ll;rw[n];constructor
     · rintro(rfl|d|d)
       · exact .inl (.inr ⟨rfl,.inl (by decide)⟩)
       · exact .inl (.inl d)
       · exact .inr d
     · rintro((d|⟨d,-⟩)|d)
       · exact .inr (.inl d)
       · exact .inl d
       · exact .inr (.inr d)
   job:=λX=>by
     obtain⟨j1,⟨s,p,e1⟩,⟨u,r,e2⟩⟩:=g.job X;obtain⟨R,A,g1⟩:=N s p;obtain⟨S,B,K⟩:=N u r;exact⟨j1,⟨R,A,g1.trans e1⟩,⟨S,B,K.trans e2⟩⟩}
def qK(c:aB)(k:Nat):aB:=⟨c.Lists.set k ((nth c.Lists k).take ((nth c.Lists k).length - 1))⟩
theorem J3{l:List Int}(h:0<l.length):l=l.take (l.length - 1)++[nth l (l.length - 1)]:=by
 have a:l.drop (l.length - 1)=[nth l (l.length - 1)]:=by
  rw[gU ω,show l.length - 1+1=l.length by omega,List.drop_length]
 rw[<-a,List.take_append_drop]
theorem bm.pop{h:ab}{E:List Int}{t k:Nat}(f:bm h E)(l:t<h.Caches.length)(p:k<(nth h.Caches t).Lists.length)(u:0<(nth (nth h.Caches t).Lists k).length)(w:bt (qK (nth h.Caches t) k)=true) :
  bm {h with Caches:=h.Caches.set t (qK (nth h.Caches t) k)} (nth (nth (nth h.Caches t).Lists k) ((nth (nth h.Caches t).Lists k).length - 1)::E)/\iR h.Spans (nth (nth (nth h.Caches t).Lists k) ((nth (nth h.Caches t).Lists k).length - 1)) k:=by
 have q:=J3 u;have n:=f.hca _ (am l) k p (nth (nth (nth h.Caches t).Lists k) ((nth (nth h.Caches t).Lists k).length - 1)) (am ω);refine⟨?_,n⟩;generalize D:nth (nth (nth h.Caches t).Lists k) ((nth (nth h.Caches t).Lists k).length - 1)=a at q n |-;have r:(E++holders h).Perm (a::E++holders {h with Caches:=h.Caches.set t (qK (nth h.Caches t) k)}):=by
  refine List.perm_iff_count.2 λb=>?_
  have A:=ia (λc:aB=>c.Lists.flatten) b h.Caches t (qK (nth h.Caches t) k) l;have B:=ia (λy:List Int=>y) b (nth h.Caches t).Lists k ((nth (nth h.Caches t).Lists k).take ((nth (nth h.Caches t).Lists k).length - 1)) p;rw[<-jG,<-jG]at B;have C:=T0 (List.count b) q;simp only[Z4,List.count_singleton]at C;simp only[qK]at A;simp only[holders,ce,qK,Z4,List.cons_append,List.count_cons];omega
 exact {f with
   nc:=by show(h.Caches.set ..).length=_;rw[C1];exact f.nc
   cach:=λc d=>by
     rcases C5 d with d|rfl
     · exact f.cach c d
     · exact w
   onu:=by show ∀o∈h.Objs,1<=o.Id/\o.Id<=h.Next - 1/\0<=o.Thread/\o.Thread<=(h.Caches.set t _).length - 1;rw[C1];exact f.onu
   hca:=λc d j i b g=>by
     rcases C5 d with d|rfl
     · exact f.hca c d j i b g
     · simp only[qK,C1]at i
       simp only[qK,cB]at g;by_cases e:k=j
       · subst e
         rw[C8 ⟨rfl,i⟩]at g;exact f.hca _ (am l) _ i b (List.mem_of_mem_take g)
       · rw[C7 λy=>e y.1]at g
         exact f.hca _ (am l) _ i b g
   hin:=λb g=>by
     rcases List.mem_cons.1 g with rfl|g
     · exact n.any
     · exact f.hin b g
   nd:=r.nodup_iff.1 f.nd
   mem:=λb=>by rw[<-r.mem_iff];exact f.mem b}
def KO(a:Int)(o:bH):Bool:=decide (a<=o.Addr)
def addO(h:ab)(a size t:Int):ab:={h with Objs:=iH (KO a) h.Objs ⟨h.Next,a,size,t⟩,Next:=h.Next+1}
theorem yj{h:ab}(a:cm h=true)(b:h.Next<1000000):decide (0<=h.Seed/\h.Seed<=1073741823/\0<=h.Clock/\h.Clock<=1000000/\0<=h.Limit/\h.Limit<=1000/\1<=h.Next+1/\h.Next+1<=1000000)=true:=by
 unfold cm at a;rw[C0]at a |-;omega
theorem bm.addO{h:ab}{E:List Int}{a size t:Int}(c:bm h (a::E))(d:KC h.Spans h.Larges ⟨h.Next,a,size,t⟩)(p:h.Next<1000000)(q:0<=t/\t<=h.Caches.length - 1):bm (addO h a size t) E:=by
 have i:=jw (KO a) h.Objs ⟨h.Next,a,size,t⟩;have n:(a::E++holders h).Perm (E++holders (Ab.addO h a size t)):=by
  have r:=i.map (·.Addr);refine List.perm_iff_count.2 λb=>?_
  have u:=r.count_eq b;simp only[Y4,List.count_cons]at u;simp only[holders,ce,Ab.addO,Z4,List.cons_append,List.count_cons];omega
 have j:=c.nd;rw[List.cons_append]at j;obtain⟨k,-⟩:=List.nodup_cons.1 j;have l:∀o∈h.Objs,o.Addr≠a:=λo d e=>k (Q2.2 (.inr (by unfold holders;simp only[Q2];exact .inl (.inl (.inl (V3.2 ⟨o,d,e⟩))))))
 exact {c with
   nums:=yj c.nums p
   osr:=jU (f:=λo:bH=>o.Addr) (y:=⟨h.Next,a,size,t⟩) c.osr l
   onu:=λo d=>by
     rcases db.1 d with rfl|d
     · have:=c.nums
       unfold cm at this;rw[C0]at this;exact⟨by show 1<=h.Next;omega,by show h.Next<=h.Next+1 - 1;omega,q⟩
     · have:=c.onu o d
       exact⟨this.1,by show o.Id<=h.Next+1 - 1;omega,this.2.2⟩
   oid:=by
     show((iH (KO a) h.Objs ⟨h.Next,a,size,t⟩).map (·.Id)).Nodup;rw[(i.map _).nodup_iff,Y4];refine List.nodup_cons.2 ⟨λw=>?_,c.oid⟩;obtain⟨o,d,e⟩:=V3.1 w;have:=(c.onu o d).2.1;simp only at e;omega
   oow:=λo g=>by
     rcases db.1 g with rfl|g
     · exact d
     · exact c.oow o g
   hin:=λb A=>c.hin b (R4 _ A)
   nd:=n.nodup_iff.1 c.nd
   mem:=λb=>by rw[<-n.mem_iff];exact c.mem b}
def im(xs:List ax)(n:Int):Nat->Int
 | 0=>-1
 | i+1=>if n<=(nth xs i).Len/\(im xs n i<0\/(nth xs i).Len<(nth xs (im xs n i).toNat).Len) then(i:Nat) else im xs n i
def gp(xs:List ax)(n:Int):Int:=im xs n xs.length
def a7(xs:List ax)(n:Int):List ax × Int × Bool:=
 if gp xs n<0 then(xs,-1,false)
 else if(nth xs (gp xs n).toNat).Len=n then(dele xs (gp xs n).toNat,(nth xs (gp xs n).toNat).At,true)
 else(xs.set (gp xs n).toNat ⟨(nth xs (gp xs n).toNat).At+n,(nth xs (gp xs n).toNat).Len - n⟩,(nth xs (gp xs n).toNat).At,true)
theorem wd(xs:List ax)(n:Int):∀i,i<=xs.length->im xs n i = -1\/(0<=im xs n i/\im xs n i<i/\n<=(nth xs (im xs n i).toNat).Len)
 | 0,_=>.inl rfl
 | i+1,b=>by
  have a:=wd xs n i ω;unfold im;split
  ·rename_i h;right;rw[I2];exact⟨ω,ω,h.1⟩
  ·rcases a with h|h
   ·exact .inl h
   ·exact .inr ⟨h.1,ω,h.2.2⟩
theorem vS{xs:List ax}(h:mF xs){i j:Nat}(a:i<j)(b:j<xs.length):(nth xs i).At+(nth xs i).Len<(nth xs j).At:=by
 have:=List.pairwise_iff_getElem.1 h.1 i j ω b a
 rwa [<-bq (U1 (show i<xs.length by omega)),<-bq (U1 b)]at this
theorem vR{xs:List ax}{p:Int} : RH xs p↔∃j,j<xs.length/\(nth xs j).At<=p/\p<(nth xs j).At+(nth xs j).Len:=by
 unfold RH;constructor
 ·rintro⟨r,b,h⟩
  obtain⟨j,a,rfl⟩:=bc b;exact⟨j,a,h⟩
 ·rintro⟨j,a,h⟩
  exact⟨_,am a,h⟩
theorem l8{pages:Int}{xs:List ax}{n:Int}(h:br pages xs=true)(T:1<=n)(t:(a7 xs n).2.2=true) :
  br pages (a7 xs n).1=true/\0<=(a7 xs n).2.1/\(a7 xs n).2.1+n<=pages/\(∀p,RH (a7 xs n).1 p↔RH xs p/\¬((a7 xs n).2.1<=p/\p<(a7 xs n).2.1+n))/\∀p,(a7 xs n).2.1<=p->p<(a7 xs n).2.1+n->RH xs p:=by
 obtain⟨o,u,J⟩:=eR.1 h;have K:=wd xs n xs.length (R2 _);unfold a7 at t |-;change gp xs n = -1\/_ at K;split at t
 ·cases t
 rename_i w;rw[C7 w];obtain⟨O,P,L⟩:=K.resolve_left ω;change 0<=gp xs n at O;change gp xs n<xs.length at P;change n<=(nth xs (gp xs n).toNat).Len at L;generalize Q:(gp xs n).toNat=b at L |-;have g:b<xs.length:=ω
 have M:=u _ (am g);have q:∀j,j<xs.length->j≠b->(nth xs j).At+(nth xs j).Len<(nth xs b).At\/(nth xs b).At+(nth xs b).Len<(nth xs j).At:=λj a k=>by
  rcases Nat.lt_or_gt_of_ne k with A|B
  ·exact .inl (vS o A g)
  ·exact .inr (vS o B a)
 split
 ·rename_i R
  have C:(dele xs b).Sublist xs:=dY ..;refine⟨eR.2 ⟨⟨o.1.sublist C,λy l=>o.2 y (C.subset l)⟩,λy l=>u y (C.subset l),J⟩,M.1,by show(nth xs b).At+n<=pages;omega,λp=>?_,λp D E=>vR.2 ⟨b,g,D,by show p<_;simp only at E;omega⟩⟩;simp only;rw[vR (xs:=xs)];constructor
  ·rintro⟨r,F,f,d⟩
   obtain⟨j,a,k,rfl⟩:=dU.1 F;refine⟨⟨j,a,f,d⟩,λe=>?_⟩;have:=q j a k;omega
  ·rintro⟨⟨j,a,f,d⟩,G⟩
   exact⟨_,dU.2 ⟨j,a,λe=>by subst e;omega,rfl⟩,f,d⟩
 ·rename_i R
  have c:∀j,nth (xs.set b ⟨(nth xs b).At+n,(nth xs b).Len - n⟩) j=if j=b then⟨(nth xs b).At+n,(nth xs b).Len - n⟩ else nth xs j:=λj=>by
   rw[cB];by_cases e:j=b
   ·rw[C8 ⟨e.symm,ω⟩,C8 e]
   ·rw[C7 λz=>e z.1.symm,C7 e]
  refine⟨eR.2 ⟨⟨?_,λy l=>?_⟩,λy l=>?_,J⟩,M.1,by show(nth xs b).At+n<=pages;omega,λp=>?_,λp D E=>vR.2 ⟨b,g,D,by simp only at E;omega⟩⟩
  ·rw[List.pairwise_iff_getElem]
   intro i j N a H;rw[<-bq (U1 N),<-bq (U1 a),c,c];simp only[C1]at N a;have S:=vS o H a;split
   ·rename_i e;subst e
    rw[C7 ω];simp only;omega
   ·split
    ·rename_i e;subst e
     simp only;omega
    ·exact S
  ·rcases eJ l with rfl|⟨j,a,-,rfl⟩
   ·simp only;omega
   ·exact o.2 _ (am a)
  ·rcases eJ l with rfl|⟨j,a,-,rfl⟩
   ·simp only;omega
   ·exact u _ (am a)
  ·simp only
   rw[vR,vR,C1];constructor
   ·rintro⟨j,a,f,d⟩
    rw[c]at f d;split at f
    ·rename_i e;subst e
     rw[C8 rfl]at d;simp only at f d;exact⟨⟨j,a,ω,ω⟩,ω⟩
    ·rename_i e
     rw[C7 e]at d;have:=q j a e;exact⟨⟨j,a,f,d⟩,ω⟩
   ·rintro⟨⟨j,a,f,d⟩,G⟩
    refine⟨j,a,?_⟩;rw[c];split
    ·rename_i e;subst e
     simp only;omega
    ·exact⟨f,d⟩
def qA(k:af):Int:=dm (λu=>!u) k.Machine.Frames.Used
def oU(k:af)(p:Int)(f:Nat):af:={k with Machine:=⟨⟨k.Machine.Frames.Cells,k.Machine.Frames.Used.set f true⟩,⟨k.Machine.Table.Entries.set p.toNat ⟨2,(f:Nat)⟩⟩⟩}
def fe(k:af)(p:Int):af × Bool:=if refd k=true\/qA k<0 then(dh k,false) else(oU (dh k) p (qA k).toNat,true)
theorem A2{k:af}(h:¬qA k<0):(qA k).toNat<k.Machine.Frames.Used.length/\nth k.Machine.Frames.Used (qA k).toNat=false:=by
 unfold qA at h |-;rcases ki (λu=>!u) k.Machine.Frames.Used with e|⟨n,a,e,b⟩
 ·omega
 ·rw[e,I2]
  exact⟨a,by simpa using b⟩
theorem xI{k:af}(h:aA k=true){f:Nat}(b:f<k.Machine.Frames.Used.length)(c:nth k.Machine.Frames.Used f=false)(q:Nat)(d:q<k.Machine.Table.Entries.length)(g:(nth k.Machine.Table.Entries q).Mode≠0):(nth k.Machine.Table.Entries q).Frame≠(f:Nat):=by
 obtain⟨j,l,n,i,o⟩:=aC.1 h;intro e;have a:=i f b;rw[c]at a;have:=of_decide_eq_false a.symm;exact this (dS.2 ⟨q,d,g,e⟩)
theorem LN{k:af}{p:Int}{f:Nat}(h:aA k=true)(L:0<=p/\p<k.Machine.Table.Entries.length)(n:(nth k.Machine.Table.Entries p.toNat).Mode=0)(o:f<k.Machine.Frames.Used.length)(r:nth k.Machine.Frames.Used f=false):aA (oU k p f)=true:=by
 have t:=xI h o r;obtain⟨u,w,y,A,B⟩:=aC.1 h;obtain⟨C,D,E,F⟩:=aW.1 w;obtain⟨G,H,J⟩:=bu.1 y;have a:∀q,nth (k.Machine.Table.Entries.set p.toNat ⟨2,(f:Nat)⟩) q=if p.toNat=q then⟨2,(f:Nat)⟩ else nth k.Machine.Table.Entries q:=λq=>by
  rw[cB];by_cases i:p.toNat=q
  ·rw[C8 ⟨i,ω⟩,C8 i]
  ·rw[C7 (λe=>i e.1),C7 i]
 refine aC.2 ⟨u,aW.2 ⟨C,D,by simp only[oU,C1];exact E,λj b=>?_⟩,bu.2 ⟨λj b=>?_,?_,?_⟩,λj b=>?_,B⟩
 ·replace b:j<k.Machine.Frames.Cells.length:=b
  show gK (nth k.Machine.Frames.Cells j) (nth (k.Machine.Frames.Used.set f true) j)=true;have d:=F j b;rw[cB];split
  ·unfold gK at d |-
   simp only[I0,C0,Q3]at d |-;refine⟨d.1,λv K=>?_⟩;have:=d.2 v K;unfold ik at this |-;simp only[I0]at this;rw[this.1];rfl
  ·exact d
 ·simp only[oU,C1]at b |-
  rw[a];split
  ·unfold jF;rw[C0];simp only;omega
  ·exact G j b
 ·simp only[oU,C1];exact H
 ·simp only[oU,C1];exact J
 ·simp only[oU,C1]at b
  show nth (k.Machine.Frames.Used.set f true) j=_;rw[cB];by_cases e:f=j
  ·subst e
   rw[C8 ⟨rfl,b⟩];refine(O0 (dS.2 ⟨p.toNat,?_,?_,?_⟩)).symm
   ·simp only[oU,C1];omega
   ·simp only[oU,a,C8];decide
   ·simp only[oU,a,C8]
  ·rw[C7 λz=>e z.1,A j b]
   refine decide_eq_decide.2 ?_;rw[dS,dS];simp only[oU,C1,a];constructor
   ·rintro⟨q,l,g,c⟩
    refine⟨q,l,?_⟩;rw[C7 λz=>g (by rw[<-z];exact n)];exact⟨g,c⟩
   ·rintro⟨q,l,g,c⟩
    by_cases z:p.toNat=q
    ·rw[C8 z]at c
     simp only at c;omega
    ·rw[C7 z]at g c
     exact⟨q,l,g,c⟩
structure y3(k:af)(p:Int)(r:af × Bool):Prop where
 ker:aA r.1=true
 len:r.1.Machine.Table.Entries.length=k.Machine.Table.Entries.length
 calls:r.1.Calls=k.Calls+1
 ref:r.1.Refuse=k.Refuse
 cells:r.1.Machine.Frames.Cells=k.Machine.Frames.Cells
 no:r.2=false->r.1=dh k
 yes:r.2=true->∃f:Nat,f<k.Machine.Frames.Used.length/\nth k.Machine.Frames.Used f=false/\(∀q:Nat,nth r.1.Machine.Table.Entries q=if(q:Int)=p then⟨2,(f:Nat)⟩ else nth k.Machine.Table.Entries q)/\∀q,q<k.Machine.Table.Entries.length->(nth k.Machine.Table.Entries q).Mode≠0->(nth k.Machine.Table.Entries q).Frame≠(f:Nat)
theorem y3.of{k:af}{p:Int}(h:aA k=true)(c:k.Calls≠100000)(f:0<=p/\p<k.Machine.Table.Entries.length)(g:(nth k.Machine.Table.Entries p.toNat).Mode=0):y3 k p (fe k p):=by
 unfold fe;split
 ·exact⟨kP h c,rfl,rfl,rfl,rfl,λ_=>rfl,λe=>by cases e⟩
 ·rename_i d
  rw[not_or]at d;obtain⟨a,b⟩:=A2 d.2;refine⟨LN (kP h c) f g a b,by simp[oU,dh],rfl,rfl,rfl,λe=>(by cases e),λ_=>⟨_,a,b,λq=>?_,λq=>xI h a b q⟩⟩;simp only[oU,dh,cB];by_cases e:(q:Int)=p
  ·rw[C8 ⟨ω,ω⟩,C8 e]
  ·rw[C7 λz=>e ω,C7 e]
def ci(k:af)(p:Int):Nat->af × Nat
 | 0=>(k,0)
 | i+1=>if(ci k p i).2=i then((fe (ci k p i).1 (p+(i:Nat))).1,if(fe (ci k p i).1 (p+(i:Nat))).2=true then i+1 else i) else ci k p i
structure n6(k:af)(p:Int)(i:Nat)(r:af × Nat):Prop where
 ker:aA r.1=true
 len:r.1.Machine.Table.Entries.length=k.Machine.Table.Entries.length
 calls:k.Calls<=r.1.Calls/\r.1.Calls<=k.Calls+i
 ref:r.1.Refuse=k.Refuse
 cells:r.1.Machine.Frames.Cells=k.Machine.Frames.Cells
 le:r.2<=i
 out:∀q:Nat,¬(p<=q/\(q:Int)<p+r.2)->nth r.1.Machine.Table.Entries q=nth k.Machine.Table.Entries q
 new:∀q:Nat,p<=q->(q:Int)<p+r.2->(nth r.1.Machine.Table.Entries q).Mode=2/\∀u:Nat,u<k.Machine.Table.Entries.length->(nth r.1.Machine.Table.Entries u).Mode≠0->(nth r.1.Machine.Table.Entries u).Frame=(nth r.1.Machine.Table.Entries q).Frame->u=q
theorem n6.of{k:af}{p:Int}{n:Nat}(h:aA k=true)(G:k.Calls+n<=100000)(H:0<=p/\p+n<=k.Machine.Table.Entries.length)(C:∀q:Nat,p<=q->(q:Int)<p+n->(nth k.Machine.Table.Entries q).Mode=0):∀i,i<=n->n6 k p i (ci k p i)
 | 0,_=>⟨h,rfl,⟨C4 _,by show k.Calls<=k.Calls+((0:Nat):Int);omega⟩,rfl,rfl,R2 _,λ_ _=>rfl,λq o d=>by simp only[ci]at d;omega⟩
 | i+1,L=>by
  have a:=n6.of h G H C i ω;unfold ci;split
  case isFalse=>exact⟨a.ker,a.len,⟨a.calls.1,by have:=a.calls.2;omega⟩,a.ref,a.cells,by have:=a.le;omega,a.out,a.new⟩
  rename_i t;generalize ci k p i=r at a t |-;have J:=a.calls;have y:(nth r.1.Machine.Table.Entries (p+(i:Nat)).toNat).Mode=0:=by
   rw[a.out _ ω];exact C _ ω ω
  have s:=y3.of (p:=p+(i:Nat)) a.ker ω ⟨ω,by rw[a.len];omega⟩ y;generalize fe r.1 (p+(i:Nat))=w at s |-;refine⟨s.ker,s.len.trans a.len,⟨by simp only[s.calls];omega,by simp only[s.calls];omega⟩,s.ref.trans a.ref,s.cells.trans a.cells,by simp only;split<;>omega,λq j=>?_,λq o d=>?_⟩
  ·simp only at j |-
   cases e:w.2 with
   | false=>
    rw[s.no e];rw[e]at j;exact a.out q (by rw[t];simpa using j)
   | true=>
    obtain⟨f,-,-,g,-⟩:=s.yes e;rw[e,C8 rfl]at j;rw[g,C7 ω];exact a.out q ω
  ·simp only at d |-
   cases e:w.2 with
   | false=>
    rw[s.no e];rw[e]at d;exact a.new q o (by rw[t];simpa using d)
   | true=>
    obtain⟨f,-,-,g,D⟩:=s.yes e;rw[e,C8 rfl]at d;have A:q<k.Machine.Table.Entries.length:=ω
    rw[g];by_cases E:(q:Int)=p+(i:Nat)
    ·rw[C8 E]
     refine⟨rfl,λu B c b=>?_⟩;rw[g]at c b;by_cases l:(u:Int)=p+(i:Nat)
     ·omega
     ·rw[C7 l]at c b
      exact absurd b (D u (by rw[a.len];exact B) c)
    ·rw[C7 E]
     obtain⟨F,K⟩:=a.new q o ω;refine⟨F,λu B c b=>?_⟩;rw[g]at c b;by_cases l:(u:Int)=p+(i:Nat)
     ·rw[C8 l]at b
      exact absurd b.symm (D q (by rw[a.len];exact A) (by rw[F];decide))
     ·rw[C7 l]at c b
      exact K u B c b
theorem n6.undo{k:af}{p:Int}{i:Nat}{r:af × Nat}(s:n6 k p i r)(h:aA k=true)(d:0<=p/\p+i<=k.Machine.Table.Entries.length)(e:∀q:Nat,p<=q->(q:Int)<p+i->(nth k.Machine.Table.Entries q).Mode=0):aA (dy r.1 p r.2)=true/\tEq k.Machine.Table (dy r.1 p r.2).Machine.Table:=by
 have f:=s.le;have g:=kM s.ker d.1 r.2 (by rw[s.len];omega);refine⟨jo s.ker p r.2,((ew r.1 p r.2).1).trans s.len,λq=>?_⟩;rw[g];split
 ·rename_i a
  have c:=e q a.1 ω;obtain⟨-,-,j,-⟩:=aC.1 h;have b:=(bu.1 j).1 q ω;unfold jF at b;rw[C0]at b;exact⟨⟨λz=>absurd rfl z,λz=>absurd c z⟩,(b.2.2.1 c).symm⟩
 ·rename_i a
  rw[s.out q a];exact⟨Iff.rfl,rfl⟩
theorem Pg.add{t h:aG}{O r:List ax}{sp b:List au}{la d:List a8}{p:Int}{n:Nat}(i:Pg t O sp la)(E:h.Entries.length=t.Entries.length)(S:p+n<=t.Entries.length)(hp:0<=p)(j:∀q:Nat,¬(p<=q/\(q:Int)<p+n)->nth h.Entries q=nth t.Entries q)(a:∀q:Nat,p<=q->(q:Int)<p+n->(nth h.Entries q).Mode=2/\∀u:Nat,u<t.Entries.length->(nth h.Entries u).Mode≠0->(nth h.Entries u).Frame=(nth h.Entries q).Frame->u=q)(J:∀q,RH r q↔RH O q/\¬(p<=q/\q<p+n))(F:∀q,q∈pgs b d↔q∈pgs sp la\/(p<=q/\q<p+n))(w:∀s∈b,0<=s.Page/\(s∈sp\/(p<=s.Page/\s.Page<p+n)))(K:∀l∈d,l∈la\/∀q∈lpgs l l.Pages.toNat,p<=q/\q<p+n):Pg h r b d:=by
 have f:∀q:Nat,q<t.Entries.length->((nth h.Entries q).Mode≠0↔(q:Int)∈pgs b d):=λq c=>by
  rw[F];by_cases e:p<=q/\(q:Int)<p+n
  ·have:=(a q e.1 e.2).1
   exact⟨λ_=>.inr e,λ_=>by rw[this];decide⟩
  ·rw[j q e,i.own q c]
   exact⟨.inl,λz=>z.resolve_right e⟩
 refine⟨λl A q c u k L G=>?_,λq c=>?_,λq c=>f q (by rw[<-E];exact c),λq c=>?_,λs P u k M H=>?_⟩
 ·rw[E]at k
  have B:=eY (sp:=b) A c;have C:q<t.Entries.length:=by
   rcases(F _).1 B with g|g
   ·have:=i.bnd _ g;omega
   ·omega
  by_cases e:p<=q/\(q:Int)<p+n
  ·exact(a q e.1 e.2).2 u k L G
  ·have N:=(K l A).resolve_right λg=>e (g _ c)
   by_cases o:p<=u/\(u:Int)<p+n
   ·exact((a u o.1 o.2).2 q C ((f q C).2 B) G.symm).symm
   ·rw[j q e,j u o]at G
    rw[j u o]at L;exact i.one l N q c u k L G
 ·rw[E]
  rcases(F _).1 c with g|g
  ·exact i.bnd _ g
  ·omega
 ·rw[E]at c
  rw[J];by_cases e:p<=q/\(q:Int)<p+n
  ·have:=(a q e.1 e.2).1
   exact⟨λ_ z=>z.2 e,λ_=>by rw[this];decide⟩
  ·rw[j q e,i.fre q c]
   exact⟨λz y=>z y.1,λz y=>z ⟨y,e⟩⟩
 ·obtain⟨T,U⟩:=w s P
  obtain⟨V,W⟩:=w u k;have D:∀y∈b,0<=y.Page->y.Page.toNat<t.Entries.length/\((y.Page.toNat:Nat):Int)=y.Page/\(nth h.Entries y.Page.toNat).Mode≠0:=λy X Y=>by
   have g:=dl (la:=d) X;have Q:y.Page.toNat<t.Entries.length:=by
    rcases(F _).1 g with R|R
    ·have:=i.bnd _ R;omega
    ·omega
   exact⟨Q,ω,(f _ Q).2 (by rw[show((y.Page.toNat:Nat):Int)=y.Page by omega];exact g)⟩
  obtain⟨Z,sc,sd⟩:=D s P T;obtain⟨ub,uc,ud⟩:=D u k V;by_cases es:p<=s.Page/\s.Page<p+n
  ·have:=(a s.Page.toNat ω ω).2 _ ub ud H.symm
   omega
  ·by_cases o:p<=u.Page/\u.Page<p+n
   ·have:=(a u.Page.toNat ω ω).2 _ Z sd H
    omega
   ·rw[j _ ω,j _ ω]at H
    exact i.mesh s (U.resolve_right es) u (W.resolve_right o) M H
theorem Dg{sp a:List au}{la b:List a8}(c:a.Perm sp)(d:b.Perm la):(pgs a b).Perm (pgs sp la):=by
 unfold pgs;exact(c.map _).append (d.flatMap_right _)
def G9(p:Int)(s:au):Bool:=decide (p<=s.Page)
def Ms(p:Int)(l:a8):Bool:=decide (p<=l.Page)
def addS(h:ab)(k:af)(a:List ax)(p c:Int):ab:={h with Kernel:=k,Free:=a,Spans:=iH (G9 p) h.Spans ⟨p,c,0⟩}
theorem kv{h:ab}{E:List Int}(a:bm h E){n:Int}(j:1<=n)(k:(a7 h.Free n).2.2=true):0<=(a7 h.Free n).2.1/\(a7 h.Free n).2.1+n<=(tbl h).Entries.length/\(∀q:Nat,(a7 h.Free n).2.1<=q->(q:Int)<(a7 h.Free n).2.1+n->(nth (tbl h).Entries q).Mode=0)/\∀q:Int,(a7 h.Free n).2.1<=q->q<(a7 h.Free n).2.1+n->q∉pgs h.Spans h.Larges:=by
 obtain⟨r,l,f,t,o⟩:=l8 a.rng j k;have g:∀q:Nat,(a7 h.Free n).2.1<=q->(q:Int)<(a7 h.Free n).2.1+n->(nth (tbl h).Entries q).Mode=0:=λq b c=>by
  have d:q<(tbl h).Entries.length:=by
   have:(a7 h.Free n).2.1+n<=((tbl h).Entries.length:Nat):=f;omega
  by_cases e:(nth (tbl h).Entries q).Mode=0
  ·exact e
  ·exact absurd (o q b c) ((a.pg.fre q d).1 e)
 refine⟨l,f,g,λq b c i=>?_⟩;have u:=a.pg.bnd q i;obtain⟨m,rfl⟩:=O2 (show 0<=q by omega);have p:=(a.pg.own m ω).2 i;exact p (g m b c)
theorem bm.addS{h:ab}{E:List Int}{c:Int}(a:bm h E)(H:0<=c/\c<=3)(F:(a7 h.Free 1).2.2=true){k:af}(s:y3 h.Kernel (a7 h.Free 1).2.1 (k,true)):bm (addS h k (a7 h.Free 1).1 (a7 h.Free 1).2.1 c) E:=by
 obtain⟨U,G,r3,J,r5⟩:=l8 a.rng (C4 _) F;obtain⟨-,V,u3,W⟩:=kv a (C4 _) F;generalize (a7 h.Free 1).2.1=p at G r3 J r5 V u3 W s |-;generalize (a7 h.Free 1).1=fr at U J |-;obtain⟨f,f1,f2,K,f4⟩:=s.yes rfl;have M:=(bu.1 (aC.1 a.ker).2.2.1).2.2;change (tbl h).Entries.length<=32 at M;have X:=a.L;have N:=jw (G9 p) h.Spans ⟨p,c,0⟩;have O:=Dg N (List.Perm.refl h.Larges);have w:(pgs (iH (G9 p) h.Spans ⟨p,c,0⟩) h.Larges).Perm (p::pgs h.Spans h.Larges):=O;have B:p∉pgs h.Spans h.Larges:=W p (C4 _) ω;have P:∀z∈h.Spans,z.Page≠p:=λz g e=>B (by rw[<-e];exact dl g)
 have i:∀b d,iR (iH (G9 p) h.Spans ⟨p,c,0⟩) b d↔iR h.Spans b d:=λb d=>by
  constructor
  ·rintro⟨s,C,A,Q⟩
   rcases db.1 C with rfl|C
   ·exact absurd A (zG rfl b)
   ·exact⟨s,C,A,Q⟩
  ·rintro⟨s,C,A⟩
   exact⟨s,db.2 (.inr C),A⟩
 exact {a with
   ker:=s.ker
   rng:=by show br ((k.Machine.Table.Entries.length:Nat):Int) fr=true;rw[s.len];exact U
   lay:=by
     obtain⟨l1,l2,l3⟩:=dd a.lay;unfold bj;simp only[I0,C0];refine⟨⟨Q3.2 λz g=>?_,l2⟩,w.nodup_iff.2 (List.nodup_cons.2 ⟨B,l3⟩)⟩;rcases db.1 g with rfl|g
     · have R:0<=lim c:=by
         have:=(fU H).1;obtain rfl|rfl|rfl|rfl:c=0\/c=1\/c=2\/c=3:=ω
         all_goals decide
       exact O0 ⟨G,by show p<=31;omega,H.1,H.2,C4 _,R⟩
     · exact X.sok z g
   srs:=jU (f:=λz:au=>z.Page) (y:=⟨p,c,0⟩) a.srs P
   pg:=by
     refine a.pg.add (p:=p) (n:=1) s.len (by exact V) G (λq Y=>?_) (λq q1 q2=>?_) (λq=>J q) (λq=>?_) (λz g=>?_) (λl hl=>.inl hl)
     · exact(K q).trans (C7 ω)
     · have Y:(q:Int)=p:=ω
       have Z:nth k.Machine.Table.Entries q = ⟨2,(f:Nat)⟩:=(K q).trans (C8 Y);refine⟨T0 bh.Mode Z,λu S t r=>?_⟩;have fu:nth k.Machine.Table.Entries u=if(u:Int)=p then⟨2,(f:Nat)⟩ else nth h.Kernel.Machine.Table.Entries u:=K u
       change (nth k.Machine.Table.Entries u).Mode≠0 at t;change (nth k.Machine.Table.Entries u).Frame=(nth k.Machine.Table.Entries q).Frame at r;rw[fu]at t r;rw[Z]at r;by_cases eu:(u:Int)=p
       · omega
       · rw[C7 eu]at t r
         exact absurd r (f4 u S t)
     · show q∈pgs (iH (G9 p) h.Spans ⟨p,c,0⟩) h.Larges↔_
       rw[w.mem_iff,List.mem_cons];constructor
       · rintro(e|e)
         · exact .inr ⟨ω,ω⟩
         · exact .inl e
       · rintro(e|e)
         · exact .inr e
         · exact .inl ω
     · rcases db.1 g with rfl|g
       · exact⟨G,.inr ⟨C4 _,by show p<p+((1:Nat):Int);omega⟩⟩
       · exact⟨(aE (X.sok z g)).1,.inl g⟩
   oow:=λo F=>by
     rcases a.oow o F with⟨z,g,A,Q⟩|A
     · exact .inl ⟨z,db.2 (.inr g),A,Q⟩
     · exact .inr A
   hca:=λd hd j hj b D=>(i b j).2 (a.hca d hd j hj b D)
   hqu:=λy T=>(i _ _).2 (a.hqu y T)
   hfl:=λb D=>(i _ _).2 (a.hfl b D)
   hin:=λb D=>(i _ _).2 (a.hin b D)
   mem:=λb=>(a.mem b).trans (by
     show ll h.Spans h.Larges b↔ll (iH (G9 p) h.Spans ⟨p,c,0⟩) h.Larges b;unfold ll;rw[i])
   job:=λhm=>by
     obtain⟨j1,⟨y,T,e1⟩,⟨u,S,e2⟩⟩:=a.job hm;exact⟨j1,⟨y,db.2 (.inr T),e1⟩,⟨u,db.2 (.inr S),e2⟩⟩}
def addL(h:ab)(k:af)(a:List ax)(p n size t:Int):ab:={h with Kernel:=k,Free:=a,Larges:=iH (Ms p) h.Larges ⟨p,n,size⟩,Objs:=iH (KO (16*p)) h.Objs ⟨h.Next,16*p,size,t⟩,Next:=h.Next+1}
theorem bm.addL{h:ab}{E:List Int}{size t:Int}{n:Nat}(a:bm h E)(g:9<=size/\size<=1000)(J:(n:Int)=(size+15) / 16)(i:(a7 h.Free n).2.2=true){k:af}(s:n6 h.Kernel (a7 h.Free n).2.1 n (k,n))(hn:h.Next<1000000)(ht:0<=t/\t<=h.Caches.length - 1) :
  bm (addL h k (a7 h.Free n).1 (a7 h.Free n).2.1 n size t) E:=by
 have B:(1:Int)<=n:=ω
 obtain⟨V,K,r3,M,r5⟩:=l8 a.rng B i;obtain⟨-,W,u3,H⟩:=kv a B i;generalize (a7 h.Free n).2.1=p at K r3 M r5 W u3 H s |-;generalize (a7 h.Free n).1=fr at V M |-;have N:=(bu.1 (aC.1 a.ker).2.2.1).2.2;change (tbl h).Entries.length<=32 at N;have O:=a.L;have P:=jw (Ms p) h.Larges ⟨p,n,size⟩;have C:=jw (KO (16*p)) h.Objs ⟨h.Next,16*p,size,t⟩;have Q:lpgs ⟨p,n,size⟩ ((n:Nat):Int).toNat=lpgs ⟨p,n,size⟩ n:=by rw[I2]
 have D:(pgs h.Spans (iH (Ms p) h.Larges ⟨p,n,size⟩)).Perm (lpgs ⟨p,n,size⟩ n++pgs h.Spans h.Larges):=by
  refine(Dg (List.Perm.refl h.Spans) P).trans ?_;unfold pgs;rw[O5];simp only[Q];rw[<-V4,<-V4];exact List.perm_append_comm.append_right _
 have u:∀q,q∈lpgs ⟨p,n,size⟩ n↔p<=q/\q<p+n:=λq=>by
  rw[dc];constructor
  ·rintro⟨j,hj,rfl⟩;exact⟨by show p<=p+(j:Int);omega,by show p+(j:Int)<_;omega⟩
  ·rintro⟨X,Y⟩;exact⟨(q - p).toNat,ω,by show q=p+_;omega⟩
 have R:(lpgs ⟨p,n,size⟩ n).Nodup:=by
  unfold lpgs List.Nodup;rw[List.pairwise_map];exact List.nodup_range.imp λr e=>r (by simp only at e;omega)
 have r:∀z∈h.Larges,z.Page≠p:=λz g e=>H p (C4 _) ω (by rw[<-e];exact eY g (dc.2 ⟨0,by have:=aT (O.lok z g);omega,ω⟩))
 have S:¬ll h.Spans h.Larges (16*p):=by
  rintro(⟨z,g,d,-⟩|⟨l,c,e⟩)
  ·exact H p (C4 _) ω (by rw[show p=z.Page by have a1:=d.1;have a2:=d.2.1;omega];exact dl g)
  ·exact r l c ω
 have F:(16*p)∉E++holders h:=λT=>S ((a.mem _).1 T)
 have U:∀o∈h.Objs,o.Addr≠16*p:=λo i e=>F (Q2.2 (.inr (by unfold holders;simp only[Q2];exact .inl (.inl (.inl (V3.2 ⟨o,i,e⟩))))))
 have Z:(E++holders (Ab.addL h k fr p n size t)).Perm ((16*p)::(E++holders h)):=by
  have h0:=C.map (·.Addr);refine List.perm_iff_count.2 λb=>?_
  have d:=h0.count_eq b;simp only[Y4,List.count_cons]at d;simp only[holders,ce,Ab.addL,Z4,List.count_cons];omega
 exact {a with
   ker:=s.ker
   rng:=by show br ((k.Machine.Table.Entries.length:Nat):Int) fr=true;rw[s.len];exact V
   lay:=by
     obtain⟨l1,l2,l3⟩:=dd a.lay;unfold bj;simp only[I0,C0];refine⟨⟨l1,Q3.2 λz w=>?_⟩,D.nodup_iff.2 (List.nodup_append.2 ⟨R,l3,λq G b hb e=>?_⟩)⟩
     · rcases db.1 w with rfl|w
       · exact O0 ⟨g.1,g.2,J,K,by show p<=32 - (n:Int);omega⟩
       · exact O.lok z w
     · subst e
       have:=(u q).1 G;exact H q this.1 this.2 hb
   srl:=jU (f:=λz:a8=>z.Page) (y:=⟨p,n,size⟩) a.srl r
   pg:=by
     refine a.pg.add (p:=p) (n:=n) s.len (by exact W) K (λq G=>s.out q G) (λq X Y=>s.new q X Y) (λq=>M q) (λq=>?_) (λz g=>⟨(aE (O.sok z g)).1,.inl g⟩) (λl c=>?_)
     · show q∈pgs h.Spans (iH (Ms p) h.Larges ⟨p,n,size⟩)↔_
       rw[D.mem_iff,Q2,u];exact Or.comm
     · rcases db.1 c with rfl|c
       · exact .inr λq G=>(u q).1 (by simpa using G)
       · exact .inl c
   nums:=yj a.nums hn
   osr:=jU (f:=λo:bH=>o.Addr) (y:=⟨h.Next,16*p,size,t⟩) a.osr U
   onu:=λo i=>by
     rcases db.1 i with rfl|i
     · have:=a.nums
       unfold cm at this;rw[C0]at this;exact⟨by show 1<=h.Next;omega,by show h.Next<=h.Next+1 - 1;omega,ht⟩
     · have:=a.onu o i
       exact⟨this.1,by show o.Id<=h.Next+1 - 1;omega,this.2.2⟩
   oid:=by
     show((iH (KO (16*p)) h.Objs ⟨h.Next,16*p,size,t⟩).map (·.Id)).Nodup;rw[(C.map _).nodup_iff,Y4];refine List.nodup_cons.2 ⟨λT=>?_,a.oid⟩;obtain⟨o,i,e⟩:=V3.1 T;have:=(a.onu o i).2.1;simp only at e;omega
   oow:=λo A=>by
     rcases db.1 A with rfl|A
     · exact .inr ⟨_,db.2 (.inl rfl),rfl,rfl⟩
     · rcases a.oow o A with d|⟨l,c,d⟩
       · exact .inl d
       · exact .inr ⟨l,db.2 (.inr c),d⟩
   nd:=Z.nodup_iff.2 (List.nodup_cons.2 ⟨F,a.nd⟩)
   mem:=λb=>by
     rw[Z.mem_iff,List.mem_cons,a.mem b];show _↔ll h.Spans (iH (Ms p) h.Larges ⟨p,n,size⟩) b;unfold ll;constructor
     · rintro(rfl|d|⟨l,c,e⟩)
       · exact .inr ⟨_,db.2 (.inl rfl),rfl⟩
       · exact .inl d
       · exact .inr ⟨l,db.2 (.inr c),e⟩
     · rintro(d|⟨l,c,e⟩)
       · exact .inr (.inl d)
       · rcases db.1 c with rfl|c
         · exact .inl e
         · exact .inr (.inr ⟨l,c,e⟩)}
structure JK(h h':ab):Prop where
 job:h'.Job=h.Job
 msh:h'.Meshing=h.Meshing
 sp:∀s∈h.Spans,dZ h s.Page=true->∃s'∈h'.Spans,s'.Page=s.Page/\∀u,meshable s u=true->meshable s' u=true
 ent:∀q:Nat,(nth (tbl h').Entries q).Mode≠0->((nth (tbl h).Entries q).Mode≠0/\(nth (tbl h').Entries q).Frame=(nth (tbl h).Entries q).Frame)\/∀u:Nat,(nth (tbl h').Entries u).Mode≠0->(nth (tbl h').Entries u).Frame=(nth (tbl h').Entries q).Frame->u=q
theorem JK.refl(h:ab):JK h h:=⟨rfl,rfl,λs a _=>⟨s,a,rfl,λ_ z=>z⟩,λ_ b=>.inl ⟨b,rfl⟩⟩
theorem JK.pg{h h':ab}(k:JK h h')(p:Int):dZ h' p=dZ h p:=by unfold dZ;rw[k.job,k.msh]
theorem JK.trans{h h1 g:ab}(a:JK h h1)(b:JK h1 g):JK h g:=by
 refine⟨b.job.trans a.job,b.msh.trans a.msh,λs o i=>?_,λq j=>?_⟩
 ·obtain⟨p,r,k,t⟩:=a.sp s o i
  obtain⟨w,y,A,B⟩:=b.sp p r (by rw[a.pg,k];exact i);exact⟨w,y,A.trans k,λu c=>B u (t u c)⟩
 ·rcases b.ent q j with⟨d,l⟩|d
  ·rcases a.ent q d with⟨e,C⟩|e
   ·exact .inl ⟨e,l.trans C⟩
   ·refine .inr λu c n=>?_
    rcases b.ent u c with⟨f,D⟩|f
    ·exact e u f (by rw[<-D,<-l];exact n)
    ·exact(f q j n.symm).symm
  ·exact .inr d
theorem mT.keep{h h':ab}{p:Int}(f:0<=p)(d:(nth (tbl h').Entries p.toNat).Mode≠0)(g:mT (tbl h) p)(k:JK h h'):mT (tbl h') p:=λq e c=>by
 rcases k.ent p.toNat d with⟨n,i⟩|a
 ·rcases k.ent q e with⟨j,l⟩|b
  ·exact g q j (by rw[<-l,c,i])
  ·have:=b p.toNat d c.symm;omega
 ·have:=a q e c;omega
theorem bm.mapped{h:ab}{E:List Int}(a:bm h E){s:au}(b:s∈h.Spans):0<=s.Page/\s.Page<(tbl h).Entries.length/\(nth (tbl h).Entries s.Page.toNat).Mode≠0:=by
 have c:=(aE (a.L.sok s b)).1;have d:=a.pg.bnd _ (dl (la:=h.Larges) b);refine⟨c,d,(a.pg.own s.Page.toNat ω).2 ?_⟩;rw[show((s.Page.toNat:Nat):Int)=s.Page by omega];exact dl b
theorem JI.keep{h h':ab}{E:List Int}(l:JI h)(p:bm h' E)(k:JK h h'):JI h':=by
 have d:h.Meshing=true->∃a∈h'.Spans,∃b∈h'.Spans,a.Page=h.Job.Plan.Keep/\b.Page=h.Job.Plan.Move/\meshable a b=true:=λc=>by
  obtain⟨a,n,b,o,f,g,e⟩:=l.sp c;obtain⟨q,t,u,w⟩:=k.sp a n (by unfold dZ;rw[c,f];simp);obtain⟨y,A,B,C⟩:=k.sp b o (by unfold dZ;rw[c,g];simp);refine⟨q,t,y,A,u.trans f,B.trans g,?_⟩;have r:=w b e;rw[i6]at r |-;exact C q r
 refine⟨λc=>?_,λc=>?_,λc=>?_,λc=>?_⟩
 ·rw[k.msh]at c;rw[k.job];exact l.ph c
 ·rw[k.msh]at c;rw[k.job];exact d c
 ·rw[k.msh]at c
  obtain⟨a,n,b,o,f,g,e⟩:=d c;obtain⟨i,D,j⟩:=p.mapped n;rw[k.job];rw[f]at i j;exact(l.sk c).keep i j k
 ·rw[k.msh]at c
  obtain⟨a,n,b,o,f,g,e⟩:=d c;obtain⟨i,D,j⟩:=p.mapped o;rw[k.job];rw[g]at i j;exact(l.sm c).keep i j k
theorem JK.less{h h':ab}(h1:h'.Job=h.Job)(c:h'.Meshing=h.Meshing)(d:h'.Spans=h.Spans)(b:∀q:Nat,(nth (tbl h').Entries q).Mode≠0->nth (tbl h').Entries q=nth (tbl h).Entries q):JK h h':=
 ⟨h1,c,λs e _=>⟨s,by rw[d];exact e,rfl,λ_ z=>z⟩,λq a=>.inl ⟨by rw[<-b q a];exact a,by rw[b q a]⟩⟩
theorem JK.eq{h h':ab}(h1:h'.Job=h.Job)(a:h'.Meshing=h.Meshing)(b:h'.Spans=h.Spans)(c:tbl h'=tbl h):JK h h':=.less h1 a b λq _=>by rw[c]
theorem JK.clrS{h:ab}{E:List Int}{a:Int}{i:Nat}(f:bm h E)(c:i<h.Spans.length)(d:eS (nth h.Spans i) a):JK h (clrS h i a):=by
 refine⟨rfl,rfl,λs g _=>?_,λq k=>.inl ⟨k,rfl⟩⟩;obtain⟨j,l,rfl⟩:=bc g;by_cases e:j=i
 ·subst e
  have b:=f.L.sok _ (am c);exact⟨_,hO _ c,rfl,λu n=>rx b (rc b ⟨d.1,d.2.1⟩) n⟩
 ·exact⟨_,iL _ l e,rfl,λ_ z=>z⟩
theorem JK.giveP{h:ab}{E:List Int}{i:Nat}(d:bm h E)(f:i<h.Spans.length)(c:dZ h (nth h.Spans i).Page=false):JK h (giveP h i):=by
 obtain⟨g,k,-⟩:=d.mapped (am f);refine⟨rfl,rfl,λs l a=>?_,λq b=>.inl ?_⟩
 ·obtain⟨j,n,rfl⟩:=bc l
  exact⟨_,dU.2 ⟨j,n,λe=>(by subst e;rw[c]at a;cases a),rfl⟩,rfl,λ_ z=>z⟩
 ·have o:=vj d.ker (p:=(nth h.Spans i).Page) ⟨g,k⟩ q
  change (nth (cb h.Kernel (nth h.Spans i).Page).Machine.Table.Entries q).Mode≠0 at b;show(nth h.Kernel.Machine.Table.Entries q).Mode≠0/\(nth (cb h.Kernel (nth h.Spans i).Page).Machine.Table.Entries q).Frame=(nth h.Kernel.Machine.Table.Entries q).Frame;rw[o]at b |-;split at b
  ·exact absurd rfl b
  ·rename_i e
   rw[C7 e];exact⟨b,rfl⟩
theorem JK.freeS{h:ab}{E:List Int}{a:Int}{i:Nat}(c:bm h (a::E))(b:i<h.Spans.length)(d:eS (nth h.Spans i) a):JK h (freeS h i a):=by
 have g:=c.give b d;have f:=JK.clrS c b d;unfold Ab.freeS;split
 ·rename_i e
  have j:nth (Ab.clrS h i a).Spans i=lD (nth h.Spans i) (dL (nth h.Spans i) a):=by unfold Ab.clrS;simp only[cB,true_and];rw[C8 b]
  exact f.trans (JK.giveP (h:=Ab.clrS h i a) g (by unfold Ab.clrS;simp only[C1];exact b) (by rw[j];exact e.2))
 ·exact f
theorem JK.freeA{h:ab}{E:List Int}{a:Int}(b:bm h (a::E)):JK h (freeA h a):=by
 obtain⟨c,d,-⟩:=b.at (b.hin a (O1 ..));exact JK.freeS b c d
theorem JK.recyc{h:ab}{E:List Int}{a:Int}{t:Nat}(b:bm h (a::E)):JK h (recyc t h a):=by
 unfold Ab.recyc;split
 ·exact JK.eq rfl rfl rfl rfl
 ·exact JK.freeA b
theorem JK.recycs{t:Nat}{E:List Int} : ∀{az:List Int}{h:ab},bm h (az++E)->t<h.Caches.length->JK h (recycs t h az)
 | [],h,_,_=>JK.refl h
 | a::az,h,b,c=>(JK.recyc (t:=t) b).trans (JK.recycs (az:=az) (h:=Ab.recyc t h a) (b.recyc c) (by rw[(pD t h a).1];exact c))
theorem JK.freeAs{E:List Int} : ∀{az:List Int}{h:ab},bm h (az++E)->JK h (freeAs h az)
 | [],h,_=>JK.refl h
 | a::az,h,b=>(JK.freeA b).trans (JK.freeAs (az:=az) (h:=Ab.freeA h a) b.freeA)
theorem JK.flushN{t:Nat}{h:ab}(c:bm h [])(d:t<h.Caches.length):∀{k:Nat},k<=4->JK h (flushN t h k).1
 | 0,_=>JK.refl h
 | k+1,e=>by
  obtain⟨h1,f,-⟩:=jQ c d (k:=k) ω;have a:t<(Ab.flushN t h k).1.Caches.length:=ω
  have b:k<(nth (Ab.flushN t h k).1.Caches t).Lists.length:=by rw[(dX (h1.cach _ (am a))).1];omega
  exact JK.trans (h1:=Ab.spilt (Ab.flushN t h k).1 t k) ((JK.flushN c d (k:=k) ω).trans (JK.eq rfl rfl rfl rfl)) (JK.freeAs (h1.spilt a b))
theorem z8{h:ab}{E:List Int}(a:bm h E){k:Nat}(b:k<h.Larges.length):0<=(nth h.Larges k).Page/\(nth h.Larges k).Page+((nth h.Larges k).Pages.toNat:Nat)<=(tbl h).Entries.length:=by
 have c:=aT (a.L.lok _ (am b));have d:=a.pg.bnd _ (eY (sp:=h.Spans) (am b) (dc.2 ⟨(nth h.Larges k).Pages.toNat - 1,ω,rfl⟩));exact⟨ω,ω⟩
theorem JK.freeL{h:ab}{E:List Int}{i k:Nat}(b:bm h E)(c:k<h.Larges.length):JK h (freeL h i k):=by
 obtain⟨d,f⟩:=z8 b c;refine JK.less rfl rfl rfl λq a=>?_
 have g:=kM b.ker d (nth h.Larges k).Pages.toNat f q;change (nth (dy h.Kernel (nth h.Larges k).Page (nth h.Larges k).Pages.toNat).Machine.Table.Entries q).Mode≠0 at a;show nth (dy h.Kernel (nth h.Larges k).Page (nth h.Larges k).Pages.toNat).Machine.Table.Entries q=nth h.Kernel.Machine.Table.Entries q;rw[g]at a |-;split at a
 ·exact absurd rfl a
 ·rename_i e;rw[C7 e]
theorem JK.freeOb{h:ab}{t i:Nat}(a:bm h [])(c:i<h.Objs.length)(d:t<h.Caches.length):JK h (freeOb h t i).1:=by
 unfold Ab.freeOb;split
 ·rename_i b
  obtain⟨l,e,h1,-⟩:=(eP a (am c)).1 b;exact JK.freeL a (zr e h1).1
 ·rename_i b
  split
  ·exact JK.refl h
  ·have h1:=a.inQuar c b
   exact JK.trans (h1:=Ab.inQuar h i) (JK.eq rfl rfl rfl rfl) (JK.recycs (E:=[]) (by rw[List.append_nil];exact h1) d)
theorem JK.take{h:ab}{i:Nat}{k sd:Int}(b:dZ h (nth h.Spans i).Page=false):JK h {h with Seed:=sd,Spans:=h.Spans.set i (pp (nth h.Spans i) k)}:=by
 refine⟨rfl,rfl,λs c a=>?_,λq d=>.inl ⟨d,rfl⟩⟩;obtain⟨j,f,rfl⟩:=bc c;exact⟨_,iL _ f λe=>(by subst e;rw[b]at a;cases a),rfl,λ_ z=>z⟩
theorem zm{t:aG}{q:Nat}(h:(nth t.Entries q).Mode≠0):q<t.Entries.length:=by
 by_cases e:q<t.Entries.length
 ·exact e
 ·exfalso
  apply h;unfold nth;rw[C2,Z1 ω]
  rfl
theorem JK.addS{h:ab}{k:af}{l:List ax}{p c:Int}(s:y3 h.Kernel p (k,true)):JK h (addS h k l p c):=by
 obtain⟨f,t,w,d,n⟩:=s.yes rfl;have b:k.Machine.Table.Entries.length=h.Kernel.Machine.Table.Entries.length:=s.len;refine⟨rfl,rfl,λz o _=>⟨z,db.2 (.inr o),rfl,λ_ y=>y⟩,λq g=>?_⟩;change (nth k.Machine.Table.Entries q).Mode≠0 at g;show((nth h.Kernel.Machine.Table.Entries q).Mode≠0/\(nth k.Machine.Table.Entries q).Frame=(nth h.Kernel.Machine.Table.Entries q).Frame)\/∀u:Nat,(nth k.Machine.Table.Entries u).Mode≠0->(nth k.Machine.Table.Entries u).Frame=(nth k.Machine.Table.Entries q).Frame->u=q
 by_cases e:(q:Int)=p
 ·refine .inr λu i a=>?_
  have j:=zm i;have f3u:=d u;have f3q:=d q;simp only at f3u f3q;rw[C8 e]at f3q;rw[f3q]at a;by_cases r:(u:Int)=p
  ·omega
  ·rw[C7 r]at f3u
   rw[f3u]at i a;exact absurd a (n u (by rw[<-b];exact j) i)
 ·have f3q:=d q
  simp only at f3q;rw[C7 e]at f3q;rw[f3q]at g |-;exact .inl ⟨g,rfl⟩
theorem JK.addL{h:ab}{k:af}{g:List ax}{p size t:Int}{n:Nat}(s:n6 h.Kernel p n (k,n)):JK h (addL h k g p n size t):=by
 have a:k.Machine.Table.Entries.length=h.Kernel.Machine.Table.Entries.length:=s.len;refine⟨rfl,rfl,λz i _=>⟨z,i,rfl,λ_ y=>y⟩,λq b=>?_⟩;change (nth k.Machine.Table.Entries q).Mode≠0 at b;show((nth h.Kernel.Machine.Table.Entries q).Mode≠0/\(nth k.Machine.Table.Entries q).Frame=(nth h.Kernel.Machine.Table.Entries q).Frame)\/∀u:Nat,(nth k.Machine.Table.Entries u).Mode≠0->(nth k.Machine.Table.Entries u).Frame=(nth k.Machine.Table.Entries q).Frame->u=q
 by_cases e:p<=q/\(q:Int)<p+n
 ·exact .inr λu d c=>(s.new q e.1 e.2).2 u (by rw[<-a];exact zm d) d c
 ·have f:=s.out q e
  simp only at f;rw[f]at b |-;exact .inl ⟨b,rfl⟩
theorem rG(h:ab):∀{n:Nat},n<=h.Spans.length->∀s∈kq h n,(aS h s.Page).length=1
 | 0,_,s,a=>by cases a
 | n+1,b,s,a=>by
  unfold kq at a;split at a
  ·rename_i e
   rcases Q2.1 a with a|a
   ·exact rG h ω s a
   ·unfold xR at e
    simp only[I0,C0]at e;rw[Z0.1 a];exact e.2
  ·exact rG h ω s a
theorem bm.sole{h:ab}{E:List Int}(e:bm h E){s:au}(f:s∈h.Spans)(h1:(aS h s.Page).length=1):mT (tbl h) s.Page:=λq a g=>by
 obtain⟨k,l,b⟩:=e.mapped f;have i:s.Page=((s.Page.toNat:Nat):Int):=ω
 rw[i,ee (by show s.Page.toNat<(tbl h).Entries.length;omega) b]at h1;obtain⟨z,j⟩:=List.length_eq_one_iff.1 h1;have c:(s.Page.toNat:Int)∈pagesOn (tbl h) (nth (tbl h).Entries s.Page.toNat).Frame:=dv.2 ⟨ω,b,rfl⟩;have d:(q:Int)∈pagesOn (tbl h) (nth (tbl h).Entries s.Page.toNat).Frame:=dv.2 ⟨zm a,a,g⟩;rw[j]at c d;simp only[Z0]at c d;omega
theorem Dx{h:ab}(l:bm h [])(n:h.Meshing=false):bm (started h).1 []/\JI (started h).1:=by
 have G:=l.nums;unfold cm at G;rw[C0]at G;have M:=(kO (bJ h).length (show 0<=h.Seed/\h.Seed<=1073741823 by omega) ((bJ h).length - 1)).2;have o:=pA (bJ h) (show 0<=h.Seed/\h.Seed<=1073741823 by omega);have c:cm {h with Seed:=(shuf (bJ h).length h.Seed).2} = true:=by
  unfold cm;rw[C0];unfold shuf;simp only;omega
 cases p:l7 (bJ h) h.Seed with
 | nil=>
  have f:Ab.started h=({h with Seed:=(shuf (bJ h).length h.Seed).2},false):=by unfold Ab.started;rw[p]
  rw[f];exact⟨{l with nums:=c},⟨λe=>by simp[n]at e,λe=>by simp[n]at e,λe=>by simp[n]at e,λe=>by simp[n]at e⟩⟩
 | cons q R=>
  obtain⟨S,T,g⟩:=o q (by rw[p];exact O1 ..);have f:Ab.started h=({h with Seed:=(shuf (bJ h).length h.Seed).2,Meshing:=true,Job:=uv (d4 (nth (bJ h) q.A.toNat) (nth (bJ h) q.B.toNat))},true):=by unfold Ab.started;rw[p]
  rw[f];have d:∀s∈bJ h,s∈h.Spans/\mT (tbl h) s.Page:=λs N=>by
   have H:=List.mem_of_mem_take N;have J:=nN h (R2 _) s H;exact⟨J,l.sole J (rG h (R2 _) s H)⟩
  have j:=d _ (am (xs:=bJ h) (i:=q.A.toNat) ω);have k:=d _ (am (xs:=bJ h) (i:=q.B.toNat) ω);generalize nth (bJ h) q.A.toNat=a at g j |-;generalize nth (bJ h) q.B.toNat=b at g k |-;obtain⟨O,U,V⟩:=qX g;have r:(d4 a b).Keep=a.Page/\(d4 a b).Move=b.Page\/(d4 a b).Keep=b.Page/\(d4 a b).Move=a.Page:=by
   unfold d4;split
   ·exact .inr ⟨rfl,rfl⟩
   ·exact .inl ⟨rfl,rfl⟩
  have t:iG (uv (d4 a b))=true:=fm.2 ⟨O,by show(0:Int)<=0;omega,by show(0:Int)<=5;omega,by show(0:Int)<=0;omega,by show(0:Int)<=(((d4 a b).Cells.length:Nat):Int);omega⟩;have u:∃x∈h.Spans,∃y∈h.Spans,x.Page=(d4 a b).Keep/\y.Page=(d4 a b).Move/\meshable x y=true/\mT (tbl h) x.Page/\mT (tbl h) y.Page:=by
   rcases r with⟨w,C⟩|⟨w,C⟩
   ·exact⟨a,j.1,b,k.1,w.symm,C.symm,g,j.2,k.2⟩
   ·exact⟨b,k.1,a,j.1,w.symm,C.symm,by rw[i6];exact g,k.2,j.2⟩
  obtain⟨x,K,y,L,D,E,F,P,Q⟩:=u;exact⟨{l with nums:=c,job:=λ_=>⟨t,⟨x,K,D⟩,⟨y,L,E⟩⟩,noj:=λe=>by cases e},⟨λ_=>⟨by show(0:Int)<=0;omega,by show(0:Int)<=3;omega⟩,λ_=>⟨x,K,y,L,D,E,F⟩,λ_=>by show mT (tbl h) (d4 a b).Keep;rw[<-D];exact P,λ_=>by show mT (tbl h) (d4 a b).Move;rw[<-E];exact Q⟩⟩
def fw(m:aH)(f:Nat):aH:=⟨m.Buffers.set f ((nth m.Buffers f).drop 1),m.Inbox.set (nth (nth m.Buffers f) 0).To.toNat (nth m.Inbox (nth (nth m.Buffers f) 0).To.toNat++[(nth (nth m.Buffers f) 0).Addr])⟩
def ku(m:aH)(t:Nat):aH:=⟨m.Buffers,m.Inbox.set t []⟩
def gl(m:aH)(f:Nat)(p:cW):aH:=⟨m.Buffers.set f (nth m.Buffers f++[p]),m.Inbox⟩
theorem d5{m:aH} : bE m=true↔(1<=m.Buffers.length/\m.Buffers.length<=4/\m.Inbox.length=m.Buffers.length)/\(∀i,i<m.Buffers.length->(∀p∈nth m.Buffers i,0<=p.To/\p.To<=(m.Buffers.length:Int) - 1/\0<=p.Addr)/\∀a∈nth m.Inbox i,0<=a)/\bn m m.Buffers.length<=30:=by
 unfold bE;simp only[I0,C0,cw,fV,Q3,mb,Mj];exact and_assoc
theorem n9(m:aH)(f t:Nat)(x:List cW)(y:List Int)(g:f<m.Buffers.length)(h:t<m.Inbox.length):∀n:Nat,bn ⟨m.Buffers.set f x,m.Inbox.set t y⟩ n=bn m n+(if f<n then(x.length:Int) - ((nth m.Buffers f).length:Nat) else 0)+(if t<n then(y.length:Int) - ((nth m.Inbox t).length:Nat) else 0)
 | 0=>by simp[bn]
 | n+1=>by
  have i:=n9 m f t x y g h n;have j:(nth (m.Buffers.set f x) n).length=if f=n then x.length else(nth m.Buffers n).length:=by
   rw[cB];by_cases e:f=n
   ·rw[C8 ⟨e,ω⟩,C8 e]
   ·rw[C7 λz=>e z.1,C7 e]
  have k:(nth (m.Inbox.set t y) n).length=if t=n then y.length else(nth m.Inbox n).length:=by
   rw[cB];by_cases e:t=n
   ·rw[C8 ⟨e,ω⟩,C8 e]
   ·rw[C7 λz=>e z.1,C7 e]
  simp only[bn,i,j,k];by_cases d:f=n
  ·subst d
   by_cases b:t=f
   ·subst b
    simp only[if_true,Nat.lt_irrefl,if_false,Nat.lt_succ_self];omega
   ·simp only[if_true,Nat.lt_irrefl,if_false,Nat.lt_succ_self,C7 b]
    by_cases a:t<f
    ·rw[C8 a,C8 (show t<f+1 by omega)];omega
    ·rw[C7 a,C7 (show ¬t<f+1 by omega)];omega
  ·by_cases b:t=n
   ·subst b
    simp only[if_true,Nat.lt_irrefl,if_false,Nat.lt_succ_self,C7 d];by_cases a:f<t
    ·rw[C8 a,C8 (show f<t+1 by omega)];omega
    ·rw[C7 a,C7 (show ¬f<t+1 by omega)];omega
   ·simp only[C7 d,C7 b]
    by_cases a:f<n
    ·rw[C8 a,C8 (show f<n+1 by omega)]
     by_cases c:t<n
     ·rw[C8 c,C8 (show t<n+1 by omega)];omega
     ·rw[C7 c,C7 (show ¬t<n+1 by omega)];omega
    ·rw[C7 a,C7 (show ¬f<n+1 by omega)]
     by_cases c:t<n
     ·rw[C8 c,C8 (show t<n+1 by omega)];omega
     ·rw[C7 c,C7 (show ¬t<n+1 by omega)];omega
theorem Md{α:Type}[Inhabited α]{xs:List α}{i:Nat}(h:i<xs.length):xs.set i (nth xs i)=xs:=by
 rw[<-V1.1 (ah h) |>.2];exact List.set_getElem_self h
theorem BF{m:aH}(h:bE m=true){f:Nat}(d:f<m.Buffers.length)(n:0<(nth m.Buffers f).length):bE (fw m f)=true:=by
 obtain⟨⟨o,q,r⟩,g,y⟩:=d5.1 h;obtain⟨t,A⟩:=g f d;have c:=t _ (am n);have u:(nth (nth m.Buffers f) 0).To.toNat<m.Inbox.length:=ω
 refine d5.2 ⟨⟨?_,?_,?_⟩,λi j=>?_,?_⟩
 ·simp only[fw,C1];exact o
 ·simp only[fw,C1];exact q
 ·simp only[fw,C1];exact r
 ·simp only[fw,C1]at j |-
  obtain⟨k,l⟩:=g i j;simp only[cB];refine⟨λp c=>?_,λa b=>?_⟩
  ·split at c
   ·rename_i e;rw[<-e.1]at k
    refine(g f d).1 p (List.mem_of_mem_drop c)
   ·exact k p c
  ·split at b
   ·rename_i e
    rcases Q2.1 b with b|b
    ·rw[e.1]at b;exact l a b
    ·rw[Z0.1 b];exact c.2.2
   ·exact l a b
 ·have w:=n9 m f (nth (nth m.Buffers f) 0).To.toNat ((nth m.Buffers f).drop 1) (nth m.Inbox (nth (nth m.Buffers f) 0).To.toNat++[(nth (nth m.Buffers f) 0).Addr]) d u m.Buffers.length
  simp only[fw,C1];rw[w,C8 d,C8 ω,X2,W2,List.length_singleton];omega
theorem Lz{m:aH}(h:bE m=true){t:Nat}(d:t<m.Inbox.length):bE (ku m t)=true:=by
 obtain⟨⟨e,f,g⟩,j,o⟩:=d5.1 h;refine d5.2 ⟨⟨e,f,?_⟩,λi k=>?_,?_⟩
 ·simp only[ku,C1];exact g
 ·obtain⟨l,n⟩:=j i k
  simp only[ku,cB];refine⟨l,λa b=>?_⟩;split at b
  ·cases b
  ·exact n a b
 ·have c:=n9 m t t (nth m.Buffers t) [] ω d m.Buffers.length
  rw[Md ω]at c;show bn ⟨m.Buffers,m.Inbox.set t []⟩ m.Buffers.length<=30;rw[c,C8 ω,C8 ω,List.length_nil];omega
theorem jt{m:aH}(h:bE m=true)(b:Int):(aJ m).count b=(m.Buffers.flatMap λl=>l.map (·.Addr)).count b+(m.Inbox.flatMap λx=>x).count b:=by
 unfold aJ;rw[C8 h,Z4,jG]
theorem bm.mailed{h:ab}{E c:List Int}{m:aH}(d:bm h E)(i:bE m=true)(j:m.Buffers.length=h.Mail.Buffers.length)(k:∀b,c.count b+(aJ m).count b=E.count b+(aJ h.Mail).count b)(f:∀a,a∈c\/a∈aJ m->iR h.Spans a (-1)):bm {h with Mail:=m} c:=by
 have g:(E++holders h).Perm (c++holders {h with Mail:=m}):=by
  refine List.perm_iff_count.2 λb=>?_
  have l:=k b;simp only[holders,ce,Z4];omega
 exact {d with
   mail:=i
   nc:=d.nc.trans j.symm
   hfl:=λa e=>f a (.inr e)
   hin:=λa e=>f a (.inl e)
   nd:=g.nodup_iff.1 d.nd
   mem:=λb=>by rw[<-g.mem_iff];exact d.mem b}
theorem Ec{h:ab}{E d:List Int}{m:aH}(f:bm h E)(g:∀b,d.count b+(aJ m).count b=E.count b+(aJ h.Mail).count b):∀a,a∈d\/a∈aJ m->iR h.Spans a (-1):=λa c=>by
 have i:=g a;have j:0<d.count a+(aJ m).count a:=by
  rcases c with c|c
  ·have:=List.count_pos_iff.2 c;omega
  ·have:=List.count_pos_iff.2 c;omega
 by_cases e:0<E.count a
 ·exact f.hin a (List.count_pos_iff.1 e)
 ·exact f.hfl a (List.count_pos_iff.1 ω)
theorem bm.deliv{h:ab}{E:List Int}{f:Nat}(a:bm h E)(e:f<h.Mail.Buffers.length)(d:0<(nth h.Mail.Buffers f).length):bm {h with Mail:=fw h.Mail f} E:=by
 have c:=BF a.mail e d;obtain⟨⟨q,r,t⟩,j,u⟩:=d5.1 a.mail;have k:=(j f e).1 _ (am d);have g:∀b,E.count b+(aJ (fw h.Mail f)).count b=E.count b+(aJ h.Mail).count b:=λb=>by
  rw[jt c,jt a.mail];have i:=ia (λl:List cW=>l.map (·.Addr)) b h.Mail.Buffers f ((nth h.Mail.Buffers f).drop 1) e;have n:=ia (λx:List Int=>x) b h.Mail.Inbox (nth (nth h.Mail.Buffers f) 0).To.toNat (nth h.Mail.Inbox (nth (nth h.Mail.Buffers f) 0).To.toNat++[(nth (nth h.Mail.Buffers f) 0).Addr]) ω;have o:(nth h.Mail.Buffers f).map (·.Addr)=(nth (nth h.Mail.Buffers f) 0).Addr::((nth h.Mail.Buffers f).drop 1).map (·.Addr):=by
   generalize nth h.Mail.Buffers f=l at d
   match l,d with
   | p::l,_=>rfl
  simp only[fw];rw[o]at i;simp only[List.count_cons]at i;simp only[Z4,List.count_singleton]at n;omega
 exact a.mailed c (by simp[fw]) g (Ec a g)
theorem bm.coll{h:ab}{E:List Int}{t:Nat}(c:bm h E)(d:t<h.Mail.Inbox.length):bm {h with Mail:=ku h.Mail t} (nth h.Mail.Inbox t++E):=by
 have a:=Lz c.mail d;have e:∀b,(nth h.Mail.Inbox t++E).count b+(aJ (ku h.Mail t)).count b=E.count b+(aJ h.Mail).count b:=λb=>by
  rw[jt a,jt c.mail];have f:=ia (λx:List Int=>x) b h.Mail.Inbox t [] d;simp only[List.count_nil]at f;simp only[ku,Z4];omega
 exact c.mailed a rfl e (Ec c e)
theorem bm.send{h:ab}{E:List Int}{f:Nat}{p:cW}(c:bm h (p.Addr::E))(e:f<h.Mail.Buffers.length)(a:bE (gl h.Mail f p)=true):bm {h with Mail:=gl h.Mail f p} E:=by
 have d:∀b,E.count b+(aJ (gl h.Mail f p)).count b=(p.Addr::E).count b+(aJ h.Mail).count b:=λb=>by
  rw[jt a,jt c.mail];have g:=ia (λl:List cW=>l.map (·.Addr)) b h.Mail.Buffers f (nth h.Mail.Buffers f++[p]) e;simp only[W4,Y4,List.map_nil,Z4,List.count_singleton]at g;simp only[gl,List.count_cons];omega
 exact c.mailed a (by simp[gl]) d (Ec c d)
def pO(now:Int):List aK->Nat
 | []=>0
 | x::xs=>if x.Since<now - 100 then pO now xs+1 else 0
def aged(h:ab)(n:Int):ab:={h with Clock:=h.Clock+n,Quar:=⟨h.Quar.Room,h.Quar.Lst.drop (pO (h.Clock+n) h.Quar.Lst)⟩}
def mg(h:ab)(n:Int):List Int:=(h.Quar.Lst.take (pO (h.Clock+n) h.Quar.Lst)).map (·.Addr)
def tick(h:ab)(n:Int):ab:=freeAs (aged h n) (mg h n)
theorem mJ(x:aK)(xs:List aK):∀n,quarCells (x::xs) (n+1)=csz x.Class+quarCells xs n
 | 0=>by simp only[quarCells];show 0+csz x.Class=csz x.Class+0;omega
 | n+1=>by
  rw[hB,mJ x xs n,hB];show csz x.Class+quarCells xs n+csz (nth xs n).Class=_;omega
theorem Nb(k:Int):0<=csz k:=by
 unfold csz;split
 ·exact Int.le_of_lt (Int.pow_pos (by decide))
 ·decide
theorem Ft:∀(l:List aK)(k:Nat),qc (l.drop k)<=qc l
 | [],k=>by simp
 | x::xs,0=>C4 _
 | x::xs,k+1=>by
  have a:=Ft xs k;have b:=Nb x.Class;have c:qc (x::xs)=csz x.Class+qc xs:=mJ x xs xs.length;show qc (xs.drop k)<=qc (x::xs);omega
theorem bm.aged{h:ab}{E:List Int}{n:Int}(a:bm h E)(t:0<=n)(u:h.Clock+n<=1000000):bm (aged h n) (mg h n++E):=by
 obtain⟨i,j,k,o,p,q⟩:=iE.1 a.quar;have c:=a.nums;unfold cm at c;rw[C0]at c;have e:=List.drop_sublist (pO (h.Clock+n) h.Quar.Lst) h.Quar.Lst;have g:(E++holders h).Perm ((mg h n++E)++holders (Ab.aged h n)):=by
  refine List.perm_iff_count.2 λb=>?_
  have r:=T0 (λl:List aK=>(l.map (·.Addr)).count b) (List.take_append_drop (pO (h.Clock+n) h.Quar.Lst) h.Quar.Lst);simp only[W4,Z4]at r;simp only[holders,ce,Ab.aged,mg,Z4];omega
 exact {a with
   nums:=by unfold cm;rw[C0];simp only[Ab.aged];omega
   quar:=iE.2 ⟨λy d=>i y (e.subset d),j.sublist e,k.sublist (e.map _),o,p,z4 (Ft _ _) q⟩
   snc:=λy d=>by
     have:=a.snc y (e.subset d);show y.Since<=h.Clock+n;omega
   hqu:=λy d=>a.hqu y (e.subset d)
   hin:=λb f=>by
     rcases Q2.1 f with f|f
     · obtain⟨y,d,rfl⟩:=V3.1 f
       exact(a.hqu y (List.mem_of_mem_take d)).any
     · exact a.hin b f
   nd:=g.nodup_iff.1 a.nd
   mem:=λb=>by rw[<-g.mem_iff];exact a.mem b}
theorem bm.tick{h:ab}{n:Int}(a:bm h [])(b:0<=n)(c:h.Clock+n<=1000000):bm (tick h n) []/\JK h (tick h n):=by
 have h1:=a.aged b c;exact⟨bm.freeAs h1,JK.trans (h1:=Ab.aged h n) (JK.eq rfl rfl rfl rfl) (JK.freeAs h1)⟩
def collect(h:ab)(t:Nat):ab:=recycs t {h with Mail:=ku h.Mail t} (nth h.Mail.Inbox t)
theorem bm.collect{h:ab}{t:Nat}(a:bm h [])(b:t<h.Caches.length):bm (collect h t) []/\JK h (collect h t):=by
 have h1:=a.coll (t:=t) (by rw[(d5.1 a.mail).1.2.2,<-a.nc];exact b);exact⟨bm.recycs h1 b,JK.trans (h1:={h with Mail:=ku h.Mail t}) (JK.eq rfl rfl rfl rfl) (JK.recycs h1 b)⟩
def Mv(h:ab)(t i:Nat):ab:={h with Kernel:=fG h.Kernel (nth h.Objs i).Addr (csz (aN (nth h.Objs i).Size)).toNat,Objs:=dele h.Objs i,Mail:=gl h.Mail t ⟨(nth h.Objs i).Thread,(nth h.Objs i).Addr⟩}
def freeT(h:ab)(t i:Nat):ab × Int:=
 if aN (nth h.Objs i).Size<0 then(freeL h i (wx h (nth h.Objs i).Addr),0)
 else if(ar (tbl h) ((nth h.Objs i).Addr / 16)).Mode=1 then(h,5)
 else if(nth h.Objs i).Thread=t then(JW h t i,0)
 else if bE (gl h.Mail t ⟨(nth h.Objs i).Thread,(nth h.Objs i).Addr⟩)=true then(Mv h t i,0) else(h,5)
theorem xZ{h:ab}{t i:Nat}(e:(nth h.Objs i).Thread=t):freeT h t i=freeOb h t i:=by
 unfold freeT freeOb;rw[C8 e]
theorem bm.freeT{h:ab}{t i:Nat}(a:bm h [])(b:i<h.Objs.length)(c:t<h.Caches.length):bm (freeT h t i).1 []/\JK h (freeT h t i).1:=by
 by_cases e:(nth h.Objs i).Thread=t
 ·rw[xZ e];exact⟨a.freeOb b c,JK.freeOb a b c⟩
 have d:=a.freeOb b c;have f:=JK.freeOb a b c;unfold Ab.freeOb at d f;unfold Ab.freeT;split
 ·rename_i g
  rw[C8 g]at d f;exact⟨d,f⟩
 rename_i g;rw[C7 g]at d f;split
 ·exact⟨a,JK.refl h⟩
 split
 ·rename_i j
  obtain⟨⟨s,l,n,o⟩,u⟩:=(eP a (am b)).2 g;have q:=a.dropO b (iR.any ⟨s,l,n,.inr o⟩);have r:=q.cells (k:=fG h.Kernel (nth h.Objs i).Addr (csz (aN (nth h.Objs i).Size)).toNat) (Bw a.ker _ _) rfl;exact⟨bm.send (p:=⟨(nth h.Objs i).Thread,(nth h.Objs i).Addr⟩) r (by show t<h.Mail.Buffers.length;rw[<-a.nc];exact c) j,JK.eq rfl rfl rfl rfl⟩
 ·exact⟨a,JK.refl h⟩
def kr(k:af)(a v:Int):af:=setCell k (fE k a) (a % 16) v
theorem tT{k:af}(h:aA k=true){a v:Int}(b:(ar k.Machine.Table (a / 16)).Mode≠0)(c:0<=v/\v<=999):aA (kr k a v)=true:=by
 obtain⟨d,e,-⟩:=ir h b;exact p7 h (f:=fE k a) d e c
theorem bm.store{h:ab}{a v:Int}(b:bm h [])(c:(ar h.Kernel.Machine.Table (a / 16)).Mode≠0)(d:0<=v/\v<=999):bm {h with Kernel:=kr h.Kernel a v} []/\JK h {h with Kernel:=kr h.Kernel a v}:=
 ⟨b.cells (tT b.ker c d) rfl,JK.eq rfl rfl rfl rfl⟩
theorem Mb{xs:List Int}{x:Int}(h:cJ xs.length (λj=>decide (nth xs j≠x))=true):x∉xs:=λb=>by
 obtain⟨j,a⟩:=List.mem_iff_getElem?.1 b;have:=dC h (V1.1 a).1;rw[bq a]at this;simp at this
theorem Ar(xs:List Int)(x:Int)(g:xs.length<=4611686018427387904):ao Tryz.prog 268 false [.val none (aF .imm xs),.val none [I x]] .one [B (decide (x∈xs))]:=by
 refine fO 18 [] Tryz.func268 rfl ?_
 repeat'(first|refine gO ?_|fail)
 (conv=>whnf)
 refine CC (ι:=Nat) (λi=>[(0,.hold .one (aF .imm xs)),(1,.hold .one [I (x)]),(5,.hold .one [I ((i:Nat):Int)])]) (λi=>i<=xs.length/\cJ i (λj=>decide (nth xs j≠x))=true) (λi=>xs.length - i) 0 ?_ ⟨R0 _,rfl⟩ λi a=>?_
 ·exact wB
 obtain⟨a,b⟩:=a;by_cases c:i<xs.length
 ·have d:=ah c
  by_cases e:nth xs i=x
  ·repeat'(first|refine gA ?_|(conv=>whnf);first|with_reducible refine CA (aa d) ?_)
   exact T0 (λz=>[B z]) ((by symm;exact O0 (by rw[<-e];exact am c)))
  ·repeat'(first|refine gA ?_|(conv=>whnf);first|with_reducible refine CA (aa d) ?_)
   ((conv=>whnf);refine CB (i+1) ⟨ω,bI b (O0 e)⟩ ω ?_;(exact wB))
 ·repeat'(first|refine gD ?_|fail)
  obtain rfl:i=xs.length:=ω
  exact T0 (λz=>[B z]) ((by symm;exact Q0 (Mb b)))
theorem bz.more{M f:ac}{w g:World}(h:bz M w g)(e:∀b o,M b o->f b o):bz f w g:=
 ⟨h.os,h.tape,h.output,h.size,λb a c=>h.blk b a λo d=>c o (e b o d),λb o a c=>h.cel b o a λd=>c (e b o d),λb o a c=>h.fro b o a λd=>c (e b o d)⟩
theorem aO.wk{P:Program}{f:Nat}{sh:Bool}{c u:List C}{A B:List MA}{k:Kd}{rcs:List C}(h:aO P f sh A (.ptr c::B) k rcs)(y:JF c u):aO P f sh A (.ptr u::B) k rcs:=by
 refine⟨h.has,λw S V i E F l G=>(h.run w S V i E F l G).mono λe w1 H=>?_⟩;obtain⟨v,J,K,X,L,M,N,n,p,a,q,r,b,O,Q,D⟩:=H;refine⟨v,J,K,X,L,M,N,n,p,a,q,r,b,O,Q,?_⟩;cases i with
 | nil=>exact D.elim
 | cons v0 i=>
  obtain⟨⟨R,Y,T,U,W,⟨g,o,Z,e2⟩,d⟩,t⟩:=D;refine⟨⟨R,Y,T,U,W,⟨g,o,Z,λj hj=>e2 j (by rw[(pX y).1];exact hj)⟩,yE y d⟩,t⟩
theorem aO.frame{P:Program}{f:Nat}{sh:Bool}{c c' r:List C}{A B:List MA}{k:Kd}{rcs:List C}(h:aO P f sh (.ptr c::A) (.ptr c'::B) k rcs)(hl:c'.length=c.length):aO P f sh (.ptr (c++r)::A) (.ptr (c'++r)::B) k rcs:=by
 refine⟨h.has,λw S V vs hS hV hVd hA=>?_⟩;cases vs with
 | nil=>exact hA.elim
 | cons v0 vs=>
 obtain⟨⟨X1,Y,hX1,hY,O,⟨g,q,rfl,u⟩,ff,hf1,J,hf3⟩,hA'⟩:=hA;have hlen:(c++r).length=c.length+r.length:=W2
 let V0:ac:=piece g q ff 0 c.length
 let W:Nat->ac:=KI V0 (λi=>V (i+1))
 have hcX:∀o,q<=o->o<q+(c++r).length->X1 g o:=λo l a=>by
  have:=(u (o - q) ω).1
  rwa [show q+(o - q)=o by omega]at this
 have hV0:∀b o,V0 b o->V 0 b o:=λb o p=>by
  rcases p with⟨rfl,l,a⟩|⟨j,-,a,Q⟩
  ·exact hX1 _ _ (hcX o ω ω)
  ·exact hY _ _ (J j ω b o Q)
 have K:∀i b o,W i b o->V i b o:=λi b o p=>by
  cases i with
  | zero=>exact hV0 b o p
  | succ i=>exact p
 have hA2:KP w S W (.ptr c::A) (.pointer (some ⟨g,q,none⟩)::vs):=by
  refine⟨?_,hA'⟩;have:=rT (lo:=0) (n:=c.length) (cs:=c++r) ω u hf1 J hf3 O;rw[show bo (c++r) 0 c.length=c by simp[bo]]at this;simp only[R5,Nat.add_zero]at this;exact this
 refine(h.run w S W _ hS (λi b o p=>hV i b o (K i b o p)) (λi i' D b o l a=>hVd i i' D b o (K i b o l) (K i' b o a)) hA2).mono λe w1 hv=>?_
 obtain⟨v,he,hk,X,V',S1,hX,E,hS1,hVd',hXV,hXS,hVS1,hh,hr,hm⟩:=hv;have H:∀b o,(∃i,W i b o)->∃i,V i b o:=λb o ⟨i,Z⟩=>⟨i,K i b o Z⟩
 let R:ac:=λb o=>V 0 b o/\¬V0 b o
 have hRW:∀b o,R b o->¬∃i,W i b o:=λb o y ⟨i,Z⟩=>by
  cases i with
  | zero=>exact y.2 Z
  | succ i=>exact hVd 0 (i+1) ω b o y.1 Z
 have F:∀b o,R b o->b<w.heap.size:=λb o y=>(hV 0 b o y.1).1
 have t:∀b o,R b o->¬((∃i,W i b o)\/(b<w1.heap.size/\w.heap.size<=b)):=λb o y p=>by
  rcases p with p|p
  ·exact hRW b o y p
  ·have:=F b o y;omega
 have hRsame:bi R w w1:=λb o y=>⟨hk.cel b o (F b o y) (hRW b o y),hk.fro b o (F b o y) (hRW b o y)⟩
 have hRS1:∀b o,R b o->¬S1 b o:=λb o y hs=>by
  rcases hS1 b o hs with⟨-,l⟩|l
  ·exact(hV 0 b o y.1).2 l
  ·exact t b o y l
 have hSsame:bi S w w1:=λb o hb=>⟨hk.cel b o (hS b o hb) (λ⟨i,Z⟩=>(hV i b o (K i b o Z)).2 hb),hk.fro b o (hS b o hb) (λ⟨i,Z⟩=>(hV i b o (K i b o Z)).2 hb)⟩
 have hRc:∀j,c.length<=j->j<(c++r).length->R g (q+j):=λj l a=>by
  refine⟨hX1 _ _ (u j a).1,λp=>?_⟩;rcases p with⟨-,Q,h4⟩|⟨N,Q,h4,h5⟩
  ·omega
  ·exact O _ _ (u j a).1 (J N ω _ _ h5)
 have L:∀j,c.length<=j->j<(c++r).length->∀b o,ff j b o->R b o:=λj l a b o p=>by
  refine⟨hY _ _ (J j a b o p),λhp=>?_⟩;rcases hp with⟨rfl,Q,h4⟩|⟨N,Q,h4,h5⟩
  ·exact O _ _ (hcX o ω ω) (J j a _ _ p)
  ·exact hf3 j N a ω ω b o p h5
 let U:Nat->ac:=KI (λb o=>V' 0 b o\/R b o) (λi=>V' (i+1))
 have hU:∀i b o,U i b o->V' i b o\/(i=0/\R b o):=λi b o p=>by
  cases i with
  | zero=>exact p.imp id (λh=>⟨rfl,h⟩)
  | succ i=>exact .inl p
 refine⟨v,he,hk.more H,X,U,S1,λb o p=>(hX b o p).imp (H b o) id,λi b o p=>?_,λb o p=>(hS1 b o p).imp id (Or.imp (H b o) id),λi i' D b o l a=>?_,λi b o l a=>?_,hXS,λi b o l a=>?_,hh,hr,?_,hm.2⟩
 ·rcases hU i b o p with l|⟨-,l⟩
  ·exact(E i b o l).imp (H b o) id
  ·exact .inl ⟨0,l.1⟩
 ·rcases hU i b o l with l|⟨e1,l⟩
  ·rcases hU i' b o a with a|⟨e2,a⟩
   ·exact hVd' i i' D b o l a
   ·exact t b o a (E i b o l)
  ·rcases hU i' b o a with a|⟨e2,a⟩
   ·exact t b o l (E i' b o a)
   ·exact D ω
 ·rcases hU i b o a with a|⟨-,a⟩
  ·exact hXV i b o l a
  ·exact t b o a (hX b o l)
 ·rcases hU i b o l with l|⟨-,l⟩
  ·exact hVS1 i b o l a
  ·exact hRS1 b o l a
 ·obtain⟨Xa,Ya,ha1,ha2,ha3,⟨ga,oa,hea,ha4⟩,fa,ha5,ha6,ha7⟩:=(show ou w1 (λb o=>S b o\/S1 b o) (V' 0) (.ptr c') (.pointer (some ⟨g,q,none⟩)) from hm.1)
  obtain⟨rfl,rfl⟩ : g=ga/\q=oa:=by simpa using hea
  have G:(c'++r).length=c.length+r.length:=by rw[W2,hl]
  show ou w1 (λb o=>S b o\/S1 b o) (λb o=>V' 0 b o\/R b o) (.ptr (c'++r)) (.pointer (some ⟨g,q,none⟩));have faV:∀j,j<c.length->∀b o,fa j b o->V' 0 b o:=λj M b o p=>ha2 _ _ (ha6 j ω b o p)
  refine⟨λb o=>Xa b o\/(R b o/\∃j,c.length<=j/\j<(c++r).length/\b=g/\o=q+j),λb o=>Ya b o\/∃j,c.length<=j/\j<(c++r).length/\ff j b o,λb o p=>?_,λb o p=>?_,λb o l a=>?_,⟨g,q,rfl,λj M=>?_⟩,λj=>if j<c.length then fa j else ff j,λj d M=>?_,λj M b o p=>?_,λj N M hj' D b o l a=>?_⟩
  ·exact p.imp (ha1 b o) (·.1)
  ·rcases p with p|⟨j,l,a,Q⟩
   ·exact .inl (ha2 b o p)
   ·exact .inr (L j l a b o Q)
  ·rcases l with l|⟨l,j,j1,j2,rfl,rfl⟩
   ·rcases a with a|⟨j,j1,j2,j3⟩
    ·exact ha3 b o l a
    ·exact t b o (L j j1 j2 b o j3) (E 0 b o (ha1 b o l))
   ·rcases a with a|⟨N,j3,j4,j5⟩
    ·exact t _ _ l (E 0 _ _ (ha2 _ _ a))
    ·exact O _ _ (u j j2).1 (J N j4 _ _ j5)
  ·rw[G]at M
   by_cases hc:j<c.length
   ·have:=ha4 j ω
    exact⟨.inl this.1,this.2⟩
   ·have y:=hRc j ω ω
    have hs:=hRsame _ _ y;have T:=u j ω;refine⟨.inr ⟨y,j,ω,ω,rfl,rfl⟩,?_,?_⟩
    ·rw[hs.1];exact T.2.1
    ·rw[hs.2];exact T.2.2
  ·dsimp only
   by_cases hc:j<c.length
   ·rw[C8 hc]
    rw[X3 ω]at M;exact ha5 j d M
   ·rw[C7 hc]
    rw[Y3 ω,hl]at M;have hj2:(c++r)[j]? = some d:=by rw[Y3 ω];exact M
    have hjl:=(V1.1 hj2).1;have Q:=(hf1 j d hj2).keep hSsame (λb o p=>hRsame b o (L j ω hjl b o p));have T:=(hRsame _ _ (hRc j ω hjl)).1;have:bR w1 .box (.pointer (some ⟨g,q,none⟩)) j=bR w .box (.pointer (some ⟨g,q,none⟩)) j:=by
     simp only[bR];rw[T]
    rw[this];exact Q.mono (λ_ _ h=>.inl h) (λ_ _ h=>h)
  ·rw[G]at M
   split at p
   ·rename_i hc;exact .inl (ha6 j ω b o p)
   ·exact .inr ⟨j,ω,ω,p⟩
  ·rw[G]at M hj'
   split at l
   ·rename_i c1
    split at a
    ·exact ha7 j N ω ω D b o l a
    ·exact t b o (L N ω ω b o a) (E 0 b o (faV j c1 b o l))
   ·split at a
    ·rename_i c1;exact t b o (L j ω ω b o l) (E 0 b o (faV N c1 b o a))
    ·exact hf3 j N ω ω D b o l a
mutual
theorem NI:∀c:C,fz (fz c)=fz c
 | .v x=>by simp[fz]
 | .s o rows=>by simp only[fz];rw[F9 rows]
 | .x=>by simp[fz]
 | .z=>by simp[fz]
 | .m _=>by simp[fz]
 | .it _ _=>by simp[fz]
theorem F9:∀a:List (List C),fzR (fzR a)=fzR a
 | []=>rfl
 | r::a=>by simp only[fzR];rw[q9 r,F9 a]
theorem q9:∀cs:List C,d2 (d2 cs)=d2 cs
 | []=>rfl
 | c::cs=>by simp only[d2];rw[NI c,q9 cs]
end
theorem lF(k:af)(a:aA k=true)(e:k.Calls≠100000):aO Tryz.prog 347 false [.ptr (af.enc .own k)] [.ptr (af.enc .own (dh k))] .one [B (!refd k)]:=by
 have b:=b6 a;have c:=(aC.1 a).2.2.2.2;have d:=Ar k.Refuse k.Calls (by have:=b.2;omega);refine fM 22 [] [(2,9,[11,12,13,14,15,16,17,18,19])] [(0,0)] Tryz.func347 rfl (λu q=>?_)
 repeat'(first|refine gO ?_|(conv=>whnf);first|refine CE (d) ⟨⟨rfl,dR _⟩,⟨rfl,T0 (λz=>[I z]) ω⟩,trivial⟩ ?_)
 refine CD rfl ?_ ?_
 ·rfl
 ·exact wB
theorem m0(k:af)(p m:Int)(a:aA k=true)(j:k.Calls≠100000)(d:(ar k.Machine.Table p).Mode≠0)(l:m=1\/m=2):aO Tryz.prog 406 false [.ptr (af.enc .own k),.val none [I p],.val none [I m]] [.ptr (af.enc .own (jK k p m).1),.val none [I p],.val none [I m]] .one [B (jK k p m).2]:=by
 have n:=b6 a;have b:=lF k a j;have g:=dB (dh k) p n.1.2;have c:=aD m 1 2;rw[O0 ω]at c;obtain⟨o,t,w,-⟩:=bZ a d;have h:=ah (xs:=k.Machine.Table.Entries) (i:=p.toNat) ω;have r:¬(ar (dh k).Machine.Table p).Mode=0:=d;unfold jK;cases e:refd k<;>rw[e]at b
 ·rw[C7 (by simp),G6]
  refine fM 31 [(347,[2])] [] [(0,0),(0,0),(0,0)] Tryz.func406 rfl (λu q=>?_)
  repeat'(first|refine gA ?_|(conv=>whnf);first|refine CG (b) (.inl rfl) ?_|refine CE (g) ⟨CN (dh k),⟨rfl,rfl⟩,trivial⟩ ?_|refine C6 (c) ?_|refine CJ o (aa h) ?_|refine CM rfl rfl (aa h) rfl (X0 rfl) rfl ?_)
  refine CD rfl ?_ ?_
  ·rfl
  ·exact wB
 ·rw[C8 rfl]
  refine fM 31 [(347,[2])] [] [(0,0),(0,0),(0,0)] Tryz.func406 rfl (λu q=>?_)
  repeat'(first|refine gA ?_|(conv=>whnf);first|refine CG (b) (.inl rfl) ?_|refine CE (g) ⟨CN (dh k),⟨rfl,rfl⟩,trivial⟩ ?_|refine C6 (c) ?_)
  refine CD rfl ?_ ?_
  ·rfl
  ·exact wB
theorem Rw.two{c:List C}{off i k j d e b:Nat}{K:List C->Nat->Prop}{o f:du}{rows rows2:List (List C)}{r a:List C}(h1:c[off]? = some (.s o rows))(g:rows[i]? = some r)(h:r.length=k)(l:r[j]? = some (.s f rows2))(n:rows2[d]? = some a)(p:a.length=e)(q:K a b):Rw c off [(i,k,j),(d,e,b)] K:=
 Rw.mk (r:=a) (j:=b) (by simp[bP,h1,g,h,l,n,p]) q
theorem xc(k:af)(a b c:Int)(h:aA k=true)(F:(ar k.Machine.Table a).Mode≠0)(G:(ar k.Machine.Table b).Mode≠0)(g:0<=c/\c<=15):aO Tryz.prog 407 false [.ptr (af.enc .own k),.val none [I a],.val none [I b],.val none (aF .imm [c])] [.ptr (af.enc .own (xF k a b c)),.val none [I a],.val none [I b],.val none (aF .imm [c])] .one [B true]:=by
 have w:=b6 h;have H:=dB k a w.1.2;have J:=dB k b w.1.2;have y:=aD c 0 15;rw[O0 g]at y;obtain⟨K,O,L,C,P⟩:=bZ h F;obtain⟨M,Q,D,E,R⟩:=bZ h G;have N:=(aW.1 (aC.1 h).2.1).2.2.1;have S:=row16 h (f:=lV k a) (by unfold lV;omega);have T:=row16 h (f:=lV k b) (by unfold lV;omega);have d:k.Machine.Frames.Cells[(ar k.Machine.Table a).Frame.toNat]? = some (nth k.Machine.Frames.Cells (lV k a)):=ah ω;have e:k.Machine.Frames.Cells[(ar k.Machine.Table b).Frame.toNat]? = some (nth k.Machine.Frames.Cells (lV k b)):=ah ω;have l:=ah (xs:=nth k.Machine.Frames.Cells (lV k a)) (i:=c.toNat) ω;have o:=ah (xs:=nth k.Machine.Frames.Cells (lV k b)) (i:=c.toNat) ω;have p:=ah (xs:=k.Machine.Table.Entries) (i:=a.toNat) ω;have r:=ah (xs:=k.Machine.Table.Entries) (i:=b.toNat) ω;rw[L]at C d;rw[D]at E e;have t:[c][0]? = some c:=rfl;refine fM 90 [] [(13,28,[61,62,63,64,65,66,67,68,69,70,71,72,73,74,75,76,77,78,79,80,81,82,83,84,85,86,87,88])] [(0,0),(0,0),(0,0),(0,0)] Tryz.func407 rfl (λu q=>?_)
 repeat'(first|refine gA ?_|(conv=>whnf);first|refine C9 ?_|refine CE (H) ⟨CN k,⟨rfl,rfl⟩,trivial⟩ ?_|refine CE (J) ⟨CN k,⟨rfl,rfl⟩,trivial⟩ ?_)
 (conv=>whnf)
 refine CC (ι:=Nat) (λn=>[(0,.hold .box (af.enc .own k)),(1,.hold .one [I (a)]),(2,.hold .one [I (b)]),(3,.hold .one (aF .imm [c])),(9,.hold .one [I ((n:Nat):Int)])]) (λn=>n<=1) (λn=>1 - n) (0) ?_ (R0 _) λn U=>?_
 ·exact wB
 by_cases V:n<1
 ·obtain rfl:n=0:=ω
  repeat'(first|refine gD ?_|(conv=>whnf);first|refine C9 ?_|refine CJ (by decide) (aa t) ?_|refine C6 (y) ?_)
  ((conv=>whnf);refine CB 1 ω ω ?_;(exact wB))
 ·obtain rfl:n=1:=ω
  repeat'(first|refine gD ?_|(conv=>whnf);first|refine C9 ?_|refine CJ K (aa p) ?_|refine CJ M (aa r) ?_|refine CF rfl (aa p) rfl ?_|refine CF rfl (aa r) rfl ?_)
  (conv=>whnf)
  refine CC (ι:=Nat) (λj=>[(0,.hold .box (af.enc .own (Mx k a b c j))),(3,.hold .one (aF .imm [c])),(10,.hold .one [I ((nth k.Machine.Table.Entries a.toNat).Frame)]),(11,.hold .one [I ((nth k.Machine.Table.Entries b.toNat).Frame)]),(12,.hold .one [I ((j:Nat):Int)])]) (λj=>j<=1) (λj=>1 - j) (0) ?_ (R0 _) λj W=>?_
  ·exact wB
  by_cases X:j<1
  ·obtain rfl:j=0:=ω
   repeat'(first|refine gD ?_|(conv=>whnf);first|refine C9 ?_|refine CJ (by decide) (aa t) ?_|refine CJ C (aa d) ?_|refine CJ E (aa e) ?_|refine CJ g.1 (aa l) ?_|refine CJ g.1 (aa o) ?_|refine CF rfl (aa e) rfl ?_|refine CF rfl (aa d) rfl ?_|refine Rw.two rfl (aa d) rfl rfl (aa l) rfl ?_|refine Pu.two rfl rfl (aa e) rfl rfl rfl (aa o) rfl (R2 _) rfl ?_)
   ((conv=>whnf);refine CB 1 ω ω ?_)
   rw[show Mx k a b c 1=xF k a b c from rfl];unfold xF;rw[Bz,show lV k b=(nth k.Machine.Table.Entries b.toNat).Frame.toNat by unfold lV;rw[D]];exact wB
  ·obtain rfl:j=1:=ω
   repeat'(first|refine gD ?_|(conv=>whnf);first|refine C9 ?_)
   refine CD rfl ?_ ?_
   ·rfl
   ·exact wB
theorem E5(k:af)(p o:Int)(a:aA k=true)(y:k.Calls≠100000)(g:(ar k.Machine.Table p).Mode≠0)(h:(ar k.Machine.Table o).Mode≠0)(C:p≠o):aO Tryz.prog 408 false [.ptr (af.enc .own k),.val none [I p],.val none [I o]] [.ptr (af.enc .own (zd k p o).1),.val none [I p],.val none [I o]] .one [B (zd k p o).2]:=by
 have b:=b6 a;have c:=lF k a y;have j:=dB (dh k) p b.1.2;have l:=dB (dh k) o b.1.2;obtain⟨D,K,E,n,r⟩:=bZ a g;obtain⟨F,L,M,N,O⟩:=bZ a h;have G:=(aW.1 (aC.1 a).2.1).2.2.1;have d:=ah (xs:=k.Machine.Table.Entries) (i:=p.toNat) ω;have t:=ah (xs:=k.Machine.Table.Entries) (i:=o.toNat) ω;have H:¬(ar (dh k).Machine.Table p).Mode=0:=g;have J:¬(ar (dh k).Machine.Table o).Mode=0:=h;rw[E]at n r;have w:=qo (vb (dh k) p.toNat ⟨2,(nth k.Machine.Table.Entries o.toNat).Frame⟩) (nth k.Machine.Table.Entries p.toNat).Frame (Jo _ _ b.1.2) ⟨n,by show _<((k.Machine.Frames.Cells.length:Nat):Int);omega,r⟩;rw[HH]at w;unfold zd;cases e:refd k<;>rw[e]at c
 ·rw[C7 (by simp)]
  refine fM 60 [(347,[2]),(349,[2,0])] [(4,274,[38,39,40,41,42,43,44,45,46,47,48,49,50,51,52,53,54,56,0,1,2,3,4,5,6,7,8,9,10,11,12,13,14,15,16,17,1000,1001,1002,1003,1004,1005,1006,18,19])] [(0,0),(0,0),(0,0)] Tryz.func408 rfl (λu q=>?_)
  repeat'(first|refine gA ?_|(conv=>whnf);first|refine C9 ?_|refine CG (c) (.inl rfl) ?_|refine CE (j) ⟨CN (dh k),⟨rfl,rfl⟩,trivial⟩ ?_|refine CE (l) ⟨CN (dh k),⟨rfl,rfl⟩,trivial⟩ ?_|refine CJ D (aa d) ?_|refine CJ F (aa t) ?_|refine CF rfl (aa d) rfl ?_|refine CF rfl (aa t) rfl ?_|refine CM rfl rfl (aa d) rfl (X0 rfl) rfl ?_|refine CG (w) (.inl rfl) ?_)
  refine CD rfl ?_ ?_
  ·rfl
  ·exact wB
 ·rw[C8 rfl]
  refine fM 60 [(347,[2]),(349,[2,0])] [(4,274,[38,39,40,41,42,43,44,45,46,47,48,49,50,51,52,53,54,56,0,1,2,3,4,5,6,7,8,9,10,11,12,13,14,15,16,17,1000,1001,1002,1003,1004,1005,1006,18,19])] [(0,0),(0,0),(0,0)] Tryz.func408 rfl (λu q=>?_)
  repeat'(first|refine gA ?_|(conv=>whnf);first|refine C9 ?_|refine CG (c) (.inl rfl) ?_|refine CE (j) ⟨CN (dh k),⟨rfl,rfl⟩,trivial⟩ ?_|refine CE (l) ⟨CN (dh k),⟨rfl,rfl⟩,trivial⟩ ?_)
  refine CD rfl ?_ ?_
  ·rfl
  ·exact wB
theorem wY(m:aQ)(a:Int)(d:aQ.sml m)(c:0<=a/\a<512):ao Tryz.prog 411 false [.val (some 3) (aQ.enc .imm m),.val none [I a]] (.tup [some 2,none]) (bh.enc .own (ar m.Table (a / 16))++[I (a % 16)]):=by
 have e:=cR m.Table (a / 16) d.2;have b:a.tmod 16=a % 16:=fK c.1;refine fO 16 [] Tryz.func411 rfl ?_ (.inr ⟨trivial,trivial,trivial,trivial⟩)
 repeat'(first|refine gD ?_|(conv=>whnf);first|refine C9 ?_|refine C6 (e) ?_|refine CI (o8 c) ?_|refine CK (by decide) ?_|refine CQ b ?_)
 rfl
theorem Du(m:aQ)(a v:Int)(o:de m=true)(e:aQ.sml m)(p:0<=a/\a<512)(q:0<=v/\v<=999)(r:(ar m.Table (a / 16)).Mode≠0->0<=(ar m.Table (a / 16)).Frame/\(ar m.Table (a / 16)).Frame<m.Frames.Cells.length/\(nth m.Frames.Cells (ar m.Table (a / 16)).Frame.toNat).length=16):ao Tryz.prog 410 false [.val (some 3) (aQ.enc .imm m),.val none [I a],.val none [I v]] (.tup [some 3,none]) (aQ.enc .own (k6 m a v).1++[I (k6 m a v).2]):=by
 have c:=nk m e;rw[o]at c;have g:=pM m e;have h:=wY m a e p;have d:=aD v 0 999;rw[O0 q]at d;have b:=aQ.enc_fr (k6 m a v).1;unfold k6 at b |-;by_cases j:(ar m.Table (a / 16)).Mode=0
 ·rw[C8 j]at b |-
  refine fO 47 [] Tryz.func410 rfl ?_ (.inr (aR b ⟨trivial,trivial⟩))
  repeat'(first|refine gA ?_|(conv=>whnf);first|refine C9 ?_|refine C6 (c) ?_|refine C6 (g) ?_|refine C6 (h) ?_|refine C6 (d) ?_)
  rfl
 ·rw[C7 j]at b |-
  by_cases l:(ar m.Table (a / 16)).Mode=1
  ·rw[C8 l]at b |-
   refine fO 47 [] Tryz.func410 rfl ?_ (.inr (aR b ⟨trivial,trivial⟩))
   repeat'(first|refine gA ?_|(conv=>whnf);first|refine C9 ?_|refine C6 (c) ?_|refine C6 (g) ?_|refine C6 (h) ?_|refine C6 (d) ?_)
   rfl
  ·rw[C7 l]at b |-
   obtain⟨t,u,w⟩:=r j;have k:=ah (xs:=m.Frames.Cells) (i:=(ar m.Table (a / 16)).Frame.toNat) ω;have n:=ah (xs:=nth m.Frames.Cells (ar m.Table (a / 16)).Frame.toNat) (i:=(a % 16).toNat) ω;simp only at b |-;rw[En]at b |-;refine fO 47 [] Tryz.func410 rfl ?_ (.inr (aR b ⟨trivial,trivial⟩))
   repeat'(first|refine gA ?_|(conv=>whnf);first|refine C9 ?_|refine C6 (c) ?_|refine C6 (g) ?_|refine C6 (h) ?_|refine C6 (d) ?_|refine CJ t (aa k) ?_|refine CJ ω (aa n) ?_|refine CF rfl (aa k) rfl ?_|refine Pu.two rfl rfl (aa k) rfl rfl rfl (aa n) rfl (R2 _) rfl ?_)
   rfl
theorem kK{k:af}{j:cv} : jmay k j=true↔(aA k=true/\k.Calls≠100000)/\iG j=true/\(ar k.Machine.Table j.Plan.Keep).Mode≠0/\(ar k.Machine.Table j.Plan.Move).Mode≠0/\(ar k.Machine.Table j.Plan.Keep).Frame≠(ar k.Machine.Table j.Plan.Move).Frame:=by
 unfold jmay;simp only[I0,C0]
theorem kW{p:ca}(h:en p=true):p.Cells.length<=16:=by
 unfold en at h;simp only[I0]at h;have a:∀i,i<p.Cells.length->(i:Int)<=nth p.Cells i:=λi=>by
  induction i with
  | zero=>
   intro a;have:=dC h.1 a;unfold lG at this;rw[C0]at this;exact this.1
  | succ i b=>
   intro a;have c:=b ω;have:=dC h.1 a;unfold lG at this;rw[C0]at this;have d:=this.2.2.resolve_left ω;rw[Nat.add_sub_cancel]at d;omega
 by_cases e:p.Cells.length<=16
 ·exact e
 ·exfalso
  have c:=a 16 ω;have:=dC h.1 (show 16<p.Cells.length by omega);unfold lG at this;rw[C0]at this;omega
theorem Gb{j:cv}(h:iG j=true):cv.sml j:=by
 have:=kW (fm.1 h).1;show j.Plan.Cells.length<=1048576;omega
theorem qP{k:af}(h:aA k=true):de k.Machine=true:=by
 unfold aA at h;simp only[I0]at h;exact h.1.2
theorem y6(k:af)(j:cv)(p:jmay k j=true)(g:j.Phase=3):aO Tryz.prog 409 false [.ptr (af.enc .own k),.ptr (ul j)] [.ptr (af.enc .own (jstep k j).1),.ptr (ul (jstep k j).2)] (.tup []) []:=by
 obtain⟨⟨a,r⟩,t,c,d,w⟩:=kK.1 p;obtain⟨h,H,J,K,L⟩:=fm.1 t;have y:=b6 a;obtain⟨M,N,O,B,P⟩:=bZ a c;have l:=(bu.1 (aC.1 a).2.2.1).2.2;have C:=kW h;have D:=(aW.1 (aC.1 a).2.1).2.2.1;unfold jstep;rw[C7 ω,C7 ω,C7 ω,C8 g];by_cases n:0<j.Next
 ·rw[C8 n]
  have o:=kJ h (i:=(j.Next - 1).toNat) ω;have E:=ah (xs:=j.Plan.Cells) (i:=(j.Next - 1).toNat) ω;have F:0<=j.Plan.Keep*16+nth j.Plan.Cells (j.Next - 1).toNat/\j.Plan.Keep*16+nth j.Plan.Cells (j.Next - 1).toNat<512:=ω
  have G:(j.Plan.Keep*16+nth j.Plan.Cells (j.Next - 1).toNat) / 16=j.Plan.Keep:=ω
  have b:=Du k.Machine (j.Plan.Keep*16+nth j.Plan.Cells (j.Next - 1).toNat) 0 (qP a) y.1 F ω (λ_=>by rw[G];exact⟨B,ω,row16 a (f:=lV k j.Plan.Keep) (by unfold lV;omega)⟩);generalize (k6 k.Machine (j.Plan.Keep*16+nth j.Plan.Cells (j.Next - 1).toNat) 0).1=m at b |-;generalize (k6 k.Machine (j.Plan.Keep*16+nth j.Plan.Cells (j.Next - 1).toNat) 0).2=e at b;refine fM 59 [(406,[2,0,0])] [(2,283,[20,21,22,23,24,25,26,27,28,29,30,31,32,33,34,35,36,37,38,39,40,41,42,19,43,44,4,0,1,2,3,4,5,6,7,8,9,10,11,12,13,14,15,16,17,18,19,20,21,22,23,24,25,26,27,1025,28])] [(0,0),(1,0)] Tryz.func409 rfl (λu q=>?_) (.inr trivial)
  repeat'(first|refine gD ?_|(conv=>whnf);first|refine C9 ?_|refine CE (b) ⟨⟨rfl,aQ.enc_fz k.Machine⟩,⟨rfl,rfl⟩,⟨rfl,rfl⟩,trivial⟩ ?_|refine CJ ω (aa E) ?_|refine C9 ?_)
  refine CD rfl rfl ?_;exact wC
 ·rw[C7 n]
  have b:=m0 k j.Plan.Move 2 a r d (.inr rfl);cases e:(jK k j.Plan.Move 2).2<;>rw[e]at b
  ·refine fM 59 [(406,[2,0,0])] [(2,283,[20,21,22,23,24,25,26,27,28,29,30,31,32,33,34,35,36,37,38,39,40,41,42,19,43,44,4,0,1,2,3,4,5,6,7,8,9,10,11,12,13,14,15,16,17,18,19,20,21,22,23,24,25,26,27,1025,28])] [(0,0),(1,0)] Tryz.func409 rfl (λu q=>?_) (.inr trivial)
   repeat'(first|refine gD ?_|(conv=>whnf);first|refine C9 ?_|refine CG (b) (.inl rfl) ?_)
   refine CD rfl rfl ?_;rw[<-g];exact wC
  ·refine fM 59 [(406,[2,0,0])] [(2,283,[20,21,22,23,24,25,26,27,28,29,30,31,32,33,34,35,36,37,38,39,40,41,42,19,43,44,4,0,1,2,3,4,5,6,7,8,9,10,11,12,13,14,15,16,17,18,19,20,21,22,23,24,25,26,27,1025,28])] [(0,0),(1,0)] Tryz.func409 rfl (λu q=>?_) (.inr trivial)
   repeat'(first|refine gD ?_|(conv=>whnf);first|refine C9 ?_|refine CG (b) (.inl rfl) ?_)
   refine CD rfl rfl ?_;exact wC
theorem z6(k:af)(j:cv)(g:jmay k j=true):aO Tryz.prog 396 false [.ptr (af.enc .own k),.ptr (ul j)] [.ptr (af.enc .own (jstep k j).1),.ptr (ul (jstep k j).2)] (.tup []) []:=by
 obtain⟨⟨h,p⟩,B,c,b,l⟩:=kK.1 g;obtain⟨r,F,G,H,J⟩:=fm.1 B;have n:j.Plan.Move≠j.Plan.Keep:=λe=>l (by rw[e])
 have C:=kW r;by_cases d:j.Phase=0
 ·have a:=m0 k j.Plan.Move 1 h p b (.inl rfl)
  unfold jstep;rw[C8 d];cases e:(jK k j.Plan.Move 1).2<;>rw[e]at a
  ·refine fM 80 [(406,[2,0,0]),(407,[2,0,0,0]),(408,[2,0,0]),(409,[2,2])] [(7,7,[27,28,29,30,31,32,33]),(9,14,[38,39,40,41,42,43,44,45,46,47,48,49,50,51])] [(0,0),(1,0)] Tryz.func396 rfl (λu q=>?_) (.inr trivial)
   repeat'(first|refine gA ?_|(conv=>whnf);first|refine C9 ?_|refine CG (a) (.inl rfl) ?_)
   refine CD rfl rfl ?_;exact wC
  ·refine fM 80 [(406,[2,0,0]),(407,[2,0,0,0]),(408,[2,0,0]),(409,[2,2])] [(7,7,[27,28,29,30,31,32,33]),(9,14,[38,39,40,41,42,43,44,45,46,47,48,49,50,51])] [(0,0),(1,0)] Tryz.func396 rfl (λu q=>?_) (.inr trivial)
   repeat'(first|refine gA ?_|(conv=>whnf);first|refine C9 ?_|refine CG (a) (.inl rfl) ?_)
   refine CD rfl rfl ?_;exact wC
 by_cases o:j.Phase=1
 ·unfold jstep
  rw[C7 d,C8 o];by_cases t:j.Next=j.Plan.Cells.length
  ·rw[C8 t]
   refine fM 80 [(406,[2,0,0]),(407,[2,0,0,0]),(408,[2,0,0]),(409,[2,2])] [(7,7,[27,28,29,30,31,32,33]),(9,14,[38,39,40,41,42,43,44,45,46,47,48,49,50,51])] [(0,0),(1,0)] Tryz.func396 rfl (λu q=>?_) (.inr trivial)
   repeat'(first|refine gA ?_|(conv=>whnf);first|refine C9 ?_|refine C9 ?_)
   refine CD rfl rfl ?_;exact wC
  ·rw[C7 t]
   have D:=ah (xs:=j.Plan.Cells) (i:=j.Next.toNat) ω;have a:=xc k j.Plan.Move j.Plan.Keep (nth j.Plan.Cells j.Next.toNat) h b c (kJ r ω);have E:=(kK.1 g).2.1;refine fM 80 [(406,[2,0,0]),(407,[2,0,0,0]),(408,[2,0,0]),(409,[2,2])] [(7,7,[27,28,29,30,31,32,33]),(9,14,[38,39,40,41,42,43,44,45,46,47,48,49,50,51])] [(0,0),(1,0)] Tryz.func396 rfl (λu q=>?_) (.inr trivial)
   repeat'(first|refine gA ?_|(conv=>whnf);first|refine C9 ?_|refine CG a (.inr ⟨rfl,af.enc_fr _,trivial⟩) ?_|refine CJ ω (aa D) ?_|refine C9 ?_)
   refine CD rfl rfl ?_;exact wC
 by_cases w:j.Phase=2
 ·have a:=E5 k j.Plan.Move j.Plan.Keep h p b c n
  unfold jstep;rw[C7 d,C7 o,C8 w];cases e:(zd k j.Plan.Move j.Plan.Keep).2<;>rw[e]at a
  ·refine fM 80 [(406,[2,0,0]),(407,[2,0,0,0]),(408,[2,0,0]),(409,[2,2])] [(7,7,[27,28,29,30,31,32,33]),(9,14,[38,39,40,41,42,43,44,45,46,47,48,49,50,51])] [(0,0),(1,0)] Tryz.func396 rfl (λu q=>?_) (.inr trivial)
   repeat'(first|refine gA ?_|(conv=>whnf);first|refine C9 ?_|refine CG (a) (.inl rfl) ?_)
   refine CD rfl rfl ?_;exact wC
  ·refine fM 80 [(406,[2,0,0]),(407,[2,0,0,0]),(408,[2,0,0]),(409,[2,2])] [(7,7,[27,28,29,30,31,32,33]),(9,14,[38,39,40,41,42,43,44,45,46,47,48,49,50,51])] [(0,0),(1,0)] Tryz.func396 rfl (λu q=>?_) (.inr trivial)
   repeat'(first|refine gA ?_|(conv=>whnf);first|refine C9 ?_|refine CG (a) (.inl rfl) ?_)
   refine CD rfl rfl ?_;exact wC
 by_cases y:j.Phase=3
 ·have a:=y6 k j g y
  refine fM 80 [(406,[2,0,0]),(407,[2,0,0,0]),(408,[2,0,0]),(409,[2,2])] [(7,7,[27,28,29,30,31,32,33]),(9,14,[38,39,40,41,42,43,44,45,46,47,48,49,50,51])] [(0,0),(1,0)] Tryz.func396 rfl (λu q=>?_) (.inr trivial)
  repeat'(first|refine gA ?_|(conv=>whnf);first|refine C9 ?_|refine CG (a) (.inl rfl) ?_)
  refine CD rfl rfl ?_;exact wC
 ·unfold jstep
  rw[C7 d,C7 o,C7 w,C7 y];refine fM 80 [(406,[2,0,0]),(407,[2,0,0,0]),(408,[2,0,0]),(409,[2,2])] [(7,7,[27,28,29,30,31,32,33]),(9,14,[38,39,40,41,42,43,44,45,46,47,48,49,50,51])] [(0,0),(1,0)] Tryz.func396 rfl (λu q=>?_) (.inr trivial)
  repeat'(first|refine gA ?_|(conv=>whnf);first|refine C9 ?_)
  refine CD rfl rfl ?_;exact wC
theorem AH(k:af)(j:cv)(e:aA k=true)(i:iG j=true):ao Tryz.prog 395 false [.val (some 5) (af.enc .imm k),.val (some 5) (cv.enc .imm j)] .one [B (jmay k j)]:=by
 have c:=b6 e;have b:d2 (af.enc .imm k)=af.enc .imm k:=by rw[<-CN k,q9]
 have r:=(aC.1 e).2.2.2.2;have a:=ke k c;rw[e]at a;have d:=un j (Gb i);rw[i]at d;have l:=dB k j.Plan.Keep c.1.2;have n:=dB k j.Plan.Move c.1.2;have t:=cR k.Machine.Table j.Plan.Keep c.1.2;have u:=cR k.Machine.Table j.Plan.Move c.1.2;by_cases o:k.Calls=100000
 ·rw[Q0 ω]at a
  rw[show jmay k j=false by rw[<-T4,kK];exact λh=>h.1.2 o];refine fO 44 [(3,16,[27,28,29,30,31,32,33,34,35,36,37,38,39,40,41,42])] Tryz.func395 rfl ?_
  repeat'(first|refine gO ?_|(conv=>whnf);first|refine C9 ?_|refine C6 (a) ?_|refine C6 (d) ?_)
  rfl
 rw[O0 ω]at a;by_cases p:(ar k.Machine.Table j.Plan.Keep).Mode=0
 ·rw[show jmay k j=false by rw[<-T4,kK];exact λh=>h.2.2.1 p]
  refine fO 44 [(3,16,[27,28,29,30,31,32,33,34,35,36,37,38,39,40,41,42])] Tryz.func395 rfl ?_
  repeat'(first|refine gA ?_|(conv=>whnf);first|refine C9 ?_|refine C6 (a) ?_|refine C6 (d) ?_|refine CE (l) ⟨b,⟨rfl,rfl⟩,trivial⟩ ?_|refine CE (n) ⟨b,⟨rfl,rfl⟩,trivial⟩ ?_)
  rfl
 by_cases q:(ar k.Machine.Table j.Plan.Move).Mode=0
 ·rw[show jmay k j=false by rw[<-T4,kK];exact λh=>h.2.2.2.1 q]
  refine fO 44 [(3,16,[27,28,29,30,31,32,33,34,35,36,37,38,39,40,41,42])] Tryz.func395 rfl ?_
  repeat'(first|refine gA ?_|(conv=>whnf);first|refine C9 ?_|refine C6 (a) ?_|refine C6 (d) ?_|refine CE (l) ⟨b,⟨rfl,rfl⟩,trivial⟩ ?_|refine CE (n) ⟨b,⟨rfl,rfl⟩,trivial⟩ ?_)
  rfl
 refine fO 44 [(3,16,[27,28,29,30,31,32,33,34,35,36,37,38,39,40,41,42])] Tryz.func395 rfl ?_
 repeat'(first|refine gA ?_|(conv=>whnf);first|refine C9 ?_|refine C6 (a) ?_|refine C6 (d) ?_|refine CE (l) ⟨b,⟨rfl,rfl⟩,trivial⟩ ?_|refine CE (n) ⟨b,⟨rfl,rfl⟩,trivial⟩ ?_|refine C6 (t) ?_|refine C6 (u) ?_|refine C9 ?_)
 exact T0 (λz=>[B z]) (by
   unfold jmay;rw[e,i,O0 o];by_cases g:(ar k.Machine.Table j.Plan.Keep).Frame=(ar k.Machine.Table j.Plan.Move).Frame
   · rw[Q0 (λh=>h.2.2 g)];simp[g]
   · rw[O0 ⟨p,q,g⟩];simp[g])
theorem yY(j:cv):ao Tryz.prog 397 false [.val (some 5) (cv.enc .imm j)] .one [B (over j)]:=by
 by_cases a:j.Phase=4
 ·rw[show over j=true from O0 (.inl a)]
  refine fO 11 [] Tryz.func397 rfl ?_
  repeat'(first|refine gA ?_|(conv=>whnf);first|refine C9 ?_)
  rfl
 ·rw[show over j=decide (j.Phase=5) from decide_eq_decide.2 ω]
  refine fO 11 [] Tryz.func397 rfl ?_
  repeat'(first|refine gA ?_|(conv=>whnf);first|refine C9 ?_)
  exact T0 (λz=>[B z]) (by rw[t4];simp)
def FC(x:ab):List C:=(bv x).set 21 .z
theorem BZ{x:ab}(h:x.Job.Plan.Cells=[]):JF (FC x) (bv x):=by
 unfold FC bv;simp only[List.set,h,List.map_nil]
 repeat'(first|exact trivial|exact dG _|refine CH ?_ ?_|rfl)
theorem zM(h:ab)(j:bm h [])(k:h.Meshing=true):aO Tryz.prog 368 false [.ptr (bv h)] [.ptr (bv (mStep h))] .one [B (Ba h)]:=by
 obtain⟨l,-,-⟩:=j.job k;have b:=AH h.Kernel h.Job j.ker l;have a:=yY (iJ h.Kernel h.Job).2;unfold Ba mStep;cases e:jmay h.Kernel h.Job with
 | false=>
  rw[e]at b;have d:iJ h.Kernel h.Job=(h.Kernel,h.Job):=by unfold iJ;rw[e];rfl
  rw[d]at a |-;simp only at a |-;cases g:over h.Job<;>rw[g]at a
  ·refine fM 39 [(396,[3,5,5])] [(1,8,[4,5,6,7,8,9,10,11]),(2,6,[13,14,15,16,17,18])] [(0,0)] Tryz.func368 rfl (λu q=>?_)
   repeat'(first|refine gO ?_|(conv=>whnf);first|refine CE (b) ⟨⟨rfl,CN h.Kernel⟩,⟨rfl,rfl⟩,trivial⟩ ?_|refine C6 (a) ?_|refine C9 ?_)
   refine CD rfl ?_ ?_
   ·exact T0 (λz=>[B z]) (by rw[t4];simp)
   ·exact wC
  ·refine aO.wk (c:=FC _) ?_ (BZ rfl)
   refine fM 39 [(396,[3,5,5])] [(1,8,[4,5,6,7,8,9,10,11]),(2,6,[13,14,15,16,17,18])] [(0,0)] Tryz.func368 rfl (λu q=>?_)
   repeat'(first|refine gO ?_|(conv=>whnf);first|refine CE (b) ⟨⟨rfl,CN h.Kernel⟩,⟨rfl,rfl⟩,trivial⟩ ?_|refine C6 (a) ?_|refine C9 ?_)
   refine CD rfl ?_ ?_
   ·exact T0 (λz=>[B z]) (by rw[t4];simp)
   ·exact wC
 | true=>
  rw[e]at b;have d:iJ h.Kernel h.Job=jstep h.Kernel h.Job:=by unfold iJ;rw[e];rfl
  have i:=z6 h.Kernel h.Job e;rw[d]at a |-;generalize jstep h.Kernel h.Job=r at i a |-;cases g:over r.2<;>rw[g]at a
  ·refine fM 39 [(396,[3,5,5])] [(1,8,[4,5,6,7,8,9,10,11]),(2,6,[13,14,15,16,17,18])] [(0,0)] Tryz.func368 rfl (λu q=>?_)
   repeat'(first|refine gO ?_|(conv=>whnf);first|refine CE (b) ⟨⟨rfl,CN h.Kernel⟩,⟨rfl,rfl⟩,trivial⟩ ?_|refine C6 (a) ?_|refine CG (i) (.inl rfl) ?_|refine C9 ?_)
   refine CD rfl ?_ ?_
   ·exact T0 (λz=>[B z]) (by rw[t4];simp)
   ·exact wC
  ·refine aO.wk (c:=FC _) ?_ (BZ rfl)
   refine fM 39 [(396,[3,5,5])] [(1,8,[4,5,6,7,8,9,10,11]),(2,6,[13,14,15,16,17,18])] [(0,0)] Tryz.func368 rfl (λu q=>?_)
   repeat'(first|refine gO ?_|(conv=>whnf);first|refine CE (b) ⟨⟨rfl,CN h.Kernel⟩,⟨rfl,rfl⟩,trivial⟩ ?_|refine C6 (a) ?_|refine CG (i) (.inl rfl) ?_|refine C9 ?_)
   refine CD rfl ?_ ?_
   ·exact T0 (λz=>[B z]) (by rw[t4];simp)
   ·exact wC
theorem EM{k:Int} : ∀{l s s2 c:List Int}(n:Nat),(∀x∈s2,x∈s)->pG k s l=some c->∃d,pG k s2 (l.take n)=some d/\∀x∈d,x∈c
 | [],s,s2,c,n,h,e=>by
  simp only[pG,U0,List.take_nil]at e |-;subst e;exact⟨s2,rfl,h⟩
 | a::l,s,s2,c,0,h,e=>⟨s2,rfl,λx b=>(nh (λ_ y=>y) e).1 x (h x b)⟩
 | a::l,s,s2,c,n+1,h,e=>by
  simp only[List.take_succ_cons,pG]at e |-;split at e
  ·rename_i g
   rw[C8 (show good k s2 a from⟨g.1,g.2.1,g.2.2.1,λx=>g.2.2.2 (h a x)⟩)];exact EM (l:=l) (s:=s++[a]) (s2:=s2++[a]) n (λx b=>by
     rcases Q2.1 b with b|b
     · exact Q2.2 (.inl (h x b))
     · exact Q2.2 (.inr b)) e
  ·cases e
theorem AP:∀{a:List (List Int)}{k:Nat}{s s2:List Int}(i n:Nat),(∀x∈s2,x∈s)->(fC k s a).isSome=true->(fC k s2 (a.set i ((nth a i).take n))).isSome=true
 | [],_,_,_,_,_,_,_=>rfl
 | l::a,k,s,s2,i,n,h,e=>by
  simp only[fC,dM]at e;split at e
  ·rename_i g
   cases b:pG k s l with
   | none=>rw[b]at e;cases e
   | some j=>
    rw[b]at e;cases i with
    | zero=>
     obtain⟨c,d,f⟩:=EM n h b;simp only[List.set_cons_zero,fC,dM];rw[C8 ⟨by have:=g.1;simp only[nth,List.getD_cons_zero,I1];omega,g.2⟩];show((pG (k:Nat) s2 (l.take n)).bind λj=>fC (k+1) j a).isSome=true;rw[d];exact rN f e
    | succ i=>
     obtain⟨o,c,d,f⟩:=nh h b;simp only[List.set_cons_succ,fC,dM];rw[C8 g,d];exact AP i n f e
  ·cases e
theorem LH{c:aB}(h:bt c=true)(k:Nat):bt (qK c k)=true:=by
 unfold bt at h |-;simp only[I0,C0]at h |-;exact⟨by simp only[qK,C1];exact h.1,AP k _ (λ_ h=>h) h.2⟩
def mS(b:Int):Nat->List Int
 | 0=>[]
 | j+1=>if aX b (j:Nat)=true then mS b j else mS b j++[((j:Nat):Int)]
theorem ry{b:Int} : ∀{n:Nat}{z:Int},z∈mS b n->0<=z/\z<n/\aX b z=false
 | 0,_,h=>by cases h
 | n+1,z,h=>by
  unfold mS at h;split at h
  ·have:=ry h;exact⟨this.1,ω,this.2.2⟩
  ·rename_i e
   rcases Q2.1 h with h|h
   ·have:=ry h;exact⟨this.1,ω,this.2.2⟩
   ·rw[Z0.1 h];exact⟨ω,ω,by simpa using e⟩
theorem ru(b:Int):∀n,(mS b n).length<=n
 | 0=>R2 _
 | n+1=>by have:=ru b n;unfold mS;split<;>simp<;>omega
def pd(k b:Int):List Int:=if Ji k b=true then mS b (slots k).toNat else []
def mj(h:ab)(i:Nat):List Int:=pd (nth h.Spans i).Class (gr h i)
theorem uY{k b z:Int}(h:z∈pd k b):0<=z/\z<slots k/\aX b z=false:=by
 unfold pd at h;split at h
 ·have:=ry h;exact⟨this.1,ω,this.2.2⟩
 ·cases h
theorem DS(k b:Int):(pd k b).length<=16:=by
 unfold pd;split
 ·rename_i h
  unfold Ji at h;rw[C0]at h;have:=(fU (k:=k) ⟨h.1,h.2.1⟩).2.2.1;have:=ru b (slots k).toNat;omega
 ·exact R0 _
def oH(h:ab)(i:Nat):Int:=nth (mj h i) (Jw h.Seed ((mj h i).length:Nat)).toNat
def slotT(h:ab)(i:Nat):ab:={h with Seed:=ER h.Seed,Spans:=h.Spans.set i (pp (nth h.Spans i) (oH h i))}
def so(h:ab)(i:Nat):Int:=16*(nth h.Spans i).Page+oH h i*csz (nth h.Spans i).Class
theorem xG{h:ab}{i:Nat}(a:0<(mj h i).length):oH h i∈mj h i:=by
 have:=uw h.Seed (n:=((mj h i).length:Nat)) ω;exact am ω
theorem bm.slotT{h:ab}{E:List Int}{i:Nat}(a:bm h E)(b:i<h.Spans.length)(e:0<(mj h i).length):bm (slotT h i) (so h i::E)/\iR (slotT h i).Spans (so h i) (nth h.Spans i).Class:=by
 obtain⟨c,d,f⟩:=uY (xG e);exact⟨a.take b ⟨c,d⟩ f (EE _),(iR.setS a.L b ⟨c,d⟩ _ _).2 (.inr ⟨rfl,.inr rfl⟩)⟩
def rm(h:ab)(c:Int)(i:Nat):Bool:=decide ((nth h.Spans i).Class=c)&&(!dZ h (nth h.Spans i).Page&&decide (0<(mj h i).length))
def rS(h:ab)(c:Int):Option Nat:=(List.range h.Spans.length).find? (rm h c)
def uL(h:ab)(c:Int):ab:=addS h (fe h.Kernel (a7 h.Free 1).2.1).1 (a7 h.Free 1).1 (a7 h.Free 1).2.1 c
def ta(h:ab):Nat:=jh (G9 (a7 h.Free 1).2.1) h.Spans
def kL(h:ab)(i:Nat):ab × Int:=if(mj h i).length=0 then(h,-1) else(slotT h i,so h i)
def dN(h:ab)(t c:Nat):ab × Int:=
 if 0<(nth (nth h.Caches t).Lists c).length then({h with Caches:=h.Caches.set t (qK (nth h.Caches t) c)},nth (nth (nth h.Caches t).Lists c) ((nth (nth h.Caches t).Lists c).length - 1))
 else match rS h c with
 | some i=>(slotT h i,so h i)
 | none=>if(a7 h.Free 1).2.2=false then(h,-1)
  else if(fe h.Kernel (a7 h.Free 1).2.1).2=false then({h with Kernel:=(fe h.Kernel (a7 h.Free 1).2.1).1},-1)
  else kL (uL h c) (ta h)
theorem EO{α:Type}[Inhabited α](p:α->Bool)(xs:List α)(y:α):jh p xs<(iH p xs y).length/\nth (iH p xs y) (jh p xs)=y:=by
 have b:=Mm p xs;have a:(xs.take (jh p xs)).length=jh p xs:=by rw[I1];omega
 refine⟨by rw[(jw p xs y).length_eq,List.length_cons];omega,bq ?_⟩;unfold iH;rw[Y3 ω,a,Nat.sub_self]
 rfl
theorem bm.tEq{h:ab}{E:List Int}(a:bm h E){k:af}(c:aA k=true)(b:tEq (tbl h) k.Machine.Table):bm {h with Kernel:=k} E/\JK h {h with Kernel:=k}:=
 ⟨a.step (j:=h.Job) (m:=h.Meshing) c b.1 (a.pg.tEq b) a.job a.noj,⟨rfl,rfl,λs d _=>⟨s,d,rfl,λ_ z=>z⟩,λq e=>.inl ⟨(b.2 q).1.1 e,(b.2 q).2⟩⟩⟩
structure ND(h:ab)(c:Int)(r:ab × Int):Prop where
 no:r.2<0->bm r.1 []
 yes:0<=r.2->bm r.1 [r.2]/\iR r.1.Spans r.2 c
 jk:JK h r.1
 nx:r.1.Next=h.Next
 cl:r.1.Caches.length=h.Caches.length
theorem iR.nn{h:ab}{E:List Int}(b:bm h E){a c:Int}(d:iR h.Spans a c):0<=a:=(iR.bd b d).1
theorem ND.slot{h h':ab}{i:Nat}{c:Int}(g:bm h' [])(j:i<h'.Spans.length)(k:0<(mj h' i).length)(l:(nth h'.Spans i).Class=c)(n:JK h h')(a:dZ h' (nth h'.Spans i).Page=false)(h1:h'.Next=h.Next)(o:h'.Caches.length=h.Caches.length):ND h c (slotT h' i,so h' i):=by
 obtain⟨d,f⟩:=g.slotT j k;have b:=iR.nn d f;exact⟨λe=>absurd b (by simp only at e;omega),λ_=>⟨d,by rw[<-l];exact f⟩,n.trans (JK.take a),h1,o⟩
theorem yp{h:ab}{t c:Nat}(a:bm h [])(q:t<h.Caches.length)(P:c<=3)(B:h.Kernel.Calls<=90000):ND h c (dN h t c):=by
 have f:=a.cach _ (am q);have C:=sJ f;unfold dN;split
 ·rename_i D
  obtain⟨d,b⟩:=a.pop q ω D (LH f c);have l:=iR.nn a b;exact⟨λe=>absurd l (by simp only at e;omega),λ_=>⟨d,b⟩,JK.eq rfl rfl rfl rfl,rfl,C1 ..⟩
 split
 ·rename_i i r
  have g:=List.find?_some r;have E:=List.mem_range.1 (List.mem_of_find?_eq_some r);unfold rm at g;simp only[I0,C0,Bool.not_eq_true']at g;exact ND.slot a E g.2.2 g.1 (JK.refl h) g.2.1 rfl rfl
 split
 ·exact⟨λ_=>a,λe=>absurd e (by show ¬(0:Int)<=-1;decide),JK.refl h,rfl,rfl⟩
 rename_i F;have j:(a7 h.Free 1).2.2=true:=by simpa using F
 obtain⟨G,H,J,u⟩:=kv a (C4 1) j;have s:=y3.of (p:=(a7 h.Free 1).2.1) a.ker ω ⟨G,by have:(a7 h.Free 1).2.1+1<=(h.Kernel.Machine.Table.Entries.length:Nat):=H;omega⟩ (J _ ω ω);split
 ·rename_i n
  rw[s.no n];obtain⟨d,b⟩:=a.tEq (kP a.ker ω) (tEq.refl _);exact⟨λ_=>d,λe=>absurd e (by show ¬(0:Int)<=-1;decide),b,rfl,rfl⟩
 rename_i n;have o:(fe h.Kernel (a7 h.Free 1).2.1).2=true:=by simpa using n
 have w:y3 h.Kernel (a7 h.Free 1).2.1 ((fe h.Kernel (a7 h.Free 1).2.1).1,true):=by rw[<-o];exact s
 have d:=a.addS (c:=c) ⟨ω,ω⟩ j w;have b:JK h (uL h c):=JK.addS w;obtain⟨K,A⟩:=EO (G9 (a7 h.Free 1).2.1) h.Spans ⟨(a7 h.Free 1).2.1,c,0⟩;unfold kL;split
 ·exact⟨λ_=>d,λe=>absurd e (by show ¬(0:Int)<=-1;decide),b,rfl,rfl⟩
 ·refine ND.slot (h':=uL h c) (i:=ta h) d K ω (by show(nth (iH (G9 (a7 h.Free 1).2.1) h.Spans ⟨(a7 h.Free 1).2.1,c,0⟩) (ta h)).Class=_;unfold ta;rw[A]) b ?_ rfl rfl
  show dZ (uL h c) (nth (iH (G9 (a7 h.Free 1).2.1) h.Spans ⟨(a7 h.Free 1).2.1,c,0⟩) (ta h)).Page=false;unfold ta;rw[A,b.pg];rw[<-T4];intro k;unfold dZ at k;simp only[I0,v5,C0]at k;obtain⟨-,⟨y,L,M⟩,⟨z,N,O⟩⟩:=a.job k.1;rcases k.2 with e|e
  ·exact u _ (C4 _) ω (by rw[e,<-M];exact dl L)
  ·exact u _ (C4 _) ω (by rw[e,<-O];exact dl N)
def jR(size:Int):Nat:=((size+15) / 16).toNat
def iz(h:ab)(size:Int):af × Nat:=ci h.Kernel (a7 h.Free (jR size:Nat)).2.1 (jR size)
def lZ(h:ab)(t size:Int):ab × Int × Int:=
 if(a7 h.Free (jR size:Nat)).2.2=false then(h,-1,4)
 else if(iz h size).2=jR size then(addL h (iz h size).1 (a7 h.Free (jR size:Nat)).1 (a7 h.Free (jR size:Nat)).2.1 (jR size:Nat) size t,16*(a7 h.Free (jR size:Nat)).2.1,0)
 else({h with Kernel:=dy (iz h size).1 (a7 h.Free (jR size:Nat)).2.1 (iz h size).2},-1,4)
def rg(xs:List bH):Nat->Int
 | 0=>0
 | i+1=>rg xs i+(nth xs i).Size
def ve(h:ab):Int:=rg h.Objs h.Objs.length
def ep(h:ab)(t size:Int):ab × Int × Int:=
 if 1000000<=h.Next\/90000<h.Kernel.Calls then(h,-1,5)
 else if ¬(0<=t/\t<=h.Caches.length - 1) then(h,-1,1)
 else if ¬(1<=size/\size<=1000) then(h,-1,2)
 else if h.Limit<ve h+size then(h,-1,3)
 else if 0<=aN size then(if(dN h t.toNat (aN size).toNat).2<0 then((dN h t.toNat (aN size).toNat).1,-1,4) else(addO (dN h t.toNat (aN size).toNat).1 (dN h t.toNat (aN size).toNat).2 size t,(dN h t.toNat (aN size).toNat).2,0))
 else lZ h t size
theorem Hm{h:ab}{t size:Int}(a:bm h [])(g:9<=size/\size<=1000)(i:h.Next<1000000)(j:h.Kernel.Calls<=90000)(k:0<=t/\t<=h.Caches.length - 1):bm (lZ h t size).1 []/\JK h (lZ h t size).1:=by
 have l:(jR size:Int)=(size+15) / 16:=by unfold jR;omega
 unfold lZ;split
 ·exact⟨a,JK.refl h⟩
 rename_i o;have b:(a7 h.Free (jR size:Nat)).2.2=true:=by simpa using o
 obtain⟨c,d,e,w⟩:=kv a (show(1:Int)<=(jR size:Nat) by omega) b;have s:=n6.of (p:=(a7 h.Free (jR size:Nat)).2.1) (n:=jR size) a.ker ω ⟨c,d⟩ e (jR size) (R2 _);split
 ·rename_i q
  have f:n6 h.Kernel (a7 h.Free (jR size:Nat)).2.1 (jR size) ((iz h size).1,jR size):=by
   have:((iz h size).1,jR size)=iz h size:=by rw[<-q]
   rw[this];exact s
  exact⟨a.addL g l b f i k,JK.addL f⟩
 ·obtain⟨r,u⟩:=s.undo a.ker ⟨c,d⟩ e
  exact a.tEq r u
theorem Gv{h:ab}{t size:Int}(a:bm h []):bm (ep h t size).1 []/\JK h (ep h t size).1:=by
 unfold ep;split
 ·exact⟨a,JK.refl h⟩
 rename_i d;rw[not_or]at d;split
 ·exact⟨a,JK.refl h⟩
 rename_i n;split
 ·exact⟨a,JK.refl h⟩
 rename_i o;split
 ·exact⟨a,JK.refl h⟩
 split
 ·rename_i b
  have f:aN size<=3:=by unfold aN;repeat' split<;>omega
  have s:=yp (t:=t.toNat) (c:=(aN size).toNat) a ω ω ω;generalize dN h t.toNat (aN size).toNat=r at s;split
  ·rename_i e;exact⟨s.no e,s.jk⟩
  ·rename_i e
   obtain⟨g,i⟩:=s.yes ω;refine⟨g.addO (.inl ?_) (by rw[s.nx];omega) (by rw[s.cl];omega),s.jk.trans (JK.eq rfl rfl rfl rfl)⟩;obtain⟨z,j,k,p⟩:=i;exact⟨z,j,k,by show z.Class=aN size;omega⟩
 ·rename_i b
  have l:9<=size:=by
   unfold aN at b
   repeat' split at b<;>omega
  exact Hm a ⟨l,ω⟩ ω ω ω
theorem lS{α β:Type}[Inhabited α]{f:α->β}{xs:List α}{i:Nat}{y:α}(a:i<xs.length)(e:f y=f (nth xs i)):(xs.set i y).map f=xs.map f:=by
 rw[t5];refine List.ext_getElem (by simp) λj b c=>?_
 rw[List.getElem_set];split
 ·rename_i g;subst g
  rw[List.getElem_map,e,bq (U1 a)]
 ·rfl
theorem mw{α β:Type}[Inhabited α](f:α->List β):∀(xs:List α)(i:Nat)(y:α),i<xs.length->(f y).Sublist (f (nth xs i))->((xs.set i y).flatMap f).Sublist (xs.flatMap f)
 | [],_,_,h,_=>absurd h (Nat.not_lt_zero _)
 | x::xs,0,y,_,a=>by
  rw[List.set_cons_zero,O5,O5];exact List.Sublist.append a (List.Sublist.refl _)
 | x::xs,i+1,y,h,a=>by
  rw[List.set_cons_succ,O5,O5];exact List.Sublist.append (List.Sublist.refl _) (mw f xs i y (by simpa using h) a)
def zK(k:af)(a:Int):Nat->af
 | 0=>k
 | m+1=>kr (zK k a m) (a+m) 0
theorem oZ(k:af)(a:Int):∀m,(zK k a m).Machine.Table=k.Machine.Table/\(zK k a m).Calls=k.Calls/\(zK k a m).Refuse=k.Refuse
 | 0=>⟨rfl,rfl,rfl⟩
 | m+1=>oZ k a m
theorem Mt{k:af}(h:aA k=true){a:Int} : ∀{m:Nat},(∀j:Nat,j<m->(ar k.Machine.Table ((a+j) / 16)).Mode≠0)->aA (zK k a m)=true
 | 0,_=>h
 | m+1,b=>tT (Mt h λj c=>b j ω) (by rw[(oZ k a m).1];exact b m ω) ⟨ω,ω⟩
theorem E7{h:ab}{E:List Int}(j:bm h E){sp:List au}{la:List a8}{o:List ax}{p:Int}{n:Nat}(y:p+n<=h.Kernel.Machine.Table.Entries.length)(A:sp.Sublist h.Spans)(M:∀l∈la,∀q∈lpgs l l.Pages.toNat,∃w∈h.Larges,q∈lpgs w w.Pages.toNat)(N:0<=p)(B:∀q,q∈pgs sp la↔q∈pgs h.Spans h.Larges/\¬(p<=q/\q<p+n))(O:∀q,RH o q↔RH h.Free q\/(p<=q/\q<p+n)) :
  Pg (dy h.Kernel p n).Machine.Table o sp la:=by
 have b:=(ew h.Kernel p n).1;have d:=kM j.ker N n y;have f:∀q:Nat,(q:Int)∈pgs sp la->nth (dy h.Kernel p n).Machine.Table.Entries q=nth (tbl h).Entries q:=λq c=>by rw[d,C7 ((B q).1 c).2];rfl
 have a:∀q:Nat,(nth (dy h.Kernel p n).Machine.Table.Entries q).Mode≠0↔(nth (tbl h).Entries q).Mode≠0/\¬(p<=q/\(q:Int)<p+n):=λq=>by
  rw[d];by_cases e:p<=q/\(q:Int)<p+n
  ·rw[C8 e];exact⟨λx=>absurd rfl x,λx=>absurd e x.2⟩
  ·rw[C7 e];exact⟨λx=>⟨x,e⟩,λx=>x.1⟩
 refine⟨λl g q c r J C k=>?_,λq c=>?_,λq c=>?_,λq c=>?_,λs g u D F K=>?_⟩
 ·have t:=(a r).1 C
  rw[b]at J;rw[f q (eY g c),d,C7 t.2]at k;obtain⟨w,G,H⟩:=M l g _ c;exact j.pg.one w G q H r J t.1 k
 ·rw[b];exact j.pg.bnd q ((B q).1 c).1
 ·rw[b]at c
  rw[a,B,j.pg.own q c]
 ·rw[b]at c
  rw[a,O,j.pg.fre q c]
  grind
 ·have i:∀s∈sp,0<=s.Page:=λs g=>(aE (j.L.sok s (A.subset g))).1
  have P:=f s.Page.toNat (by rw[Int.toNat_of_nonneg (i s g)];exact dl g);have Q:=f u.Page.toNat (by rw[Int.toNat_of_nonneg (i u D)];exact dl D);rw[P,Q]at K;exact j.pg.mesh s (A.subset g) u (A.subset D) F K
def trimL(l:a8)(size:Int):a8:=⟨l.Page,(size+15) / 16,size⟩
def d7(l:a8)(size:Int):Nat:=(l.Pages - (size+15) / 16).toNat
theorem bm.trimL{h:ab}{E:List Int}{i k:Nat}{size:Int}(t:bm h E)(T:i<h.Objs.length)(H:k<h.Larges.length)(Y:(nth h.Objs i).Addr=16*(nth h.Larges k).Page)(N:9<=size/\size<=(nth h.Larges k).Size) :
  ∃o,(d7 (nth h.Larges k) size=0->o=h.Free)/\(0<d7 (nth h.Larges k) size->bS (dE h) h.Free ⟨(nth h.Larges k).Page+(size+15) / 16,(d7 (nth h.Larges k) size:Nat)⟩ = some o)/\
   bm {h with Kernel:=dy h.Kernel ((nth h.Larges k).Page+(size+15) / 16) (d7 (nth h.Larges k) size),Larges:=h.Larges.set k (trimL (nth h.Larges k) size),Objs:=h.Objs.set i {nth h.Objs i with Size:=size},Free:=o} E:=by
 have U:=t.L;have C:=U.lok _ (am H);have hf:=aT C;unfold bQ at C;rw[C0]at C;obtain⟨b1,b2⟩:=z8 t H;have O:=U.dis;have G:=λj n=>U.one j k n H
 have y:=(am H:nth h.Larges k∈h.Larges)
 have d:∀z∈h.Larges.set k (Ab.trimL (nth h.Larges k) size),z=Ab.trimL (nth h.Larges k) size\/∃j,j<h.Larges.length/\j≠k/\nth h.Larges j=z:=λz N=>eJ N
 have p:Ab.trimL (nth h.Larges k) size∈h.Larges.set k (Ab.trimL (nth h.Larges k) size):=hO _ H;have u:∀j,j<h.Larges.length->j≠k->nth h.Larges j∈h.Larges.set k (Ab.trimL (nth h.Larges k) size):=λj n e=>iL _ n e
 have hpageM:(h.Larges.set k (Ab.trimL (nth h.Larges k) size)).map (·.Page)=h.Larges.map (·.Page):=lS H rfl;have w:(pgs h.Spans (h.Larges.set k (Ab.trimL (nth h.Larges k) size))).Sublist (pgs h.Spans h.Larges):=by
  unfold pgs;refine List.Sublist.append (List.Sublist.refl _) (mw _ _ _ _ H ?_);unfold lpgs;exact(List.range_sublist.2 (by simp only[Ab.trimL];omega)).map _
 obtain⟨l,V⟩ : ∃l,nth h.Larges k=l:=⟨_,rfl⟩
 rw[V]at C hf b1 b2 G y d p u hpageM w Y N |-;generalize hla:h.Larges.set k (Ab.trimL l size)=la at d p u hpageM w |-;have hn1:(1:Int)<=(size+15) / 16/\(size+15) / 16+(d7 l size:Nat)=l.Pages:=by unfold d7;omega
 have D:∀q,q∈lpgs l l.Pages.toNat↔l.Page<=q/\q<l.Page+l.Pages:=λq=>by
  rw[dc];constructor
  ·rintro⟨j,n,rfl⟩;omega
  ·rintro⟨Z,q2⟩;exact⟨(q - l.Page).toNat,ω,ω⟩
 have J:∀q,q∈lpgs (Ab.trimL l size) (Ab.trimL l size).Pages.toNat↔l.Page<=q/\q<l.Page+(size+15) / 16:=λq=>by
  rw[dc];simp only[Ab.trimL];constructor
  ·rintro⟨j,n,rfl⟩;omega
  ·rintro⟨Z,q2⟩;exact⟨(q - l.Page).toNat,ω,ω⟩
 have hpe:l.Page+(size+15) / 16+(d7 l size:Nat)=l.Page+l.Pages:=ω
 have P:∀q,q∈pgs h.Spans la↔q∈pgs h.Spans h.Larges/\¬(l.Page+(size+15) / 16<=q/\q<l.Page+(size+15) / 16+(d7 l size:Nat)):=λq=>by
  rw[nP,nP,hpe];constructor
  ·rintro(⟨s,W,rfl⟩|⟨z,c,B⟩)
   ·exact⟨.inl ⟨s,W,rfl⟩,λe=>O s W l y (s.Page - l.Page).toNat ω ω⟩
   ·rcases d z c with rfl|⟨j,n,hjk,rfl⟩
    ·have:=(J q).1 B
     exact⟨.inr ⟨l,y,(D q).2 ⟨ω,ω⟩⟩,ω⟩
    ·refine⟨.inr ⟨_,am n,B⟩,λe=>?_⟩
     obtain⟨m,hm,rfl⟩:=dc.1 B;exact hjk (G j n m ((nth h.Larges j).Page+(m:Int) - l.Page).toNat hm ω ω)
  ·rintro⟨⟨s,W,rfl⟩|⟨z,c,B⟩,hne⟩
   ·exact .inl ⟨s,W,rfl⟩
   ·obtain⟨j,n,rfl⟩:=bc c
    by_cases e:j=k
    ·subst e
     rw[V]at B;have:=(D q).1 B;exact .inr ⟨_,p,(J q).2 ⟨ω,ω⟩⟩
    ·exact .inr ⟨_,u j n e,B⟩
 have K:∃o,(d7 l size=0->o=h.Free)/\(0<d7 l size->bS (dE h) h.Free ⟨l.Page+(size+15) / 16,(d7 l size:Nat)⟩ = some o)/\br (dE h) o=true/\∀q,RH o q↔RH h.Free q\/(l.Page+(size+15) / 16<=q/\q<l.Page+(size+15) / 16+(d7 l size:Nat)):=by
  by_cases e:d7 l size=0
  ·refine⟨h.Free,λ_=>rfl,λg=>absurd g ω,t.rng,λq=>⟨.inl,λg=>g.resolve_right ω⟩⟩
  ·obtain⟨o,o1,o2,o3⟩:=sA (r:=⟨l.Page+(size+15) / 16,(d7 l size:Nat)⟩) t.rng ⟨by simp only;omega,by simp only;omega,by show l.Page+(size+15) / 16+(d7 l size:Nat)<=(dE h:Int);have:((tbl h).Entries.length:Int)=(dE h:Int):=rfl;omega⟩ λq Z q2=>by
    simp only at Z q2;obtain⟨m,rfl⟩:=O2 (show 0<=q by omega);have Q:m<(tbl h).Entries.length:=ω
    exact(t.pg.fre m Q).1 ((t.pg.own m Q).2 (eY y ((D _).2 ⟨ω,ω⟩)))
   exact⟨o,λg=>absurd g e,λ_=>o1,o2,o3⟩
 obtain⟨o,o0,o1,o2,o3⟩:=K;have R:=(ew h.Kernel (l.Page+(size+15) / 16) (d7 l size)).1;have M:∀z∈h.Objs.set i {nth h.Objs i with Size:=size},z = {nth h.Objs i with Size:=size}\/∃j,j<h.Objs.length/\j≠i/\nth h.Objs j=z:=λz N=>eJ N
 have F:(h.Objs.set i {nth h.Objs i with Size:=size}).map (·.Addr)=h.Objs.map (·.Addr):=lS T rfl;have S:(h.Objs.set i {nth h.Objs i with Size:=size}).map (·.Id)=h.Objs.map (·.Id):=lS T rfl;have hli:=(am T:nth h.Objs i∈h.Objs)
 generalize h.Objs.set i {nth h.Objs i with Size:=size} = ob at M F S |-;refine⟨o,o0,o1,{t with
   ker:=jo t.ker _ _
   rng:=by show br (((dy h.Kernel (l.Page+(size+15) / 16) (d7 l size)).Machine.Table.Entries.length:Nat):Int) o=true;rw[R];exact o2
   lay:=?_
   srl:=?_
   pg:=E7 t (by have:((tbl h).Entries.length:Int)=(h.Kernel.Machine.Table.Entries.length:Int):=rfl;omega) (List.Sublist.refl _) (λz c q B=>?_) ω P o3
   osr:=?_
   onu:=λz c=>?_
   oid:=by show(ob.map (·.Id)).Nodup;rw[S];exact t.oid
   oow:=λz c=>?_
   nd:=?_
   mem:=λb=>?_}⟩
 ·obtain⟨l1,l2,l3⟩:=dd t.lay
  unfold bj;simp only[I0,C0];refine⟨⟨l1,Q3.2 λz c=>?_⟩,l3.sublist w⟩;rcases d z c with rfl|⟨j,n,-,rfl⟩
  ·exact O0 ⟨N.1,by show size<=1000;omega,rfl,by show 0<=l.Page;omega,by show l.Page<=32 - (size+15) / 16;omega⟩
  ·exact U.lok _ (am n)
 ·have A:(h.Larges.map (·.Page)).Pairwise (λa b=>a<b):=List.pairwise_map.2 t.srl
  rw[<-hpageM]at A;exact List.pairwise_map.1 A
 ·rcases d z c with rfl|⟨j,n,-,rfl⟩
  ·have:=(J q).1 B
   exact⟨l,y,(D q).2 ⟨ω,ω⟩⟩
  ·exact⟨_,am n,B⟩
 ·have A:(h.Objs.map (·.Addr)).Pairwise (λa b=>a<b):=List.pairwise_map.2 t.osr
  rw[<-F]at A;exact List.pairwise_map.1 A
 ·rcases M z c with rfl|⟨j,n,-,rfl⟩
  ·exact t.onu (nth h.Objs i) hli
  ·exact t.onu _ (am n)
 ·rcases M z c with rfl|⟨j,n,hji,rfl⟩
  ·exact .inr ⟨_,p,Y,rfl⟩
  ·rcases t.oow _ (am n) with A|⟨l',hl',e1,X⟩
   ·exact .inl A
   ·obtain⟨m,hm,rfl⟩:=bc hl'
    by_cases e:m=k
    ·subst e
     rw[V]at e1;exact absurd (gu (f:=(·.Addr)) (gF t.osr) n T (e1.trans Y.symm)) hji
    ·exact .inr ⟨_,u m hm e,e1,X⟩
 ·have hh:holders {h with Kernel:=dy h.Kernel (l.Page+(size+15) / 16) (d7 l size),Larges:=la,Objs:=ob,Free:=o} = holders h:=by
   show((ob.map (·.Addr)++ce h)++h.Quar.Lst.map (·.Addr))++aJ h.Mail=_;rw[F];rfl
  rw[hh];exact t.nd
 ·have hh:holders {h with Kernel:=dy h.Kernel (l.Page+(size+15) / 16) (d7 l size),Larges:=la,Objs:=ob,Free:=o} = holders h:=by
   show((ob.map (·.Addr)++ce h)++h.Quar.Lst.map (·.Addr))++aJ h.Mail=_;rw[F];rfl
  rw[hh,t.mem b];show ll h.Spans h.Larges b↔ll h.Spans la b;unfold ll;constructor
  ·rintro(A|⟨z,c,e⟩)
   ·exact .inl A
   ·obtain⟨j,n,rfl⟩:=bc c
    by_cases X:j=k
    ·subst X
     rw[V]at e;exact .inr ⟨_,p,e⟩
    ·exact .inr ⟨_,u j n X,e⟩
  ·rintro(A|⟨z,c,e⟩)
   ·exact .inl A
   ·rcases d z c with rfl|⟨j,n,-,rfl⟩
    ·exact .inr ⟨l,y,e⟩
    ·exact .inr ⟨_,am n,e⟩
def sv(h:ab)(k:Nat)(size:Int):af:=zK h.Kernel (16*(nth h.Larges k).Page+size) (16*((size+15) / 16) - size).toNat
def Fr(h:ab)(k:Nat)(size:Int):List ax:=if 0<d7 (nth h.Larges k) size then(bS (dE h) h.Free ⟨(nth h.Larges k).Page+(size+15) / 16,(d7 (nth h.Larges k) size:Nat)⟩).getD h.Free else h.Free
def trimH(h:ab)(i k:Nat)(size:Int):ab:={h with Kernel:=dy (sv h k size) ((nth h.Larges k).Page+(size+15) / 16) (d7 (nth h.Larges k) size),Larges:=h.Larges.set k (trimL (nth h.Larges k) size),Objs:=h.Objs.set i {nth h.Objs i with Size:=size},Free:=Fr h k size}
theorem nC{h:ab}{E:List Int}(b:bm h E){k:Nat}(c:k<h.Larges.length){a:Int}(g:16*(nth h.Larges k).Page<=a/\a<16*(nth h.Larges k).Page+16*(nth h.Larges k).Pages):(ar h.Kernel.Machine.Table (a / 16)).Mode≠0:=by
 obtain⟨i,j⟩:=z8 b c;have l:=aT (b.L.lok _ (am c));have d:(a / 16)∈pgs h.Spans h.Larges:=eY (am c) (dc.2 ⟨(a / 16 - (nth h.Larges k).Page).toNat,ω,ω⟩);have e:=b.pg.bnd _ d;have f:=(b.pg.own (a / 16).toNat ω).2 (by rw[show(((a / 16).toNat:Nat):Int)=a / 16 by omega];exact d);unfold ar;rw[C8 ⟨ω,e⟩];exact f
theorem BJ{h:ab}{E:List Int}(b:bm h E){k:Nat}(c:k<h.Larges.length){size:Int}(d:9<=size/\size<=(nth h.Larges k).Size):∀{m:Nat},m<=(16*((size+15) / 16) - size).toNat->aA (zK h.Kernel (16*(nth h.Larges k).Page+size) m)=true:=fun {m} hm=>by
 have a:=b.L.lok _ (am c);unfold bQ at a;rw[C0]at a;exact Mt b.ker λj e=>nC b c ⟨ω,ω⟩
theorem bm.trimH{h:ab}{i k:Nat}{size:Int}(d:bm h [])(A:i<h.Objs.length)(f:k<h.Larges.length)(B:(nth h.Objs i).Addr=16*(nth h.Larges k).Page)(r:9<=size/\size<=(nth h.Larges k).Size):bm (trimH h i k size) []/\JK h (trimH h i k size):=by
 have t:=BJ d f r (R2 _);have l:=(oZ h.Kernel (16*(nth h.Larges k).Page+size) (16*((size+15) / 16) - size).toNat).1;have C:=d.cells t l;obtain⟨o,u,w,y⟩:=C.trimL (i:=i) (k:=k) (size:=size) A f B r;simp only at u w y;have n:dE {h with Kernel:=zK h.Kernel (16*(nth h.Larges k).Page+size) (16*((size+15) / 16) - size).toNat} = dE h:=by
  unfold dE;simp only[l]
 have D:Fr h k size=o:=by
  unfold Fr;split
  ·rename_i g;have:=w g;rw[n]at this;rw[this];rfl
  ·exact(u ω).symm
 have E:Ab.trimH h i k size = {h with Kernel:=dy (sv h k size) ((nth h.Larges k).Page+(size+15) / 16) (d7 (nth h.Larges k) size),Larges:=h.Larges.set k (Ab.trimL (nth h.Larges k) size),Objs:=h.Objs.set i {nth h.Objs i with Size:=size},Free:=o}:=by unfold Ab.trimH;rw[D]
 refine⟨by rw[E];exact y,JK.less rfl rfl rfl λq j=>?_⟩;have a:=d.L.lok _ (am f);unfold bQ at a;rw[C0]at a;obtain⟨F,G⟩:=z8 d f;have b:(sv h k size).Machine.Table=h.Kernel.Machine.Table:=l;have c:=kM (k:=sv h k size) t (p:=(nth h.Larges k).Page+(size+15) / 16) ω (d7 (nth h.Larges k) size) (by rw[b];have:((tbl h).Entries.length:Int)=(h.Kernel.Machine.Table.Entries.length:Int):=rfl;unfold d7;omega) q;change (nth (dy (sv h k size) ((nth h.Larges k).Page+(size+15) / 16) (d7 (nth h.Larges k) size)).Machine.Table.Entries q).Mode≠0 at j;show nth (dy (sv h k size) ((nth h.Larges k).Page+(size+15) / 16) (d7 (nth h.Larges k) size)).Machine.Table.Entries q=nth h.Kernel.Machine.Table.Entries q;rw[c]at j |-;split at j
 ·exact absurd rfl j
 ·rename_i e;rw[C7 e,b]
theorem Eh{t:Nat}(h:1<=t/\t<=4):bE (d3 t)=true:=by
 have f:∀n,n<=t->bn (d3 t) n=0:=λn=>by
  induction n with
  | zero=>intro _;rfl
  | succ n g=>
   intro j;have a:nth (d3 t).Buffers n=[]:=cN ω;have b:nth (d3 t).Inbox n=[]:=cN ω;simp only[bn,g ω,a,b,List.length_nil]
   decide
 have e:(d3 t).Buffers.length=t:=z3 ..;refine d5.2 ⟨⟨ω,ω,by simp[d3]⟩,λi c=>?_,by rw[e,f t (R2 _)];omega⟩;rw[e]at c;have a:nth (d3 t).Buffers i=[]:=cN c;have b:nth (d3 t).Inbox i=[]:=cN c;rw[a,b];exact⟨λp d=>(by cases d),λp d=>(by cases d)⟩
theorem sH(t:Nat):aJ (d3 t)=[]:=by
 unfold aJ;split
 ·simp[d3]
 ·rfl
def pk(k:af)(t:Nat)(sd ck lim:Int):ab:=⟨k,[⟨0,(k.Machine.Table.Entries.length:Nat)⟩],[],[],[],List.replicate t eC,d3 t,⟨16,[]⟩,sd,ck,lim,1,false,⟨⟨0,0,[]⟩,0,0⟩⟩
theorem Bq:bt eC=true:=by decide
theorem bm.fresh{k:af}{t:Nat}{lim sd ck:Int}(B:aA k=true)(C:∀q,q<k.Machine.Table.Entries.length->(nth k.Machine.Table.Entries q).Mode=0)(F:1<=t/\t<=4)(h:0<=lim/\lim<=1000)(i:0<=sd/\sd<=1073741823)(d:0<=ck/\ck<=1000000):bm (pk k t sd ck lim) []:=by
 obtain⟨H,J,K⟩:=bu.1 (aC.1 B).2.2.1;have g:ce (pk k t sd ck lim)=[]:=by
  unfold ce;refine List.flatMap_eq_nil_iff.2 λc d=>?_
  rw[(List.mem_replicate.1 d).2]
  rfl
 have D:holders (pk k t sd ck lim)=[]:=by
  unfold holders;rw[g];show(([]++[])++[])++aJ (d3 t)=[];rw[sH];rfl
 have n:∀a,¬ll (pk k t sd ck lim).Spans (pk k t sd ck lim).Larges a:=λa=>by
  rintro(⟨s,i,-⟩|⟨l,h,-⟩)
  ·cases i
  ·cases h
 exact {
   ker:=B
   rng:=eR.2 ⟨⟨List.pairwise_singleton ..,λy r=>by rw[Z0.1 r];show(1:Int)<=(k.Machine.Table.Entries.length:Nat);omega⟩,λy r=>by
       rw[Z0.1 r];refine⟨C4 _,by show(1:Int)<=(k.Machine.Table.Entries.length:Nat);omega,?_⟩;show(0:Int)+(k.Machine.Table.Entries.length:Nat)<=(k.Machine.Table.Entries.length:Nat);omega,by show(1:Int)<=(k.Machine.Table.Entries.length:Nat);omega,by show((k.Machine.Table.Entries.length:Nat):Int)<=32;omega⟩
   lay:=by show bj [] []=true;decide
   srs:=List.Pairwise.nil
   srl:=List.Pairwise.nil
   pg:=⟨λl h=>(by cases h),λp f=>(by cases f),λp f=>⟨λe=>absurd (C p f) e,λe=>by cases e⟩,λp f=>⟨λe=>absurd (C p f) e,λe=>absurd ⟨_,Z0.2 rfl,by show(0:Int)<=p;omega,by
       show(p:Int)<0+(k.Machine.Table.Entries.length:Nat);have G:p<k.Machine.Table.Entries.length:=f;omega⟩ e⟩,λs i=>by cases i⟩
   mail:=Eh F
   nc:=by show(List.replicate t eC).length=(List.replicate t _).length;simp
   quar:=by show fp ⟨16,[]⟩ = true;decide
   snc:=λx u=>by cases u
   cach:=λc d=>by rw[(List.mem_replicate.1 d).2];exact Bq
   nums:=by unfold cm;rw[C0];simp only[pk];omega
   osr:=List.Pairwise.nil
   onu:=λo w=>by cases w
   oid:=List.nodup_nil
   oow:=λo w=>by cases w
   hca:=λc d j E a b=>by
     rw[(List.mem_replicate.1 d).2]at E b;have A:j<4:=E;have:nth eC.Lists j=[]:=cN A;rw[this]at b;cases b
   hqu:=λx u=>by cases u
   hfl:=λa b=>by
     have:aJ (d3 t)=[]:=sH t;change a∈aJ (d3 t) at b;rw[this]at b;cases b
   hin:=λa b=>by cases b
   nd:=by rw[D];exact List.nodup_nil
   mem:=λa=>by rw[D];exact⟨λe=>(by cases e),λe=>absurd e (n a)⟩
   job:=λe=>by cases e
   noj:=λ_=>by show pK ⟨⟨0,0,[]⟩,0,0⟩ = true;decide}
theorem JI.no{h:ab}(a:h.Meshing=false):JI h:=⟨λe=>(by rw[a]at e;cases e),λe=>(by rw[a]at e;cases e),λe=>(by rw[a]at e;cases e),λe=>(by rw[a]at e;cases e)⟩
theorem oA{p f:Nat}{a:List Int}(d:1<=p/\p<=32)(e:1<=f/\f<=32)(b:a.length<=40/\∀x∈a,0<=x):aA (bB p f a)=true:=by
 obtain⟨-,g,h,i,c⟩:=aC.1 (zP d e);exact aC.2 ⟨λj k=>b.2 _ (am k),g,h,i,c.1,c.2.1,b.1⟩
theorem Dk{p f t:Nat}{lim:Int}{a:List Int}(c:1<=p/\p<=32)(d:1<=f/\f<=32)(g:1<=t/\t<=4)(i:0<=lim/\lim<=1000)(j:a.length<=40/\∀x∈a,0<=x):bm (tF p f t lim a) []:=by
 have h:=bm.fresh (k:=bB p f a) (t:=t) (lim:=lim) (sd:=0) (ck:=0) (oA c d j) (λq l=>by
   have b:q<p:=by simpa[bB,dx] using l
   rw[show nth (bB p f a).Machine.Table.Entries q = ⟨0,0⟩ from cN b]) g i ω ω
 have e:(bB p f a).Machine.Table.Entries.length=p:=by simp[bB,dx]
 unfold pk at h;rw[e]at h;exact h
structure dJ where
 Kind:Int
 Thread:Int
 N:Int
 At:Int
 Value:Int
deriving DecidableEq,Inhabited
def dJ.enc(_:du)(x:dJ):List C:=[I x.Kind,I x.Thread,I x.N,I x.At,I x.Value]
def lH(id:Int)(o:bG):Bool:=decide (o.Id=id)
def mG(r:ay)(id:Int):Int:=dm (lH id) r.Objs
def jH(r:ay)(n:Int):ay:=if 1<=n/\n<=1000 then {r with Next:=r.Next+1,Objs:=r.Objs++[⟨r.Next,List.replicate n.toNat 0⟩]} else r
def kj(r:ay)(id:Int):ay:=if mG r id<0 then r else {r with Objs:=dele r.Objs (mG r id).toNat}
def eG(r:ay)(id at_ v:Int):ay:=if 0<=mG r id/\(0<=at_/\at_<=(nth r.Objs (mG r id).toNat).Cells.length - 1)/\0<=v/\v<=999 then {r with Objs:=r.Objs.set (mG r id).toNat ⟨(nth r.Objs (mG r id).toNat).Id,(nth r.Objs (mG r id).toNat).Cells.set at_.toNat v⟩} else r
def fX(r:ay)(id n:Int):ay:=if 0<=mG r id/\1<=n/\n<=(nth r.Objs (mG r id).toNat).Cells.length then {r with Objs:=r.Objs.set (mG r id).toNat ⟨(nth r.Objs (mG r id).toNat).Id,(nth r.Objs (mG r id).toNat).Cells.take n.toNat⟩} else r
structure qv(r:ay)(m:Nat):Prop where
 len:r.Objs.length<=m
 cel:∀o∈r.Objs,o.Cells.length<=1000
 nx:0<=r.Next/\r.Next<=m+1
theorem qv.more{r:ay}{m n:Nat}(h:qv r m)(a:m<=n):qv r n:=⟨by have:=h.len;omega,h.cel,h.nx.1,by have:=h.nx.2;omega⟩
theorem qv.sml{r:ay}{m:Nat}(h:qv r m)(b:m<=1000):ay.sml r:=⟨by have:=h.len;omega,λo a=>by have:=h.cel o a;show o.Cells.length<=1048576;omega⟩
theorem qv.alloc{r:ay}{m:Nat}(h:qv r m)(n:Int):qv (jH r n) (m+1):=by
 unfold jH;split
 ·refine⟨by have:=h.len;simp only[W2,List.length_singleton];omega,λo a=>?_,by have:=h.nx.1;simp only;omega,by have:=h.nx.2;simp only;omega⟩
  rcases Q2.1 a with a|a
  ·exact h.cel o a
  ·rw[Z0.1 a];simp only[z3];omega
 ·exact h.more ω
theorem qv.free{r:ay}{m:Nat}(h:qv r m)(id:Int):qv (kj r id) m:=by
 unfold kj;split
 ·exact h
 ·have a:=dY r.Objs (mG r id).toNat
  exact⟨v4 a.length_le h.len,λo b=>h.cel o (a.subset b),h.nx⟩
theorem qv.set{r:ay}{m i:Nat}{x:bG}(h:qv r m)(b:x.Cells.length<=1000):qv {r with Objs:=r.Objs.set i x} m:=
 ⟨by simp only[C1];exact h.len,λo a=>by
   rcases C5 a with a|rfl
   · exact h.cel o a
   · exact b,h.nx⟩
theorem fg{α:Type}[Inhabited α](p:α->Bool)(xs:List α)(h:0<=dm p xs):(dm p xs).toNat<xs.length/\p (nth xs (dm p xs).toNat)=true/\dm p xs=((dm p xs).toNat:Nat):=by
 rcases ki p xs with e|⟨n,a,e,b⟩
 ·omega
 ·rw[e,I2];exact⟨a,b,rfl⟩
theorem qv.store{r:ay}{m:Nat}(h:qv r m)(id a v:Int):qv (eG r id a v) m:=by
 unfold eG;split
 ·rename_i e
  refine h.set ?_;simp only[C1];exact h.cel (nth r.Objs (mG r id).toNat) (am (fg _ _ e.1).1)
 ·exact h
theorem qv.trim{r:ay}{m:Nat}(h:qv r m)(id n:Int):qv (fX r id n) m:=by
 unfold fX;split
 ·rename_i e
  refine h.set ?_;have:=h.cel (nth r.Objs (mG r id).toNat) (am (fg _ _ e.1).1);simp only[I1];omega
 ·exact h
def JE(id:Int)(o:bH):Bool:=decide (o.Id=id)
def qy(h:ab)(id:Int):Int:=dm (JE id) h.Objs
def Ff(a:Int)(l:a8):Bool:=decide (l.Page*16=a)
def xn(h:ab)(a:Int):Int:=dm (Ff a) h.Larges
def nw(h:ab)(a:dJ):Prop:=0<=a.Thread/\a.Thread<=h.Caches.length - 1
instance (h:ab) (a:dJ):Decidable (nw h a):=by unfold nw;infer_instance
def nQ(w:bF)(a:dJ)(i:Nat):bF × Int:=
 if w.Heap.Kernel.Calls=100000 then(w,6)
 else if nw w.Heap a then(⟨(freeT w.Heap a.Thread.toNat i).1,if(freeT w.Heap a.Thread.toNat i).2=0 then kj w.Ref (nth w.Heap.Objs i).Id else w.Ref⟩,(freeT w.Heap a.Thread.toNat i).2)
 else(w,1)
def lh(w:bF)(a:dJ)(i:Nat):bF × Int:=
 if ¬(0<=a.At/\a.At<=(nth w.Heap.Objs i).Size - 1) then(w,90)
 else if(ar w.Heap.Kernel.Machine.Table (((nth w.Heap.Objs i).Addr+a.At) / 16)).Mode=1 then(w,2)
 else if ¬(0<=a.Value/\a.Value<=999) then(w,3)
 else(⟨{w.Heap with Kernel:=kr w.Heap.Kernel ((nth w.Heap.Objs i).Addr+a.At) a.Value},eG w.Ref (nth w.Heap.Objs i).Id a.At a.Value⟩,0)
def jV(h:ab)(i:Nat)(n:Int):Prop:=0<=xn h (nth h.Objs i).Addr/\9<=n/\n<=(nth h.Larges (xn h (nth h.Objs i).Addr).toNat).Size
instance (h:ab) (i:Nat) (n:Int):Decidable (jV h i n):=by unfold jV;infer_instance
def nG(w:bF)(a:dJ)(i:Nat):bF × Int:=
 if w.Heap.Kernel.Calls≠100000/\jV w.Heap i a.Value then(⟨trimH w.Heap i (xn w.Heap (nth w.Heap.Objs i).Addr).toNat a.Value,fX w.Ref (nth w.Heap.Objs i).Id a.Value⟩,0) else(w,90)
def mi(w:bF)(a:dJ)(i:Nat):bF × Int:=if a.Kind=2 then nQ w a i else if a.Kind=3 then lh w a i else nG w a i
def fk(h:ab)(a:dJ):ab × Int:=
 if a.Kind=5 then(if nw h a/\0<(nth h.Mail.Buffers a.Thread.toNat).length then({h with Mail:=fw h.Mail a.Thread.toNat},0) else(h,90))
 else if ¬(h.Kernel.Calls≠100000/\nw h a) then(h,0)
 else if a.Kind=6 then(collect h a.Thread.toNat,((nth h.Mail.Inbox a.Thread.toNat).length:Nat))
 else((flushN a.Thread.toNat h 4).1,((flushN a.Thread.toNat h 4).2:Nat))
def lM(h:ab)(n:Int):ab × Int:=if h.Kernel.Calls≠100000/\(0<=n/\n<=1000)/\h.Clock+n<=1000000 then(tick h n,((mg h n).length:Nat)) else(h,0)
def qg(h:ab):Bool:=h.Meshing&&decide (h.Kernel.Calls<=99000)
def lb(h:ab):Nat->ab × Nat
 | 0=>(h,0)
 | i+1=>if qg (lb h i).1=true then(mStep (lb h i).1,(lb h i).2+1) else lb h i
def lB(h:ab):ab × Int:=if h.Meshing=true then(h,90) else((started h).1,if(started h).2=true then 0 else 90)
def kU(w:bF)(a:dJ):bF × Int:=
 if a.Kind=1 then(⟨(ep w.Heap a.Thread a.N).1,if(ep w.Heap a.Thread a.N).2.2=0 then jH w.Ref a.N else w.Ref⟩,(ep w.Heap a.Thread a.N).2.2)
 else if a.Kind=2\/a.Kind=3\/a.Kind=4 then(if qy w.Heap a.N<0 then(w,90) else mi w a (qy w.Heap a.N).toNat)
 else if a.Kind=5\/a.Kind=6\/a.Kind=7 then(⟨(fk w.Heap a).1,w.Ref⟩,(fk w.Heap a).2)
 else if a.Kind=8 then(⟨(lM w.Heap a.N).1,w.Ref⟩,(lM w.Heap a.N).2)
 else if a.Kind=9 then(⟨(lB w.Heap).1,w.Ref⟩,(lB w.Heap).2)
 else if a.Kind=10/\0<=a.N/\a.N<=50 then(⟨(lb w.Heap a.N.toNat).1,w.Ref⟩,((lb w.Heap a.N.toNat).2:Nat))
 else(w,90)
structure qM(w:bF)(m:Nat):Prop where
 inv:bm w.Heap []
 ji:JI w.Heap
 ref:qv w.Ref m
theorem qM.more{w:bF}{m n:Nat}(h:qM w m)(a:m<=n):qM w n:=⟨h.inv,h.ji,h.ref.more a⟩
theorem qM.jk{w:bF}{m:Nat}(h:qM w m){g:ab}{r:ay}(a:bm g []/\JK w.Heap g)(b:qv r m):qM ⟨g,r⟩ m:=⟨a.1,h.ji.keep a.1 a.2,b⟩
theorem lN{h:ab}{E:List Int}(a:bm h E){o:bH}(p:o∈h.Objs){k:Int}(D:0<=k/\k<=o.Size - 1):(ar h.Kernel.Machine.Table ((o.Addr+k) / 16)).Mode≠0/\0<=o.Addr/\o.Addr+k<512:=by
 rcases a.oow o p with⟨s,g,q,r⟩|⟨l,i,F,G⟩
 ·have b:=a.L.sok s g
  have t:=aE b;obtain⟨u,w,y⟩:=a.mapped g;have d:=co t.2.2;obtain⟨H,J,A,-⟩:=q;have f:o.Size<=csz s.Class:=by
   have K:=pq (n:=o.Size) ω;rw[r];have:o.Size=1\/o.Size=2\/o.Size=3\/o.Size=4\/o.Size=5\/o.Size=6\/o.Size=7\/o.Size=8:=ω
   rcases this with e|e|e|e|e|e|e|e<;>rw[e]<;>decide
  have B:(o.Addr+k) / 16=s.Page:=by
   rcases d with e|e|e|e<;>rw[e]at A f<;>omega
  rw[B];refine⟨?_,ω,ω⟩;unfold ar;rw[C8 ⟨u,w⟩];exact y
 ·obtain⟨j,C,rfl⟩:=bc i
  have c:=a.L.lok _ i;unfold bQ at c;rw[C0]at c;exact⟨nC a C ⟨ω,ω⟩,ω,ω⟩
theorem qM.obj{w:bF}{m:Nat}(h:qM w m)(a:dJ){i:Nat}(b:i<w.Heap.Objs.length):qM (mi w a i).1 m:=by
 unfold mi;split
 ·unfold nQ
  split
  ·exact h
  split
  ·rename_i d
   unfold nw at d;refine h.jk (h.inv.freeT b ω) ?_;split
   ·exact h.ref.free _
   ·exact h.ref
  ·exact h
 split
 ·unfold lh
  split
  ·exact h
  rename_i l;split
  ·exact h
  split
  ·exact h
  rename_i n;exact h.jk (h.inv.store (lN h.inv (am b) ω).1 ω) (h.ref.store _ _ _)
 ·unfold nG
  split
  ·rename_i e
   obtain⟨-,f,g⟩:=e;obtain⟨j,k,o⟩:=fg _ _ f;have c:=of_decide_eq_true k;exact h.jk (h.inv.trimH b j (c.symm.trans (Int.mul_comm _ _)) g) (h.ref.trim _ _)
  ·exact h
theorem qM.thread{w:bF}{m:Nat}(h:qM w m)(a:dJ):qM ⟨(fk w.Heap a).1,w.Ref⟩ m:=by
 unfold fk;split
 ·split
  ·rename_i e
   obtain⟨b,i⟩:=e;unfold nw at b;exact h.jk (g:={w.Heap with Mail:=fw w.Heap.Mail a.Thread.toNat}) ⟨h.inv.deliv (by rw[<-h.inv.nc];omega) i,JK.eq rfl rfl rfl rfl⟩ h.ref
  ·exact h
 split
 ·exact h
 rename_i e;have e:=Classical.not_not.1 e;obtain⟨-,b⟩:=e;unfold nw at b;split
 ·exact h.jk (g:=collect w.Heap a.Thread.toNat) (h.inv.collect ω) h.ref
 ·have c:a.Thread.toNat<w.Heap.Caches.length:=ω
  have d:=(jQ h.inv c (R2 4)).1;have f:=JK.flushN h.inv c (R2 4);generalize flushN a.Thread.toNat w.Heap 4=r at d f |-;exact h.jk (g:=r.1) ⟨d,f⟩ h.ref
theorem ro{h:ab}(a:bm h [])(b:JI h):∀n,bm (lb h n).1 []/\JI (lb h n).1
 | 0=>⟨a,b⟩
 | n+1=>by
  obtain⟨c,d⟩:=ro a b n;unfold lb;split
  ·rename_i e
   unfold qg at e;rw[I0]at e;exact c.mStep d e.1
  ·exact⟨c,d⟩
theorem qM.act{w:bF}{m:Nat}(h:qM w m)(a:dJ):qM (kU w a).1 (m+1):=by
 unfold kU;split
 ·have b:=Gv (t:=a.Thread) (size:=a.N) h.inv
  refine⟨b.1,h.ji.keep b.1 b.2,?_⟩;show qv (if _ then _ else _) (m+1);split
  ·exact h.ref.alloc _
  ·exact h.ref.more ω
 refine qM.more (m:=m) ?_ ω;split
 ·split
  ·exact h
  ·rename_i e
   exact h.obj a (fg _ _ (by unfold qy at e;omega)).1
 split
 ·exact h.thread a
 split
 ·unfold lM
  split
  ·rename_i e
   exact h.jk (h.inv.tick e.2.1.1 e.2.2) h.ref
  ·exact h
 split
 ·unfold lB
  split
  ·exact h
  ·rename_i e
   have b:=Dx h.inv (by simpa using e);exact⟨b.1,b.2,h.ref⟩
 split
 ·have b:=ro h.inv h.ji a.N.toNat
  exact⟨b.1,b.2,h.ref⟩
 ·exact h
structure cr where
 Pages:Nat
 Frames:Nat
 Threads:Nat
 Limit:Int
 Refuse:List Int
deriving Inhabited
structure De(c:cr):Prop where
 p:1<=c.Pages/\c.Pages<=32
 f:1<=c.Frames/\c.Frames<=32
 t:1<=c.Threads/\c.Threads<=4
 l:0<=c.Limit/\c.Limit<=1000
 r:c.Refuse.length<=40/\∀x∈c.Refuse,0<=x
def world0(c:cr):bF:=⟨tF c.Pages c.Frames c.Threads c.Limit c.Refuse,{Next:=1,Objs:=[]}⟩
def xl(c:cr)(acts:List dJ):Nat->bF × List Int
 | 0=>(world0 c,[])
 | i+1=>((kU (xl c acts i).1 (nth acts i)).1,(xl c acts i).2++[(kU (xl c acts i).1 (nth acts i)).2])
theorem GM{c:cr}(h:De c):qM (world0 c) 0:=
 ⟨Dk h.p h.f h.t h.l h.r,JI.no rfl,⟨R2 _,λo a=>(by cases a),by show(0:Int)<=1;omega,by show(1:Int)<=((0:Nat):Int)+1;omega⟩⟩
theorem rj{c:cr}(h:De c)(acts:List dJ):∀n,qM (xl c acts n).1 n
 | 0=>GM h
 | n+1=>(rj h acts n).act _
theorem or64{z1 z2:Int}(h1:0<=z1/\z1<=65535)(a:0<=z2/\z2<=65535):IntKind.i64.wrap ((BitVec.ofInt IntKind.i64.bits z1 ||| BitVec.ofInt IntKind.i64.bits z2).toNat:Nat)=bor z1 z2:=by
 rw[BitVec.toNat_or,lC ω,lC ω];have b:=Jb h1 a;unfold bor at b |-;exact eK ω ω
theorem wJ(h:ab)(i:Nat)(n:dq h.Spans)(d:wG h)(a:∀s∈h.Spans,bf s=true)(y:i<h.Spans.length):ao Tryz.prog 342 false [.val (some 24) (ab.enc .imm h),.val none [I (i:Nat)]] .one [I (gr h i)]:=by
 have F:=n.1;have G:=ah y;have g:=tq a y;have B:=aD ((i:Nat):Int) 0 ((h.Spans.length:Int) - 1);rw[O0 (show(0:Int)<=(i:Nat)/\((i:Nat):Int)<=(h.Spans.length:Int) - 1 by omega)]at B;have C:=gw h (nth h.Spans i).Page d;have o:=gh h (nth h.Spans i).Page;have H:dE h<=1048576:=d.1;have c:gr h i=iZ h.Spans (aS h (nth h.Spans i).Page) (nth h.Spans i).Bits (aS h (nth h.Spans i).Page).length:=rfl;obtain⟨ps,q⟩ : ∃ps,aS h (nth h.Spans i).Page=ps:=⟨_,rfl⟩
 obtain⟨b,r⟩ : ∃b,(nth h.Spans i).Bits=b:=⟨_,rfl⟩
 rw[q]at C o c;rw[r]at c g;rw[c];have J:iZ h.Spans ps b 0=b:=rfl;refine fO 63 [(4,7,[22,23,24,25,26,27,28]),(11,10,[43,44,45,46,47,48,49,50,51,52])] Tryz.func342 rfl ?_
 repeat'(first|refine gO ?_|(conv=>whnf);first|with_reducible refine CA (aa G) ?_|refine C6 (B) ?_|refine C6 (C) ?_)
 (conv=>whnf)
 refine CC (ι:=Nat) (λu=>[(2,.hold .box (ab.enc .imm h)),(5,.hold .one [I (iZ h.Spans ps b u)]),(6,.hold .one (aF .own ps)),(7,.hold .one [I ((u:Nat):Int)])]) (λu=>u<=ps.length) (λu=>ps.length - u) (0) ?_ (R0 _) λu M=>?_
 ·exact wB
 by_cases K:u<ps.length
 ·have l:=ah K
  have t:=qI a (ps:=ps) g u
  repeat'(first|refine gD ?_|fail)
  (conv=>whnf)
  refine CC (ι:=Nat) (λj=>[(2,.hold .box (ab.enc .imm h)),(5,.hold .one [I (pL h.Spans (nth ps u) (iZ h.Spans ps b u) j)]),(6,.hold .one (aF .own ps)),(7,.hold .one [I ((u:Nat):Int)]),(8,.hold .one [I ((j:Nat):Int)])]) (λj=>j<=h.Spans.length) (λj=>h.Spans.length - j) (0) ?_ (R0 _) λj L=>?_
  ·exact wB
  by_cases D:j<h.Spans.length
  ·have E:=ah D
   have w:=tE a (p:=nth ps u) t j L;by_cases e:(nth h.Spans j).Page=nth ps u
   ·have k:pL h.Spans (nth ps u) (iZ h.Spans ps b u) (j+1)=bor (pL h.Spans (nth ps u) (iZ h.Spans ps b u) j) (nth h.Spans j).Bits:=C8 e
    repeat'(first|refine gA ?_|(conv=>whnf);first|with_reducible (first|refine CA (aa l) ?_|refine CA (aa E) ?_)|refine CF rfl (aa l) rfl ?_|refine CI (or64 w (tq a D)) ?_)
    ((conv=>whnf);refine CB (j+1) ω ω ?_;(exact wB))
   ·have k:pL h.Spans (nth ps u) (iZ h.Spans ps b u) (j+1)=pL h.Spans (nth ps u) (iZ h.Spans ps b u) j:=C7 e
    repeat'(first|refine gA ?_|(conv=>whnf);first|with_reducible (first|refine CA (aa l) ?_|refine CA (aa E) ?_)|refine CF rfl (aa l) rfl ?_)
    ((conv=>whnf);refine CB (j+1) ω ω ?_;(exact wB))
  ·obtain rfl:j=h.Spans.length:=ω
   repeat'(first|refine gD ?_|fail)
   ((conv=>whnf);refine CB (u+1) ω ω ?_;(exact wB))
 ·obtain rfl:u=ps.length:=ω
  repeat'(first|refine gD ?_|fail)
  rfl
theorem rR{xs:List bH}(h:∀o∈xs,0<=o.Size/\o.Size<=1000):∀k:Nat,k<=xs.length->0<=rg xs k/\rg xs k<=1000*k
 | 0,_=>⟨C4 _,C4 _⟩
 | k+1,a=>by
  have b:=rR h k ω;have c:=h _ (am (xs:=xs) (i:=k) ω);simp only[rg];omega
theorem tY(h:ab)(a:∀o∈h.Objs,0<=o.Size/\o.Size<=1000)(e:h.Objs.length<=1048576):ao Tryz.prog 51 false [.val (some 24) (ab.enc .imm h)] .one [I (ve h)]:=by
 refine fO 21 [] Tryz.func51 rfl ?_
 repeat'(first|refine gO ?_|fail)
 (conv=>whnf)
 refine CC (ι:=Nat) (λk=>[(1,.hold .box (ab.enc .imm h)),(3,.hold .one [I (rg h.Objs k)]),(4,.hold .one [I ((k:Nat):Int)])]) (λk=>k<=h.Objs.length) (λk=>h.Objs.length - k) (0) ?_ (R0 _) λk c=>?_
 ·exact wB
 have g:=rR a k c;by_cases b:k<h.Objs.length
 ·have d:=ah b
  have i:=a _ (am b)
  repeat'(first|refine gD ?_|(conv=>whnf);first|refine CA (aa d) ?_)
  ((conv=>whnf);refine CB (k+1) ω ω ?_;(exact wB))
 ·obtain rfl:k=h.Objs.length:=ω
  repeat'(first|refine gD ?_|fail)
  rfl
theorem uC(k b:Int)(h:b<=9223372036854775807):ao Tryz.prog 341 false [.val none [I (slots k)],.val none [I b]] .one (aF .own (pd k b)):=by
 have c:=oB k b;have p:0<=slots k/\slots k<=16:=by unfold slots;repeat' split<;>omega
 unfold pd;cases e:Ji k b<;>rw[e]at c
 ·rw[C7 (by simp)]
  refine fO 27 [] Tryz.func341 rfl ?_ (.inr (bM _))
  repeat'(first|refine gO ?_|fail)
  (conv=>whnf)
  refine CC (ι:=Nat) (λj=>[(0,.hold .one [I (slots k)]),(1,.hold .one [I (b)]),(5,.hold .one (aF .own [])),(6,.hold .one [I ((j:Nat):Int)])]) (λj=>j=0) (λj=>1 - j) (0) ?_ (rfl) λj g=>?_
  ·exact wB
  subst g
  repeat'(first|refine gD ?_|(conv=>whnf);first|with_reducible refine Bf.D (λi=>?_) (λi=>?_)|refine C6 (c) ?_)
  all_goals rfl
 ·rw[C8 rfl]
  refine fO 27 [] Tryz.func341 rfl ?_ (.inr (bM _))
  repeat'(first|refine gO ?_|fail)
  (conv=>whnf)
  refine CC (ι:=Nat) (λj=>[(0,.hold .one [I (slots k)]),(1,.hold .one [I (b)]),(5,.hold .one (aF .own (mS b j))),(6,.hold .one [I ((j:Nat):Int)])]) (λj=>j<=(slots k).toNat) (λj=>(slots k).toNat - j) (0) ?_ (R0 _) λj g=>?_
  ·exact wB
  have l:=ru b j;by_cases q:j<(slots k).toNat
  ·have d:=gP b (j:Nat) h
   have a:mS b (j+1)=if aX b (j:Nat)=true then mS b j else mS b j++[((j:Nat):Int)]:=rfl
   cases n:aX b (j:Nat)<;>rw[n]at d a
   ·rw[C7 (by simp)]at a
    repeat'(first|refine gD ?_|(conv=>whnf);first|refine C6 (c) ?_|refine C6 (d) ?_|refine CP cF (λr o=>by rw[Z0.1 o];rfl) (by simp[aU,d6]) (by simp;omega) (by simp only[W0];exact xM (by simp;omega) (by decide)) rfl ?_)
    ((conv=>whnf);refine CB (j+1) ω ω ?_)
    rw[a]
    repeat'(first|exact trivial|rfl|exact CH rfl (CH (T0 (C.s du.own) (by simp[rI])) trivial)|refine CH ?_ ?_|(exact Dl (by first|omega|(simp only;omega)|(simp;omega))))
   ·rw[C8 rfl]at a
    repeat'(first|refine gD ?_|(conv=>whnf);first|refine C6 (c) ?_|refine C6 (d) ?_)
    ((conv=>whnf);refine CB (j+1) ω ω ?_)
    rw[a];exact wB
  ·obtain rfl:j=(slots k).toNat:=ω
   repeat'(first|refine gD ?_|fail)
   rfl
theorem Gx(b i:Int):bor b (2 ^ i.toNat)=ge b i:=by
 unfold bor ge;have:((2 ^ i.toNat:Nat):Int)=(2:Int) ^ i.toNat:=Int.natCast_pow 2 i.toNat;rw[<-this,I2]
theorem xg(b i:Int)(d:0<=b/\b<=65535)(a:0<=i/\i<=15):ao Tryz.prog 344 false [.val none [I b],.val none [I i]] .one [I (ge b i)]:=by
 have c:=nM b i;rw[O0 ω]at c;have e:IntKind.u64.wrap i=i:=by unfold IntKind.wrap;simp[IntKind.signed,IntKind.bits];omega
 have h:=(shl64 a).2;have g:=(or64 (z1:=b) (z2:=2 ^ i.toNat) d ω).trans (Gx b i);refine fO 15 [] Tryz.func344 rfl ?_
 repeat'(first|refine gO ?_|(conv=>whnf);first|refine C6 (c) ?_|refine CK ω ?_|refine CI e ?_|refine CI (shl64 a).1 ?_|refine CI g ?_)
 rfl
theorem Kv{s:au}(b:bf s=true){k:Int}(d:0<=k/\k<slots s.Class):0<=k*csz s.Class/\k*csz s.Class<=15:=by
 have a:=aE b;have c:=fU a.2.2;rcases co a.2.2 with e|e|e|e<;>rw[e]at c |-<;>omega
theorem wv(s:au)(k:Int)(a:bf s=true)(d:0<=k/\k<slots s.Class):ao Tryz.prog 345 false [.val (some 3) (au.enc .imm s),.val none [I k]] .one [I (16*s.Page+k*csz s.Class)]:=by
 have e:=aE a;have i:=Kv a d;have j:=fU e.2.2;have b:=fR s;rw[a]at b;have g:=lL s.Class;have c:=aD k 0 (slots s.Class - 1);rw[O0 ω]at c;have h:=dw s.Class;refine fO 26 [(3,8,[17,18,19,20,21,22,23,24])] Tryz.func345 rfl ?_
 repeat'(first|refine gO ?_|(conv=>whnf);first|refine C6 (b) ?_|refine C6 (g) ?_|refine C6 (c) ?_|refine C6 (h) ?_|refine C9 ?_)
 exact T0 (λz=>[I z]) ω
theorem zt(f:aY)(g:f.Used.length<=1048576):ao Tryz.prog 346 false [.val (some 2) (aY.enc .imm f)] .one [I (dm (λu=>!u) f.Used)]:=by
 refine fO 18 [] Tryz.func346 rfl ?_
 repeat'(first|refine gO ?_|fail)
 (conv=>whnf)
 refine CC (ι:=Nat) (λi=>[(1,.hold .box (aY.enc .imm f)),(3,.hold .one [I ((i:Nat):Int)])]) (λi=>i<=f.Used.length/\∀(j:Nat)(z:Bool),j<i->f.Used[j]? = some z->(!z)=false) (λi=>f.Used.length - i) (0) ?_ (⟨R0 _,λj z h=>ω⟩) λi c=>?_
 ·exact wB
 obtain⟨c,b⟩:=c;by_cases d:i<f.Used.length
 ·have a:=ah d
  cases e:nth f.Used i<;>rw[e]at a
  ·repeat'(first|refine gD ?_|(conv=>whnf);first|with_reducible refine CA (aa a) ?_)
   exact T0 (λz=>[I z]) (dQ a rfl b).symm
  ·repeat'(first|refine gD ?_|(conv=>whnf);first|with_reducible refine CA (aa a) ?_)
   ((conv=>whnf);refine CB (i+1) ⟨ω,dn a rfl b⟩ ω ?_;(exact wB))
 ·repeat'(first|refine gD ?_|fail)
  exact T0 (λz=>[I z]) (gm ω b).symm
theorem ma(m:aH):∀(n i:Nat),i<n->((nth m.Buffers i).length:Int)+(nth m.Inbox i).length<=bn m n/\0<=bn m n
 | 0,i,h=>absurd h (Nat.not_lt_zero i)
 | n+1,i,h=>by
  have a:0<=bn m n:=by
   cases n with
   | zero=>exact C4 _
   | succ k=>exact(ma m (k+1) 0 ω).2
  simp only[bn];by_cases e:i=n
  ·subst e;omega
  ·have:=(ma m n i ω).1;omega
structure ko(m:aH):Prop where
 b4:1<=m.Buffers.length/\m.Buffers.length<=4
 i4:m.Inbox.length=m.Buffers.length
 bl:∀i,i<m.Buffers.length->(nth m.Buffers i).length<=30
 il:∀i,i<m.Buffers.length->(nth m.Inbox i).length<=30
theorem ko.of{m:aH}(h:bE m=true):ko m:=by
 obtain⟨⟨b,c,d⟩,-,e⟩:=d5.1 h;exact⟨⟨b,c⟩,d,λi a=>by have:=(ma m m.Buffers.length i a).1;omega,λi a=>by have:=(ma m m.Buffers.length i a).1;omega⟩
theorem ko.sml{m:aH}(h:ko m):aH.sml m:=by
 have c:=h.b4;have d:=h.i4;refine⟨⟨ω,λl a=>?_⟩,⟨ω,λl a=>?_⟩⟩
 ·obtain⟨i,b,rfl⟩:=bc a
  have:=h.bl i b;exact⟨ω,λ_ _=>trivial⟩
 ·obtain⟨i,b,rfl⟩:=bc a
  have:=h.il i ω;show(nth m.Inbox i).length<=1048576;omega
theorem qu(m:aH)(k:Int)(a:aH.sml m):ao Tryz.prog 388 false [.val (some 2) (aH.enc .imm m),.val none [I k]] .one [B (bE m&&decide (0<=k/\k<=m.Buffers.length - 1))]:=by
 have b:=kg m a;have c:m.Buffers.length<=1048576:=a.1.1;cases e:bE m<;>rw[e]at b
 all_goals
  refine fO 15 [] Tryz.func388 rfl ?_
  repeat'(first|refine gO ?_|(conv=>whnf);first|refine C9 ?_|refine C6 (b) ?_|refine C6 (aD k 0 (m.Buffers.length - 1:Int)) ?_)
  all_goals rfl
theorem NU{m:aH}{f:Nat}(a:f<m.Buffers.length):m.Buffers[f]? = some (nth m.Buffers f):=ah a
theorem GK(m:aH)(f:Nat)(p:cW):aH.enc .own (gl m f p)=[.s .own ((m.Buffers.map (cu .own)).set f (cu .own (nth m.Buffers f++[p]))),.s .own (m.Inbox.map (aF .own))]:=by simp[aH.enc,gl,t5]
theorem Hb{m:aH}(h:ko m){f:Nat}(c:f<m.Buffers.length)(p:cW):aH.sml (gl m f p):=by
 have d:=h.b4;have b:=h.sml;refine⟨⟨by simp only[gl,C1];omega,λl a=>?_⟩,b.2⟩;rcases C5 a with a|rfl
 ·exact b.1.2 l a
 ·have:=h.bl f c
  exact⟨by simp;omega,λ_ _=>trivial⟩
theorem Gj(m:aH)(f:Nat)(p:cW)(j:bE m=true)(g:f<m.Buffers.length):ao Tryz.prog 381 false [.val (some 2) (aH.enc .imm m),.val none [I (f:Nat)],.val (some 2) (cW.enc .imm p)] (.tup [some 2,none]) (aH.enc .own (if bE (gl m f p)=true then gl m f p else m)++[B (bE (gl m f p))]):=by
 have c:=ko.of j;have k:=c.sml;have q:=c.b4;have h:=qu m f k;rw[j,O0 ω]at h;have l:=eU m k;have b:=Hb c g p;have i:=kg (gl m f p) b;have n:=eU (gl m f p) b;have a:=NU g;have o:=c.bl f g;have d:=aH.enc_fz (gl m f p);rw[GK]at d;cases e:bE (gl m f p)<;>rw[e]at i
 ·rw[C7 (by simp)]
  refine fO 35 [(4,267,[16,17,18,19,20,21,22,23,24,25,27,0,1,2,3,4,5,6,7,8,9,10,1000,1001,1002,11,12])] Tryz.func381 rfl ?_ (.inr (aR (aH.enc_fr _) ⟨trivial,trivial⟩))
  repeat'(first|refine gO ?_|(conv=>whnf);first|with_reducible refine CA (aa a) ?_|refine C9 ?_|refine CA (fH a) ?_|refine CF rfl (fH a) rfl ?_|refine C6 (h) ?_|refine C6 (l) ?_|refine Lq.one rfl rfl (aa a) rfl (X0 rfl) rfl rfl ?_|refine CF rfl (aa a) rfl ?_|refine CM rfl rfl (fH a) rfl (X0 rfl) (show [C.s du.own ((m.Buffers.map (cu .own)).set f (cu .own (nth m.Buffers f++[p]))),C.s .own (m.Inbox.map (aF .own))]=_ from by simp only[List.set_cons_zero,List.set_set,I2];rfl) ?_|refine Ap.sm (aL λ_=>rfl) rfl (by simp;omega) (by decide) (gQ _ _ _) ?_|refine CE (i) ⟨⟨rfl,d⟩,trivial⟩ ?_)
  rfl
 ·rw[C8 rfl]
  refine fO 35 [(4,267,[16,17,18,19,20,21,22,23,24,25,27,0,1,2,3,4,5,6,7,8,9,10,1000,1001,1002,11,12])] Tryz.func381 rfl ?_ (.inr (aR (aH.enc_fr _) ⟨trivial,trivial⟩))
  repeat'(first|refine gO ?_|(conv=>whnf);first|with_reducible refine CA (aa a) ?_|refine C9 ?_|refine CA (fH a) ?_|refine CF rfl (fH a) rfl ?_|refine C6 (h) ?_|refine C6 (l) ?_|refine Lq.one rfl rfl (aa a) rfl (X0 rfl) rfl rfl ?_|refine CF rfl (aa a) rfl ?_|refine CM rfl rfl (fH a) rfl (X0 rfl) (show [C.s du.own ((m.Buffers.map (cu .own)).set f (cu .own (nth m.Buffers f++[p]))),C.s .own (m.Inbox.map (aF .own))]=_ from by simp only[List.set_cons_zero,List.set_set,I2];rfl) ?_|refine Ap.sm (aL λ_=>rfl) rfl (by simp;omega) (by decide) (gQ _ _ _) ?_|refine CE (i) ⟨⟨rfl,d⟩,trivial⟩ ?_|refine CE (n) ⟨⟨rfl,d⟩,trivial⟩ ?_)
  rfl
theorem EB(m:aH)(f:Int)(a:bE m=true)(d:¬(0<=f/\f<=m.Buffers.length - 1)):ao Tryz.prog 360 false [.val (some 2) (aH.enc .imm m),.val none [I f]] (.tup [some 2,none]) (aH.enc .own m++[B false]):=by
 have e:=ko.of a;have b:=e.sml;have c:=qu m f b;rw[a,Q0 d]at c;have g:=eU m b;refine fO 60 [(5,267,[31,32,33,34,35,36,37,38,39,40,42,0,1,2,3,4,5,6,7,8,9,10,1000,1001,1002,11,12]),(6,270,[43,44,45,46,47,48,49,50,51,52,53,54,55,57,0,1,2,3,4,5,6,7,8,9,10,11,12,13,1000,1001,1002,1003,14,15])] Tryz.func360 rfl ?_ (.inr (aR (aH.enc_fr _) ⟨trivial,trivial⟩))
 repeat'(first|refine gO ?_|(conv=>whnf);first|refine C9 ?_|refine C6 (c) ?_|refine C6 (g) ?_)
 rfl
theorem E1(m:aH)(f t:Nat)(a:(nth (nth m.Buffers f) 0).To=t):aH.enc .own (fw m f)=[.s .own ((m.Buffers.map (cu .own)).set f [.s .own (((nth m.Buffers f).drop 1).map (cW.enc .imm))]),.s .own ((m.Inbox.map (aF .own)).set t (aF .own (nth m.Inbox t++[(nth (nth m.Buffers f) 0).Addr])))]:=by
 unfold aH.enc fw;simp only[t5,a,I2]
 rfl
theorem AD(m:aH)(f:Nat)(h:bE m=true)(i:f<m.Buffers.length):ao Tryz.prog 360 false [.val (some 2) (aH.enc .imm m),.val none [I (f:Nat)]] (.tup [some 2,none]) (aH.enc .own (if 0<(nth m.Buffers f).length then fw m f else m)++[B (decide (0<(nth m.Buffers f).length))]):=by
 have d:=ko.of h;have u:=d.sml;have K:=d.b4;have D:=d.i4;have j:=qu m f u;rw[h,O0 ω]at j;have w:=eU m u;have a:=NU i;have F:=d.bl f i;by_cases e:0<(nth m.Buffers f).length
 ·rw[C8 e,O0 e]
  have g:=((d5.1 h).2.1 f i).1 _ (am e);obtain⟨t,k⟩:=O2 g.1;have l:t<m.Inbox.length:=ω
  have y:=ah e;have c:=ah l;have G:=d.il t ω;have n:=(ko.of (BF h i e)).sml;have H:=eU (fw m f) n;have o:=aH.enc_fz (fw m f);rw[E1 m f t k]at o;have q:=aR (b:=[B true]) (aH.enc_fr (fw m f)) ⟨trivial,trivial⟩;generalize L:nth (nth m.Buffers f) 0=p at *;obtain⟨M,J⟩:=p;simp only at k g o;subst k;refine fO 60 [(5,267,[31,32,33,34,35,36,37,38,39,40,42,0,1,2,3,4,5,6,7,8,9,10,1000,1001,1002,11,12]),(6,270,[43,44,45,46,47,48,49,50,51,52,53,54,55,57,0,1,2,3,4,5,6,7,8,9,10,11,12,13,1000,1001,1002,1003,14,15])] Tryz.func360 rfl ?_ (.inr q)
  repeat'(first|refine gA ?_|(conv=>whnf);first|with_reducible (first|refine CA (aa a) ?_|refine CA (aa c) ?_|refine Bf.E (λr=>?_) (λr=>?_))|refine C9 ?_|refine CJ (by decide) (aa y) ?_|refine CA (fH a) ?_|refine CA (fH c) ?_|refine CF rfl (fH a) rfl ?_|refine CF rfl (fH c) rfl ?_|refine C6 (j) ?_|refine C6 (w) ?_|refine CF rfl (aa a) rfl ?_|refine CF rfl (aa c) rfl ?_|refine CF rfl (aa y) rfl ?_|refine Lq.one rfl rfl (aa c) rfl (X0 rfl) rfl rfl ?_|refine Sl.suf 1 rfl (by rw[W0];omega) (aL λ_=>rfl) U3 ?_|refine CR (λ_=>rfl) (λ_=>rfl) (by rw[X2];omega) (by decide) ?_|refine CL (λ_=>rfl) (λ_=>rfl) (by rw[X2];omega) (by decide) ?_|refine CM rfl rfl (aa a) rfl (X0 rfl) rfl ?_|refine CM rfl rfl (fH c) rfl (X0 rfl) (show [C.s du.own ((m.Buffers.map (cu .own)).set f [.s .own (((nth m.Buffers f).drop 1).map (cW.enc .imm))]),C.s .own ((m.Inbox.map (aF .own)).set t (aF .own (nth m.Inbox t++[J])))]=_ from by simp only[List.set_cons_zero,List.set_cons_succ,List.set_set,I2];rfl) ?_|refine Ap.sm (aL λ_=>rfl) rfl (by simp;omega) (by decide) (gQ _ _ _) ?_|refine C9 ?_|refine CE (H) ⟨⟨rfl,o⟩,trivial⟩ ?_)
  rfl
 ·rw[C7 e,Q0 e]
  refine fO 60 [(5,267,[31,32,33,34,35,36,37,38,39,40,42,0,1,2,3,4,5,6,7,8,9,10,1000,1001,1002,11,12]),(6,270,[43,44,45,46,47,48,49,50,51,52,53,54,55,57,0,1,2,3,4,5,6,7,8,9,10,11,12,13,1000,1001,1002,1003,14,15])] Tryz.func360 rfl ?_ (.inr (aR (aH.enc_fr _) ⟨trivial,trivial⟩))
  repeat'(first|refine gA ?_|(conv=>whnf);first|with_reducible (first|refine CA (aa a) ?_|refine Bf.E (λr=>?_) (λr=>?_))|refine C9 ?_|refine C6 (j) ?_|refine C6 (w) ?_|refine CF rfl (aa a) rfl ?_)
  rfl
theorem Hs.set(rows:List (List C))(i:Nat){r n:List C}(h:Kg r n):Hs (.s .own (rows.set i r)) (.s .own (rows.set i n)):=by
 refine .own_ _ _ (by simp) (λj a b d f=>?_) (λj l a b c p d f o g=>?_)
 ·by_cases e:i=j
  ·subst e
   have k:i<rows.length:=by have:=(V1.1 d).1;simpa using this
   rw[v3 k]at d f;cases d;cases f;exact h.1
  ·rw[List.getElem?_set_ne e]at d f
   rw[d]at f;cases f;rfl
 ·by_cases e:i=j
  ·subst e
   have k:i<rows.length:=by have:=(V1.1 d).1;simpa using this
   rw[v3 k]at d f;cases d;cases f;exact h.2 l c p o g
  ·rw[List.getElem?_set_ne e]at d f
   rw[d]at f;cases f;rw[o]at g;cases g;exact .rfl_ _
theorem Ah(m:aH)(t:Nat)(d:bE m=true)(h:t<m.Buffers.length):ao Tryz.prog 389 false [.val (some 2) (aH.enc .imm m),.val none [I (t:Nat)]] (.tup [some 2,none]) (aH.enc .own (ku m t)++aF .own (nth m.Inbox t)):=by
 have b:=ko.of d;have e:=b.sml;have o:=b.b4;have j:=b.i4;have g:=qu m t e;rw[d,O0 ω]at g;have k:=eU m e;have c:=ah (xs:=m.Inbox) (i:=t) ω;have l:=b.il t h;have a:=aR (aH.enc_fr (ku m t)) (bM (nth m.Inbox t));have n:aH.enc .own (ku m t)=[.s .own (m.Buffers.map (cu .own)),.s .own ((m.Inbox.map (aF .own)).set t [.s .own []])]:=by simp[aH.enc,ku,t5];rfl
 rw[n]at a |-;refine fO 28 [(5,263,[20,21,22,23,24,25,26,0,1,2,3,4,5,6,7,1000,8,9])] Tryz.func389 rfl ?_ (.inr a)
 repeat'((conv=>whnf);first|with_reducible (first|refine Lm ?_|refine Wm ω ?_|refine CA (aa c) ?_|refine Bn ?_|refine iS.dk rfl ?_)|refine Bt ?_|refine Bu ?_|refine C9 ?_|refine C6 (g) ?_|refine C6 (k) ?_|refine CF rfl (aa c) rfl ?_|refine CM rfl rfl (aa c) rfl (X0 rfl) rfl ?_|refine CR (λ_=>rfl) (λ_=>rfl) ω (by decide) ?_|refine CL (λ_=>rfl) (λ_=>rfl) ω (by decide) ?_|refine C9 ?_)
 exact .cons (.rfl_ _) (.cons (Hs.set _ _ (.cons .z_ .nil)) (.cons (.rfl_ _) .nil))
theorem Fx(now:Int):∀{l:List aK}{i:Nat},i<=l.length->(∀j,j<i->(nth l j).Since<now - 100)->(i<l.length->¬(nth l i).Since<now - 100)->pO now l=i
 | [],i,h,_,_=>by simp at h;subst h;rfl
 | x::xs,0,_,_,h=>by
  unfold pO;exact C7 (h (by simp))
 | x::xs,i+1,b,a,c=>by
  unfold pO;refine(C8 (a 0 ω)).trans ?_;rw[Fx now (l:=xs) (i:=i) (by simp at b;omega) (λj d=>a (j+1) ω) (λe=>c (by simp;omega))]
def Ls(q:bC)(now:Int):List C:=bC.enc .own ⟨q.Room,q.Lst.drop (pO now q.Lst)⟩++cC .own (q.Lst.take (pO now q.Lst))
theorem sU(q:bC)(now:Int)(g:fp q=true)(G:q.Lst.length<=4096)(u:0<=now/\now<=1000000):ao Tryz.prog 363 false [.val (some 2) (bC.enc .imm q),.val none [I now],.val none [I 100]] (.tup [some 2,none]) (Ls q now):=by
 have w:bC.sml q:=⟨ω,λ_ _=>trivial⟩
 have n:=nv q w;rw[g]at n;have o:=aD now 0 1000000;rw[O0 u]at o;have p:=aD 100 0 1000000;rw[O0 (by decide)]at p;have h:=(iE.1 g).1;have a:gg (Ls q now):=aR (bC.enc_fr _) (si _);have y:∀i,i<q.Lst.length->0<=(nth q.Lst i).Since:=λi b=>(h _ (am b)).2.2.2
 unfold Ls at a |-;generalize B:pO now q.Lst=k at a |-;refine fO 59 [(6,270,[44,45,46,47,48,49,50,51,53,54,55,56,57,58,0,1,2,3,4,5,6,7,9,10,11,12,13,14,8,1009,1010,1011,1012,1013,1014,15,16])] Tryz.func363 rfl ?_ (.inr a)
 repeat'(first|refine gO ?_|(conv=>whnf);first|refine C9 ?_|refine C6 (n) ?_|refine C6 (o) ?_|refine C6 (p) ?_)
 (conv=>whnf)
 refine CC (ι:=Nat) (λi=>[(1,.hold .one [I (now)]),(2,.hold .one [I (100)]),(3,.hold .box (bC.enc .imm q)),(6,.hold .box [I 0,.z]),(8,.hold .one [I ((i:Nat):Int)])]) (λi=>i<=q.Lst.length/\∀j,j<i->(nth q.Lst j).Since<now - 100) (λi=>q.Lst.length - i) (0) ?_ (⟨R0 _,λj C=>ω⟩) λi b=>?_
 ·exact wC
 obtain⟨b,r⟩:=b;by_cases l:i<q.Lst.length/\(nth q.Lst i).Since<now - 100
 ·have c:=ah l.1
  repeat'(first|refine gD ?_|(conv=>whnf);first|with_reducible refine CA (aa c) ?_|refine C9 ?_|refine CF rfl (aa c) rfl ?_)
  ((conv=>whnf);refine CB (i+1) ⟨ω,λj C=>by by_cases e:j=i;(subst e;exact l.2);exact r j ω⟩ ω ?_;(exact wC))
 ·have d:=Fx now (i:=i) b r (λE F=>l ⟨E,F⟩)
  rw[B]at d;subst d;by_cases t:k<q.Lst.length
  ·have c:=ah t
   have:=y k t
   repeat'(first|refine gD ?_|(conv=>whnf);first|with_reducible (first|refine CA (aa c) ?_|refine Bf.D (λg=>?_) (λg=>?_))|refine C9 ?_|refine CF rfl (aa c) rfl ?_|refine CS k rfl (by rw[W0];omega) (aL λ_=>rfl) T3 ?_|refine Sl.suf k rfl (by rw[W0];omega) (aL λ_=>rfl) U3 ?_|refine CR (λ_=>rfl) (λ_=>rfl) (by rw[I1];omega) (by decide) ?_|refine CR (λ_=>rfl) (λ_=>rfl) (by rw[X2];omega) (by decide) ?_|refine CL (λ_=>rfl) (λ_=>rfl) (by rw[X2];omega) (by decide) ?_|refine C9 ?_)
   rfl
  ·repeat'(first|refine gD ?_|(conv=>whnf);first|refine C9 ?_|refine CS k rfl (by rw[W0];omega) (aL λ_=>rfl) T3 ?_|refine Sl.suf k rfl (by rw[W0];omega) (aL λ_=>rfl) U3 ?_|refine CR (λ_=>rfl) (λ_=>rfl) (by rw[I1];omega) (by decide) ?_|refine CR (λ_=>rfl) (λ_=>rfl) (by rw[X2];omega) (by decide) ?_|refine CL (λ_=>rfl) (λ_=>rfl) (by rw[X2];omega) (by decide) ?_|refine C9 ?_)
   rfl
theorem y5(h:ab)(n:Int)(g:bm h [])(r:0<=n/\n<=1000)(p:h.Clock+n<=1000000):aO Tryz.prog 306 false [.ptr (bv h),.val none [I n]] [.ptr (bv (tick h n)),.val none [I n]] .one [I ((mg h n).length:Nat)]:=by
 have a:=g.nums;unfold cm at a;rw[C0]at a;have t:=g.lens.quar;have i:=sU h.Quar (h.Clock+n) g.quar ω ⟨ω,p⟩;have j:=g.aged r.1 p;unfold Ls at i;unfold tick mg aged at *;have l:(h.Quar.Lst.take (pO (h.Clock+n) h.Quar.Lst)).length<=4096:=by rw[I1];omega
 rw[W0];generalize h.Quar.Lst.take (pO (h.Clock+n) h.Quar.Lst)=out at i j l |-;generalize h.Quar.Lst.drop (pO (h.Clock+n) h.Quar.Lst)=rest at i j |-;refine fM 48 [(364,[2,0])] [(2,269,[18,19,20,21,22,23,24,25,26,17,27,28,5,0,1,2,3,4,5,6,7,8,9,10,11,12,13,1011,14])] [(0,0),(0,0)] Tryz.func306 rfl (λu q=>?_)
 repeat'(first|refine gO ?_|(conv=>whnf);first|refine C9 ?_|refine CE (i) ⟨⟨rfl,bC.enc_fz h.Quar⟩,⟨rfl,rfl⟩,⟨rfl,rfl⟩,trivial⟩ ?_|refine C9 ?_)
 (conv=>whnf)
 refine CC (ι:=Nat) (λk=>[(0,.hold .box (bv (freeAs {h with Clock:=h.Clock+n,Quar:=⟨h.Quar.Room,rest⟩} ((out.map (·.Addr)).take k)))),(6,.hold .one (cC .own out)),(7,.hold .one [I ((k:Nat):Int)])]) (λk=>k<=out.length) (λk=>out.length - k) (0) ?_ (R0 _) λk y=>?_
 ·exact wC
 by_cases o:k<out.length
 ·have b:=ah o
  have c:k<(out.map (·.Addr)).length:=by rw[W0];exact o
  have d:nth (out.map (·.Addr)) k=(nth out k).Addr:=bq (by rw[U2,ah o];rfl);have e:bm (freeAs {h with Clock:=h.Clock+n,Quar:=⟨h.Quar.Room,rest⟩} ((out.map (·.Addr)).take k)) (nth (out.map (·.Addr)) k::(out.map (·.Addr)).drop (k+1)):=by
   refine bm.freeAs ?_;rw[<-gU c,List.take_append_drop];rw[List.append_nil]at j;exact j
  rw[d]at e;have w:=lW _ _ _ e
  repeat'(first|refine gD ?_|(conv=>whnf);first|refine C9 ?_|refine CA (aa b) ?_|refine CF rfl (aa b) rfl ?_|refine CG (w) (.inl rfl) ?_)
  ((conv=>whnf);refine CB (k+1) ω ω ?_)
  rw[sD _ _ _ c,d];exact wC
 ·obtain rfl:k=out.length:=ω
  rw[U5 (by rw[W0];omega)]
  repeat'(first|refine gD ?_|(conv=>whnf);first|refine C9 ?_)
  refine CD rfl rfl ?_;exact wC
theorem AE(t:Nat)(h:ab)(az:List Int)(k:Nat)(a:k<az.length):recycs t h (az.take (k+1))=recyc t (recycs t h (az.take k)) (nth az k):=by
 unfold recycs;rw[U4,ah a,Option.toList_some,List.foldl_append];rfl
theorem tg(h:ab)(t:Nat)(a:bm h [])(i:t<h.Caches.length):aO Tryz.prog 361 false [.ptr (bv h),.val none [I (t:Nat)]] [.ptr (bv (collect h t)),.val none [I (t:Nat)]] .one [I ((nth h.Mail.Inbox t).length:Nat)]:=by
 have l:=a.nc;have n:=(d5.1 a.mail).1.2.2;have j:=Ah h.Mail t a.mail ω;have c:=(ko.of a.mail).il t ω;have d:=a.coll (t:=t) ω;rw[List.append_nil]at d;unfold collect;generalize nth h.Mail.Inbox t=out at j d c |-;refine fM 36 [(384,[2,0,0])] [] [(0,0),(0,0)] Tryz.func361 rfl (λu q=>?_)
 repeat'(first|refine gO ?_|(conv=>whnf);first|refine C9 ?_|refine CE (j) ⟨⟨rfl,aH.enc_fz h.Mail⟩,⟨rfl,rfl⟩,trivial⟩ ?_)
 (conv=>whnf)
 refine CC (ι:=Nat) (λk=>[(0,.hold .box (bv (recycs t {h with Mail:=ku h.Mail t} (out.take k)))),(1,.hold .one [I ((t:Nat):Int)]),(6,.hold .one (aF .own out)),(7,.hold .one [I ((k:Nat):Int)])]) (λk=>k<=out.length) (λk=>out.length - k) (0) ?_ (R0 _) λk p=>?_
 ·exact wC
 by_cases e:k<out.length
 ·have b:=ah e
  have g:bm (recycs t {h with Mail:=ku h.Mail t} (out.take k)) (nth out k::out.drop (k+1)):=by
   refine bm.recycs ?_ i;rw[<-gU e,List.take_append_drop];exact d
  have o:=m7 _ _ t _ g (by rw[(fL t _ _).1];exact i)
  repeat'(first|refine gD ?_|(conv=>whnf);first|refine C9 ?_|refine CA (aa b) ?_|refine CF rfl (aa b) rfl ?_|refine CG (o) (.inl rfl) ?_)
  ((conv=>whnf);refine CB (k+1) ω ω ?_)
  rw[AE _ _ _ _ e];exact wC
 ·obtain rfl:k=out.length:=ω
  rw[O4]
  repeat'(first|refine gD ?_|(conv=>whnf);first|refine C9 ?_)
  refine CD rfl rfl ?_;exact wC
def Kk(a:Int)(o:bH):Bool:=decide (o.Addr<=a/\a<o.Addr+o.Size)
theorem Dz(h:ab)(E:List Int)(a:Int)(d:bm h E):aO Tryz.prog 126 false [.ptr (bv h),.val none [I a]] [.ptr (bv h),.val none [I a]] .one [I (dm (Kk a) h.Objs)]:=by
 have r:=d.lens.objs;refine fM 47 [] [(4,29,[15,16,17,18,19,20,21,22,23,24,25,26,27,28,29,30,31,32,33,34,35,36,37,38,39,40,41,42,43])] [(0,0),(0,0)] Tryz.func126 rfl (λu q=>?_)
 repeat'(first|refine gO ?_|(conv=>whnf);first|refine C9 ?_)
 (conv=>whnf)
 refine CC (ι:=Nat) (λi=>[(0,.hold .box (bv h)),(1,.hold .one [I (a)]),(5,.hold .one [I ((i:Nat):Int)])]) (λi=>i<=h.Objs.length/\∀(j:Nat)(z:bH),j<i->h.Objs[j]? = some z->Kk a z=false) (λi=>h.Objs.length - i) (0) ?_ (⟨R0 _,λj z C=>ω⟩) λi d=>?_
 ·exact wC
 obtain⟨t,c⟩:=d;by_cases e:i<h.Objs.length
 ·have b:=ah e
  have w:=rk ‹bm h E› (am e);have y:0<=(nth h.Objs i).Size/\(nth h.Objs i).Size<=1000:=by
   rcases bm.oow ‹bm h E› _ (am e) with⟨s,B,F,G⟩|⟨l,g,k,o⟩
   ·have H:=aE ((bm.L ‹bm h E›).sok s B)
    have:=pq (n:=(nth h.Objs i).Size) ω;omega
   ·have J:=cx ((bm.L ‹bm h E›).lok l g)
    omega
  by_cases k:(nth h.Objs i).Addr<=a
  ·by_cases o:a<(nth h.Objs i).Addr+(nth h.Objs i).Size
   ·repeat'(first|refine gD ?_|(conv=>whnf);first|with_reducible refine CA (aa b) ?_|refine C9 ?_|refine CF rfl (aa b) rfl ?_|refine C9 ?_)
    refine CD rfl (T0 (λz=>[I z]) (dQ b (O0 ⟨k,o⟩) c).symm) ?_;exact wC
   ·repeat'(first|refine gD ?_|(conv=>whnf);first|with_reducible (first|refine CA (aa b) ?_|refine Bf.D (λp=>?_) (λp=>?_))|refine C9 ?_|refine CF rfl (aa b) rfl ?_|refine C9 ?_)
    ((conv=>whnf);refine CB (i+1) ⟨ω,dn b (Q0 λx=>o x.2) c⟩ ω ?_;(exact wC))
  ·repeat'(first|refine gD ?_|(conv=>whnf);first|with_reducible (first|refine CA (aa b) ?_|refine Bf.D (λp=>?_) (λp=>?_))|refine C9 ?_|refine CF rfl (aa b) rfl ?_|refine C9 ?_)
   ((conv=>whnf);refine CB (i+1) ⟨ω,dn b (Q0 λx=>k x.1) c⟩ ω ?_;(exact wC))
 ·repeat'(first|refine gD ?_|(conv=>whnf);first|refine C9 ?_)
  refine CD rfl (T0 (λz=>[I z]) (gm ω c).symm) ?_;exact wC
theorem FD(h:ab)(a v:Int):bv {h with Kernel:=kr h.Kernel a v} = (bv h).set 0 (.s .own ((h.Kernel.Machine.Frames.Cells.map (aF .own)).set (ar h.Kernel.Machine.Table (a / 16)).Frame.toNat ((aF .own (nth h.Kernel.Machine.Frames.Cells (fE h.Kernel a))).set 0 (.s .own (((nth h.Kernel.Machine.Frames.Cells (fE h.Kernel a)).map (rI .own)).set (a % 16).toNat (splice (rI .own (nth (nth h.Kernel.Machine.Frames.Cells (fE h.Kernel a)) (a % 16).toNat)) 0 [I v])))))):=by
 simp[bv,kr,setCell,t5,aF,splice,fE,rI]
theorem Bl{α:Type}{p:α->Bool}{xs:List α}{x:α}(a:x∈xs)(b:p x=true):0<=dm p xs:=by
 have:=kN p xs;rw[show xs.any p=true from O3.2 ⟨x,a,b⟩,C0]at this;exact this
theorem wE(h:ab)(i:Nat)(j v:Int)(e:bm h [])(C:i<h.Objs.length)(D:0<=j/\j<=(nth h.Objs i).Size - 1):aO Tryz.prog 356 false [.ptr (bv h),.val none [I ((nth h.Objs i).Addr+j)],.val none [I v]]
  [.ptr (bv (if(ar h.Kernel.Machine.Table (((nth h.Objs i).Addr+j) / 16)).Mode=1\/¬(0<=v/\v<=999) then h else {h with Kernel:=kr h.Kernel ((nth h.Objs i).Addr+j) v})),.val none [I ((nth h.Objs i).Addr+j)],.val none [I v]] .one [I (if(ar h.Kernel.Machine.Table (((nth h.Objs i).Addr+j) / 16)).Mode=1 then 2 else if ¬(0<=v/\v<=999) then 3 else 0)]:=by
 obtain⟨E,J,K⟩:=lN e (am C) D;have F:0<=dm (Kk ((nth h.Objs i).Addr+j)) h.Objs:=Bl (am C) (O0 ω);have p:=Dz h [] ((nth h.Objs i).Addr+j) e;have r:=b6 e.ker;have t:=cR h.Kernel.Machine.Table (((nth h.Objs i).Addr+j) / 16) r.1.2;have n:=aD v 0 999;generalize L:(nth h.Objs i).Addr+j=a at *;have b:0<=a/\a<512:=ω
 obtain⟨-,-,-,G,M⟩:=bZ e.ker E;have H:=(aW.1 (aC.1 e.ker).2.1).2.2.1;have k:fE h.Kernel a<h.Kernel.Machine.Frames.Cells.length:=by unfold fE;omega
 have d:h.Kernel.Machine.Frames.Cells[(ar h.Kernel.Machine.Table (a / 16)).Frame.toNat]? = some (nth h.Kernel.Machine.Frames.Cells (fE h.Kernel a)):=ah k;have w:=e.lens.row _ (am k);have l:=ah (xs:=nth h.Kernel.Machine.Frames.Cells (fE h.Kernel a)) (i:=(a % 16).toNat) (by rw[w];omega);have B:a.tmod 16=a % 16:=fK b.1;refine fM 42 [(126,[2,0])] [(8,14,[27,28,29,30,31,32,33,34,35,36,37,38,39,40])] [(0,0),(0,0),(0,0)] Tryz.func356 rfl (λu q=>?_);by_cases o:(ar h.Kernel.Machine.Table (a / 16)).Mode=1
 ·rw[C8 (Or.inl o),C8 o]
  repeat'(first|refine gA ?_|(conv=>whnf);first|refine C9 ?_|refine CG (p) (.inl rfl) ?_|refine CE (t) ⟨⟨rfl,CU _⟩,⟨rfl,rfl⟩,trivial⟩ ?_|refine CK (by decide) ?_|refine CI (o8 b) ?_)
  refine CD rfl rfl ?_;exact wC
 rw[C7 (c:=_=(1:Int)) o];by_cases g:0<=v/\v<=999
 ·rw[O0 g]at n
  rw[C7 (c:=¬(0<=v/\v<=999)) (R3 g),C7 (c:=_\/¬(0<=v/\v<=999)) (λy=>y.elim o λy=>y g)]
  repeat'(first|refine gA ?_|(conv=>whnf);first|refine C9 ?_|refine CG (p) (.inl rfl) ?_|refine CE (t) ⟨⟨rfl,CU _⟩,⟨rfl,rfl⟩,trivial⟩ ?_|refine C6 (n) ?_|refine CK (by decide) ?_|refine CI (o8 b) ?_|refine CQ B ?_|refine CJ G (aa d) ?_|refine CF rfl (aa d) rfl ?_|refine CJ ω (aa l) ?_|refine Pu.two rfl rfl (aa d) rfl rfl rfl (aa l) rfl (R2 _) (FD h a v) ?_|refine C9 ?_)
  refine CD rfl rfl ?_;exact wC
 ·rw[Q0 g]at n
  rw[C8 (Or.inr g),C8 g]
  repeat'(first|refine gA ?_|(conv=>whnf);first|refine C9 ?_|refine CG (p) (.inl rfl) ?_|refine CE (t) ⟨⟨rfl,CU _⟩,⟨rfl,rfl⟩,trivial⟩ ?_|refine C6 (n) ?_|refine CK (by decide) ?_|refine CI (o8 b) ?_)
  refine CD rfl rfl ?_;exact wC
def tW(l:a8)(n:Int):ax:=if(n+15) / 16<l.Pages then⟨l.Page+(n+15) / 16,l.Pages - (n+15) / 16⟩ else⟨0,0⟩
theorem vf(l:a8)(n:Int)(d:bQ l=true):ao Tryz.prog 386 false [.val (some 3) (a8.enc .imm l),.val none [I n]] (.tup [some 3,some 2,none]) (if 9<=n/\n<=l.Size then a8.enc .own (trimL l n)++ax.enc .own (tW l n)++[B true] else a8.enc .own l++[I 0,I 0]++[B false]):=by
 have b:=mh l;rw[d]at b;have a:=aD n 9 l.Size;have g:=d;unfold bQ at g;rw[C0]at g;by_cases e:9<=n/\n<=l.Size
 ·rw[O0 e]at a
  rw[C8 e];have c:=kA n;rw[show eE n=(n+15) / 16 by unfold eE;rw[C8 ω]]at c;unfold tW;by_cases h:(n+15) / 16<l.Pages
  ·rw[C8 h]
   refine fO 43 [(7,261,[37,38,39,40,42,0,1,2,3,5,4,1005,6,1005,7,8])] Tryz.func386 rfl ?_ (.inr ⟨trivial,trivial,trivial,trivial,trivial,trivial,trivial⟩)
   repeat'(first|refine gD ?_|(conv=>whnf);first|refine C9 ?_|refine C6 (b) ?_|refine C6 (a) ?_|refine C6 (c) ?_|refine C9 ?_)
   rfl
  ·rw[C7 h]
   refine fO 43 [(7,261,[37,38,39,40,42,0,1,2,3,5,4,1005,6,1005,7,8])] Tryz.func386 rfl ?_ (.inr ⟨trivial,trivial,trivial,trivial,trivial,trivial,trivial⟩)
   repeat'(first|refine gD ?_|(conv=>whnf);first|refine C9 ?_|refine C6 (b) ?_|refine C6 (a) ?_|refine C6 (c) ?_|refine C9 ?_)
   rfl
 ·rw[Q0 e]at a
  rw[C7 e];refine fO 43 [(7,261,[37,38,39,40,42,0,1,2,3,5,4,1005,6,1005,7,8])] Tryz.func386 rfl ?_ (.inr ⟨trivial,trivial,trivial,trivial,trivial,trivial,trivial⟩)
  repeat'(first|refine gO ?_|(conv=>whnf);first|refine C9 ?_|refine C6 (b) ?_|refine C6 (a) ?_|refine C9 ?_)
  rfl
theorem zB(h:ab)(t a:Int)(c:h.Caches.length<=4)(d:¬(0<=t/\t<=h.Caches.length - 1)):aO Tryz.prog 354 false [.ptr (bv h),.val none [I t],.val none [I a]] [.ptr (bv h),.val none [I t],.val none [I a]] .one [I 1]:=by
 have b:=aD t 0 (h.Caches.length - 1:Int);rw[Q0 d]at b;refine fM 148 [(380,[2,0]),(382,[2,0]),(384,[2,0,0]),(379,[2,0])] [(15,269,[68,69,70,71,72,73,74,75,77,67,78,79,11,0,1,2,3,4,5,6,7,13,8,1000,1001,1002,1003,1004,1013,9,10,11,12,14,1012,15]),(22,15,[92,93,94,95,96,97,98,99,100,101,102,103,104,105,106]),(25,271,[116,117,118,119,120,121,122,123,124,125,127,115,128,129,14,0,1,2,3,4,5,6,7,8,9,15,10,1000,1001,1002,1003,1015,11,12,13,14,16,1014,17])] [(0,0),(0,0),(0,0)] Tryz.func354 rfl (λu q=>?_)
 repeat'(first|refine gO ?_|(conv=>whnf);first|refine C9 ?_|refine C6 (b) ?_)
 refine CD rfl rfl ?_;exact wC
theorem Br(h:ab)(i t:Nat)(a:bm h [])(j:i<h.Objs.length)(U:t<h.Caches.length)(K:(nth h.Objs i).Thread≠t):aO Tryz.prog 354 false [.ptr (bv h),.val none [I (t:Nat)],.val none [I (nth h.Objs i).Addr]] [.ptr (bv (freeT h t i).1),.val none [I (t:Nat)],.val none [I (nth h.Objs i).Addr]] .one [I (freeT h t i).2]:=by
 have F:=am j;obtain⟨-,L,d⟩:=a.objAt F;have N:n7 h (nth h.Objs i).Addr=i:=by
  have V:=(a.objAt F).1;exact gu (f:=(·.Addr)) (gF a.osr) V j (by rw[L])
 rw[N]at d;have b:=rk a F;have W:=a.onu _ F;have n:=a.lens;have X:=n.objs;have Y:=a.nc;have Z:=ko.of a.mail;have hb4:=Z.b4;have o:=aD (t:Nat) 0 (h.Caches.length - 1:Int);rw[O0 ω]at o;have p:=p6 h (nth h.Objs i).Addr ω;rw[d]at p;have e:=ah j;have G:=je (nth h.Objs i).Size;have O:=b6 a.ker;have P:=cR h.Kernel.Machine.Table ((nth h.Objs i).Addr / 16) O.1.2;unfold freeT;by_cases H:aN (nth h.Objs i).Size<0
 ·rw[C8 H]
  have c3:=oJ h i a j H;refine fM 148 [(380,[2,0]),(382,[2,0]),(384,[2,0,0]),(379,[2,0])] [(15,269,[68,69,70,71,72,73,74,75,77,67,78,79,11,0,1,2,3,4,5,6,7,13,8,1000,1001,1002,1003,1004,1013,9,10,11,12,14,1012,15]),(22,15,[92,93,94,95,96,97,98,99,100,101,102,103,104,105,106]),(25,271,[116,117,118,119,120,121,122,123,124,125,127,115,128,129,14,0,1,2,3,4,5,6,7,8,9,15,10,1000,1001,1002,1003,1015,11,12,13,14,16,1014,17])] [(0,0),(0,0),(0,0)] Tryz.func354 rfl (λu q=>?_)
  repeat'(first|refine gD ?_|(conv=>whnf);first|with_reducible refine Bf.D (λc=>?_) (λc=>?_)|refine C9 ?_|refine C6 (o) ?_|refine CE (p) ⟨⟨rfl,b8 h⟩,⟨rfl,rfl⟩,trivial⟩ ?_|refine CA (aa e) ?_|refine CF rfl (aa e) rfl ?_|refine C6 (G) ?_|refine CG (c3) (.inl rfl) ?_)
  refine CD rfl rfl ?_;exact wC
 rw[C7 H];obtain⟨s1,s2,s3,s4⟩:=NZ.of a (am j) H;by_cases J:(ar (tbl h) ((nth h.Objs i).Addr / 16)).Mode=1
 ·rw[C8 J]
  unfold tbl at J;refine fM 148 [(380,[2,0]),(382,[2,0]),(384,[2,0,0]),(379,[2,0])] [(15,269,[68,69,70,71,72,73,74,75,77,67,78,79,11,0,1,2,3,4,5,6,7,13,8,1000,1001,1002,1003,1004,1013,9,10,11,12,14,1012,15]),(22,15,[92,93,94,95,96,97,98,99,100,101,102,103,104,105,106]),(25,271,[116,117,118,119,120,121,122,123,124,125,127,115,128,129,14,0,1,2,3,4,5,6,7,8,9,15,10,1000,1001,1002,1003,1015,11,12,13,14,16,1014,17])] [(0,0),(0,0),(0,0)] Tryz.func354 rfl (λu q=>?_)
  repeat'(first|refine gA ?_|(conv=>whnf);first|with_reducible refine Bf.D (λc=>?_) (λc=>?_)|refine C9 ?_|refine CK (by decide) ?_|refine CI (o8 b) ?_|refine C6 (o) ?_|refine CE (p) ⟨⟨rfl,b8 h⟩,⟨rfl,rfl⟩,trivial⟩ ?_|refine CA (aa e) ?_|refine CF rfl (aa e) rfl ?_|refine C6 (G) ?_|refine CE (P) ⟨⟨rfl,CU _⟩,⟨rfl,rfl⟩,trivial⟩ ?_)
  refine CD rfl rfl ?_;exact wC
 rw[C7 J,C7 K];unfold tbl at J;have r:=Gj h.Mail t ⟨(nth h.Objs i).Thread,(nth h.Objs i).Addr⟩ a.mail ω;by_cases l:bE (gl h.Mail t ⟨(nth h.Objs i).Thread,(nth h.Objs i).Addr⟩)=true;rotate_left
 ·rw[C7 l]
  rw[C7 l,show bE (gl h.Mail t ⟨(nth h.Objs i).Thread,(nth h.Objs i).Addr⟩)=false by simpa using l]at r;refine fM 148 [(380,[2,0]),(382,[2,0]),(384,[2,0,0]),(379,[2,0])] [(15,269,[68,69,70,71,72,73,74,75,77,67,78,79,11,0,1,2,3,4,5,6,7,13,8,1000,1001,1002,1003,1004,1013,9,10,11,12,14,1012,15]),(22,15,[92,93,94,95,96,97,98,99,100,101,102,103,104,105,106]),(25,271,[116,117,118,119,120,121,122,123,124,125,127,115,128,129,14,0,1,2,3,4,5,6,7,8,9,15,10,1000,1001,1002,1003,1015,11,12,13,14,16,1014,17])] [(0,0),(0,0),(0,0)] Tryz.func354 rfl (λu q=>?_)
  repeat'(first|refine gA ?_|(conv=>whnf);first|with_reducible refine Bf.D (λc=>?_) (λc=>?_)|refine C9 ?_|refine CK (by decide) ?_|refine CI (o8 b) ?_|refine C6 (o) ?_|refine CE (p) ⟨⟨rfl,b8 h⟩,⟨rfl,rfl⟩,trivial⟩ ?_|refine CA (aa e) ?_|refine CF rfl (aa e) rfl ?_|refine C6 (G) ?_|refine CE (P) ⟨⟨rfl,CU _⟩,⟨rfl,rfl⟩,trivial⟩ ?_|refine CE (r) ⟨⟨rfl,aH.enc_fz h.Mail⟩,⟨rfl,rfl⟩,⟨rfl,rfl⟩,trivial⟩ ?_|refine C9 ?_)
  refine CD rfl rfl ?_;exact wC
 rw[C8 l];rw[C8 l,l]at r;have w:fE h.Kernel (nth h.Objs i).Addr<h.Kernel.Machine.Frames.Cells.length:=by unfold fE;omega
 have hcz:=HO s1;have B:=dw (aN (nth h.Objs i).Size);unfold Mv;generalize gl h.Mail t ⟨(nth h.Objs i).Thread,(nth h.Objs i).Addr⟩ = M at r;refine fM 148 [(380,[2,0]),(382,[2,0]),(384,[2,0,0]),(379,[2,0])] [(15,269,[68,69,70,71,72,73,74,75,77,67,78,79,11,0,1,2,3,4,5,6,7,13,8,1000,1001,1002,1003,1004,1013,9,10,11,12,14,1012,15]),(22,15,[92,93,94,95,96,97,98,99,100,101,102,103,104,105,106]),(25,271,[116,117,118,119,120,121,122,123,124,125,127,115,128,129,14,0,1,2,3,4,5,6,7,8,9,15,10,1000,1001,1002,1003,1015,11,12,13,14,16,1014,17])] [(0,0),(0,0),(0,0)] Tryz.func354 rfl (λu q=>?_)
 repeat'(first|refine gA ?_|(conv=>whnf);first|with_reducible refine Bf.D (λc=>?_) (λc=>?_)|refine C9 ?_|refine CK (by decide) ?_|refine CI (o8 b) ?_|refine C6 (o) ?_|refine CE (p) ⟨⟨rfl,b8 h⟩,⟨rfl,rfl⟩,trivial⟩ ?_|refine CA (aa e) ?_|refine CF rfl (aa e) rfl ?_|refine C6 (G) ?_|refine CE (P) ⟨⟨rfl,CU _⟩,⟨rfl,rfl⟩,trivial⟩ ?_|refine CE (r) ⟨⟨rfl,aH.enc_fz h.Mail⟩,⟨rfl,rfl⟩,⟨rfl,rfl⟩,trivial⟩ ?_|refine C9 ?_)
 have Q:({{h with Mail:=M} with Kernel:=fG h.Kernel (nth h.Objs i).Addr 0} : ab) = {h with Mail:=M}:=ET {h with Mail:=M} _ w;have R:=T0 (λy:ab=>C.s .own (y.Kernel.Machine.Frames.Cells.map (aF .own))) Q
 (conv=>whnf)
 refine CC (ι:=Nat) (λk=>[(0,.hold .box (bv {{h with Mail:=M} with Kernel:=fG h.Kernel (nth h.Objs i).Addr k})),(1,.hold .one [I ((t:Nat):Int)]),(2,.hold .one [I ((nth h.Objs i).Addr)]),(7,.hold .one [I ((i:Nat):Int)]),(8,.hold .box (bH.enc .own (nth h.Objs i))),(9,.hold .one [I (aN (nth h.Objs i).Size)]),(10,.hold .box (bh.enc .own (ar h.Kernel.Machine.Table ((nth h.Objs i).Addr / 16)))),(13,.hold .one [I ((k:Nat):Int)])]) (λk=>k<=(csz (aN (nth h.Objs i).Size)).toNat) (λk=>(csz (aN (nth h.Objs i).Size)).toNat - k) (0) ?_ (R0 _) λk hk=>?_
 ·repeat'(first|exact trivial|rfl |exact mV R|exact dG _|refine CH ?_ ?_|(exact Dl (by first|omega|(simp only;omega)|(simp;omega))))
 have T:IntKind.i64.wrap 0=0:=rfl;have S:(nth h.Objs i).Addr.tmod 16=(nth h.Objs i).Addr % 16:=fK b.1;have g:(fG h.Kernel (nth h.Objs i).Addr k).Machine.Frames.Cells[(ar h.Kernel.Machine.Table ((nth h.Objs i).Addr / 16)).Frame.toNat]? = some (lg (nth h.Kernel.Machine.Frames.Cells (fE h.Kernel (nth h.Objs i).Addr)) ((nth h.Objs i).Addr % 16).toNat k):=v3 w;by_cases lk:k<(csz (aN (nth h.Objs i).Size)).toNat
 ·have E:=ah (xs:=lg (nth h.Kernel.Machine.Frames.Cells (fE h.Kernel (nth h.Objs i).Addr)) ((nth h.Objs i).Addr % 16).toNat k) (i:=((nth h.Objs i).Addr % 16+k).toNat) (by rw[nK,s4];omega)
  repeat'(first|refine gD ?_|(conv=>whnf);first|refine C9 ?_|refine CK (by decide) ?_|refine CQ S ?_|refine C6 (B) ?_|refine CJ s2.1 (aa g) ?_|refine CF rfl (aa g) rfl ?_|refine CJ ω (aa E) ?_|refine Pu.two rfl rfl (aa g) rfl rfl rfl (aa E) rfl (R2 _) (Be {h with Mail:=M} _ k _ b.1) ?_)
  ((conv=>whnf);refine CB (k+1) ω ω ?_;(exact wC))
 ·obtain rfl:k=(csz (aN (nth h.Objs i).Size)).toNat:=ω
  have c6:=lU {{h with Mail:=M} with Kernel:=fG h.Kernel (nth h.Objs i).Addr (csz (aN (nth h.Objs i).Size)).toNat} i j (by show h.Objs.length<=_;omega)
  repeat'(first|refine gA ?_|(conv=>whnf);first|with_reducible refine Bf.D (λc=>?_) (λc=>?_)|refine C9 ?_|refine C6 (B) ?_|refine CG (c6) (.inl rfl) ?_)
  refine CD rfl rfl ?_;exact wC
theorem LS(h:ab)(i:Nat)(t:Int)(a:bm h [])(d:i<h.Objs.length):aO Tryz.prog 354 false [.ptr (bv h),.val none [I t],.val none [I (nth h.Objs i).Addr]] [.ptr (bv (if 0<=t/\t<=h.Caches.length - 1 then(freeT h t.toNat i).1 else h)),.val none [I t],.val none [I (nth h.Objs i).Addr]] .one [I (if 0<=t/\t<=h.Caches.length - 1 then(freeT h t.toNat i).2 else 1)]:=by
 have c:h.Caches.length<=4:=by have:=(d5.1 a.mail).1.2.1;have:=a.nc;omega
 by_cases b:0<=t/\t<=h.Caches.length - 1
 ·rw[C8 b,C8 b]
  obtain⟨n,rfl⟩:=O2 b.1;simp only[I2];by_cases e:(nth h.Objs i).Thread=n
  ·have:=EK h (nth h.Objs i) n a (am d) e c
   have g:n7 h (nth h.Objs i).Addr=i:=by
    obtain⟨k,j,-⟩:=a.objAt (am d);exact gu (f:=(·.Addr)) (gF a.osr) k d (by rw[j])
   rw[g,<-xZ e]at this;exact this
  ·exact Br h i n a d ω e
 ·rw[C7 b,C7 b]
  exact zB h t _ c b
end Go.Proofs.YtembpgjjnioagaaGreat.Ab
