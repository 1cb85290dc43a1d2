/- A slot taken, an address taken out of a cache, an object begun: a heap stays whole. No condition. -/
import Derived.Test.YtecefhjnejfheaaGreatKed
import Derived.Test.YtecefhjnejfheaaGreatKef
import Derived.Test.YtecefhjnejfheaaGreatKee
set_option linter.unusedVariables false
set_option linter.unusedSimpArgs false
set_option linter.constructorNameAsVariable false
namespace Go.Proofs.YtecefhjnejfheaaGreat.Ab
def ki{α:Type}(p:α->Bool)(xs:List α):Nat:=(xs.findIdx? p).getD xs.length
def iZ{α:Type}(p:α->Bool)(xs:List α)(y:α):List α:=xs.take (ki p xs)++y::xs.drop (ki p xs)
theorem NG{α:Type}(p:α->Bool)(xs:List α):ki p xs<=xs.length:=by
 unfold ki;cases e:xs.findIdx? p with
 | none=>exact W2 _
 | some i=>exact Nat.le_of_lt (T6.1 e).1
theorem kr{α:Type}(p:α->Bool)(xs:List α)(y:α):(iZ p xs y).Perm (y::xs):=by
 unfold iZ;refine List.perm_middle.trans ?_;rw[List.take_append_drop]
theorem cA{α:Type}{p:α->Bool}{xs:List α}{y z:α} : z∈iZ p xs y↔z=y\/z∈xs:=by
 rw[(kr p xs y).mem_iff,List.mem_cons]
theorem uH{α:Type}{p:α->Bool}{xs:List α}{i:Nat}(c:i<=xs.length)(a:∀(j:Nat)(z:α),j<i->xs[j]? = some z->p z=false)(b:∀z,xs[i]? = some z->p z=true):ki p xs=i:=by
 unfold ki;by_cases e:i<xs.length
 ·rw[uU (W1 e) (b _ (W1 e)) a];rfl
 rw[xd ω a];show xs.length=i;omega
theorem lc{α:Type}{f:α->Int}{xs:List α}{y:α}(h:xs.Pairwise λa b=>f a<f b)(p:∀z∈xs,f z≠f y):(iZ (λz=>decide (f y<=f z)) xs y).Pairwise λa b=>f a<f b:=by
 have q:∀z∈xs.drop (ki (λz=>decide (f y<=f z)) xs),f y<f z:=λz g=>by
  obtain⟨j,k,rfl⟩:=List.mem_drop_iff_getElem.1 g;have C:=p _ (List.getElem_mem k);cases e:xs.findIdx? (λz=>decide (f y<=f z)) with
  | none=>
   have l:ki (λz=>decide (f y<=f z)) xs=xs.length:=by unfold ki;rw[e];rfl
   rw[l]at k;omega
  | some i=>
   have l:ki (λz=>decide (f y<=f z)) xs=i:=by unfold ki;rw[e];rfl
   obtain⟨r,t,-⟩:=T6.1 e;rw[C0]at t;have c:i+j<xs.length:=by rw[<-l];omega
   have n:f xs[i+j]≠f y:=p _ (List.getElem_mem c);have d:f y<f xs[i+j]:=by
    cases j with
    | zero=>simp only[Nat.add_zero]at n |-;omega
    | succ j=>
     have:=List.pairwise_iff_getElem.1 h i (i+(j+1)) r c ω;omega
   have w:xs[ki (λz=>decide (f y<=f z)) xs+j]? = xs[i+j]?:=by rw[l]
   rw[W1 ω,W1 c]at w;rw[Option.some.inj w];exact d
 have A:∀z∈xs.take (ki (λz=>decide (f y<=f z)) xs),f z<f y:=λz g=>by
  obtain⟨j,k,rfl⟩:=List.mem_take_iff_getElem.1 g;unfold ki at k;cases e:xs.findIdx? (λz=>decide (f y<=f z)) with
  | none=>
   have:=List.findIdx?_eq_none_iff.1 e _ (List.getElem_mem (show j<xs.length by omega));simp only[T4]at this;omega
  | some i=>
   obtain⟨r,t,B⟩:=T6.1 e;simp only[e,Option.getD_some]at k;have:=B j ω;simp only[C0]at this;omega
 unfold iZ;refine List.pairwise_append.2 ⟨h.sublist (List.take_sublist ..),List.pairwise_cons.2 ⟨q,h.sublist (List.drop_sublist ..)⟩,λz g u o=>?_⟩;rcases List.mem_cons.1 o with rfl|o
 ·exact A z g
 exact Int.lt_trans (A z g) (q u o)
def gJ(b i:Int):Int:=((b.toNat ||| 2 ^ i.toNat:Nat):Int)
def pL(s:ax)(i:Int):ax:={s with b1:=gJ s.b1 i}
theorem wL(b i:Int)(j:Nat):(gJ b i).toNat.testBit j=(b.toNat.testBit j || decide (i.toNat=j)):=by
 unfold gJ;rw[O2,Nat.testBit_or,Nat.testBit_two_pow]
theorem EW{b i:Int}(g:0<=b)(e:0<=i/\i<=15)(j:Int):aR (gJ b i) j=true↔aR b j=true\/j=i:=by
 rw[dH,dH,wL,X5,C0];have f:0<=gJ b i:=by unfold gJ;omega
 constructor
 ·rintro⟨h,c,d,a|a⟩
  ·exact .inl ⟨g,c,d,a⟩
  exact .inr ω
 rintro(⟨h,c,d,a⟩|rfl)
 ·exact⟨f,c,d,.inl a⟩
 exact⟨f,e.1,e.2,.inr rfl⟩
theorem g9{k:Int}(h:0<=k/\k<=3):lim k=2 ^ (slots k).toNat - 1/\0<=slots k/\slots k<=16/\slots k*csz k=16:=by
 obtain rfl|rfl|rfl|rfl:k=0\/k=1\/k=2\/k=3:=ω
 all_goals decide
theorem zP{s:ax}(h:bg s=true){i:Int}(k:0<=i/\i<slots s.b):bg (pL s i)=true:=by
 have b:=aC h;obtain⟨c,l,o,-⟩:=g9 b.2.2;unfold bg at h;rw[C0]at h;obtain⟨d,e,f,g,p,a⟩:=h;refine O0 ⟨d,e,f,g,by show 0<=gJ s.b1 i;unfold gJ;omega,?_⟩;show gJ s.b1 i<=lim s.b;rw[c]at a |-;have j:((2 ^ (slots s.b).toNat:Nat):Int)=(2:Int) ^ (slots s.b).toNat:=by norm_cast
 rw[<-j]at a |-;have:=Nat.or_lt_two_pow (x:=s.b1.toNat) (y:=2 ^ i.toNat) (n:=(slots s.b).toNat) ω (Nat.pow_lt_pow_right ω ω);unfold gJ;omega
theorem yA{s u:ax}{i:Int}(b:0<=i/\i<slots s.b)(c:aR u.b1 i=false)(h:meshable s u=true):meshable (pL s i) u=true:=by
 unfold meshable at h |-;simp only[I0,C0]at h |-;obtain⟨⟨d,f⟩,k,l,o⟩:=h;have p:=aC d;obtain⟨r,t,w,-⟩:=g9 p.2.2;have a:=eC f;refine⟨⟨zP d b,f⟩,k,l,?_⟩;refine Nat.eq_of_testBit_eq λj=>?_
 have g:=U0 (λn=>Nat.testBit n j) o;simp only[Nat.testBit_and,Nat.zero_testBit,pL,wL]at g |-;by_cases e:i.toNat=j
 ·have:u.b1.toNat.testBit j=false:=by
   rw[<-C5];intro q;have:=(dH u.b1 i).2 ⟨a.1,b.1,ω,by rw[e];exact q⟩;rw[this]at c;cases c
  rw[this];simp
 rw[R0 e,Bool.or_false];exact g
theorem tc{s:ax}(h:bg s=true){i:Int}(n:0<=i/\i<slots s.b)(b:Int):dX (pL s i) b↔dX s b\/b=16*s.Q+i*csz s.b:=by
 have g:=aC h;obtain⟨o,p,k,l⟩:=g9 g.2.2;have j:=bM g.2.2;unfold dX;simp only[pL];rw[EW (eC h).1 ω];constructor
 ·rintro⟨d,f,c,a|a⟩
  ·exact .inl ⟨d,f,c,a⟩
  right
  rcases j with e|e|e|e<;>rw[e]at c a |-<;>omega
 rintro(⟨d,f,c,a⟩|rfl)
 ·exact⟨d,f,c,.inl a⟩
 have q:slots s.b<=16:=k;rcases j with e|e|e|e<;>rw[e]at l |-<;>refine⟨?_,?_,?_,.inr ?_⟩<;>omega
theorem H1{sp:List ax}{i:Nat}(k:Int)(a:i<sp.length):(sp.set i (pL (nth sp i) k)).map (·.Q)=sp.map (·.Q):=by
 rw[W5];refine List.ext_getElem (by simp) λj b c=>?_
 rw[List.getElem_set];split
 ·rename_i e;subst e
  rw[List.getElem_map];show(nth sp i).Q=_;rw[bc (W1 a)]
 rfl
theorem jH.setS{sp:List ax}{la:List a8}(p:rT sp la){i:Nat}(g:i<sp.length){k:Int}(h:0<=k/\k<slots (nth sp i).b)(b c:Int):jH (sp.set i (pL (nth sp i) k)) b c↔jH sp b c\/(b=16*(nth sp i).Q+k*csz (nth sp i).b/\(c<0\/(nth sp i).b=c)):=by
 have d:=p.sok _ (am g);constructor
 ·rintro⟨s,l,f,a⟩
  rcases dI l with rfl|⟨j,n,q,rfl⟩
  ·rcases(tc d h b).1 f with o|o
   ·exact .inl ⟨_,am g,o,a⟩
   exact .inr ⟨o,a⟩
  exact .inl ⟨_,am n,f,a⟩
 rintro(⟨s,l,f,a⟩|⟨f,a⟩)
 ·obtain⟨j,n,rfl⟩:=aJ l
  by_cases e:j=i
  ·subst e
   exact⟨_,iB _ g,(tc d h b).2 (.inl f),a⟩
  exact⟨_,jt _ n e,f,a⟩
 exact⟨_,iB _ g,(tc d h b).2 (.inr f),a⟩
theorem MM{h:ab}{E:List Int}(d:aV h E){i:Nat}(l:i<h.M.length){k:Int}(p:0<=k/\k<=15)(b:aR (gM h i) k=false):aR (nth h.M i).b1 k=false/\∀u∈h.M,(nth (tbl h).J u.Q.toNat).e=(nth (tbl h).J (nth h.M i).Q.toNat).e->aR u.b1 k=false:=by
 have e:=d.L;have q:=eC (e.sok _ (am l));unfold gM at b;rw[<-C5,zy e.sok q p]at b;rw[not_or]at b;have r:aR (nth h.M i).b1 k=false:=by simpa using b.1
 have a:∀s∈h.M,s.Q.toNat<eM h/\(nth (tbl h).J s.Q.toNat).j≠0/\((s.Q.toNat:Nat):Int)=s.Q:=λs f=>by
  have K:=aC (e.sok s f);have M:=d.pg.bnd s.Q (dx f);have n:s.Q.toNat<(tbl h).J.length:=ω
  have o:((s.Q.toNat:Nat):Int)=s.Q:=ω
  exact⟨n,(d.pg.own _ n).2 (by rw[o];exact dx f),o⟩
 refine⟨r,λu c t=>?_⟩;rw[<-C5];intro w;obtain⟨y,A,B⟩:=a _ (am l);obtain⟨C,D,F⟩:=a u c;have G:u.Q∈aP h (nth h.M i).Q:=by
  rw[<-B,eY y A,<-F];exact dM.2 ⟨C,D,t⟩
 obtain⟨v,H,g⟩:=aJ G;obtain⟨j,J,rfl⟩:=aJ c;exact b.2 ⟨v,H,j,J,g.symm,w⟩
theorem aV.take{h:ab}{E:List Int}{i:Nat}{k sd:Int}(g:aV h E)(C:i<h.M.length)(D:0<=k/\k<slots (nth h.M i).b)(r:aR (gM h i) k=false)(M:0<=sd/\sd<=1073741823) :
  aV {h with c0:=sd,M:=h.M.set i (pL (nth h.M i) k)} ((16*(nth h.M i).Q+k*csz (nth h.M i).b)::E):=by
 have F:=g.L;have T:=F.sok _ (am C);have Q:=aC T;obtain⟨l1,l2,l3,l4⟩:=g9 Q.2.2;have hz:=bM Q.2.2;obtain⟨u1,u2⟩:=MM g C ⟨D.1,ω⟩ r;have n:=λb c=>jH.setS F C D b c
 have w:=H1 k C;generalize ha:16*(nth h.M i).Q+k*csz (nth h.M i).b=a at n |-;have G:¬dX (nth h.M i) a:=by
  rintro⟨-,-,-,h4⟩
  have:(a - 16*(nth h.M i).Q) / csz (nth h.M i).b=k:=by
   rw[<-ha];rcases hz with e|e|e|e<;>rw[e]<;>omega
  rw[this,u1]at h4;cases h4
 have hrange:16*(nth h.M i).Q<=a/\a<=16*(nth h.M i).Q+15:=by
  rcases hz with e|e|e|e<;>rw[e]at ha l4<;>omega
 have U:¬mb h.M h.K a:=by
  rintro(⟨s,p,d,-⟩|⟨l,hl,e⟩)
  ·obtain⟨j,V,rfl⟩:=aJ p
   have:=cE (f:=(·.Q)) F.nd V C (by have a1:=d.1;have a2:=d.2.1;omega);subst this;exact G d
  exact(vk F hl).1 _ (am C) ω
 have W:a∉E++holders h:=λX=>U ((g.mem a).1 X)
 have q:∀s∈h.M.set i (pL (nth h.M i) k),∃u∈h.M,u.Q=s.Q/\(s=u\/(u=nth h.M i/\s=pL u k)):=λs p=>by
  rcases dI p with rfl|⟨j,V,hji,rfl⟩
  ·exact⟨_,am C,rfl,.inr ⟨rfl,rfl⟩⟩
  exact⟨_,am V,rfl,.inl rfl⟩
 generalize hsp:h.M.set i (pL (nth h.M i) k)=sp at n w q |-;have t:pgs sp h.K=pgs h.M h.K:=by unfold pgs;rw[w]
 have N:∀u∈h.M,∃s∈sp,s.Q=u.Q:=λu r=>by
  have:u.Q∈sp.map (·.Q):=by rw[w];exact C4.2 ⟨u,r,rfl⟩
  obtain⟨s,p,e⟩:=C4.1 this;exact⟨s,p,e⟩
 exact {g with
   lay:=by
     obtain⟨l1,l2,l3⟩:=du g.lay;unfold bk;simp only[I0,C0];refine⟨⟨W3.2 λs p=>?_,l2⟩,by rw[t];exact l3⟩;obtain⟨u,r,-,rfl|⟨rfl,rfl⟩⟩:=q s p
     · exact F.sok _ r
     exact zP (F.sok _ r) D
   srs:=by
     have d:(h.M.map (·.Q)).Pairwise (λa b=>a<b):=List.pairwise_map.2 g.srs;rw[<-w]at d;exact List.pairwise_map.1 d
   pg:=⟨g.pg.one,by rw[t];exact g.pg.bnd,by rw[t];exact g.pg.own,g.pg.fre,λs p u r O hf=>by
     obtain⟨R,A,Y,Z⟩:=q s p;obtain⟨S,B,eu,P⟩:=q u r;have H:(nth (tbl h).J R.Q.toNat).e=(nth (tbl h).J S.Q.toNat).e:=by rw[Y,eu];exact hf
     have d:=g.pg.mesh R A S B (by rw[Y,eu];exact O) H;rcases Z with rfl|⟨rfl,rfl⟩
     · rcases P with rfl|⟨rfl,rfl⟩
       · exact d
       rw[gt]at d |-;exact yA D (u2 _ A H) d
     rcases P with rfl|⟨rfl,rfl⟩
     · exact yA D (u2 _ B H.symm) d
     exact absurd (Y.symm.trans eu) O⟩
   nums:=by
     have:=g.nums;unfold cg at this |-;rw[C0]at this |-;exact⟨M.1,M.2,this.2.2⟩
   oow:=λo ho=>by
     rcases g.oow o ho with⟨s,p,d,h2⟩|d
     · obtain⟨u,r,g1,K⟩:=(n o.Addr (aI o.o)).2 (.inl ⟨s,p,d,.inr h2⟩)
       refine .inl ⟨u,r,g1,?_⟩;rcases K with K|K
       · have:=aC (F.sok _ p);omega
       exact K
     exact .inr d
   hca:=λc Q k D b J=>(n b k).2 (.inl (g.hca c Q k D b J))
   hqu:=λy hy=>(n _ _).2 (.inl (g.hqu y hy))
   hfl:=λb J=>(n _ _).2 (.inl (g.hfl b J))
   hin:=λb J=>by
     rcases List.mem_cons.1 J with rfl|J
     · exact(n _ _).2 (.inr ⟨rfl,.inl (by decide)⟩)
     exact(n _ _).2 (.inl (g.hin b J))
   nd:=by
     rw[List.cons_append];exact List.nodup_cons.2 ⟨W,g.nd⟩
   mem:=λb=>by
     show b∈a::E++holders h↔mb sp h.K b;rw[List.cons_append,List.mem_cons,g.mem b];unfold mb;rw[n];constructor
     · rintro(rfl|d|d)
       · exact .inl (.inr ⟨rfl,.inl (by decide)⟩)
       · exact .inl (.inl d)
       exact .inr d
     rintro((d|⟨d,-⟩)|d)
     · exact .inr (.inl d)
     · exact .inl d
     exact .inr (.inr d)
   job:=λX=>by
     obtain⟨j1,⟨s,p,e1⟩,⟨u,r,e2⟩⟩:=g.job X;obtain⟨R,A,g1⟩:=N s p;obtain⟨S,B,K⟩:=N u r;exact⟨j1,⟨R,A,g1.trans e1⟩,⟨S,B,K.trans e2⟩⟩}
def rp(c:aE)(k:Nat):aE:=⟨c.d.set k ((nth c.d k).take ((nth c.d k).length - 1))⟩
theorem Mt{l:List Int}(h:0<l.length):l=l.take (l.length - 1)++[nth l (l.length - 1)]:=by
 have a:l.drop (l.length - 1)=[nth l (l.length - 1)]:=by
  rw[jD ω,show l.length - 1+1=l.length by omega,List.drop_length]
 rw[<-a,List.take_append_drop]
theorem aV.pop{h:ab}{E:List Int}{t k:Nat}(f:aV h E)(l:t<h.T.length)(p:k<(nth h.T t).d.length)(u:0<(nth (nth h.T t).d k).length)(w:bw (rp (nth h.T t) k)=true) :
  aV {h with T:=h.T.set t (rp (nth h.T t) k)} (nth (nth (nth h.T t).d k) ((nth (nth h.T t).d k).length - 1)::E)/\jH h.M (nth (nth (nth h.T t).d k) ((nth (nth h.T t).d k).length - 1)) k:=by
 have q:=Mt u;have n:=f.hca _ (am l) k p (nth (nth (nth h.T t).d k) ((nth (nth h.T t).d k).length - 1)) (am ω);refine⟨?_,n⟩;generalize D:nth (nth (nth h.T t).d k) ((nth (nth h.T t).d k).length - 1)=a at q n |-;have r:(E++holders h).Perm (a::E++holders {h with T:=h.T.set t (rp (nth h.T t) k)}):=by
  refine List.perm_iff_count.2 λb=>?_
  have A:=i9 (λc:aE=>c.d.flatten) b h.T t (rp (nth h.T t) k) l;have B:=i9 (λy:List Int=>y) b (nth h.T t).d k ((nth (nth h.T t).d k).take ((nth (nth h.T t).d k).length - 1)) p;rw[<-kE,<-kE]at B;have C:=U0 (List.count b) q;simp only[V5,List.count_singleton]at C;simp only[rp]at A;simp only[holders,cy,rp,V5,List.cons_append,List.count_cons];omega
 exact {f with
   nc:=by show(h.T.set ..).length=_;rw[I1];exact f.nc
   cach:=λc d=>by
     rcases Z5 d with d|rfl
     · exact f.cach c d
     exact w
   onu:=by show ∀o∈h.O,1<=o.Id/\o.Id<=h.a - 1/\0<=o.a3/\o.a3<=(h.T.set t _).length - 1;rw[I1];exact f.onu
   hca:=λc d j i b g=>by
     rcases Z5 d with d|rfl
     · exact f.hca c d j i b g
     simp only[rp,I1]at i;simp only[rp,bA]at g;by_cases e:k=j
     · subst e
       rw[C9 ⟨rfl,i⟩]at g;exact f.hca _ (am l) _ i b (List.mem_of_mem_take g)
     rw[C8 λy=>e y.1]at g;exact f.hca _ (am l) _ i b g
   hin:=λb g=>by
     rcases List.mem_cons.1 g with rfl|g
     · exact n.any
     exact f.hin b g
   nd:=r.nodup_iff.1 f.nd
   mem:=λb=>by rw[<-r.mem_iff];exact f.mem b}
def M9(a:Int)(o:br):Bool:=decide (a<=o.Addr)
def addO(h:ab)(a size t:Int):ab:={h with O:=iZ (M9 a) h.O ⟨h.a,a,size,t⟩,a:=h.a+1}
theorem yO{h:ab}(a:cg h=true)(b:h.a<1000000):decide (0<=h.c0/\h.c0<=1073741823/\0<=h.b5/\h.b5<=1000000/\0<=h.c3/\h.c3<=1000/\1<=h.a+1/\h.a+1<=1000000)=true:=by
 unfold cg at a;rw[C0]at a |-;omega
theorem aV.addO{h:ab}{E:List Int}{a size t:Int}(c:aV h (a::E))(d:Mr h.M h.K ⟨h.a,a,size,t⟩)(p:h.a<1000000)(q:0<=t/\t<=h.T.length - 1):aV (addO h a size t) E:=by
 have i:=kr (M9 a) h.O ⟨h.a,a,size,t⟩;have n:(a::E++holders h).Perm (E++holders (Ab.addO h a size t)):=by
  have r:=i.map (·.Addr);refine List.perm_iff_count.2 λb=>?_
  have u:=r.count_eq b;simp only[U5,List.count_cons]at u;simp only[holders,cy,Ab.addO,V5,List.cons_append,List.count_cons];omega
 have j:=c.nd;rw[List.cons_append]at j;obtain⟨k,-⟩:=List.nodup_cons.1 j;have l:∀o∈h.O,o.Addr≠a:=λo d e=>k (U2.2 (.inr (by unfold holders;simp only[U2];exact .inl (.inl (.inl (C4.2 ⟨o,d,e⟩))))))
 exact {c with
   nums:=yO c.nums p
   osr:=lc (f:=λo:br=>o.Addr) (y:=⟨h.a,a,size,t⟩) c.osr l
   onu:=λo d=>by
     rcases cA.1 d with rfl|d
     · have:=c.nums
       unfold cg at this;rw[C0]at this;exact⟨by show 1<=h.a;omega,by show h.a<=h.a+1 - 1;omega,q⟩
     have:=c.onu o d;exact⟨this.1,by show o.Id<=h.a+1 - 1;omega,this.2.2⟩
   oid:=by
     show((iZ (M9 a) h.O ⟨h.a,a,size,t⟩).map (·.Id)).Nodup;rw[(i.map _).nodup_iff,U5];refine List.nodup_cons.2 ⟨λw=>?_,c.oid⟩;obtain⟨o,d,e⟩:=C4.1 w;have:=(c.onu o d).2.1;simp only at e;omega
   oow:=λo g=>by
     rcases cA.1 g with rfl|g
     · exact d
     exact c.oow o g
   hin:=λb A=>c.hin b (Z4 _ A)
   nd:=n.nodup_iff.1 c.nd
   mem:=λb=>by rw[<-n.mem_iff];exact c.mem b}
def iO(xs:List aA)(n:Int):Nat->Int
 | 0=>-1
 | i+1=>if n<=(nth xs i).b0/\(iO xs n i<0\/(nth xs i).b0<(nth xs (iO xs n i).toNat).b0) then(i:Nat) else iO xs n i
def gW(xs:List aA)(n:Int):Int:=iO xs n xs.length
def au(xs:List aA)(n:Int):List aA × Int × Bool:=
 if gW xs n<0 then(xs,-1,false)
 else if(nth xs (gW xs n).toNat).b0=n then(dele xs (gW xs n).toNat,(nth xs (gW xs n).toNat).At,true)
 else(xs.set (gW xs n).toNat ⟨(nth xs (gW xs n).toNat).At+n,(nth xs (gW xs n).toNat).b0 - n⟩,(nth xs (gW xs n).toNat).At,true)
theorem xv(xs:List aA)(n:Int):∀i,i<=xs.length->iO xs n i = -1\/(0<=iO xs n i/\iO xs n i<i/\n<=(nth xs (iO xs n i).toNat).b0)
 | 0,_=>.inl rfl
 | i+1,b=>by
  have a:=xv xs n i ω;unfold iO;split
  ·rename_i h;right;rw[O2];exact⟨ω,ω,h.1⟩
  rcases a with h|h
  ·exact .inl h
  exact .inr ⟨h.1,ω,h.2.2⟩
theorem xb{xs:List aA}(h:ow xs){i j:Nat}(a:i<j)(b:j<xs.length):(nth xs i).At+(nth xs i).b0<(nth xs j).At:=by
 have:=List.pairwise_iff_getElem.1 h.1 i j ω b a
 rwa [<-bc (W1 (show i<xs.length by omega)),<-bc (W1 b)]at this
theorem wH{xs:List aA}{p:Int} : RH xs p↔∃j,j<xs.length/\(nth xs j).At<=p/\p<(nth xs j).At+(nth xs j).b0:=by
 unfold RH;constructor
 ·rintro⟨r,b,h⟩
  obtain⟨j,a,rfl⟩:=aJ b;exact⟨j,a,h⟩
 rintro⟨j,a,h⟩
 exact⟨_,am a,h⟩
theorem na{pages:Int}{xs:List aA}{n:Int}(h:b9 pages xs=true)(T:1<=n)(t:(au xs n).2.2=true) :
  b9 pages (au xs n).1=true/\0<=(au xs n).2.1/\(au xs n).2.1+n<=pages/\(∀p,RH (au xs n).1 p↔RH xs p/\¬((au xs n).2.1<=p/\p<(au xs n).2.1+n))/\∀p,(au xs n).2.1<=p->p<(au xs n).2.1+n->RH xs p:=by
 obtain⟨o,u,J⟩:=fA.1 h;have K:=xv xs n xs.length (W2 _);unfold au at t |-;change gW xs n = -1\/_ at K;split at t
 ·cases t
 rename_i w;rw[C8 w];obtain⟨O,P,L⟩:=K.resolve_left ω;change 0<=gW xs n at O;change gW xs n<xs.length at P;change n<=(nth xs (gW xs n).toNat).b0 at L;generalize Q:(gW xs n).toNat=b at L |-;have g:b<xs.length:=ω
 have M:=u _ (am g);have q:∀j,j<xs.length->j≠b->(nth xs j).At+(nth xs j).b0<(nth xs b).At\/(nth xs b).At+(nth xs b).b0<(nth xs j).At:=λj a k=>by
  rcases Nat.lt_or_gt_of_ne k with A|B
  ·exact .inl (xb o A g)
  exact .inr (xb o B a)
 split
 ·rename_i R
  have C:(dele xs b).Sublist xs:=fk ..;refine⟨fA.2 ⟨⟨o.1.sublist C,λy l=>o.2 y (C.subset l)⟩,λy l=>u y (C.subset l),J⟩,M.1,by show(nth xs b).At+n<=pages;omega,λp=>?_,λp D E=>wH.2 ⟨b,g,D,by show p<_;simp only at E;omega⟩⟩;simp only;rw[wH (xs:=xs)];constructor
  ·rintro⟨r,F,f,d⟩
   obtain⟨j,a,k,rfl⟩:=cQ.1 F;refine⟨⟨j,a,f,d⟩,λe=>?_⟩;have:=q j a k;omega
  rintro⟨⟨j,a,f,d⟩,G⟩
  exact⟨_,cQ.2 ⟨j,a,λe=>by subst e;omega,rfl⟩,f,d⟩
 rename_i R;have c:∀j,nth (xs.set b ⟨(nth xs b).At+n,(nth xs b).b0 - n⟩) j=if j=b then⟨(nth xs b).At+n,(nth xs b).b0 - n⟩ else nth xs j:=λj=>by
  rw[bA];by_cases e:j=b
  ·rw[C9 ⟨e.symm,ω⟩,C9 e]
  rw[C8 λz=>e z.1.symm,C8 e]
 refine⟨fA.2 ⟨⟨?_,λy l=>?_⟩,λy l=>?_,J⟩,M.1,by show(nth xs b).At+n<=pages;omega,λp=>?_,λp D E=>wH.2 ⟨b,g,D,by simp only at E;omega⟩⟩
 ·rw[List.pairwise_iff_getElem]
  intro i j N a H;rw[<-bc (W1 N),<-bc (W1 a),c,c];simp only[I1]at N a;have S:=xb o H a;split
  ·rename_i e;subst e
   rw[C8 ω];simp only;omega
  split
  ·rename_i e;subst e
   simp only;omega
  exact S
 ·rcases dI l with rfl|⟨j,a,-,rfl⟩
  ·simp only;omega
  exact o.2 _ (am a)
 ·rcases dI l with rfl|⟨j,a,-,rfl⟩
  ·simp only;omega
  exact u _ (am a)
 simp only;rw[wH,wH,I1];constructor
 ·rintro⟨j,a,f,d⟩
  rw[c]at f d;split at f
  ·rename_i e;subst e
   rw[C9 rfl]at d;simp only at f d;exact⟨⟨j,a,ω,ω⟩,ω⟩
  rename_i e;rw[C8 e]at d;have:=q j a e;exact⟨⟨j,a,f,d⟩,ω⟩
 rintro⟨⟨j,a,f,d⟩,G⟩
 refine⟨j,a,?_⟩;rw[c];split
 ·rename_i e;subst e
  simp only;omega
 exact⟨f,d⟩
def r8(k:ah):Int:=dD (λu=>!u) k.F.V.a9
def qf(k:ah)(p:Int)(f:Nat):ah:={k with F:=⟨⟨k.F.V.S,k.F.V.a9.set f true⟩,⟨k.F.R.J.set p.toNat ⟨2,(f:Nat)⟩⟩⟩}
def newK(k:ah)(p:Int):ah × Bool:=if refd k=true\/r8 k<0 then(bY k,false) else(qf (bY k) p (r8 k).toNat,true)
theorem BI{k:ah}(h:¬r8 k<0):(r8 k).toNat<k.F.V.a9.length/\nth k.F.V.a9 (r8 k).toNat=false:=by
 unfold r8 at h |-;rcases oe (λu=>!u) k.F.V.a9 with e|⟨n,a,e,b⟩
 ·omega
 rw[e,O2];exact⟨a,by simpa using b⟩
theorem zo{k:ah}(h:a7 k=true){f:Nat}(b:f<k.F.V.a9.length)(c:nth k.F.V.a9 f=false)(q:Nat)(d:q<k.F.R.J.length)(g:(nth k.F.R.J q).j≠0):(nth k.F.R.J q).e≠(f:Nat):=by
 obtain⟨j,l,n,i,o⟩:=aD.1 h;intro e;have a:=i f b;rw[c]at a;have:=of_decide_eq_false a.symm;exact this (dL.2 ⟨q,d,g,e⟩)
theorem NT{k:ah}{p:Int}{f:Nat}(h:a7 k=true)(L:0<=p/\p<k.F.R.J.length)(n:(nth k.F.R.J p.toNat).j=0)(o:f<k.F.V.a9.length)(r:nth k.F.V.a9 f=false):a7 (qf k p f)=true:=by
 have t:=zo h o r;obtain⟨u,w,y,A,B⟩:=aD.1 h;obtain⟨C,D,E,F⟩:=aW.1 w;obtain⟨G,H,J⟩:=bx.1 y;have a:∀q,nth (k.F.R.J.set p.toNat ⟨2,(f:Nat)⟩) q=if p.toNat=q then⟨2,(f:Nat)⟩ else nth k.F.R.J q:=λq=>by
  rw[bA];by_cases i:p.toNat=q
  ·rw[C9 ⟨i,ω⟩,C9 i]
  rw[C8 (λe=>i e.1),C8 i]
 refine aD.2 ⟨u,aW.2 ⟨C,D,by simp only[qf,I1];exact E,λj b=>?_⟩,bx.2 ⟨λj b=>?_,?_,?_⟩,λj b=>?_,B⟩
 ·replace b:j<k.F.V.S.length:=b
  show gF (nth k.F.V.S j) (nth (k.F.V.a9.set f true) j)=true;have d:=F j b;rw[bA];split
  ·unfold gF at d |-
   simp only[I0,C0,W3]at d |-;refine⟨d.1,λv K=>?_⟩;have:=d.2 v K;unfold ij at this |-;simp only[I0]at this;rw[this.1];rfl
  exact d
 ·simp only[qf,I1]at b |-
  rw[a];split
  ·unfold jS;rw[C0];simp only;omega
  exact G j b
 ·simp only[qf,I1];exact H
 ·simp only[qf,I1];exact J
 simp only[qf,I1]at b;show nth (k.F.V.a9.set f true) j=_;rw[bA];by_cases e:f=j
 ·subst e
  rw[C9 ⟨rfl,b⟩];refine(O0 (dL.2 ⟨p.toNat,?_,?_,?_⟩)).symm
  ·simp only[qf,I1];omega
  ·simp only[qf,a,C9];decide
  simp only[qf,a,C9]
 rw[C8 λz=>e z.1,A j b];refine decide_eq_decide.2 ?_;rw[dL,dL];simp only[qf,I1,a];constructor
 ·rintro⟨q,l,g,c⟩
  refine⟨q,l,?_⟩;rw[C8 λz=>g (by rw[<-z];exact n)];exact⟨g,c⟩
 rintro⟨q,l,g,c⟩
 by_cases z:p.toNat=q
 ·rw[C9 z]at c
  simp only at c;omega
 rw[C8 z]at g c;exact⟨q,l,g,c⟩
structure up(k:ah)(p:Int)(r:ah × Bool):Prop where
 ker:a7 r.1=true
 len:r.1.F.R.J.length=k.F.R.J.length
 calls:r.1.Calls=k.Calls+1
 ref:r.1.y=k.y
 cells:r.1.F.V.S=k.F.V.S
 no:r.2=false->r.1=bY k
 yes:r.2=true->∃f:Nat,f<k.F.V.a9.length/\nth k.F.V.a9 f=false/\(∀q:Nat,nth r.1.F.R.J q=if(q:Int)=p then⟨2,(f:Nat)⟩ else nth k.F.R.J q)/\∀q,q<k.F.R.J.length->(nth k.F.R.J q).j≠0->(nth k.F.R.J q).e≠(f:Nat)
theorem up.of{k:ah}{p:Int}(h:a7 k=true)(c:k.Calls≠100000)(f:0<=p/\p<k.F.R.J.length)(g:(nth k.F.R.J p.toNat).j=0):up k p (newK k p):=by
 unfold newK;split
 ·exact⟨ml h c,rfl,rfl,rfl,rfl,λ_=>rfl,λe=>by cases e⟩
 rename_i d;rw[not_or]at d;obtain⟨a,b⟩:=BI d.2;refine⟨NT (ml h c) f g a b,by simp[qf,bY],rfl,rfl,rfl,λe=>(by cases e),λ_=>⟨_,a,b,λq=>?_,λq=>zo h a b q⟩⟩;simp only[qf,bY,bA];by_cases e:(q:Int)=p
 ·rw[C9 ⟨ω,ω⟩,C9 e]
 rw[C8 λz=>e ω,C8 e]
def newsK(k:ah)(p:Int):Nat->ah × Nat
 | 0=>(k,0)
 | i+1=>if(newsK k p i).2=i then((newK (newsK k p i).1 (p+(i:Nat))).1,if(newK (newsK k p i).1 (p+(i:Nat))).2=true then i+1 else i) else newsK k p i
structure lf(k:ah)(p:Int)(i:Nat)(r:ah × Nat):Prop where
 ker:a7 r.1=true
 len:r.1.F.R.J.length=k.F.R.J.length
 calls:k.Calls<=r.1.Calls/\r.1.Calls<=k.Calls+i
 ref:r.1.y=k.y
 cells:r.1.F.V.S=k.F.V.S
 le:r.2<=i
 out:∀q:Nat,¬(p<=q/\(q:Int)<p+r.2)->nth r.1.F.R.J q=nth k.F.R.J q
 new:∀q:Nat,p<=q->(q:Int)<p+r.2->(nth r.1.F.R.J q).j=2/\∀u:Nat,u<k.F.R.J.length->(nth r.1.F.R.J u).j≠0->(nth r.1.F.R.J u).e=(nth r.1.F.R.J q).e->u=q
theorem lf.of{k:ah}{p:Int}{n:Nat}(h:a7 k=true)(G:k.Calls+n<=100000)(H:0<=p/\p+n<=k.F.R.J.length)(C:∀q:Nat,p<=q->(q:Int)<p+n->(nth k.F.R.J q).j=0):∀i,i<=n->lf k p i (newsK k p i)
 | 0,_=>⟨h,rfl,⟨W4 _,by show k.Calls<=k.Calls+((0:Nat):Int);omega⟩,rfl,rfl,W2 _,λ_ _=>rfl,λq o d=>by simp only[newsK]at d;omega⟩
 | i+1,L=>by
  have a:=lf.of h G H C i ω;unfold newsK;split
  case isFalse=>exact⟨a.ker,a.len,⟨a.calls.1,by have:=a.calls.2;omega⟩,a.ref,a.cells,by have:=a.le;omega,a.out,a.new⟩
  rename_i t;generalize newsK k p i=r at a t |-;have J:=a.calls;have y:(nth r.1.F.R.J (p+(i:Nat)).toNat).j=0:=by
   rw[a.out _ ω];exact C _ ω ω
  have s:=up.of (p:=p+(i:Nat)) a.ker ω ⟨ω,by rw[a.len];omega⟩ y;generalize newK r.1 (p+(i:Nat))=w at s |-;refine⟨s.ker,s.len.trans a.len,⟨by simp only[s.calls];omega,by simp only[s.calls];omega⟩,s.ref.trans a.ref,s.cells.trans a.cells,by simp only;split<;>omega,λq j=>?_,λq o d=>?_⟩
  ·simp only at j |-
   cases e:w.2 with
   | false=>
    rw[s.no e];rw[e]at j;exact a.out q (by rw[t];simpa using j)
   | true=>
    obtain⟨f,-,-,g,-⟩:=s.yes e;rw[e,C9 rfl]at j;rw[g,C8 ω];exact a.out q ω
  simp only at d |-;cases e:w.2 with
  | false=>
   rw[s.no e];rw[e]at d;exact a.new q o (by rw[t];simpa using d)
  | true=>
   obtain⟨f,-,-,g,D⟩:=s.yes e;rw[e,C9 rfl]at d;have A:q<k.F.R.J.length:=ω
   rw[g];by_cases E:(q:Int)=p+(i:Nat)
   ·rw[C9 E]
    refine⟨rfl,λu B c b=>?_⟩;rw[g]at c b;by_cases l:(u:Int)=p+(i:Nat)
    ·omega
    rw[C8 l]at c b;exact absurd b (D u (by rw[a.len];exact B) c)
   rw[C8 E];obtain⟨F,K⟩:=a.new q o ω;refine⟨F,λu B c b=>?_⟩;rw[g]at c b;by_cases l:(u:Int)=p+(i:Nat)
   ·rw[C9 l]at b
    exact absurd b.symm (D q (by rw[a.len];exact A) (by rw[F];decide))
   rw[C8 l]at c b;exact K u B c b
theorem lf.undo{k:ah}{p:Int}{i:Nat}{r:ah × Nat}(s:lf k p i r)(h:a7 k=true)(d:0<=p/\p+i<=k.F.R.J.length)(e:∀q:Nat,p<=q->(q:Int)<p+i->(nth k.F.R.J q).j=0):a7 (unmN r.1 p r.2)=true/\tEq k.F.R (unmN r.1 p r.2).F.R:=by
 have f:=s.le;have g:=ma s.ker d.1 r.2 (by rw[s.len];omega);refine⟨iM s.ker p r.2,((fo r.1 p r.2).1).trans s.len,λq=>?_⟩;rw[g];split
 ·rename_i a
  have c:=e q a.1 ω;obtain⟨-,-,j,-⟩:=aD.1 h;have b:=(bx.1 j).1 q ω;unfold jS at b;rw[C0]at b;exact⟨⟨λz=>absurd rfl z,λz=>absurd c z⟩,(b.2.2.1 c).symm⟩
 rename_i a;rw[s.out q a];exact⟨Iff.rfl,rfl⟩
theorem Pg.add{t h:aH}{O r:List aA}{sp b:List ax}{la d:List a8}{p:Int}{n:Nat}(i:Pg t O sp la)(E:h.J.length=t.J.length)(S:p+n<=t.J.length)(hp:0<=p)(j:∀q:Nat,¬(p<=q/\(q:Int)<p+n)->nth h.J q=nth t.J q)(a:∀q:Nat,p<=q->(q:Int)<p+n->(nth h.J q).j=2/\∀u:Nat,u<t.J.length->(nth h.J u).j≠0->(nth h.J u).e=(nth h.J q).e->u=q)(J:∀q,RH r q↔RH O q/\¬(p<=q/\q<p+n))(F:∀q,q∈pgs b d↔q∈pgs sp la\/(p<=q/\q<p+n))(w:∀s∈b,0<=s.Q/\(s∈sp\/(p<=s.Q/\s.Q<p+n)))(K:∀l∈d,l∈la\/∀q∈lpgs l l.a2.toNat,p<=q/\q<p+n):Pg h r b d:=by
 have f:∀q:Nat,q<t.J.length->((nth h.J q).j≠0↔(q:Int)∈pgs b d):=λq c=>by
  rw[F];by_cases e:p<=q/\(q:Int)<p+n
  ·have:=(a q e.1 e.2).1
   exact⟨λ_=>.inr e,λ_=>by rw[this];decide⟩
  rw[j q e,i.own q c];exact⟨.inl,λz=>z.resolve_right e⟩
 refine⟨λl A q c u k L G=>?_,λq c=>?_,λq c=>f q (by rw[<-E];exact c),λq c=>?_,λs P u k M H=>?_⟩
 ·rw[E]at k
  have B:=fI (sp:=b) A c;have C:q<t.J.length:=by
   rcases(F _).1 B with g|g
   ·have:=i.bnd _ g;omega
   omega
  by_cases e:p<=q/\(q:Int)<p+n
  ·exact(a q e.1 e.2).2 u k L G
  have N:=(K l A).resolve_right λg=>e (g _ c)
  by_cases o:p<=u/\(u:Int)<p+n
  ·exact((a u o.1 o.2).2 q C ((f q C).2 B) G.symm).symm
  rw[j q e,j u o]at G;rw[j u o]at L;exact i.one l N q c u k L G
 ·rw[E]
  rcases(F _).1 c with g|g
  ·exact i.bnd _ g
  omega
 ·rw[E]at c
  rw[J];by_cases e:p<=q/\(q:Int)<p+n
  ·have:=(a q e.1 e.2).1
   exact⟨λ_ z=>z.2 e,λ_=>by rw[this];decide⟩
  rw[j q e,i.fre q c];exact⟨λz y=>z y.1,λz y=>z ⟨y,e⟩⟩
 obtain⟨T,U⟩:=w s P;obtain⟨V,W⟩:=w u k;have D:∀y∈b,0<=y.Q->y.Q.toNat<t.J.length/\((y.Q.toNat:Nat):Int)=y.Q/\(nth h.J y.Q.toNat).j≠0:=λy X Y=>by
  have g:=dx (la:=d) X;have Q:y.Q.toNat<t.J.length:=by
   rcases(F _).1 g with R|R
   ·have:=i.bnd _ R;omega
   omega
  exact⟨Q,ω,(f _ Q).2 (by rw[show((y.Q.toNat:Nat):Int)=y.Q by omega];exact g)⟩
 obtain⟨Z,sc,sd⟩:=D s P T;obtain⟨ub,uc,ud⟩:=D u k V;by_cases es:p<=s.Q/\s.Q<p+n
 ·have:=(a s.Q.toNat ω ω).2 _ ub ud H.symm
  omega
 by_cases o:p<=u.Q/\u.Q<p+n
 ·have:=(a u.Q.toNat ω ω).2 _ Z sd H
  omega
 rw[j _ ω,j _ ω]at H;exact i.mesh s (U.resolve_right es) u (W.resolve_right o) M H
theorem BY{sp a:List ax}{la b:List a8}(c:a.Perm sp)(d:b.Perm la):(pgs a b).Perm (pgs sp la):=by
 unfold pgs;exact(c.map _).append (d.flatMap_right _)
def Fi(p:Int)(s:ax):Bool:=decide (p<=s.Q)
def Ps(p:Int)(l:a8):Bool:=decide (p<=l.Q)
def addS(h:ab)(k:ah)(a:List aA)(p c:Int):ab:={h with G:=k,q:=a,M:=iZ (Fi p) h.M ⟨p,c,0⟩}
theorem jm{h:ab}{E:List Int}(a:aV h E){n:Int}(j:1<=n)(k:(au h.q n).2.2=true):0<=(au h.q n).2.1/\(au h.q n).2.1+n<=(tbl h).J.length/\(∀q:Nat,(au h.q n).2.1<=q->(q:Int)<(au h.q n).2.1+n->(nth (tbl h).J q).j=0)/\∀q:Int,(au h.q n).2.1<=q->q<(au h.q n).2.1+n->q∉pgs h.M h.K:=by
 obtain⟨r,l,f,t,o⟩:=na a.rng j k;have g:∀q:Nat,(au h.q n).2.1<=q->(q:Int)<(au h.q n).2.1+n->(nth (tbl h).J q).j=0:=λq b c=>by
  have d:q<(tbl h).J.length:=by
   have:(au h.q n).2.1+n<=((tbl h).J.length:Nat):=f;omega
  by_cases e:(nth (tbl h).J q).j=0
  ·exact e
  exact absurd (o q b c) ((a.pg.fre q d).1 e)
 refine⟨l,f,g,λq b c i=>?_⟩;have u:=a.pg.bnd q i;obtain⟨m,rfl⟩:=R2 (show 0<=q by omega);have p:=(a.pg.own m ω).2 i;exact p (g m b c)
theorem aV.addS{h:ab}{E:List Int}{c:Int}(a:aV h E)(H:0<=c/\c<=3)(F:(au h.q 1).2.2=true){k:ah}(s:up h.G (au h.q 1).2.1 (k,true)):aV (addS h k (au h.q 1).1 (au h.q 1).2.1 c) E:=by
 obtain⟨U,G,r3,J,r5⟩:=na a.rng (W4 _) F;obtain⟨-,V,u3,W⟩:=jm a (W4 _) F;generalize (au h.q 1).2.1=p at G r3 J r5 V u3 W s |-;generalize (au h.q 1).1=fr at U J |-;obtain⟨f,f1,f2,K,f4⟩:=s.yes rfl;have M:=(bx.1 (aD.1 a.ker).2.2.1).2.2;change (tbl h).J.length<=32 at M;have X:=a.L;have N:=kr (Fi p) h.M ⟨p,c,0⟩;have O:=BY N (List.Perm.refl h.K);have w:(pgs (iZ (Fi p) h.M ⟨p,c,0⟩) h.K).Perm (p::pgs h.M h.K):=O;have B:p∉pgs h.M h.K:=W p (W4 _) ω;have P:∀z∈h.M,z.Q≠p:=λz g e=>B (by rw[<-e];exact dx g)
 have i:∀b d,jH (iZ (Fi p) h.M ⟨p,c,0⟩) b d↔jH h.M b d:=λb d=>by
  constructor
  ·rintro⟨s,C,A,Q⟩
   rcases cA.1 C with rfl|C
   ·exact absurd A (uS rfl b)
   exact⟨s,C,A,Q⟩
  rintro⟨s,C,A⟩
  exact⟨s,cA.2 (.inr C),A⟩
 exact {a with
   ker:=s.ker
   rng:=by show b9 ((k.F.R.J.length:Nat):Int) fr=true;rw[s.len];exact U
   lay:=by
     obtain⟨l1,l2,l3⟩:=du a.lay;unfold bk;simp only[I0,C0];refine⟨⟨W3.2 λz g=>?_,l2⟩,w.nodup_iff.2 (List.nodup_cons.2 ⟨B,l3⟩)⟩;rcases cA.1 g with rfl|g
     · have R:0<=lim c:=by
         have:=(g9 H).1;obtain rfl|rfl|rfl|rfl:c=0\/c=1\/c=2\/c=3:=ω
         all_goals decide
       exact O0 ⟨G,by show p<=31;omega,H.1,H.2,W4 _,R⟩
     exact X.sok z g
   srs:=lc (f:=λz:ax=>z.Q) (y:=⟨p,c,0⟩) a.srs P
   pg:=by
     refine a.pg.add (p:=p) (n:=1) s.len (by exact V) G (λq Y=>?_) (λq q1 q2=>?_) (λq=>J q) (λq=>?_) (λz g=>?_) (λl hl=>.inl hl)
     · exact(K q).trans (C8 ω)
     · have Y:(q:Int)=p:=ω
       have Z:nth k.F.R.J q = ⟨2,(f:Nat)⟩:=(K q).trans (C9 Y);refine⟨U0 bi.j Z,λu S t r=>?_⟩;have fu:nth k.F.R.J u=if(u:Int)=p then⟨2,(f:Nat)⟩ else nth h.G.F.R.J u:=K u
       change (nth k.F.R.J u).j≠0 at t;change (nth k.F.R.J u).e=(nth k.F.R.J q).e at r;rw[fu]at t r;rw[Z]at r;by_cases eu:(u:Int)=p
       · omega
       rw[C8 eu]at t r;exact absurd r (f4 u S t)
     · show q∈pgs (iZ (Fi p) h.M ⟨p,c,0⟩) h.K↔_
       rw[w.mem_iff,List.mem_cons];constructor
       · rintro(e|e)
         · exact .inr ⟨ω,ω⟩
         exact .inl e
       rintro(e|e)
       · exact .inr e
       exact .inl ω
     rcases cA.1 g with rfl|g
     · exact⟨G,.inr ⟨W4 _,by show p<p+((1:Nat):Int);omega⟩⟩
     exact⟨(aC (X.sok z g)).1,.inl g⟩
   oow:=λo F=>by
     rcases a.oow o F with⟨z,g,A,Q⟩|A
     · exact .inl ⟨z,cA.2 (.inr g),A,Q⟩
     exact .inr A
   hca:=λd hd j hj b D=>(i b j).2 (a.hca d hd j hj b D)
   hqu:=λy T=>(i _ _).2 (a.hqu y T)
   hfl:=λb D=>(i _ _).2 (a.hfl b D)
   hin:=λb D=>(i _ _).2 (a.hin b D)
   mem:=λb=>(a.mem b).trans (by
     show mb h.M h.K b↔mb (iZ (Fi p) h.M ⟨p,c,0⟩) h.K b;unfold mb;rw[i])
   job:=λhm=>by
     obtain⟨j1,⟨y,T,e1⟩,⟨u,S,e2⟩⟩:=a.job hm;exact⟨j1,⟨y,cA.2 (.inr T),e1⟩,⟨u,cA.2 (.inr S),e2⟩⟩}
def addL(h:ab)(k:ah)(a:List aA)(p n size t:Int):ab:={h with G:=k,q:=a,K:=iZ (Ps p) h.K ⟨p,n,size⟩,O:=iZ (M9 (16*p)) h.O ⟨h.a,16*p,size,t⟩,a:=h.a+1}
theorem aV.addL{h:ab}{E:List Int}{size t:Int}{n:Nat}(a:aV h E)(g:9<=size/\size<=1000)(J:(n:Int)=(size+15) / 16)(i:(au h.q n).2.2=true){k:ah}(s:lf h.G (au h.q n).2.1 n (k,n))(hn:h.a<1000000)(ht:0<=t/\t<=h.T.length - 1) :
  aV (addL h k (au h.q n).1 (au h.q n).2.1 n size t) E:=by
 have B:(1:Int)<=n:=ω
 obtain⟨V,K,r3,M,r5⟩:=na a.rng B i;obtain⟨-,W,u3,H⟩:=jm a B i;generalize (au h.q n).2.1=p at K r3 M r5 W u3 H s |-;generalize (au h.q n).1=fr at V M |-;have N:=(bx.1 (aD.1 a.ker).2.2.1).2.2;change (tbl h).J.length<=32 at N;have O:=a.L;have P:=kr (Ps p) h.K ⟨p,n,size⟩;have C:=kr (M9 (16*p)) h.O ⟨h.a,16*p,size,t⟩;have Q:lpgs ⟨p,n,size⟩ ((n:Nat):Int).toNat=lpgs ⟨p,n,size⟩ n:=by rw[O2]
 have D:(pgs h.M (iZ (Ps p) h.K ⟨p,n,size⟩)).Perm (lpgs ⟨p,n,size⟩ n++pgs h.M h.K):=by
  refine(BY (List.Perm.refl h.M) P).trans ?_;unfold pgs;rw[I6];simp only[Q];rw[<-O5,<-O5];exact List.perm_append_comm.append_right _
 have u:∀q,q∈lpgs ⟨p,n,size⟩ n↔p<=q/\q<p+n:=λq=>by
  rw[dm];constructor
  ·rintro⟨j,hj,rfl⟩;exact⟨by show p<=p+(j:Int);omega,by show p+(j:Int)<_;omega⟩
  rintro⟨X,Y⟩;exact⟨(q - p).toNat,ω,by show q=p+_;omega⟩
 have R:(lpgs ⟨p,n,size⟩ n).Nodup:=by
  unfold lpgs List.Nodup;rw[List.pairwise_map];exact List.nodup_range.imp λr e=>r (by simp only at e;omega)
 have r:∀z∈h.K,z.Q≠p:=λz g e=>H p (W4 _) ω (by rw[<-e];exact fI g (dm.2 ⟨0,by have:=aM (O.lok z g);omega,ω⟩))
 have S:¬mb h.M h.K (16*p):=by
  rintro(⟨z,g,d,-⟩|⟨l,c,e⟩)
  ·exact H p (W4 _) ω (by rw[show p=z.Q by have a1:=d.1;have a2:=d.2.1;omega];exact dx g)
  exact r l c ω
 have F:(16*p)∉E++holders h:=λT=>S ((a.mem _).1 T)
 have U:∀o∈h.O,o.Addr≠16*p:=λo i e=>F (U2.2 (.inr (by unfold holders;simp only[U2];exact .inl (.inl (.inl (C4.2 ⟨o,i,e⟩))))))
 have Z:(E++holders (Ab.addL h k fr p n size t)).Perm ((16*p)::(E++holders h)):=by
  have h0:=C.map (·.Addr);refine List.perm_iff_count.2 λb=>?_
  have d:=h0.count_eq b;simp only[U5,List.count_cons]at d;simp only[holders,cy,Ab.addL,V5,List.count_cons];omega
 exact {a with
   ker:=s.ker
   rng:=by show b9 ((k.F.R.J.length:Nat):Int) fr=true;rw[s.len];exact V
   lay:=by
     obtain⟨l1,l2,l3⟩:=du a.lay;unfold bk;simp only[I0,C0];refine⟨⟨l1,W3.2 λz w=>?_⟩,D.nodup_iff.2 (List.nodup_append.2 ⟨R,l3,λq G b hb e=>?_⟩)⟩
     · rcases cA.1 w with rfl|w
       · exact O0 ⟨g.1,g.2,J,K,by show p<=32 - (n:Int);omega⟩
       exact O.lok z w
     subst e;have:=(u q).1 G;exact H q this.1 this.2 hb
   srl:=lc (f:=λz:a8=>z.Q) (y:=⟨p,n,size⟩) a.srl r
   pg:=by
     refine a.pg.add (p:=p) (n:=n) s.len (by exact W) K (λq G=>s.out q G) (λq X Y=>s.new q X Y) (λq=>M q) (λq=>?_) (λz g=>⟨(aC (O.sok z g)).1,.inl g⟩) (λl c=>?_)
     · show q∈pgs h.M (iZ (Ps p) h.K ⟨p,n,size⟩)↔_
       rw[D.mem_iff,U2,u];exact Or.comm
     rcases cA.1 c with rfl|c
     · exact .inr λq G=>(u q).1 (by simpa using G)
     exact .inl c
   nums:=yO a.nums hn
   osr:=lc (f:=λo:br=>o.Addr) (y:=⟨h.a,16*p,size,t⟩) a.osr U
   onu:=λo i=>by
     rcases cA.1 i with rfl|i
     · have:=a.nums
       unfold cg at this;rw[C0]at this;exact⟨by show 1<=h.a;omega,by show h.a<=h.a+1 - 1;omega,ht⟩
     have:=a.onu o i;exact⟨this.1,by show o.Id<=h.a+1 - 1;omega,this.2.2⟩
   oid:=by
     show((iZ (M9 (16*p)) h.O ⟨h.a,16*p,size,t⟩).map (·.Id)).Nodup;rw[(C.map _).nodup_iff,U5];refine List.nodup_cons.2 ⟨λT=>?_,a.oid⟩;obtain⟨o,i,e⟩:=C4.1 T;have:=(a.onu o i).2.1;simp only at e;omega
   oow:=λo A=>by
     rcases cA.1 A with rfl|A
     · exact .inr ⟨_,cA.2 (.inl rfl),rfl,rfl⟩
     rcases a.oow o A with d|⟨l,c,d⟩
     · exact .inl d
     exact .inr ⟨l,cA.2 (.inr c),d⟩
   nd:=Z.nodup_iff.2 (List.nodup_cons.2 ⟨F,a.nd⟩)
   mem:=λb=>by
     rw[Z.mem_iff,List.mem_cons,a.mem b];show _↔mb h.M (iZ (Ps p) h.K ⟨p,n,size⟩) b;unfold mb;constructor
     · rintro(rfl|d|⟨l,c,e⟩)
       · exact .inr ⟨_,cA.2 (.inl rfl),rfl⟩
       · exact .inl d
       exact .inr ⟨l,cA.2 (.inr c),e⟩
     rintro(d|⟨l,c,e⟩)
     · exact .inr (.inl d)
     rcases cA.1 c with rfl|c
     · exact .inl e
     exact .inr (.inr ⟨l,c,e⟩)}
structure JK(h h':ab):Prop where
 job:h'.Y=h.Y
 msh:h'.u=h.u
 sp:∀s∈h.M,fJ h s.Q=true->∃s'∈h'.M,s'.Q=s.Q/\∀u,meshable s u=true->meshable s' u=true
 ent:∀q:Nat,(nth (tbl h').J q).j≠0->((nth (tbl h).J q).j≠0/\(nth (tbl h').J q).e=(nth (tbl h).J q).e)\/∀u:Nat,(nth (tbl h').J u).j≠0->(nth (tbl h').J u).e=(nth (tbl h').J q).e->u=q
theorem JK.refl(h:ab):JK h h:=⟨rfl,rfl,λs a _=>⟨s,a,rfl,λ_ z=>z⟩,λ_ b=>.inl ⟨b,rfl⟩⟩
theorem JK.pg{h h':ab}(k:JK h h')(p:Int):fJ h' p=fJ h p:=by unfold fJ;rw[k.job,k.msh]
theorem JK.trans{h h1 g:ab}(a:JK h h1)(b:JK h1 g):JK h g:=by
 refine⟨b.job.trans a.job,b.msh.trans a.msh,λs o i=>?_,λq j=>?_⟩
 ·obtain⟨p,r,k,t⟩:=a.sp s o i
  obtain⟨w,y,A,B⟩:=b.sp p r (by rw[a.pg,k];exact i);exact⟨w,y,A.trans k,λu c=>B u (t u c)⟩
 rcases b.ent q j with⟨d,l⟩|d
 ·rcases a.ent q d with⟨e,C⟩|e
  ·exact .inl ⟨e,l.trans C⟩
  refine .inr λu c n=>?_
  rcases b.ent u c with⟨f,D⟩|f
  ·exact e u f (by rw[<-D,<-l];exact n)
  exact(f q j n.symm).symm
 exact .inr d
theorem n7.keep{h h':ab}{p:Int}(f:0<=p)(d:(nth (tbl h').J p.toNat).j≠0)(g:n7 (tbl h) p)(k:JK h h'):n7 (tbl h') p:=λq e c=>by
 rcases k.ent p.toNat d with⟨n,i⟩|a
 ·rcases k.ent q e with⟨j,l⟩|b
  ·exact g q j (by rw[<-l,c,i])
  have:=b p.toNat d c.symm;omega
 have:=a q e c;omega
theorem aV.mapped{h:ab}{E:List Int}(a:aV h E){s:ax}(b:s∈h.M):0<=s.Q/\s.Q<(tbl h).J.length/\(nth (tbl h).J s.Q.toNat).j≠0:=by
 have c:=(aC (a.L.sok s b)).1;have d:=a.pg.bnd _ (dx (la:=h.K) b);refine⟨c,d,(a.pg.own s.Q.toNat ω).2 ?_⟩;rw[show((s.Q.toNat:Nat):Int)=s.Q by omega];exact dx b
theorem JI.keep{h h':ab}{E:List Int}(l:JI h)(p:aV h' E)(k:JK h h'):JI h':=by
 have d:h.u=true->∃a∈h'.M,∃b∈h'.M,a.Q=h.Y.W.a4/\b.Q=h.Y.W.a1/\meshable a b=true:=λc=>by
  obtain⟨a,n,b,o,f,g,e⟩:=l.sp c;obtain⟨q,t,u,w⟩:=k.sp a n (by unfold fJ;rw[c,f];simp);obtain⟨y,A,B,C⟩:=k.sp b o (by unfold fJ;rw[c,g];simp);refine⟨q,t,y,A,u.trans f,B.trans g,?_⟩;have r:=w b e;rw[gt]at r |-;exact C q r
 refine⟨λc=>?_,λc=>?_,λc=>?_,λc=>?_⟩
 ·rw[k.msh]at c;rw[k.job];exact l.ph c
 ·rw[k.msh]at c;rw[k.job];exact d c
 ·rw[k.msh]at c
  obtain⟨a,n,b,o,f,g,e⟩:=d c;obtain⟨i,D,j⟩:=p.mapped n;rw[k.job];rw[f]at i j;exact(l.sk c).keep i j k
 rw[k.msh]at c;obtain⟨a,n,b,o,f,g,e⟩:=d c;obtain⟨i,D,j⟩:=p.mapped o;rw[k.job];rw[g]at i j;exact(l.sm c).keep i j k
theorem JK.less{h h':ab}(h1:h'.Y=h.Y)(c:h'.u=h.u)(d:h'.M=h.M)(b:∀q:Nat,(nth (tbl h').J q).j≠0->nth (tbl h').J q=nth (tbl h).J q):JK h h':=
 ⟨h1,c,λs e _=>⟨s,by rw[d];exact e,rfl,λ_ z=>z⟩,λq a=>.inl ⟨by rw[<-b q a];exact a,by rw[b q a]⟩⟩
theorem JK.eq{h h':ab}(h1:h'.Y=h.Y)(a:h'.u=h.u)(b:h'.M=h.M)(c:tbl h'=tbl h):JK h h':=.less h1 a b λq _=>by rw[c]
theorem JK.clrS{h:ab}{E:List Int}{a:Int}{i:Nat}(f:aV h E)(c:i<h.M.length)(d:dX (nth h.M i) a):JK h (clrS h i a):=by
 refine⟨rfl,rfl,λs g _=>?_,λq k=>.inl ⟨k,rfl⟩⟩;obtain⟨j,l,rfl⟩:=aJ g;by_cases e:j=i
 ·subst e
  have b:=f.L.sok _ (am c);exact⟨_,iB _ c,rfl,λu n=>sZ b (oG b ⟨d.1,d.2.1⟩) n⟩
 exact⟨_,jt _ l e,rfl,λ_ z=>z⟩
theorem JK.giveP{h:ab}{E:List Int}{i:Nat}(d:aV h E)(f:i<h.M.length)(c:fJ h (nth h.M i).Q=false):JK h (giveP h i):=by
 obtain⟨g,k,-⟩:=d.mapped (am f);refine⟨rfl,rfl,λs l a=>?_,λq b=>.inl ?_⟩
 ·obtain⟨j,n,rfl⟩:=aJ l
  exact⟨_,cQ.2 ⟨j,n,λe=>(by subst e;rw[c]at a;cases a),rfl⟩,rfl,λ_ z=>z⟩
 have o:=qn d.ker (p:=(nth h.M i).Q) ⟨g,k⟩ q;change (nth (dJ h.G (nth h.M i).Q).F.R.J q).j≠0 at b;show(nth h.G.F.R.J q).j≠0/\(nth (dJ h.G (nth h.M i).Q).F.R.J q).e=(nth h.G.F.R.J q).e;rw[o]at b |-;split at b
 ·exact absurd rfl b
 rename_i e;rw[C8 e];exact⟨b,rfl⟩
theorem JK.freeS{h:ab}{E:List Int}{a:Int}{i:Nat}(c:aV h (a::E))(b:i<h.M.length)(d:dX (nth h.M i) a):JK h (freeS h i a):=by
 have g:=c.give b d;have f:=JK.clrS c b d;unfold Ab.freeS;split
 ·rename_i e
  have j:nth (Ab.clrS h i a).M i=mc (nth h.M i) (dr (nth h.M i) a):=by unfold Ab.clrS;simp only[bA,true_and];rw[C9 b]
  exact f.trans (JK.giveP (h:=Ab.clrS h i a) g (by unfold Ab.clrS;simp only[I1];exact b) (by rw[j];exact e.2))
 exact f
theorem JK.freeA{h:ab}{E:List Int}{a:Int}(b:aV h (a::E)):JK h (freeA h a):=by
 obtain⟨c,d,-⟩:=b.at (b.hin a (R1 ..));exact JK.freeS b c d
theorem JK.recyc{h:ab}{E:List Int}{a:Int}{t:Nat}(b:aV h (a::E)):JK h (recyc t h a):=by
 unfold Ab.recyc;split
 ·exact JK.eq rfl rfl rfl rfl
 exact JK.freeA b
theorem JK.recycs{t:Nat}{E:List Int} : ∀{az:List Int}{h:ab},aV h (az++E)->t<h.T.length->JK h (recycs t h az)
 | [],h,_,_=>JK.refl h
 | a::az,h,b,c=>(JK.recyc (t:=t) b).trans (JK.recycs (az:=az) (h:=Ab.recyc t h a) (b.recyc c) (by rw[(mF t h a).1];exact c))
theorem JK.freeAs{E:List Int} : ∀{az:List Int}{h:ab},aV h (az++E)->JK h (freeAs h az)
 | [],h,_=>JK.refl h
 | a::az,h,b=>(JK.freeA b).trans (JK.freeAs (az:=az) (h:=Ab.freeA h a) b.freeA)
theorem JK.flushN{t:Nat}{h:ab}(c:aV h [])(d:t<h.T.length):∀{k:Nat},k<=4->JK h (flushN t h k).1
 | 0,_=>JK.refl h
 | k+1,e=>by
  obtain⟨h1,f,-⟩:=iY c d (k:=k) ω;have a:t<(Ab.flushN t h k).1.T.length:=ω
  have b:k<(nth (Ab.flushN t h k).1.T t).d.length:=by rw[(eL (h1.cach _ (am a))).1];omega
  exact JK.trans (h1:=Ab.spilt (Ab.flushN t h k).1 t k) ((JK.flushN c d (k:=k) ω).trans (JK.eq rfl rfl rfl rfl)) (JK.freeAs (h1.spilt a b))
theorem ss{h:ab}{E:List Int}(a:aV h E){k:Nat}(b:k<h.K.length):0<=(nth h.K k).Q/\(nth h.K k).Q+((nth h.K k).a2.toNat:Nat)<=(tbl h).J.length:=by
 have c:=aM (a.L.lok _ (am b));have d:=a.pg.bnd _ (fI (sp:=h.M) (am b) (dm.2 ⟨(nth h.K k).a2.toNat - 1,ω,rfl⟩));exact⟨ω,ω⟩
theorem JK.freeL{h:ab}{E:List Int}{i k:Nat}(b:aV h E)(c:k<h.K.length):JK h (freeL h i k):=by
 obtain⟨d,f⟩:=ss b c;refine JK.less rfl rfl rfl λq a=>?_
 have g:=ma b.ker d (nth h.K k).a2.toNat f q;change (nth (unmN h.G (nth h.K k).Q (nth h.K k).a2.toNat).F.R.J q).j≠0 at a;show nth (unmN h.G (nth h.K k).Q (nth h.K k).a2.toNat).F.R.J q=nth h.G.F.R.J q;rw[g]at a |-;split at a
 ·exact absurd rfl a
 rename_i e;rw[C8 e]
theorem JK.freeOb{h:ab}{t i:Nat}(a:aV h [])(c:i<h.O.length)(d:t<h.T.length):JK h (freeOb h t i).1:=by
 unfold Ab.freeOb;split
 ·rename_i b
  obtain⟨l,e,h1,-⟩:=(dA a (am c)).1 b;exact JK.freeL a (uI e h1).1
 rename_i b;split
 ·exact JK.refl h
 have h1:=a.inQuar c b;exact JK.trans (h1:=Ab.inQuar h i) (JK.eq rfl rfl rfl rfl) (JK.recycs (E:=[]) (by rw[List.append_nil];exact h1) d)
theorem JK.take{h:ab}{i:Nat}{k sd:Int}(b:fJ h (nth h.M i).Q=false):JK h {h with c0:=sd,M:=h.M.set i (pL (nth h.M i) k)}:=by
 refine⟨rfl,rfl,λs c a=>?_,λq d=>.inl ⟨d,rfl⟩⟩;obtain⟨j,f,rfl⟩:=aJ c;exact⟨_,jt _ f λe=>(by subst e;rw[b]at a;cases a),rfl,λ_ z=>z⟩
theorem re{t:aH}{q:Nat}(h:(nth t.J q).j≠0):q<t.J.length:=by
 by_cases e:q<t.J.length
 ·exact e
 exfalso;apply h;unfold nth;rw[I2,C2 ω]
 rfl
theorem JK.addS{h:ab}{k:ah}{l:List aA}{p c:Int}(s:up h.G p (k,true)):JK h (addS h k l p c):=by
 obtain⟨f,t,w,d,n⟩:=s.yes rfl;have b:k.F.R.J.length=h.G.F.R.J.length:=s.len;refine⟨rfl,rfl,λz o _=>⟨z,cA.2 (.inr o),rfl,λ_ y=>y⟩,λq g=>?_⟩;change (nth k.F.R.J q).j≠0 at g;show((nth h.G.F.R.J q).j≠0/\(nth k.F.R.J q).e=(nth h.G.F.R.J q).e)\/∀u:Nat,(nth k.F.R.J u).j≠0->(nth k.F.R.J u).e=(nth k.F.R.J q).e->u=q
 by_cases e:(q:Int)=p
 ·refine .inr λu i a=>?_
  have j:=re i;have f3u:=d u;have f3q:=d q;simp only at f3u f3q;rw[C9 e]at f3q;rw[f3q]at a;by_cases r:(u:Int)=p
  ·omega
  rw[C8 r]at f3u;rw[f3u]at i a;exact absurd a (n u (by rw[<-b];exact j) i)
 have f3q:=d q;simp only at f3q;rw[C8 e]at f3q;rw[f3q]at g |-;exact .inl ⟨g,rfl⟩
theorem JK.addL{h:ab}{k:ah}{g:List aA}{p size t:Int}{n:Nat}(s:lf h.G p n (k,n)):JK h (addL h k g p n size t):=by
 have a:k.F.R.J.length=h.G.F.R.J.length:=s.len;refine⟨rfl,rfl,λz i _=>⟨z,i,rfl,λ_ y=>y⟩,λq b=>?_⟩;change (nth k.F.R.J q).j≠0 at b;show((nth h.G.F.R.J q).j≠0/\(nth k.F.R.J q).e=(nth h.G.F.R.J q).e)\/∀u:Nat,(nth k.F.R.J u).j≠0->(nth k.F.R.J u).e=(nth k.F.R.J q).e->u=q
 by_cases e:p<=q/\(q:Int)<p+n
 ·exact .inr λu d c=>(s.new q e.1 e.2).2 u (by rw[<-a];exact re d) d c
 have f:=s.out q e;simp only at f;rw[f]at b |-;exact .inl ⟨b,rfl⟩
theorem sL(h:ab):∀{n:Nat},n<=h.M.length->∀s∈lg h n,(aP h s.Q).length=1
 | 0,_,s,a=>by cases a
 | n+1,b,s,a=>by
  unfold lg at a;split at a
  ·rename_i e
   rcases U2.1 a with a|a
   ·exact sL h ω s a
   unfold yX at e;simp only[I0,C0]at e;rw[C1.1 a];exact e.2
  exact sL h ω s a
theorem aV.sole{h:ab}{E:List Int}(e:aV h E){s:ax}(f:s∈h.M)(h1:(aP h s.Q).length=1):n7 (tbl h) s.Q:=λq a g=>by
 obtain⟨k,l,b⟩:=e.mapped f;have i:s.Q=((s.Q.toNat:Nat):Int):=ω
 rw[i,eY (by show s.Q.toNat<(tbl h).J.length;omega) b]at h1;obtain⟨z,j⟩:=List.length_eq_one_iff.1 h1;have c:(s.Q.toNat:Int)∈pagesOn (tbl h) (nth (tbl h).J s.Q.toNat).e:=dM.2 ⟨ω,b,rfl⟩;have d:(q:Int)∈pagesOn (tbl h) (nth (tbl h).J s.Q.toNat).e:=dM.2 ⟨re a,a,g⟩;rw[j]at c d;simp only[C1]at c d;omega
theorem Fk{h:ab}(l:aV h [])(n:h.u=false):aV (started h).1 []/\JI (started h).1:=by
 have G:=l.nums;unfold cg at G;rw[C0]at G;have M:=(lX (bB h).length (show 0<=h.c0/\h.c0<=1073741823 by omega) ((bB h).length - 1)).2;have o:=nl (bB h) (show 0<=h.c0/\h.c0<=1073741823 by omega);have c:cg {h with c0:=(shuf (bB h).length h.c0).2} = true:=by
  unfold cg;rw[C0];unfold shuf;simp only;omega
 cases p:lh (bB h) h.c0 with
 | nil=>
  have f:Ab.started h=({h with c0:=(shuf (bB h).length h.c0).2},false):=by unfold Ab.started;rw[p]
  rw[f];exact⟨{l with nums:=c},⟨λe=>by simp[n]at e,λe=>by simp[n]at e,λe=>by simp[n]at e,λe=>by simp[n]at e⟩⟩
 | cons q R=>
  obtain⟨S,T,g⟩:=o q (by rw[p];exact R1 ..);have f:Ab.started h=({h with c0:=(shuf (bB h).length h.c0).2,u:=true,Y:=sE (dc (nth (bB h) q.A.toNat) (nth (bB h) q.B.toNat))},true):=by unfold Ab.started;rw[p]
  rw[f];have d:∀s∈bB h,s∈h.M/\n7 (tbl h) s.Q:=λs N=>by
   have H:=List.mem_of_mem_take N;have J:=lY h (W2 _) s H;exact⟨J,l.sole J (sL h (W2 _) s H)⟩
  have j:=d _ (am (xs:=bB h) (i:=q.A.toNat) ω);have k:=d _ (am (xs:=bB h) (i:=q.B.toNat) ω);generalize nth (bB h) q.A.toNat=a at g j |-;generalize nth (bB h) q.B.toNat=b at g k |-;obtain⟨O,U,V⟩:=sR g;have r:(dc a b).a4=a.Q/\(dc a b).a1=b.Q\/(dc a b).a4=b.Q/\(dc a b).a1=a.Q:=by
   unfold dc;split
   ·exact .inr ⟨rfl,rfl⟩
   exact .inl ⟨rfl,rfl⟩
  have t:jx (sE (dc a b))=true:=dq.2 ⟨O,by show(0:Int)<=0;omega,by show(0:Int)<=5;omega,by show(0:Int)<=0;omega,by show(0:Int)<=(((dc a b).S.length:Nat):Int);omega⟩;have u:∃x∈h.M,∃y∈h.M,x.Q=(dc a b).a4/\y.Q=(dc a b).a1/\meshable x y=true/\n7 (tbl h) x.Q/\n7 (tbl h) y.Q:=by
   rcases r with⟨w,C⟩|⟨w,C⟩
   ·exact⟨a,j.1,b,k.1,w.symm,C.symm,g,j.2,k.2⟩
   exact⟨b,k.1,a,j.1,w.symm,C.symm,by rw[gt];exact g,k.2,j.2⟩
  obtain⟨x,K,y,L,D,E,F,P,Q⟩:=u;exact⟨{l with nums:=c,job:=λ_=>⟨t,⟨x,K,D⟩,⟨y,L,E⟩⟩,noj:=λe=>by cases e},⟨λ_=>⟨by show(0:Int)<=0;omega,by show(0:Int)<=3;omega⟩,λ_=>⟨x,K,y,L,D,E,F⟩,λ_=>by show n7 (tbl h) (dc a b).a4;rw[<-D];exact P,λ_=>by show n7 (tbl h) (dc a b).a1;rw[<-E];exact Q⟩⟩
def fC(m:aK)(f:Nat):aK:=⟨m.U.set f ((nth m.U f).drop 1),m.a0.set (nth (nth m.U f) 0).To.toNat (nth m.a0 (nth (nth m.U f) 0).To.toNat++[(nth (nth m.U f) 0).Addr])⟩
def kG(m:aK)(t:Nat):aK:=⟨m.U,m.a0.set t []⟩
def gQ(m:aK)(f:Nat)(p:dl):aK:=⟨m.U.set f (nth m.U f++[p]),m.a0⟩
theorem d6{m:aK} : bJ m=true↔(1<=m.U.length/\m.U.length<=4/\m.a0.length=m.U.length)/\(∀i,i<m.U.length->(∀p∈nth m.U i,0<=p.To/\p.To<=(m.U.length:Int) - 1/\0<=p.Addr)/\∀a∈nth m.a0 i,0<=a)/\bu m m.U.length<=30:=by
 unfold bJ;simp only[I0,C0,cH,gv,W3,mz,NY];exact and_assoc
theorem ov(m:aK)(f t:Nat)(x:List dl)(y:List Int)(g:f<m.U.length)(h:t<m.a0.length):∀n:Nat,bu ⟨m.U.set f x,m.a0.set t y⟩ n=bu m n+(if f<n then(x.length:Int) - ((nth m.U f).length:Nat) else 0)+(if t<n then(y.length:Int) - ((nth m.a0 t).length:Nat) else 0)
 | 0=>by simp[bu]
 | n+1=>by
  have i:=ov m f t x y g h n;have j:(nth (m.U.set f x) n).length=if f=n then x.length else(nth m.U n).length:=by
   rw[bA];by_cases e:f=n
   ·rw[C9 ⟨e,ω⟩,C9 e]
   rw[C8 λz=>e z.1,C8 e]
  have k:(nth (m.a0.set t y) n).length=if t=n then y.length else(nth m.a0 n).length:=by
   rw[bA];by_cases e:t=n
   ·rw[C9 ⟨e,ω⟩,C9 e]
   rw[C8 λz=>e z.1,C8 e]
  simp only[bu,i,j,k];by_cases d:f=n
  ·subst d
   by_cases b:t=f
   ·subst b
    simp only[if_true,Nat.lt_irrefl,if_false,Nat.lt_succ_self];omega
   simp only[if_true,Nat.lt_irrefl,if_false,Nat.lt_succ_self,C8 b];by_cases a:t<f
   ·rw[C9 a,C9 (show t<f+1 by omega)];omega
   rw[C8 a,C8 (show ¬t<f+1 by omega)];omega
  by_cases b:t=n
  ·subst b
   simp only[if_true,Nat.lt_irrefl,if_false,Nat.lt_succ_self,C8 d];by_cases a:f<t
   ·rw[C9 a,C9 (show f<t+1 by omega)];omega
   rw[C8 a,C8 (show ¬f<t+1 by omega)];omega
  simp only[C8 d,C8 b];by_cases a:f<n
  ·rw[C9 a,C9 (show f<n+1 by omega)]
   by_cases c:t<n
   ·rw[C9 c,C9 (show t<n+1 by omega)];omega
   rw[C8 c,C8 (show ¬t<n+1 by omega)];omega
  rw[C8 a,C8 (show ¬f<n+1 by omega)];by_cases c:t<n
  ·rw[C9 c,C9 (show t<n+1 by omega)];omega
  rw[C8 c,C8 (show ¬t<n+1 by omega)];omega
theorem N4{α:Type}[Inhabited α]{xs:List α}{i:Nat}(h:i<xs.length):xs.set i (nth xs i)=xs:=by
 rw[<-Z1.1 (ao h) |>.2];exact List.set_getElem_self h
theorem DB{m:aK}(h:bJ m=true){f:Nat}(d:f<m.U.length)(n:0<(nth m.U f).length):bJ (fC m f)=true:=by
 obtain⟨⟨o,q,r⟩,g,y⟩:=d6.1 h;obtain⟨t,A⟩:=g f d;have c:=t _ (am n);have u:(nth (nth m.U f) 0).To.toNat<m.a0.length:=ω
 refine d6.2 ⟨⟨?_,?_,?_⟩,λi j=>?_,?_⟩
 ·simp only[fC,I1];exact o
 ·simp only[fC,I1];exact q
 ·simp only[fC,I1];exact r
 ·simp only[fC,I1]at j |-
  obtain⟨k,l⟩:=g i j;simp only[bA];refine⟨λp c=>?_,λa b=>?_⟩
  ·split at c
   ·rename_i e;rw[<-e.1]at k
    refine(g f d).1 p (List.mem_of_mem_drop c)
   exact k p c
  split at b
  ·rename_i e
   rcases U2.1 b with b|b
   ·rw[e.1]at b;exact l a b
   rw[C1.1 b];exact c.2.2
  exact l a b
 have w:=ov m f (nth (nth m.U f) 0).To.toNat ((nth m.U f).drop 1) (nth m.a0 (nth (nth m.U f) 0).To.toNat++[(nth (nth m.U f) 0).Addr]) d u m.U.length;simp only[fC,I1];rw[w,C9 d,C9 ω,C3,Z2,List.length_singleton];omega
theorem N8{m:aK}(h:bJ m=true){t:Nat}(d:t<m.a0.length):bJ (kG m t)=true:=by
 obtain⟨⟨e,f,g⟩,j,o⟩:=d6.1 h;refine d6.2 ⟨⟨e,f,?_⟩,λi k=>?_,?_⟩
 ·simp only[kG,I1];exact g
 ·obtain⟨l,n⟩:=j i k
  simp only[kG,bA];refine⟨l,λa b=>?_⟩;split at b
  ·cases b
  exact n a b
 have c:=ov m t t (nth m.U t) [] ω d m.U.length;rw[N4 ω]at c;show bu ⟨m.U,m.a0.set t []⟩ m.U.length<=30;rw[c,C9 ω,C9 ω,List.length_nil];omega
theorem kq{m:aK}(h:bJ m=true)(b:Int):(aL m).count b=(m.U.flatMap λl=>l.map (·.Addr)).count b+(m.a0.flatMap λx=>x).count b:=by
 unfold aL;rw[C9 h,V5,kE]
theorem aV.mailed{h:ab}{E c:List Int}{m:aK}(d:aV h E)(i:bJ m=true)(j:m.U.length=h.w.U.length)(k:∀b,c.count b+(aL m).count b=E.count b+(aL h.w).count b)(f:∀a,a∈c\/a∈aL m->jH h.M a (-1)):aV {h with w:=m} c:=by
 have g:(E++holders h).Perm (c++holders {h with w:=m}):=by
  refine List.perm_iff_count.2 λb=>?_
  have l:=k b;simp only[holders,cy,V5];omega
 exact {d with
   mail:=i
   nc:=d.nc.trans j.symm
   hfl:=λa e=>f a (.inr e)
   hin:=λa e=>f a (.inl e)
   nd:=g.nodup_iff.1 d.nd
   mem:=λb=>by rw[<-g.mem_iff];exact d.mem b}
theorem FK{h:ab}{E d:List Int}{m:aK}(f:aV h E)(g:∀b,d.count b+(aL m).count b=E.count b+(aL h.w).count b):∀a,a∈d\/a∈aL m->jH h.M a (-1):=λa c=>by
 have i:=g a;have j:0<d.count a+(aL m).count a:=by
  rcases c with c|c
  ·have:=List.count_pos_iff.2 c;omega
  have:=List.count_pos_iff.2 c;omega
 by_cases e:0<E.count a
 ·exact f.hin a (List.count_pos_iff.1 e)
 exact f.hfl a (List.count_pos_iff.1 ω)
theorem aV.deliv{h:ab}{E:List Int}{f:Nat}(a:aV h E)(e:f<h.w.U.length)(d:0<(nth h.w.U f).length):aV {h with w:=fC h.w f} E:=by
 have c:=DB a.mail e d;obtain⟨⟨q,r,t⟩,j,u⟩:=d6.1 a.mail;have k:=(j f e).1 _ (am d);have g:∀b,E.count b+(aL (fC h.w f)).count b=E.count b+(aL h.w).count b:=λb=>by
  rw[kq c,kq a.mail];have i:=i9 (λl:List dl=>l.map (·.Addr)) b h.w.U f ((nth h.w.U f).drop 1) e;have n:=i9 (λx:List Int=>x) b h.w.a0 (nth (nth h.w.U f) 0).To.toNat (nth h.w.a0 (nth (nth h.w.U f) 0).To.toNat++[(nth (nth h.w.U f) 0).Addr]) ω;have o:(nth h.w.U f).map (·.Addr)=(nth (nth h.w.U f) 0).Addr::((nth h.w.U f).drop 1).map (·.Addr):=by
   generalize nth h.w.U f=l at d
   match l,d with
   | p::l,_=>rfl
  simp only[fC];rw[o]at i;simp only[List.count_cons]at i;simp only[V5,List.count_singleton]at n;omega
 exact a.mailed c (by simp[fC]) g (FK a g)
theorem aV.coll{h:ab}{E:List Int}{t:Nat}(c:aV h E)(d:t<h.w.a0.length):aV {h with w:=kG h.w t} (nth h.w.a0 t++E):=by
 have a:=N8 c.mail d;have e:∀b,(nth h.w.a0 t++E).count b+(aL (kG h.w t)).count b=E.count b+(aL h.w).count b:=λb=>by
  rw[kq a,kq c.mail];have f:=i9 (λx:List Int=>x) b h.w.a0 t [] d;simp only[List.count_nil]at f;simp only[kG,V5];omega
 exact c.mailed a rfl e (FK c e)
theorem aV.send{h:ab}{E:List Int}{f:Nat}{p:dl}(c:aV h (p.Addr::E))(e:f<h.w.U.length)(a:bJ (gQ h.w f p)=true):aV {h with w:=gQ h.w f p} E:=by
 have d:∀b,E.count b+(aL (gQ h.w f p)).count b=(p.Addr::E).count b+(aL h.w).count b:=λb=>by
  rw[kq a,kq c.mail];have g:=i9 (λl:List dl=>l.map (·.Addr)) b h.w.U f (nth h.w.U f++[p]) e;simp only[R5,U5,List.map_nil,V5,List.count_singleton]at g;simp only[gQ,List.count_cons];omega
 exact c.mailed a (by simp[gQ]) d (FK c d)
def rP(now:Int):List aN->Nat
 | []=>0
 | x::xs=>if x.b7<now - 100 then rP now xs+1 else 0
def aged(h:ab)(n:Int):ab:={h with b5:=h.b5+n,a6:=⟨h.a6.c1,h.a6.a5.drop (rP (h.b5+n) h.a6.a5)⟩}
def mS(h:ab)(n:Int):List Int:=(h.a6.a5.take (rP (h.b5+n) h.a6.a5)).map (·.Addr)
def tick(h:ab)(n:Int):ab:=freeAs (aged h n) (mS h n)
theorem nQ(x:aN)(xs:List aN):∀n,quarCells (x::xs) (n+1)=csz x.b+quarCells xs n
 | 0=>by simp only[quarCells];show 0+csz x.b=csz x.b+0;omega
 | n+1=>by
  rw[iE,nQ x xs n,iE];show csz x.b+quarCells xs n+csz (nth xs n).b=_;omega
theorem PD(k:Int):0<=csz k:=by
 unfold csz;split
 ·exact Int.le_of_lt (Int.pow_pos (by decide))
 decide
theorem Hp:∀(l:List aN)(k:Nat),qc (l.drop k)<=qc l
 | [],k=>by simp
 | x::xs,0=>W4 _
 | x::xs,k+1=>by
  have a:=Hp xs k;have b:=PD x.b;have c:qc (x::xs)=csz x.b+qc xs:=nQ x xs xs.length;show qc (xs.drop k)<=qc (x::xs);omega
theorem aV.aged{h:ab}{E:List Int}{n:Int}(a:aV h E)(t:0<=n)(u:h.b5+n<=1000000):aV (aged h n) (mS h n++E):=by
 obtain⟨i,j,k,o,p,q⟩:=jA.1 a.quar;have c:=a.nums;unfold cg at c;rw[C0]at c;have e:=List.drop_sublist (rP (h.b5+n) h.a6.a5) h.a6.a5;have g:(E++holders h).Perm ((mS h n++E)++holders (Ab.aged h n)):=by
  refine List.perm_iff_count.2 λb=>?_
  have r:=U0 (λl:List aN=>(l.map (·.Addr)).count b) (List.take_append_drop (rP (h.b5+n) h.a6.a5) h.a6.a5);simp only[R5,V5]at r;simp only[holders,cy,Ab.aged,mS,V5];omega
 exact {a with
   nums:=by unfold cg;rw[C0];simp only[Ab.aged];omega
   quar:=jA.2 ⟨λy d=>i y (e.subset d),j.sublist e,k.sublist (e.map _),o,p,Int.le_trans (Hp _ _) q⟩
   snc:=λy d=>by
     have:=a.snc y (e.subset d);show y.b7<=h.b5+n;omega
   hqu:=λy d=>a.hqu y (e.subset d)
   hin:=λb f=>by
     rcases U2.1 f with f|f
     · obtain⟨y,d,rfl⟩:=C4.1 f
       exact(a.hqu y (List.mem_of_mem_take d)).any
     exact a.hin b f
   nd:=g.nodup_iff.1 a.nd
   mem:=λb=>by rw[<-g.mem_iff];exact a.mem b}
theorem aV.tick{h:ab}{n:Int}(a:aV h [])(b:0<=n)(c:h.b5+n<=1000000):aV (tick h n) []/\JK h (tick h n):=by
 have h1:=a.aged b c;exact⟨aV.freeAs h1,JK.trans (h1:=Ab.aged h n) (JK.eq rfl rfl rfl rfl) (JK.freeAs h1)⟩
def collect(h:ab)(t:Nat):ab:=recycs t {h with w:=kG h.w t} (nth h.w.a0 t)
theorem aV.collect{h:ab}{t:Nat}(a:aV h [])(b:t<h.T.length):aV (collect h t) []/\JK h (collect h t):=by
 have h1:=a.coll (t:=t) (by rw[(d6.1 a.mail).1.2.2,<-a.nc];exact b);exact⟨aV.recycs h1 b,JK.trans (h1:={h with w:=kG h.w t}) (JK.eq rfl rfl rfl rfl) (JK.recycs h1 b)⟩
def KB(h:ab)(t i:Nat):ab:={h with G:=eQ h.G (nth h.O i).Addr (csz (aI (nth h.O i).o)).toNat,O:=dele h.O i,w:=gQ h.w t ⟨(nth h.O i).a3,(nth h.O i).Addr⟩}
def freeT(h:ab)(t i:Nat):ab × Int:=
 if aI (nth h.O i).o<0 then(freeL h i (yj h (nth h.O i).Addr),0)
 else if(ac (tbl h) ((nth h.O i).Addr / 16)).j=1 then(h,5)
 else if(nth h.O i).a3=t then(Dw h t i,0)
 else if bJ (gQ h.w t ⟨(nth h.O i).a3,(nth h.O i).Addr⟩)=true then(KB h t i,0) else(h,5)
theorem yG{h:ab}{t i:Nat}(e:(nth h.O i).a3=t):freeT h t i=freeOb h t i:=by
 unfold freeT freeOb;rw[C9 e]
theorem aV.freeT{h:ab}{t i:Nat}(a:aV h [])(b:i<h.O.length)(c:t<h.T.length):aV (freeT h t i).1 []/\JK h (freeT h t i).1:=by
 by_cases e:(nth h.O i).a3=t
 ·rw[yG e];exact⟨a.freeOb b c,JK.freeOb a b c⟩
 have d:=a.freeOb b c;have f:=JK.freeOb a b c;unfold Ab.freeOb at d f;unfold Ab.freeT;split
 ·rename_i g
  rw[C9 g]at d f;exact⟨d,f⟩
 rename_i g;rw[C8 g]at d f;split
 ·exact⟨a,JK.refl h⟩
 split
 ·rename_i j
  obtain⟨⟨s,l,n,o⟩,u⟩:=(dA a (am b)).2 g;have q:=a.dropO b (jH.any ⟨s,l,n,.inr o⟩);have r:=q.cells (k:=eQ h.G (nth h.O i).Addr (csz (aI (nth h.O i).o)).toNat) (Dk a.ker _ _) rfl;exact⟨aV.send (p:=⟨(nth h.O i).a3,(nth h.O i).Addr⟩) r (by show t<h.w.U.length;rw[<-a.nc];exact c) j,JK.eq rfl rfl rfl rfl⟩
 exact⟨a,JK.refl h⟩
def d3(k:ah)(a v:Int):ah:=setCell k (cL k a) (a % 16) v
theorem uZ{k:ah}(h:a7 k=true){a v:Int}(b:(ac k.F.R (a / 16)).j≠0)(c:0<=v/\v<=999):a7 (d3 k a v)=true:=by
 obtain⟨d,e,-⟩:=gg h b;exact qi h (f:=cL k a) d e c
theorem aV.store{h:ab}{a v:Int}(b:aV h [])(c:(ac h.G.F.R (a / 16)).j≠0)(d:0<=v/\v<=999):aV {h with G:=d3 h.G a v} []/\JK h {h with G:=d3 h.G a v}:=
 ⟨b.cells (uZ b.ker c d) rfl,JK.eq rfl rfl rfl rfl⟩
open Go.RowKit
set_option maxRecDepth 20000
set_option maxHeartbeats 4000000
theorem NH{xs:List Int}{x:Int}(h:cR xs.length (λj=>decide (nth xs j≠x))=true):x∉xs:=λb=>by
 obtain⟨j,a⟩:=List.mem_iff_getElem?.1 b;have:=dC h (Z1.1 a).1;rw[bc a]at this;simp at this
theorem Ee(xs:List Int)(x:Int)(g:xs.length<=4611686018427387904):ar Tryz.prog 367 false [.val none (aG .X xs),.val none [I x]] .one [B (decide (x∈xs))]:=by
 refine fO 18 [] Tryz.func367 rfl ?_
 repeat'(first|refine gO ?_|fail)
 (conv=>whnf)
 refine CE (ι:=Nat) (λi=>[(0,.H .one (aG .X xs)),(1,.H .one [I (x)]),(5,.H .one [I ((i:Nat):Int)])]) (λi=>i<=xs.length/\cR i (λj=>decide (nth xs j≠x))=true) (λi=>xs.length - i) 0 ?_ ⟨T0 _,rfl⟩ λi a=>?_
 ·exact wB
 obtain⟨a,b⟩:=a;by_cases c:i<xs.length
 ·have d:=ao c
  by_cases e:nth xs i=x
  ·repeat'(first|refine gA ?_|(conv=>whnf);first|with_reducible refine CC (aa d) ?_)
   exact U0 (λz=>[B z]) ((by symm;exact O0 (by rw[<-e];exact am c)))
  repeat'(first|refine gA ?_|(conv=>whnf);first|with_reducible refine CC (aa d) ?_)
  ((conv=>whnf);refine CD (i+1) ⟨ω,bN b (O0 e)⟩ ω ?_;(exact wB))
 repeat'(first|refine gD ?_|fail)
 obtain rfl:i=xs.length:=ω
 exact U0 (λz=>[B z]) ((by symm;exact R0 (NH b)))
theorem bP.more{M f:af}{w g:World}(h:bP M w g)(e:∀b o,M b o->f b o):bP f w g:=
 ⟨h.os,h.tape,h.output,h.size,λb a c=>h.blk b a λo d=>c o (e b o d),λb o a c=>h.cel b o a λd=>c (e b o d),λb o a c=>h.fro b o a λd=>c (e b o d)⟩
theorem aS.wk{P:Program}{f:Nat}{sh:Bool}{c u:List C}{A B:List MA}{k:Kd}{rcs:List C}(h:aS P f sh A (.ptr c::B) k rcs)(y:Lx c u):aS P f sh A (.ptr u::B) k rcs:=by
 refine⟨h.has,λw S V i E F l G=>(h.run w S V i E F l G).mono λe w1 H=>?_⟩;obtain⟨v,J,K,X,L,M,N,n,p,a,q,r,b,O,Q,D⟩:=H;refine⟨v,J,K,X,L,M,N,n,p,a,q,r,b,O,Q,?_⟩;cases i with
 | nil=>exact D.elim
 | cons v0 i=>
  obtain⟨⟨R,Y,T,U,W,⟨g,o,Z,e2⟩,d⟩,t⟩:=D;refine⟨⟨R,Y,T,U,W,⟨g,o,Z,λj hj=>e2 j (by rw[(rj y).1];exact hj)⟩,Bq y d⟩,t⟩
theorem aS.frame{P:Program}{f:Nat}{sh:Bool}{c c' r:List C}{A B:List MA}{k:Kd}{rcs:List C}(h:aS P f sh (.ptr c::A) (.ptr c'::B) k rcs)(hl:c'.length=c.length):aS P f sh (.ptr (c++r)::A) (.ptr (c'++r)::B) k rcs:=by
 refine⟨h.has,λw S V vs hS hV hVd hA=>?_⟩;cases vs with
 | nil=>exact hA.elim
 | cons v0 vs=>
 obtain⟨⟨X1,Y,hX1,hY,O,⟨g,q,rfl,u⟩,ff,hf1,J,hf3⟩,hA'⟩:=hA;have hlen:(c++r).length=c.length+r.length:=Z2
 let V0:af:=piece g q ff 0 c.length
 let W:Nat->af:=L8 V0 (λi=>V (i+1))
 have hcX:∀o,q<=o->o<q+(c++r).length->X1 g o:=λo l a=>by
  have:=(u (o - q) ω).1
  rwa [show q+(o - q)=o by omega]at this
 have hV0:∀b o,V0 b o->V 0 b o:=λb o p=>by
  rcases p with⟨rfl,l,a⟩|⟨j,-,a,Q⟩
  ·exact hX1 _ _ (hcX o ω ω)
  exact hY _ _ (J j ω b o Q)
 have K:∀i b o,W i b o->V i b o:=λi b o p=>by
  cases i with
  | zero=>exact hV0 b o p
  | succ i=>exact p
 have hA2:MB w S W (.ptr c::A) (.pointer (some ⟨g,q,none⟩)::vs):=by
  refine⟨?_,hA'⟩;have:=rW (lo:=0) (n:=c.length) (cs:=c++r) ω u hf1 J hf3 O;rw[show bv (c++r) 0 c.length=c by simp[bv]]at this;simp only[R6,Nat.add_zero]at this;exact this
 refine(h.run w S W _ hS (λi b o p=>hV i b o (K i b o p)) (λi i' D b o l a=>hVd i i' D b o (K i b o l) (K i' b o a)) hA2).mono λe w1 hv=>?_
 obtain⟨v,he,hk,X,V',S1,hX,E,hS1,hVd',hXV,hXS,hVS1,hh,hr,hm⟩:=hv;have H:∀b o,(∃i,W i b o)->∃i,V i b o:=λb o ⟨i,Z⟩=>⟨i,K i b o Z⟩
 let R:af:=λb o=>V 0 b o/\¬V0 b o
 have hRW:∀b o,R b o->¬∃i,W i b o:=λb o y ⟨i,Z⟩=>by
  cases i with
  | zero=>exact y.2 Z
  | succ i=>exact hVd 0 (i+1) ω b o y.1 Z
 have F:∀b o,R b o->b<w.heap.size:=λb o y=>(hV 0 b o y.1).1
 have t:∀b o,R b o->¬((∃i,W i b o)\/(b<w1.heap.size/\w.heap.size<=b)):=λb o y p=>by
  rcases p with p|p
  ·exact hRW b o y p
  have:=F b o y;omega
 have hRsame:bm R w w1:=λb o y=>⟨hk.cel b o (F b o y) (hRW b o y),hk.fro b o (F b o y) (hRW b o y)⟩
 have hRS1:∀b o,R b o->¬S1 b o:=λb o y hs=>by
  rcases hS1 b o hs with⟨-,l⟩|l
  ·exact(hV 0 b o y.1).2 l
  exact t b o y l
 have hSsame:bm S w w1:=λb o hb=>⟨hk.cel b o (hS b o hb) (λ⟨i,Z⟩=>(hV i b o (K i b o Z)).2 hb),hk.fro b o (hS b o hb) (λ⟨i,Z⟩=>(hV i b o (K i b o Z)).2 hb)⟩
 have hRc:∀j,c.length<=j->j<(c++r).length->R g (q+j):=λj l a=>by
  refine⟨hX1 _ _ (u j a).1,λp=>?_⟩;rcases p with⟨-,Q,h4⟩|⟨N,Q,h4,h5⟩
  ·omega
  exact O _ _ (u j a).1 (J N ω _ _ h5)
 have L:∀j,c.length<=j->j<(c++r).length->∀b o,ff j b o->R b o:=λj l a b o p=>by
  refine⟨hY _ _ (J j a b o p),λhp=>?_⟩;rcases hp with⟨rfl,Q,h4⟩|⟨N,Q,h4,h5⟩
  ·exact O _ _ (hcX o ω ω) (J j a _ _ p)
  exact hf3 j N a ω ω b o p h5
 let U:Nat->af:=L8 (λb o=>V' 0 b o\/R b o) (λi=>V' (i+1))
 have hU:∀i b o,U i b o->V' i b o\/(i=0/\R b o):=λi b o p=>by
  cases i with
  | zero=>exact p.imp id (λh=>⟨rfl,h⟩)
  | succ i=>exact .inl p
 refine⟨v,he,hk.more H,X,U,S1,λb o p=>(hX b o p).imp (H b o) id,λi b o p=>?_,λb o p=>(hS1 b o p).imp id (Or.imp (H b o) id),λi i' D b o l a=>?_,λi b o l a=>?_,hXS,λi b o l a=>?_,hh,hr,?_,hm.2⟩
 ·rcases hU i b o p with l|⟨-,l⟩
  ·exact(E i b o l).imp (H b o) id
  exact .inl ⟨0,l.1⟩
 ·rcases hU i b o l with l|⟨e1,l⟩
  ·rcases hU i' b o a with a|⟨e2,a⟩
   ·exact hVd' i i' D b o l a
   exact t b o a (E i b o l)
  rcases hU i' b o a with a|⟨e2,a⟩
  ·exact t b o l (E i' b o a)
  exact D ω
 ·rcases hU i b o a with a|⟨-,a⟩
  ·exact hXV i b o l a
  exact t b o a (hX b o l)
 ·rcases hU i b o l with l|⟨-,l⟩
  ·exact hVS1 i b o l a
  exact hRS1 b o l a
 obtain⟨Xa,Ya,ha1,ha2,ha3,⟨ga,oa,hea,ha4⟩,fa,ha5,ha6,ha7⟩:=(show pd w1 (λb o=>S b o\/S1 b o) (V' 0) (.ptr c') (.pointer (some ⟨g,q,none⟩)) from hm.1)
 obtain⟨rfl,rfl⟩ : g=ga/\q=oa:=by simpa using hea
 have G:(c'++r).length=c.length+r.length:=by rw[Z2,hl]
 show pd w1 (λb o=>S b o\/S1 b o) (λb o=>V' 0 b o\/R b o) (.ptr (c'++r)) (.pointer (some ⟨g,q,none⟩));have faV:∀j,j<c.length->∀b o,fa j b o->V' 0 b o:=λj M b o p=>ha2 _ _ (ha6 j ω b o p)
 refine⟨λb o=>Xa b o\/(R b o/\∃j,c.length<=j/\j<(c++r).length/\b=g/\o=q+j),λb o=>Ya b o\/∃j,c.length<=j/\j<(c++r).length/\ff j b o,λb o p=>?_,λb o p=>?_,λb o l a=>?_,⟨g,q,rfl,λj M=>?_⟩,λj=>if j<c.length then fa j else ff j,λj d M=>?_,λj M b o p=>?_,λj N M hj' D b o l a=>?_⟩
 ·exact p.imp (ha1 b o) (·.1)
 ·rcases p with p|⟨j,l,a,Q⟩
  ·exact .inl (ha2 b o p)
  exact .inr (L j l a b o Q)
 ·rcases l with l|⟨l,j,j1,j2,rfl,rfl⟩
  ·rcases a with a|⟨j,j1,j2,j3⟩
   ·exact ha3 b o l a
   exact t b o (L j j1 j2 b o j3) (E 0 b o (ha1 b o l))
  rcases a with a|⟨N,j3,j4,j5⟩
  ·exact t _ _ l (E 0 _ _ (ha2 _ _ a))
  exact O _ _ (u j j2).1 (J N j4 _ _ j5)
 ·rw[G]at M
  by_cases hc:j<c.length
  ·have:=ha4 j ω
   exact⟨.inl this.1,this.2⟩
  have y:=hRc j ω ω;have hs:=hRsame _ _ y;have T:=u j ω;refine⟨.inr ⟨y,j,ω,ω,rfl,rfl⟩,?_,?_⟩
  ·rw[hs.1];exact T.2.1
  rw[hs.2];exact T.2.2
 ·dsimp only
  by_cases hc:j<c.length
  ·rw[C9 hc]
   rw[O4 ω]at M;exact ha5 j d M
  rw[C8 hc];rw[R4 ω,hl]at M;have hj2:(c++r)[j]? = some d:=by rw[R4 ω];exact M
  have hjl:=(Z1.1 hj2).1;have Q:=(hf1 j d hj2).keep hSsame (λb o p=>hRsame b o (L j ω hjl b o p));have T:=(hRsame _ _ (hRc j ω hjl)).1;have:cb w1 .box (.pointer (some ⟨g,q,none⟩)) j=cb w .box (.pointer (some ⟨g,q,none⟩)) j:=by
   simp only[cb];rw[T]
  rw[this];exact Q.mono (λ_ _ h=>.inl h) (λ_ _ h=>h)
 ·rw[G]at M
  split at p
  ·rename_i hc;exact .inl (ha6 j ω b o p)
  exact .inr ⟨j,ω,ω,p⟩
 rw[G]at M hj';split at l
 ·rename_i c1
  split at a
  ·exact ha7 j N ω ω D b o l a
  exact t b o (L N ω ω b o a) (E 0 b o (faV j c1 b o l))
 split at a
 ·rename_i c1;exact t b o (L j ω ω b o l) (E 0 b o (faV N c1 b o a))
 exact hf3 j N ω ω D b o l a
mutual
theorem Qw:∀c:C,fz (fz c)=fz c
 | .v x=>by simp[fz]
 | .s o rows=>by simp only[fz];rw[GS rows]
 | .x=>by simp[fz]
 | .z=>by simp[fz]
 | .m _=>by simp[fz]
 | .it _ _=>by simp[fz]
theorem GS:∀a:List (List C),fzR (fzR a)=fzR a
 | []=>rfl
 | r::a=>by simp only[fzR];rw[rH r,GS a]
theorem rH:∀cs:List C,dP (dP cs)=dP cs
 | []=>rfl
 | c::cs=>by simp only[dP];rw[Qw c,rH cs]
end
theorem m8(k:ah)(a:a7 k=true)(e:k.Calls≠100000):aS Tryz.prog 487 false [.ptr (ah.enc .own k)] [.ptr (ah.enc .own (bY k))] .one [B (!refd k)]:=by
 have b:=bH a;have c:=(aD.1 a).2.2.2.2;have d:=Ee k.y k.Calls (by have:=b.2;omega);refine fM 22 [] [(2,9,[11,12,13,14,15,16,17,18,19])] [(0,0)] Tryz.func487 rfl (λu q=>?_)
 repeat'(first|refine gO ?_|(conv=>whnf);first|refine CG (d) ⟨⟨rfl,eN _⟩,⟨rfl,U0 (λz=>[I z]) ω⟩,trivial⟩ ?_)
 refine CF rfl ?_ ?_
 ·rfl
 exact wB
theorem nt(k:ah)(p m:Int)(a:a7 k=true)(j:k.Calls≠100000)(d:(ac k.F.R p).j≠0)(l:m=1\/m=2):aS Tryz.prog 585 false [.ptr (ah.enc .own k),.val none [I p],.val none [I m]] [.ptr (ah.enc .own (jG k p m).1),.val none [I p],.val none [I m]] .one [B (jG k p m).2]:=by
 have n:=bH a;have b:=m8 k a j;have g:=eO (bY k) p n.1.2;have c:=aF m 1 2;rw[O0 ω]at c;obtain⟨o,t,w,-⟩:=bX a d;have h:=ao (xs:=k.F.R.J) (i:=p.toNat) ω;have r:¬(ac (bY k).F.R p).j=0:=d;unfold jG;cases e:refd k<;>rw[e]at b
 ·rw[C8 (by simp),Jv]
  refine fM 31 [(487,[2])] [] [(0,0),(0,0),(0,0)] Tryz.func585 rfl (λu q=>?_)
  repeat'(first|refine gA ?_|(conv=>whnf);first|refine CJ (b) (.inl rfl) ?_|refine CG (g) ⟨CQ (bY k),⟨rfl,rfl⟩,trivial⟩ ?_|refine C7 (c) ?_|refine CM o (aa h) ?_|refine CO rfl rfl (aa h) rfl (Z0 rfl) rfl ?_)
  refine CF rfl ?_ ?_
  ·rfl
  exact wB
 rw[C9 rfl];refine fM 31 [(487,[2])] [] [(0,0),(0,0),(0,0)] Tryz.func585 rfl (λu q=>?_)
 repeat'(first|refine gA ?_|(conv=>whnf);first|refine CJ (b) (.inl rfl) ?_|refine CG (g) ⟨CQ (bY k),⟨rfl,rfl⟩,trivial⟩ ?_|refine C7 (c) ?_)
 refine CF rfl ?_ ?_
 ·rfl
 exact wB
theorem Rw.two{c:List C}{off i k j d e b:Nat}{K:List C->Nat->Prop}{o f:dK}{rows rows2:List (List C)}{r a:List C}(h1:c[off]? = some (.s o rows))(g:rows[i]? = some r)(h:r.length=k)(l:r[j]? = some (.s f rows2))(n:rows2[d]? = some a)(p:a.length=e)(q:K a b):Rw c off [(i,k,j),(d,e,b)] K:=
 Rw.mk (r:=a) (j:=b) (by simp[bW,h1,g,h,l,n,p]) q
theorem xS(k:ah)(a b c:Int)(h:a7 k=true)(F:(ac k.F.R a).j≠0)(G:(ac k.F.R b).j≠0)(g:0<=c/\c<=15):aS Tryz.prog 586 false [.ptr (ah.enc .own k),.val none [I a],.val none [I b],.val none (aG .X [c])] [.ptr (ah.enc .own (qN k a b c)),.val none [I a],.val none [I b],.val none (aG .X [c])] .one [B true]:=by
 have w:=bH h;have H:=eO k a w.1.2;have J:=eO k b w.1.2;have y:=aF c 0 15;rw[O0 g]at y;obtain⟨K,O,L,C,P⟩:=bX h F;obtain⟨M,Q,D,E,R⟩:=bX h G;have N:=(aW.1 (aD.1 h).2.1).2.2.1;have S:=row16 h (f:=bG k a) (by unfold bG;omega);have T:=row16 h (f:=bG k b) (by unfold bG;omega);have d:k.F.V.S[(ac k.F.R a).e.toNat]? = some (nth k.F.V.S (bG k a)):=ao ω;have e:k.F.V.S[(ac k.F.R b).e.toNat]? = some (nth k.F.V.S (bG k b)):=ao ω;have l:=ao (xs:=nth k.F.V.S (bG k a)) (i:=c.toNat) ω;have o:=ao (xs:=nth k.F.V.S (bG k b)) (i:=c.toNat) ω;have p:=ao (xs:=k.F.R.J) (i:=a.toNat) ω;have r:=ao (xs:=k.F.R.J) (i:=b.toNat) ω;rw[L]at C d;rw[D]at E e;have t:[c][0]? = some c:=rfl;refine fM 90 [] [(13,28,[61,62,63,64,65,66,67,68,69,70,71,72,73,74,75,76,77,78,79,80,81,82,83,84,85,86,87,88])] [(0,0),(0,0),(0,0),(0,0)] Tryz.func586 rfl (λu q=>?_)
 repeat'(first|refine gA ?_|(conv=>whnf);first|refine CB ?_|refine CG (H) ⟨CQ k,⟨rfl,rfl⟩,trivial⟩ ?_|refine CG (J) ⟨CQ k,⟨rfl,rfl⟩,trivial⟩ ?_)
 (conv=>whnf)
 refine CE (ι:=Nat) (λn=>[(0,.H .box (ah.enc .own k)),(1,.H .one [I (a)]),(2,.H .one [I (b)]),(3,.H .one (aG .X [c])),(9,.H .one [I ((n:Nat):Int)])]) (λn=>n<=1) (λn=>1 - n) (0) ?_ (T0 _) λn U=>?_
 ·exact wB
 by_cases V:n<1
 ·obtain rfl:n=0:=ω
  repeat'(first|refine gD ?_|(conv=>whnf);first|refine CB ?_|refine CM (by decide) (aa t) ?_|refine C7 (y) ?_)
  ((conv=>whnf);refine CD 1 ω ω ?_;(exact wB))
 obtain rfl:n=1:=ω
 repeat'(first|refine gD ?_|(conv=>whnf);first|refine CB ?_|refine CM K (aa p) ?_|refine CM M (aa r) ?_|refine CH rfl (aa p) rfl ?_|refine CH rfl (aa r) rfl ?_)
 (conv=>whnf)
 refine CE (ι:=Nat) (λj=>[(0,.H .box (ah.enc .own (Po k a b c j))),(3,.H .one (aG .X [c])),(10,.H .one [I ((nth k.F.R.J a.toNat).e)]),(11,.H .one [I ((nth k.F.R.J b.toNat).e)]),(12,.H .one [I ((j:Nat):Int)])]) (λj=>j<=1) (λj=>1 - j) (0) ?_ (T0 _) λj W=>?_
 ·exact wB
 by_cases X:j<1
 ·obtain rfl:j=0:=ω
  repeat'(first|refine gD ?_|(conv=>whnf);first|refine CB ?_|refine CM (by decide) (aa t) ?_|refine CM C (aa d) ?_|refine CM E (aa e) ?_|refine CM g.1 (aa l) ?_|refine CM g.1 (aa o) ?_|refine CH rfl (aa e) rfl ?_|refine CH rfl (aa d) rfl ?_|refine Rw.two rfl (aa d) rfl rfl (aa l) rfl ?_|refine Pu.two rfl rfl (aa e) rfl rfl rfl (aa o) rfl (W2 _) rfl ?_)
  ((conv=>whnf);refine CD 1 ω ω ?_)
  rw[show Po k a b c 1=qN k a b c from rfl];unfold qN;rw[EA,show bG k b=(nth k.F.R.J b.toNat).e.toNat by unfold bG;rw[D]];exact wB
 obtain rfl:j=1:=ω
 repeat'(first|refine gD ?_|(conv=>whnf);first|refine CB ?_)
 refine CF rfl ?_ ?_
 ·rfl
 exact wB
theorem Gi(k:ah)(p o:Int)(a:a7 k=true)(y:k.Calls≠100000)(g:(ac k.F.R p).j≠0)(h:(ac k.F.R o).j≠0)(C:p≠o):aS Tryz.prog 587 false [.ptr (ah.enc .own k),.val none [I p],.val none [I o]] [.ptr (ah.enc .own (uo k p o).1),.val none [I p],.val none [I o]] .one [B (uo k p o).2]:=by
 have b:=bH a;have c:=m8 k a y;have j:=eO (bY k) p b.1.2;have l:=eO (bY k) o b.1.2;obtain⟨D,K,E,n,r⟩:=bX a g;obtain⟨F,L,M,N,O⟩:=bX a h;have G:=(aW.1 (aD.1 a).2.1).2.2.1;have d:=ao (xs:=k.F.R.J) (i:=p.toNat) ω;have t:=ao (xs:=k.F.R.J) (i:=o.toNat) ω;have H:¬(ac (bY k).F.R p).j=0:=g;have J:¬(ac (bY k).F.R o).j=0:=h;rw[E]at n r;have w:=zH (ux (bY k) p.toNat ⟨2,(nth k.F.R.J o.toNat).e⟩) (nth k.F.R.J p.toNat).e (K7 _ _ b.1.2) ⟨n,by show _<((k.F.V.S.length:Nat):Int);omega,r⟩;rw[Lo]at w;unfold uo;cases e:refd k<;>rw[e]at c
 ·rw[C8 (by simp)]
  refine fM 60 [(487,[2]),(489,[2,0])] [(4,274,[38,39,40,41,42,43,44,45,46,47,48,49,50,51,52,53,54,56,0,1,2,3,4,5,6,7,8,9,10,11,12,13,14,15,16,17,1000,1001,1002,1003,1004,1005,1006,18,19])] [(0,0),(0,0),(0,0)] Tryz.func587 rfl (λu q=>?_)
  repeat'(first|refine gA ?_|(conv=>whnf);first|refine CB ?_|refine CJ (c) (.inl rfl) ?_|refine CG (j) ⟨CQ (bY k),⟨rfl,rfl⟩,trivial⟩ ?_|refine CG (l) ⟨CQ (bY k),⟨rfl,rfl⟩,trivial⟩ ?_|refine CM D (aa d) ?_|refine CM F (aa t) ?_|refine CH rfl (aa d) rfl ?_|refine CH rfl (aa t) rfl ?_|refine CO rfl rfl (aa d) rfl (Z0 rfl) rfl ?_|refine CJ (w) (.inl rfl) ?_)
  refine CF rfl ?_ ?_
  ·rfl
  exact wB
 rw[C9 rfl];refine fM 60 [(487,[2]),(489,[2,0])] [(4,274,[38,39,40,41,42,43,44,45,46,47,48,49,50,51,52,53,54,56,0,1,2,3,4,5,6,7,8,9,10,11,12,13,14,15,16,17,1000,1001,1002,1003,1004,1005,1006,18,19])] [(0,0),(0,0),(0,0)] Tryz.func587 rfl (λu q=>?_)
 repeat'(first|refine gA ?_|(conv=>whnf);first|refine CB ?_|refine CJ (c) (.inl rfl) ?_|refine CG (j) ⟨CQ (bY k),⟨rfl,rfl⟩,trivial⟩ ?_|refine CG (l) ⟨CQ (bY k),⟨rfl,rfl⟩,trivial⟩ ?_)
 refine CF rfl ?_ ?_
 ·rfl
 exact wB
theorem xX(m:aU)(a:Int)(d:aU.sml m)(c:0<=a/\a<512):ar Tryz.prog 591 false [.val (some 3) (aU.enc .X m),.val none [I a]] (.tup [some 2,none]) (bi.enc .own (ac m.R (a / 16))++[I (a % 16)]):=by
 have e:=db m.R (a / 16) d.2;have b:a.tmod 16=a % 16:=eR c.1;refine fO 16 [] Tryz.func591 rfl ?_ (.inr ⟨trivial,trivial,trivial,trivial⟩)
 repeat'(first|refine gD ?_|(conv=>whnf);first|refine CB ?_|refine C7 (e) ?_|refine CL (pB c) ?_|refine CN (by decide) ?_|refine CS b ?_)
 rfl
theorem FR(m:aU)(a v:Int)(o:dy m=true)(e:aU.sml m)(p:0<=a/\a<512)(q:0<=v/\v<=999)(r:(ac m.R (a / 16)).j≠0->0<=(ac m.R (a / 16)).e/\(ac m.R (a / 16)).e<m.V.S.length/\(nth m.V.S (ac m.R (a / 16)).e.toNat).length=16):ar Tryz.prog 590 false [.val (some 3) (aU.enc .X m),.val none [I a],.val none [I v]] (.tup [some 3,none]) (aU.enc .own (iJ m a v).1++[I (iJ m a v).2]):=by
 have c:=oD m e;rw[o]at c;have g:=qL m e;have h:=xX m a e p;have d:=aF v 0 999;rw[O0 q]at d;have b:=aU.enc_fr (iJ m a v).1;unfold iJ at b |-;by_cases j:(ac m.R (a / 16)).j=0
 ·rw[C9 j]at b |-
  refine fO 47 [] Tryz.func590 rfl ?_ (.inr (aZ b ⟨trivial,trivial⟩))
  repeat'(first|refine gA ?_|(conv=>whnf);first|refine CB ?_|refine C7 (c) ?_|refine C7 (g) ?_|refine C7 (h) ?_|refine C7 (d) ?_)
  rfl
 rw[C8 j]at b |-;by_cases l:(ac m.R (a / 16)).j=1
 ·rw[C9 l]at b |-
  refine fO 47 [] Tryz.func590 rfl ?_ (.inr (aZ b ⟨trivial,trivial⟩))
  repeat'(first|refine gA ?_|(conv=>whnf);first|refine CB ?_|refine C7 (c) ?_|refine C7 (g) ?_|refine C7 (h) ?_|refine C7 (d) ?_)
  rfl
 rw[C8 l]at b |-;obtain⟨t,u,w⟩:=r j;have k:=ao (xs:=m.V.S) (i:=(ac m.R (a / 16)).e.toNat) ω;have n:=ao (xs:=nth m.V.S (ac m.R (a / 16)).e.toNat) (i:=(a % 16).toNat) ω;simp only at b |-;rw[FQ]at b |-;refine fO 47 [] Tryz.func590 rfl ?_ (.inr (aZ b ⟨trivial,trivial⟩))
 repeat'(first|refine gA ?_|(conv=>whnf);first|refine CB ?_|refine C7 (c) ?_|refine C7 (g) ?_|refine C7 (h) ?_|refine C7 (d) ?_|refine CM t (aa k) ?_|refine CM ω (aa n) ?_|refine CH rfl (aa k) rfl ?_|refine Pu.two rfl rfl (aa k) rfl rfl rfl (aa n) rfl (W2 _) rfl ?_)
 rfl
theorem lZ{k:ah}{j:cK} : jmay k j=true↔(a7 k=true/\k.Calls≠100000)/\jx j=true/\(ac k.F.R j.W.a4).j≠0/\(ac k.F.R j.W.a1).j≠0/\(ac k.F.R j.W.a4).e≠(ac k.F.R j.W.a1).e:=by
 unfold jmay;simp only[I0,C0]
theorem lQ{p:cM}(h:ew p=true):p.S.length<=16:=by
 unfold ew at h;simp only[I0]at h;have a:∀i,i<p.S.length->(i:Int)<=nth p.S i:=λi=>by
  induction i with
  | zero=>
   intro a;have:=dC h.1 a;unfold lB at this;rw[C0]at this;exact this.1
  | succ i b=>
   intro a;have c:=b ω;have:=dC h.1 a;unfold lB at this;rw[C0]at this;have d:=this.2.2.resolve_left ω;rw[Nat.add_sub_cancel]at d;omega
 by_cases e:p.S.length<=16
 ·exact e
 exfalso;have c:=a 16 ω;have:=dC h.1 (show 16<p.S.length by omega);unfold lB at this;rw[C0]at this;omega
theorem Jm{j:cK}(h:jx j=true):cK.sml j:=by
 have:=lQ (dq.1 h).1;show j.W.S.length<=1048576;omega
theorem tf{k:ah}(h:a7 k=true):dy k.F=true:=by
 unfold a7 at h;simp only[I0]at h;exact h.1.2
theorem A5(k:ah)(j:cK)(p:jmay k j=true)(g:j.b2=3):aS Tryz.prog 588 false [.ptr (ah.enc .own k),.ptr (vc j)] [.ptr (ah.enc .own (jstep k j).1),.ptr (vc (jstep k j).2)] (.tup []) []:=by
 obtain⟨⟨a,r⟩,t,c,d,w⟩:=lZ.1 p;obtain⟨h,H,J,K,L⟩:=dq.1 t;have y:=bH a;obtain⟨M,N,O,B,P⟩:=bX a c;have l:=(bx.1 (aD.1 a).2.2.1).2.2;have C:=lQ h;have D:=(aW.1 (aD.1 a).2.1).2.2.1;unfold jstep;rw[C8 ω,C8 ω,C8 ω,C9 g];by_cases n:0<j.a
 ·rw[C9 n]
  have o:=fR h (i:=(j.a - 1).toNat) ω;have E:=ao (xs:=j.W.S) (i:=(j.a - 1).toNat) ω;have F:0<=j.W.a4*16+nth j.W.S (j.a - 1).toNat/\j.W.a4*16+nth j.W.S (j.a - 1).toNat<512:=ω
  have G:(j.W.a4*16+nth j.W.S (j.a - 1).toNat) / 16=j.W.a4:=ω
  have b:=FR k.F (j.W.a4*16+nth j.W.S (j.a - 1).toNat) 0 (tf a) y.1 F ω (λ_=>by rw[G];exact⟨B,ω,row16 a (f:=bG k j.W.a4) (by unfold bG;omega)⟩);generalize (iJ k.F (j.W.a4*16+nth j.W.S (j.a - 1).toNat) 0).1=m at b |-;generalize (iJ k.F (j.W.a4*16+nth j.W.S (j.a - 1).toNat) 0).2=e at b;refine fM 59 [(585,[2,0,0])] [(2,283,[20,21,22,23,24,25,26,27,28,29,30,31,32,33,34,35,36,37,38,39,40,41,42,19,43,44,4,0,1,2,3,4,5,6,7,8,9,10,11,12,13,14,15,16,17,18,19,20,21,22,23,24,25,26,27,1025,28])] [(0,0),(1,0)] Tryz.func588 rfl (λu q=>?_) (.inr trivial)
  repeat'(first|refine gD ?_|(conv=>whnf);first|refine CB ?_|refine CG (b) ⟨⟨rfl,aU.enc_fz k.F⟩,⟨rfl,rfl⟩,⟨rfl,rfl⟩,trivial⟩ ?_|refine CM ω (aa E) ?_|refine CB ?_)
  refine CF rfl rfl ?_;exact wC
 rw[C8 n];have b:=nt k j.W.a1 2 a r d (.inr rfl);cases e:(jG k j.W.a1 2).2<;>rw[e]at b
 ·refine fM 59 [(585,[2,0,0])] [(2,283,[20,21,22,23,24,25,26,27,28,29,30,31,32,33,34,35,36,37,38,39,40,41,42,19,43,44,4,0,1,2,3,4,5,6,7,8,9,10,11,12,13,14,15,16,17,18,19,20,21,22,23,24,25,26,27,1025,28])] [(0,0),(1,0)] Tryz.func588 rfl (λu q=>?_) (.inr trivial)
  repeat'(first|refine gD ?_|(conv=>whnf);first|refine CB ?_|refine CJ (b) (.inl rfl) ?_)
  refine CF rfl rfl ?_;rw[<-g];exact wC
 refine fM 59 [(585,[2,0,0])] [(2,283,[20,21,22,23,24,25,26,27,28,29,30,31,32,33,34,35,36,37,38,39,40,41,42,19,43,44,4,0,1,2,3,4,5,6,7,8,9,10,11,12,13,14,15,16,17,18,19,20,21,22,23,24,25,26,27,1025,28])] [(0,0),(1,0)] Tryz.func588 rfl (λu q=>?_) (.inr trivial)
 repeat'(first|refine gD ?_|(conv=>whnf);first|refine CB ?_|refine CJ (b) (.inl rfl) ?_)
 refine CF rfl rfl ?_;exact wC
theorem zV(k:ah)(j:cK)(g:jmay k j=true):aS Tryz.prog 572 false [.ptr (ah.enc .own k),.ptr (vc j)] [.ptr (ah.enc .own (jstep k j).1),.ptr (vc (jstep k j).2)] (.tup []) []:=by
 obtain⟨⟨h,p⟩,B,c,b,l⟩:=lZ.1 g;obtain⟨r,F,G,H,J⟩:=dq.1 B;have n:j.W.a1≠j.W.a4:=λe=>l (by rw[e])
 have C:=lQ r;by_cases d:j.b2=0
 ·have a:=nt k j.W.a1 1 h p b (.inl rfl)
  unfold jstep;rw[C9 d];cases e:(jG k j.W.a1 1).2<;>rw[e]at a
  ·refine fM 80 [(585,[2,0,0]),(586,[2,0,0,0]),(587,[2,0,0]),(588,[2,2])] [(7,7,[27,28,29,30,31,32,33]),(9,14,[38,39,40,41,42,43,44,45,46,47,48,49,50,51])] [(0,0),(1,0)] Tryz.func572 rfl (λu q=>?_) (.inr trivial)
   repeat'(first|refine gA ?_|(conv=>whnf);first|refine CB ?_|refine CJ (a) (.inl rfl) ?_)
   refine CF rfl rfl ?_;exact wC
  refine fM 80 [(585,[2,0,0]),(586,[2,0,0,0]),(587,[2,0,0]),(588,[2,2])] [(7,7,[27,28,29,30,31,32,33]),(9,14,[38,39,40,41,42,43,44,45,46,47,48,49,50,51])] [(0,0),(1,0)] Tryz.func572 rfl (λu q=>?_) (.inr trivial)
  repeat'(first|refine gA ?_|(conv=>whnf);first|refine CB ?_|refine CJ (a) (.inl rfl) ?_)
  refine CF rfl rfl ?_;exact wC
 by_cases o:j.b2=1
 ·unfold jstep
  rw[C8 d,C9 o];by_cases t:j.a=j.W.S.length
  ·rw[C9 t]
   refine fM 80 [(585,[2,0,0]),(586,[2,0,0,0]),(587,[2,0,0]),(588,[2,2])] [(7,7,[27,28,29,30,31,32,33]),(9,14,[38,39,40,41,42,43,44,45,46,47,48,49,50,51])] [(0,0),(1,0)] Tryz.func572 rfl (λu q=>?_) (.inr trivial)
   repeat'(first|refine gA ?_|(conv=>whnf);first|refine CB ?_|refine CB ?_)
   refine CF rfl rfl ?_;exact wC
  rw[C8 t];have D:=ao (xs:=j.W.S) (i:=j.a.toNat) ω;have a:=xS k j.W.a1 j.W.a4 (nth j.W.S j.a.toNat) h b c (fR r ω);have E:=(lZ.1 g).2.1;refine fM 80 [(585,[2,0,0]),(586,[2,0,0,0]),(587,[2,0,0]),(588,[2,2])] [(7,7,[27,28,29,30,31,32,33]),(9,14,[38,39,40,41,42,43,44,45,46,47,48,49,50,51])] [(0,0),(1,0)] Tryz.func572 rfl (λu q=>?_) (.inr trivial)
  repeat'(first|refine gA ?_|(conv=>whnf);first|refine CB ?_|refine CJ a (.inr ⟨rfl,ah.enc_fr _,trivial⟩) ?_|refine CM ω (aa D) ?_|refine CB ?_)
  refine CF rfl rfl ?_;exact wC
 by_cases w:j.b2=2
 ·have a:=Gi k j.W.a1 j.W.a4 h p b c n
  unfold jstep;rw[C8 d,C8 o,C9 w];cases e:(uo k j.W.a1 j.W.a4).2<;>rw[e]at a
  ·refine fM 80 [(585,[2,0,0]),(586,[2,0,0,0]),(587,[2,0,0]),(588,[2,2])] [(7,7,[27,28,29,30,31,32,33]),(9,14,[38,39,40,41,42,43,44,45,46,47,48,49,50,51])] [(0,0),(1,0)] Tryz.func572 rfl (λu q=>?_) (.inr trivial)
   repeat'(first|refine gA ?_|(conv=>whnf);first|refine CB ?_|refine CJ (a) (.inl rfl) ?_)
   refine CF rfl rfl ?_;exact wC
  refine fM 80 [(585,[2,0,0]),(586,[2,0,0,0]),(587,[2,0,0]),(588,[2,2])] [(7,7,[27,28,29,30,31,32,33]),(9,14,[38,39,40,41,42,43,44,45,46,47,48,49,50,51])] [(0,0),(1,0)] Tryz.func572 rfl (λu q=>?_) (.inr trivial)
  repeat'(first|refine gA ?_|(conv=>whnf);first|refine CB ?_|refine CJ (a) (.inl rfl) ?_)
  refine CF rfl rfl ?_;exact wC
 by_cases y:j.b2=3
 ·have a:=A5 k j g y
  refine fM 80 [(585,[2,0,0]),(586,[2,0,0,0]),(587,[2,0,0]),(588,[2,2])] [(7,7,[27,28,29,30,31,32,33]),(9,14,[38,39,40,41,42,43,44,45,46,47,48,49,50,51])] [(0,0),(1,0)] Tryz.func572 rfl (λu q=>?_) (.inr trivial)
  repeat'(first|refine gA ?_|(conv=>whnf);first|refine CB ?_|refine CJ (a) (.inl rfl) ?_)
  refine CF rfl rfl ?_;exact wC
 unfold jstep;rw[C8 d,C8 o,C8 w,C8 y];refine fM 80 [(585,[2,0,0]),(586,[2,0,0,0]),(587,[2,0,0]),(588,[2,2])] [(7,7,[27,28,29,30,31,32,33]),(9,14,[38,39,40,41,42,43,44,45,46,47,48,49,50,51])] [(0,0),(1,0)] Tryz.func572 rfl (λu q=>?_) (.inr trivial)
 repeat'(first|refine gA ?_|(conv=>whnf);first|refine CB ?_)
 refine CF rfl rfl ?_;exact wC
theorem D7(k:ah)(j:cK)(e:a7 k=true)(i:jx j=true):ar Tryz.prog 571 false [.val (some 5) (ah.enc .X k),.val (some 5) (cK.enc .X j)] .one [B (jmay k j)]:=by
 have c:=bH e;have b:dP (ah.enc .X k)=ah.enc .X k:=by rw[<-CQ k,rH]
 have r:=(aD.1 e).2.2.2.2;have a:=kX k c;rw[e]at a;have d:=vm j (Jm i);rw[i]at d;have l:=eO k j.W.a4 c.1.2;have n:=eO k j.W.a1 c.1.2;have t:=db k.F.R j.W.a4 c.1.2;have u:=db k.F.R j.W.a1 c.1.2;by_cases o:k.Calls=100000
 ·rw[R0 ω]at a
  rw[show jmay k j=false by rw[<-C5,lZ];exact λh=>h.1.2 o];refine fO 44 [(3,16,[27,28,29,30,31,32,33,34,35,36,37,38,39,40,41,42])] Tryz.func571 rfl ?_
  repeat'(first|refine gO ?_|(conv=>whnf);first|refine CB ?_|refine C7 (a) ?_|refine C7 (d) ?_)
  rfl
 rw[O0 ω]at a;by_cases p:(ac k.F.R j.W.a4).j=0
 ·rw[show jmay k j=false by rw[<-C5,lZ];exact λh=>h.2.2.1 p]
  refine fO 44 [(3,16,[27,28,29,30,31,32,33,34,35,36,37,38,39,40,41,42])] Tryz.func571 rfl ?_
  repeat'(first|refine gA ?_|(conv=>whnf);first|refine CB ?_|refine C7 (a) ?_|refine C7 (d) ?_|refine CG (l) ⟨b,⟨rfl,rfl⟩,trivial⟩ ?_|refine CG (n) ⟨b,⟨rfl,rfl⟩,trivial⟩ ?_)
  rfl
 by_cases q:(ac k.F.R j.W.a1).j=0
 ·rw[show jmay k j=false by rw[<-C5,lZ];exact λh=>h.2.2.2.1 q]
  refine fO 44 [(3,16,[27,28,29,30,31,32,33,34,35,36,37,38,39,40,41,42])] Tryz.func571 rfl ?_
  repeat'(first|refine gA ?_|(conv=>whnf);first|refine CB ?_|refine C7 (a) ?_|refine C7 (d) ?_|refine CG (l) ⟨b,⟨rfl,rfl⟩,trivial⟩ ?_|refine CG (n) ⟨b,⟨rfl,rfl⟩,trivial⟩ ?_)
  rfl
 refine fO 44 [(3,16,[27,28,29,30,31,32,33,34,35,36,37,38,39,40,41,42])] Tryz.func571 rfl ?_
 repeat'(first|refine gA ?_|(conv=>whnf);first|refine CB ?_|refine C7 (a) ?_|refine C7 (d) ?_|refine CG (l) ⟨b,⟨rfl,rfl⟩,trivial⟩ ?_|refine CG (n) ⟨b,⟨rfl,rfl⟩,trivial⟩ ?_|refine C7 (t) ?_|refine C7 (u) ?_|refine CB ?_)
 exact U0 (λz=>[B z]) (by
   unfold jmay;rw[e,i,O0 o];by_cases g:(ac k.F.R j.W.a4).e=(ac k.F.R j.W.a1).e
   · rw[R0 (λh=>h.2.2 g)];simp[g]
   rw[O0 ⟨p,q,g⟩];simp[g])
theorem Bx(j:cK):ar Tryz.prog 573 false [.val (some 5) (cK.enc .X j)] .one [B (over j)]:=by
 by_cases a:j.b2=4
 ·rw[show over j=true from O0 (.inl a)]
  refine fO 11 [] Tryz.func573 rfl ?_
  repeat'(first|refine gA ?_|(conv=>whnf);first|refine CB ?_)
  rfl
 rw[show over j=decide (j.b2=5) from decide_eq_decide.2 ω];refine fO 11 [] Tryz.func573 rfl ?_
 repeat'(first|refine gA ?_|(conv=>whnf);first|refine CB ?_)
 exact U0 (λz=>[B z]) (by rw[U4];simp)
def GC(x:ab):List C:=(bz x).set 21 .z
theorem E3{x:ab}(h:x.Y.W.S=[]):Lx (GC x) (bz x):=by
 unfold GC bz;simp only[List.set,h,List.map_nil]
 repeat'(first|exact trivial|exact ee _|refine CK ?_ ?_|rfl)
theorem AC(h:ab)(j:aV h [])(k:h.u=true):aS Tryz.prog 536 false [.ptr (bz h)] [.ptr (bz (mStep h))] .one [B (Dv h)]:=by
 obtain⟨l,-,-⟩:=j.job k;have b:=D7 h.G h.Y j.ker l;have a:=Bx (gE h.G h.Y).2;unfold Dv mStep;cases e:jmay h.G h.Y with
 | false=>
  rw[e]at b;have d:gE h.G h.Y=(h.G,h.Y):=by unfold gE;rw[e];rfl
  rw[d]at a |-;simp only at a |-;cases g:over h.Y<;>rw[g]at a
  ·refine fM 39 [(572,[3,5,5])] [(1,8,[4,5,6,7,8,9,10,11]),(2,6,[13,14,15,16,17,18])] [(0,0)] Tryz.func536 rfl (λu q=>?_)
   repeat'(first|refine gO ?_|(conv=>whnf);first|refine CG (b) ⟨⟨rfl,CQ h.G⟩,⟨rfl,rfl⟩,trivial⟩ ?_|refine C7 (a) ?_|refine CB ?_)
   refine CF rfl ?_ ?_
   ·exact U0 (λz=>[B z]) (by rw[U4];simp)
   exact wC
  refine aS.wk (c:=GC _) ?_ (E3 rfl);refine fM 39 [(572,[3,5,5])] [(1,8,[4,5,6,7,8,9,10,11]),(2,6,[13,14,15,16,17,18])] [(0,0)] Tryz.func536 rfl (λu q=>?_)
  repeat'(first|refine gO ?_|(conv=>whnf);first|refine CG (b) ⟨⟨rfl,CQ h.G⟩,⟨rfl,rfl⟩,trivial⟩ ?_|refine C7 (a) ?_|refine CB ?_)
  refine CF rfl ?_ ?_
  ·exact U0 (λz=>[B z]) (by rw[U4];simp)
  exact wC
 | true=>
  rw[e]at b;have d:gE h.G h.Y=jstep h.G h.Y:=by unfold gE;rw[e];rfl
  have i:=zV h.G h.Y e;rw[d]at a |-;generalize jstep h.G h.Y=r at i a |-;cases g:over r.2<;>rw[g]at a
  ·refine fM 39 [(572,[3,5,5])] [(1,8,[4,5,6,7,8,9,10,11]),(2,6,[13,14,15,16,17,18])] [(0,0)] Tryz.func536 rfl (λu q=>?_)
   repeat'(first|refine gO ?_|(conv=>whnf);first|refine CG (b) ⟨⟨rfl,CQ h.G⟩,⟨rfl,rfl⟩,trivial⟩ ?_|refine C7 (a) ?_|refine CJ (i) (.inl rfl) ?_|refine CB ?_)
   refine CF rfl ?_ ?_
   ·exact U0 (λz=>[B z]) (by rw[U4];simp)
   exact wC
  refine aS.wk (c:=GC _) ?_ (E3 rfl);refine fM 39 [(572,[3,5,5])] [(1,8,[4,5,6,7,8,9,10,11]),(2,6,[13,14,15,16,17,18])] [(0,0)] Tryz.func536 rfl (λu q=>?_)
  repeat'(first|refine gO ?_|(conv=>whnf);first|refine CG (b) ⟨⟨rfl,CQ h.G⟩,⟨rfl,rfl⟩,trivial⟩ ?_|refine C7 (a) ?_|refine CJ (i) (.inl rfl) ?_|refine CB ?_)
  refine CF rfl ?_ ?_
  ·exact U0 (λz=>[B z]) (by rw[U4];simp)
  exact wC
theorem Gp{k:Int} : ∀{l s s2 c:List Int}(n:Nat),(∀x∈s2,x∈s)->qz k s l=some c->∃d,qz k s2 (l.take n)=some d/\∀x∈d,x∈c
 | [],s,s2,c,n,h,e=>by
  simp only[qz,W0,List.take_nil]at e |-;subst e;exact⟨s2,rfl,h⟩
 | a::l,s,s2,c,0,h,e=>⟨s2,rfl,λx b=>(oA (λ_ y=>y) e).1 x (h x b)⟩
 | a::l,s,s2,c,n+1,h,e=>by
  simp only[List.take_succ_cons,qz]at e |-;split at e
  ·rename_i g
   rw[C9 (show good k s2 a from⟨g.1,g.2.1,g.2.2.1,λx=>g.2.2.2 (h a x)⟩)];exact Gp (l:=l) (s:=s++[a]) (s2:=s2++[a]) n (λx b=>by
     rcases U2.1 b with b|b
     · exact U2.2 (.inl (h x b))
     exact U2.2 (.inr b)) e
  cases e
theorem Ek:∀{a:List (List Int)}{k:Nat}{s s2:List Int}(i n:Nat),(∀x∈s2,x∈s)->(ge k s a).isSome=true->(ge k s2 (a.set i ((nth a i).take n))).isSome=true
 | [],_,_,_,_,_,_,_=>rfl
 | l::a,k,s,s2,i,n,h,e=>by
  simp only[ge,eH]at e;split at e
  ·rename_i g
   cases b:qz k s l with
   | none=>rw[b]at e;cases e
   | some j=>
    rw[b]at e;cases i with
    | zero=>
     obtain⟨c,d,f⟩:=Gp n h b;simp only[List.set_cons_zero,ge,eH];rw[C9 ⟨by have:=g.1;simp only[nth,List.getD_cons_zero,O1];omega,g.2⟩];show((qz (k:Nat) s2 (l.take n)).bind λj=>ge (k+1) j a).isSome=true;rw[d];exact sX f e
    | succ i=>
     obtain⟨o,c,d,f⟩:=oA h b;simp only[List.set_cons_succ,ge,eH];rw[C9 g,d];exact Ek i n f e
  cases e
theorem Nl{c:aE}(h:bw c=true)(k:Nat):bw (rp c k)=true:=by
 unfold bw at h |-;simp only[I0,C0]at h |-;exact⟨by simp only[rp,I1];exact h.1,Ek k _ (λ_ h=>h) h.2⟩
def nE(b:Int):Nat->List Int
 | 0=>[]
 | j+1=>if aR b (j:Nat)=true then nE b j else nE b j++[((j:Nat):Int)]
theorem sq{b:Int} : ∀{n:Nat}{z:Int},z∈nE b n->0<=z/\z<n/\aR b z=false
 | 0,_,h=>by cases h
 | n+1,z,h=>by
  unfold nE at h;split at h
  ·have:=sq h;exact⟨this.1,ω,this.2.2⟩
  rename_i e;rcases U2.1 h with h|h
  ·have:=sq h;exact⟨this.1,ω,this.2.2⟩
  rw[C1.1 h];exact⟨ω,ω,by simpa using e⟩
theorem sv(b:Int):∀n,(nE b n).length<=n
 | 0=>W2 _
 | n+1=>by have:=sv b n;unfold nE;split<;>simp<;>omega
def pR(k b:Int):List Int:=if K6 k b=true then nE b (slots k).toNat else []
def mT(h:ab)(i:Nat):List Int:=pR (nth h.M i).b (gM h i)
theorem xl{k b z:Int}(h:z∈pR k b):0<=z/\z<slots k/\aR b z=false:=by
 unfold pR at h;split at h
 ·have:=sq h;exact⟨this.1,ω,this.2.2⟩
 cases h
theorem FF(k b:Int):(pR k b).length<=16:=by
 unfold pR;split
 ·rename_i h
  unfold K6 at h;rw[C0]at h;have:=(g9 (k:=k) ⟨h.1,h.2.1⟩).2.2.1;have:=sv b (slots k).toNat;omega
 exact T0 _
def p7(h:ab)(i:Nat):Int:=nth (mT h i) (LT h.c0 ((mT h i).length:Nat)).toNat
def slotT(h:ab)(i:Nat):ab:={h with c0:=Hm h.c0,M:=h.M.set i (pL (nth h.M i) (p7 h i))}
def uf(h:ab)(i:Nat):Int:=16*(nth h.M i).Q+p7 h i*csz (nth h.M i).b
theorem zq{h:ab}{i:Nat}(a:0<(mT h i).length):p7 h i∈mT h i:=by
 have:=v8 h.c0 (n:=((mT h i).length:Nat)) ω;exact am ω
theorem aV.slotT{h:ab}{E:List Int}{i:Nat}(a:aV h E)(b:i<h.M.length)(e:0<(mT h i).length):aV (slotT h i) (uf h i::E)/\jH (slotT h i).M (uf h i) (nth h.M i).b:=by
 obtain⟨c,d,f⟩:=xl (zq e);exact⟨a.take b ⟨c,d⟩ f (FL _),(jH.setS a.L b ⟨c,d⟩ _ _).2 (.inr ⟨rfl,.inr rfl⟩)⟩
def rQ(h:ab)(c:Int)(i:Nat):Bool:=decide ((nth h.M i).b=c)&&(!fJ h (nth h.M i).Q&&decide (0<(mT h i).length))
def sw(h:ab)(c:Int):Option Nat:=(List.range h.M.length).find? (rQ h c)
def qr(h:ab)(c:Int):ab:=addS h (newK h.G (au h.q 1).2.1).1 (au h.q 1).1 (au h.q 1).2.1 c
def pN(h:ab):Nat:=ki (Fi (au h.q 1).2.1) h.M
def pH(h:ab)(i:Nat):ab × Int:=if(mT h i).length=0 then(h,-1) else(slotT h i,uf h i)
def smallA(h:ab)(t c:Nat):ab × Int:=
 if 0<(nth (nth h.T t).d c).length then({h with T:=h.T.set t (rp (nth h.T t) c)},nth (nth (nth h.T t).d c) ((nth (nth h.T t).d c).length - 1))
 else match sw h c with
 | some i=>(slotT h i,uf h i)
 | none=>if(au h.q 1).2.2=false then(h,-1)
  else if(newK h.G (au h.q 1).2.1).2=false then({h with G:=(newK h.G (au h.q 1).2.1).1},-1)
  else pH (qr h c) (pN h)
theorem AW{α:Type}[Inhabited α](p:α->Bool)(xs:List α)(y:α):ki p xs<(iZ p xs y).length/\nth (iZ p xs y) (ki p xs)=y:=by
 have b:=NG p xs;have a:(xs.take (ki p xs)).length=ki p xs:=by rw[O1];omega
 refine⟨by rw[(kr p xs y).length_eq,List.length_cons];omega,bc ?_⟩;unfold iZ;rw[R4 ω,a,Nat.sub_self]
 rfl
theorem aV.tEq{h:ab}{E:List Int}(a:aV h E){k:ah}(c:a7 k=true)(b:tEq (tbl h) k.F.R):aV {h with G:=k} E/\JK h {h with G:=k}:=
 ⟨a.step (j:=h.Y) (m:=h.u) c b.1 (a.pg.tEq b) a.job a.noj,⟨rfl,rfl,λs d _=>⟨s,d,rfl,λ_ z=>z⟩,λq e=>.inl ⟨(b.2 q).1.1 e,(b.2 q).2⟩⟩⟩
structure Q5(h:ab)(c:Int)(r:ab × Int):Prop where
 no:r.2<0->aV r.1 []
 yes:0<=r.2->aV r.1 [r.2]/\jH r.1.M r.2 c
 jk:JK h r.1
 nx:r.1.a=h.a
 cl:r.1.T.length=h.T.length
theorem jH.nn{h:ab}{E:List Int}(b:aV h E){a c:Int}(d:jH h.M a c):0<=a:=(jH.bd b d).1
theorem Q5.slot{h h':ab}{i:Nat}{c:Int}(g:aV h' [])(j:i<h'.M.length)(k:0<(mT h' i).length)(l:(nth h'.M i).b=c)(n:JK h h')(a:fJ h' (nth h'.M i).Q=false)(h1:h'.a=h.a)(o:h'.T.length=h.T.length):Q5 h c (slotT h' i,uf h' i):=by
 obtain⟨d,f⟩:=g.slotT j k;have b:=jH.nn d f;exact⟨λe=>absurd b (by simp only at e;omega),λ_=>⟨d,by rw[<-l];exact f⟩,n.trans (JK.take a),h1,o⟩
theorem sP{h:ab}{t c:Nat}(a:aV h [])(q:t<h.T.length)(P:c<=3)(B:h.G.Calls<=90000):Q5 h c (smallA h t c):=by
 have f:=a.cach _ (am q);have C:=ot f;unfold smallA;split
 ·rename_i D
  obtain⟨d,b⟩:=a.pop q ω D (Nl f c);have l:=jH.nn a b;exact⟨λe=>absurd l (by simp only at e;omega),λ_=>⟨d,b⟩,JK.eq rfl rfl rfl rfl,rfl,I1 ..⟩
 split
 ·rename_i i r
  have g:=List.find?_some r;have E:=List.mem_range.1 (List.mem_of_find?_eq_some r);unfold rQ at g;simp only[I0,C0,Bool.not_eq_true']at g;exact Q5.slot a E g.2.2 g.1 (JK.refl h) g.2.1 rfl rfl
 split
 ·exact⟨λ_=>a,λe=>absurd e (by show ¬(0:Int)<=-1;decide),JK.refl h,rfl,rfl⟩
 rename_i F;have j:(au h.q 1).2.2=true:=by simpa using F
 obtain⟨G,H,J,u⟩:=jm a (W4 1) j;have s:=up.of (p:=(au h.q 1).2.1) a.ker ω ⟨G,by have:(au h.q 1).2.1+1<=(h.G.F.R.J.length:Nat):=H;omega⟩ (J _ ω ω);split
 ·rename_i n
  rw[s.no n];obtain⟨d,b⟩:=a.tEq (ml a.ker ω) (tEq.refl _);exact⟨λ_=>d,λe=>absurd e (by show ¬(0:Int)<=-1;decide),b,rfl,rfl⟩
 rename_i n;have o:(newK h.G (au h.q 1).2.1).2=true:=by simpa using n
 have w:up h.G (au h.q 1).2.1 ((newK h.G (au h.q 1).2.1).1,true):=by rw[<-o];exact s
 have d:=a.addS (c:=c) ⟨ω,ω⟩ j w;have b:JK h (qr h c):=JK.addS w;obtain⟨K,A⟩:=AW (Fi (au h.q 1).2.1) h.M ⟨(au h.q 1).2.1,c,0⟩;unfold pH;split
 ·exact⟨λ_=>d,λe=>absurd e (by show ¬(0:Int)<=-1;decide),b,rfl,rfl⟩
 refine Q5.slot (h':=qr h c) (i:=pN h) d K ω (by show(nth (iZ (Fi (au h.q 1).2.1) h.M ⟨(au h.q 1).2.1,c,0⟩) (pN h)).b=_;unfold pN;rw[A]) b ?_ rfl rfl;show fJ (qr h c) (nth (iZ (Fi (au h.q 1).2.1) h.M ⟨(au h.q 1).2.1,c,0⟩) (pN h)).Q=false;unfold pN;rw[A,b.pg];rw[<-C5];intro k;unfold fJ at k;simp only[I0,X5,C0]at k;obtain⟨-,⟨y,L,M⟩,⟨z,N,O⟩⟩:=a.job k.1;rcases k.2 with e|e
 ·exact u _ (W4 _) ω (by rw[e,<-M];exact dx L)
 exact u _ (W4 _) ω (by rw[e,<-O];exact dx N)
def gL(size:Int):Nat:=((size+15) / 16).toNat
def d7(h:ab)(size:Int):ah × Nat:=newsK h.G (au h.q (gL size:Nat)).2.1 (gL size)
def largeA(h:ab)(t size:Int):ab × Int × Int:=
 if(au h.q (gL size:Nat)).2.2=false then(h,-1,4)
 else if(d7 h size).2=gL size then(addL h (d7 h size).1 (au h.q (gL size:Nat)).1 (au h.q (gL size:Nat)).2.1 (gL size:Nat) size t,16*(au h.q (gL size:Nat)).2.1,0)
 else({h with G:=unmN (d7 h size).1 (au h.q (gL size:Nat)).2.1 (d7 h size).2},-1,4)
def sj(xs:List br):Nat->Int
 | 0=>0
 | i+1=>sj xs i+(nth xs i).o
def so(h:ab):Int:=sj h.O h.O.length
def allocH(h:ab)(t size:Int):ab × Int × Int:=
 if 1000000<=h.a\/90000<h.G.Calls then(h,-1,5)
 else if ¬(0<=t/\t<=h.T.length - 1) then(h,-1,1)
 else if ¬(1<=size/\size<=1000) then(h,-1,2)
 else if h.c3<so h+size then(h,-1,3)
 else if 0<=aI size then(if(smallA h t.toNat (aI size).toNat).2<0 then((smallA h t.toNat (aI size).toNat).1,-1,4) else(addO (smallA h t.toNat (aI size).toNat).1 (smallA h t.toNat (aI size).toNat).2 size t,(smallA h t.toNat (aI size).toNat).2,0))
 else largeA h t size
theorem yH{h:ab}{t size:Int}(a:aV h [])(g:9<=size/\size<=1000)(i:h.a<1000000)(j:h.G.Calls<=90000)(k:0<=t/\t<=h.T.length - 1):aV (largeA h t size).1 []/\JK h (largeA h t size).1:=by
 have l:(gL size:Int)=(size+15) / 16:=by unfold gL;omega
 unfold largeA;split
 ·exact⟨a,JK.refl h⟩
 rename_i o;have b:(au h.q (gL size:Nat)).2.2=true:=by simpa using o
 obtain⟨c,d,e,w⟩:=jm a (show(1:Int)<=(gL size:Nat) by omega) b;have s:=lf.of (p:=(au h.q (gL size:Nat)).2.1) (n:=gL size) a.ker ω ⟨c,d⟩ e (gL size) (W2 _);split
 ·rename_i q
  have f:lf h.G (au h.q (gL size:Nat)).2.1 (gL size) ((d7 h size).1,gL size):=by
   have:((d7 h size).1,gL size)=d7 h size:=by rw[<-q]
   rw[this];exact s
  exact⟨a.addL g l b f i k,JK.addL f⟩
 obtain⟨r,u⟩:=s.undo a.ker ⟨c,d⟩ e;exact a.tEq r u
theorem zA{h:ab}{t size:Int}(a:aV h []):aV (allocH h t size).1 []/\JK h (allocH h t size).1:=by
 unfold allocH;split
 ·exact⟨a,JK.refl h⟩
 rename_i d;rw[not_or]at d;split
 ·exact⟨a,JK.refl h⟩
 rename_i n;split
 ·exact⟨a,JK.refl h⟩
 rename_i o;split
 ·exact⟨a,JK.refl h⟩
 split
 ·rename_i b
  have f:aI size<=3:=by unfold aI;repeat' split<;>omega
  have s:=sP (t:=t.toNat) (c:=(aI size).toNat) a ω ω ω;generalize smallA h t.toNat (aI size).toNat=r at s;split
  ·rename_i e;exact⟨s.no e,s.jk⟩
  rename_i e;obtain⟨g,i⟩:=s.yes ω;refine⟨g.addO (.inl ?_) (by rw[s.nx];omega) (by rw[s.cl];omega),s.jk.trans (JK.eq rfl rfl rfl rfl)⟩;obtain⟨z,j,k,p⟩:=i;exact⟨z,j,k,by show z.b=aI size;omega⟩
 rename_i b;have l:9<=size:=by
  unfold aI at b
  repeat' split at b<;>omega
 exact yH a ⟨l,ω⟩ ω ω ω
theorem jY{α β:Type}[Inhabited α]{f:α->β}{xs:List α}{i:Nat}{y:α}(a:i<xs.length)(e:f y=f (nth xs i)):(xs.set i y).map f=xs.map f:=by
 rw[W5];refine List.ext_getElem (by simp) λj b c=>?_
 rw[List.getElem_set];split
 ·rename_i g;subst g
  rw[List.getElem_map,e,bc (W1 a)]
 rfl
theorem ns{α β:Type}[Inhabited α](f:α->List β):∀(xs:List α)(i:Nat)(y:α),i<xs.length->(f y).Sublist (f (nth xs i))->((xs.set i y).flatMap f).Sublist (xs.flatMap f)
 | [],_,_,h,_=>absurd h (Nat.not_lt_zero _)
 | x::xs,0,y,_,a=>by
  rw[List.set_cons_zero,I6,I6];exact List.Sublist.append a (List.Sublist.refl _)
 | x::xs,i+1,y,h,a=>by
  rw[List.set_cons_succ,I6,I6];exact List.Sublist.append (List.Sublist.refl _) (ns f xs i y (by simpa using h) a)
def zK(k:ah)(a:Int):Nat->ah
 | 0=>k
 | m+1=>d3 (zK k a m) (a+m) 0
theorem nP(k:ah)(a:Int):∀m,(zK k a m).F.R=k.F.R/\(zK k a m).Calls=k.Calls/\(zK k a m).y=k.y
 | 0=>⟨rfl,rfl,rfl⟩
 | m+1=>nP k a m
theorem M5{k:ah}(h:a7 k=true){a:Int} : ∀{m:Nat},(∀j:Nat,j<m->(ac k.F.R ((a+j) / 16)).j≠0)->a7 (zK k a m)=true
 | 0,_=>h
 | m+1,b=>uZ (M5 h λj c=>b j ω) (by rw[(nP k a m).1];exact b m ω) ⟨ω,ω⟩
theorem Ff{h:ab}{E:List Int}(j:aV h E){sp:List ax}{la:List a8}{o:List aA}{p:Int}{n:Nat}(y:p+n<=h.G.F.R.J.length)(A:sp.Sublist h.M)(M:∀l∈la,∀q∈lpgs l l.a2.toNat,∃w∈h.K,q∈lpgs w w.a2.toNat)(N:0<=p)(B:∀q,q∈pgs sp la↔q∈pgs h.M h.K/\¬(p<=q/\q<p+n))(O:∀q,RH o q↔RH h.q q\/(p<=q/\q<p+n)) :
  Pg (unmN h.G p n).F.R o sp la:=by
 have b:=(fo h.G p n).1;have d:=ma j.ker N n y;have f:∀q:Nat,(q:Int)∈pgs sp la->nth (unmN h.G p n).F.R.J q=nth (tbl h).J q:=λq c=>by rw[d,C8 ((B q).1 c).2];rfl
 have a:∀q:Nat,(nth (unmN h.G p n).F.R.J q).j≠0↔(nth (tbl h).J q).j≠0/\¬(p<=q/\(q:Int)<p+n):=λq=>by
  rw[d];by_cases e:p<=q/\(q:Int)<p+n
  ·rw[C9 e];exact⟨λx=>absurd rfl x,λx=>absurd e x.2⟩
  rw[C8 e];exact⟨λx=>⟨x,e⟩,λx=>x.1⟩
 refine⟨λl g q c r J C k=>?_,λq c=>?_,λq c=>?_,λq c=>?_,λs g u D F K=>?_⟩
 ·have t:=(a r).1 C
  rw[b]at J;rw[f q (fI g c),d,C8 t.2]at k;obtain⟨w,G,H⟩:=M l g _ c;exact j.pg.one w G q H r J t.1 k
 ·rw[b];exact j.pg.bnd q ((B q).1 c).1
 ·rw[b]at c
  rw[a,B,j.pg.own q c]
 ·rw[b]at c
  rw[a,O,j.pg.fre q c]
  grind
 have i:∀s∈sp,0<=s.Q:=λs g=>(aC (j.L.sok s (A.subset g))).1
 have P:=f s.Q.toNat (by rw[Int.toNat_of_nonneg (i s g)];exact dx g);have Q:=f u.Q.toNat (by rw[Int.toNat_of_nonneg (i u D)];exact dx D);rw[P,Q]at K;exact j.pg.mesh s (A.subset g) u (A.subset D) F K
def trimL(l:a8)(size:Int):a8:=⟨l.Q,(size+15) / 16,size⟩
def dt(l:a8)(size:Int):Nat:=(l.a2 - (size+15) / 16).toNat
theorem aV.trimL{h:ab}{E:List Int}{i k:Nat}{size:Int}(t:aV h E)(T:i<h.O.length)(H:k<h.K.length)(Y:(nth h.O i).Addr=16*(nth h.K k).Q)(N:9<=size/\size<=(nth h.K k).o) :
  ∃o,(dt (nth h.K k) size=0->o=h.q)/\(0<dt (nth h.K k) size->d5 (eM h) h.q ⟨(nth h.K k).Q+(size+15) / 16,(dt (nth h.K k) size:Nat)⟩ = some o)/\
   aV {h with G:=unmN h.G ((nth h.K k).Q+(size+15) / 16) (dt (nth h.K k) size),K:=h.K.set k (trimL (nth h.K k) size),O:=h.O.set i {nth h.O i with o:=size},q:=o} E:=by
 have U:=t.L;have C:=U.lok _ (am H);have hf:=aM C;unfold bE at C;rw[C0]at C;obtain⟨b1,b2⟩:=ss t H;have O:=U.dis;have G:=λj n=>U.one j k n H
 have y:=(am H:nth h.K k∈h.K)
 have d:∀z∈h.K.set k (Ab.trimL (nth h.K k) size),z=Ab.trimL (nth h.K k) size\/∃j,j<h.K.length/\j≠k/\nth h.K j=z:=λz N=>dI N
 have p:Ab.trimL (nth h.K k) size∈h.K.set k (Ab.trimL (nth h.K k) size):=iB _ H;have u:∀j,j<h.K.length->j≠k->nth h.K j∈h.K.set k (Ab.trimL (nth h.K k) size):=λj n e=>jt _ n e
 have hpageM:(h.K.set k (Ab.trimL (nth h.K k) size)).map (·.Q)=h.K.map (·.Q):=jY H rfl;have w:(pgs h.M (h.K.set k (Ab.trimL (nth h.K k) size))).Sublist (pgs h.M h.K):=by
  unfold pgs;refine List.Sublist.append (List.Sublist.refl _) (ns _ _ _ _ H ?_);unfold lpgs;exact(List.range_sublist.2 (by simp only[Ab.trimL];omega)).map _
 obtain⟨l,V⟩ : ∃l,nth h.K k=l:=⟨_,rfl⟩
 rw[V]at C hf b1 b2 G y d p u hpageM w Y N |-;generalize hla:h.K.set k (Ab.trimL l size)=la at d p u hpageM w |-;have hn1:(1:Int)<=(size+15) / 16/\(size+15) / 16+(dt l size:Nat)=l.a2:=by unfold dt;omega
 have D:∀q,q∈lpgs l l.a2.toNat↔l.Q<=q/\q<l.Q+l.a2:=λq=>by
  rw[dm];constructor
  ·rintro⟨j,n,rfl⟩;omega
  rintro⟨Z,q2⟩;exact⟨(q - l.Q).toNat,ω,ω⟩
 have J:∀q,q∈lpgs (Ab.trimL l size) (Ab.trimL l size).a2.toNat↔l.Q<=q/\q<l.Q+(size+15) / 16:=λq=>by
  rw[dm];simp only[Ab.trimL];constructor
  ·rintro⟨j,n,rfl⟩;omega
  rintro⟨Z,q2⟩;exact⟨(q - l.Q).toNat,ω,ω⟩
 have hpe:l.Q+(size+15) / 16+(dt l size:Nat)=l.Q+l.a2:=ω
 have P:∀q,q∈pgs h.M la↔q∈pgs h.M h.K/\¬(l.Q+(size+15) / 16<=q/\q<l.Q+(size+15) / 16+(dt l size:Nat)):=λq=>by
  rw[oM,oM,hpe];constructor
  ·rintro(⟨s,W,rfl⟩|⟨z,c,B⟩)
   ·exact⟨.inl ⟨s,W,rfl⟩,λe=>O s W l y (s.Q - l.Q).toNat ω ω⟩
   rcases d z c with rfl|⟨j,n,hjk,rfl⟩
   ·have:=(J q).1 B
    exact⟨.inr ⟨l,y,(D q).2 ⟨ω,ω⟩⟩,ω⟩
   refine⟨.inr ⟨_,am n,B⟩,λe=>?_⟩;obtain⟨m,hm,rfl⟩:=dm.1 B;exact hjk (G j n m ((nth h.K j).Q+(m:Int) - l.Q).toNat hm ω ω)
  rintro⟨⟨s,W,rfl⟩|⟨z,c,B⟩,hne⟩
  ·exact .inl ⟨s,W,rfl⟩
  obtain⟨j,n,rfl⟩:=aJ c;by_cases e:j=k
  ·subst e
   rw[V]at B;have:=(D q).1 B;exact .inr ⟨_,p,(J q).2 ⟨ω,ω⟩⟩
  exact .inr ⟨_,u j n e,B⟩
 have K:∃o,(dt l size=0->o=h.q)/\(0<dt l size->d5 (eM h) h.q ⟨l.Q+(size+15) / 16,(dt l size:Nat)⟩ = some o)/\b9 (eM h) o=true/\∀q,RH o q↔RH h.q q\/(l.Q+(size+15) / 16<=q/\q<l.Q+(size+15) / 16+(dt l size:Nat)):=by
  by_cases e:dt l size=0
  ·refine⟨h.q,λ_=>rfl,λg=>absurd g ω,t.rng,λq=>⟨.inl,λg=>g.resolve_right ω⟩⟩
  obtain⟨o,o1,o2,o3⟩:=tX (r:=⟨l.Q+(size+15) / 16,(dt l size:Nat)⟩) t.rng ⟨by simp only;omega,by simp only;omega,by show l.Q+(size+15) / 16+(dt l size:Nat)<=(eM h:Int);have:((tbl h).J.length:Int)=(eM h:Int):=rfl;omega⟩ λq Z q2=>by
   simp only at Z q2;obtain⟨m,rfl⟩:=R2 (show 0<=q by omega);have Q:m<(tbl h).J.length:=ω
   exact(t.pg.fre m Q).1 ((t.pg.own m Q).2 (fI y ((D _).2 ⟨ω,ω⟩)))
  exact⟨o,λg=>absurd g e,λ_=>o1,o2,o3⟩
 obtain⟨o,o0,o1,o2,o3⟩:=K;have R:=(fo h.G (l.Q+(size+15) / 16) (dt l size)).1;have M:∀z∈h.O.set i {nth h.O i with o:=size},z = {nth h.O i with o:=size}\/∃j,j<h.O.length/\j≠i/\nth h.O j=z:=λz N=>dI N
 have F:(h.O.set i {nth h.O i with o:=size}).map (·.Addr)=h.O.map (·.Addr):=jY T rfl;have S:(h.O.set i {nth h.O i with o:=size}).map (·.Id)=h.O.map (·.Id):=jY T rfl;have hli:=(am T:nth h.O i∈h.O)
 generalize h.O.set i {nth h.O i with o:=size} = ob at M F S |-;refine⟨o,o0,o1,{t with
   ker:=iM t.ker _ _
   rng:=by show b9 (((unmN h.G (l.Q+(size+15) / 16) (dt l size)).F.R.J.length:Nat):Int) o=true;rw[R];exact o2
   lay:=?_
   srl:=?_
   pg:=Ff t (by have:((tbl h).J.length:Int)=(h.G.F.R.J.length:Int):=rfl;omega) (List.Sublist.refl _) (λz c q B=>?_) ω P o3
   osr:=?_
   onu:=λz c=>?_
   oid:=by show(ob.map (·.Id)).Nodup;rw[S];exact t.oid
   oow:=λz c=>?_
   nd:=?_
   mem:=λb=>?_}⟩
 ·obtain⟨l1,l2,l3⟩:=du t.lay
  unfold bk;simp only[I0,C0];refine⟨⟨l1,W3.2 λz c=>?_⟩,l3.sublist w⟩;rcases d z c with rfl|⟨j,n,-,rfl⟩
  ·exact O0 ⟨N.1,by show size<=1000;omega,rfl,by show 0<=l.Q;omega,by show l.Q<=32 - (size+15) / 16;omega⟩
  exact U.lok _ (am n)
 ·have A:(h.K.map (·.Q)).Pairwise (λa b=>a<b):=List.pairwise_map.2 t.srl
  rw[<-hpageM]at A;exact List.pairwise_map.1 A
 ·rcases d z c with rfl|⟨j,n,-,rfl⟩
  ·have:=(J q).1 B
   exact⟨l,y,(D q).2 ⟨ω,ω⟩⟩
  exact⟨_,am n,B⟩
 ·have A:(h.O.map (·.Addr)).Pairwise (λa b=>a<b):=List.pairwise_map.2 t.osr
  rw[<-F]at A;exact List.pairwise_map.1 A
 ·rcases M z c with rfl|⟨j,n,-,rfl⟩
  ·exact t.onu (nth h.O i) hli
  exact t.onu _ (am n)
 ·rcases M z c with rfl|⟨j,n,hji,rfl⟩
  ·exact .inr ⟨_,p,Y,rfl⟩
  rcases t.oow _ (am n) with A|⟨l',hl',e1,X⟩
  ·exact .inl A
  obtain⟨m,hm,rfl⟩:=aJ hl';by_cases e:m=k
  ·subst e
   rw[V]at e1;exact absurd (cE (f:=(·.Addr)) (cN t.osr) n T (e1.trans Y.symm)) hji
  exact .inr ⟨_,u m hm e,e1,X⟩
 ·have hh:holders {h with G:=unmN h.G (l.Q+(size+15) / 16) (dt l size),K:=la,O:=ob,q:=o} = holders h:=by
   show((ob.map (·.Addr)++cy h)++h.a6.a5.map (·.Addr))++aL h.w=_;rw[F];rfl
  rw[hh];exact t.nd
 have hh:holders {h with G:=unmN h.G (l.Q+(size+15) / 16) (dt l size),K:=la,O:=ob,q:=o} = holders h:=by
  show((ob.map (·.Addr)++cy h)++h.a6.a5.map (·.Addr))++aL h.w=_;rw[F];rfl
 rw[hh,t.mem b];show mb h.M h.K b↔mb h.M la b;unfold mb;constructor
 ·rintro(A|⟨z,c,e⟩)
  ·exact .inl A
  obtain⟨j,n,rfl⟩:=aJ c;by_cases X:j=k
  ·subst X
   rw[V]at e;exact .inr ⟨_,p,e⟩
  exact .inr ⟨_,u j n X,e⟩
 rintro(A|⟨z,c,e⟩)
 ·exact .inl A
 rcases d z c with rfl|⟨j,n,-,rfl⟩
 ·exact .inr ⟨l,y,e⟩
 exact .inr ⟨_,am n,e⟩
def jR(h:ab)(k:Nat)(size:Int):ah:=zK h.G (16*(nth h.K k).Q+size) (16*((size+15) / 16) - size).toNat
def GT(h:ab)(k:Nat)(size:Int):List aA:=if 0<dt (nth h.K k) size then(d5 (eM h) h.q ⟨(nth h.K k).Q+(size+15) / 16,(dt (nth h.K k) size:Nat)⟩).getD h.q else h.q
def trimH(h:ab)(i k:Nat)(size:Int):ab:={h with G:=unmN (jR h k size) ((nth h.K k).Q+(size+15) / 16) (dt (nth h.K k) size),K:=h.K.set k (trimL (nth h.K k) size),O:=h.O.set i {nth h.O i with o:=size},q:=GT h k size}
theorem jF{h:ab}{E:List Int}(b:aV h E){k:Nat}(c:k<h.K.length){a:Int}(g:16*(nth h.K k).Q<=a/\a<16*(nth h.K k).Q+16*(nth h.K k).a2):(ac h.G.F.R (a / 16)).j≠0:=by
 obtain⟨i,j⟩:=ss b c;have l:=aM (b.L.lok _ (am c));have d:(a / 16)∈pgs h.M h.K:=fI (am c) (dm.2 ⟨(a / 16 - (nth h.K k).Q).toNat,ω,ω⟩);have e:=b.pg.bnd _ d;have f:=(b.pg.own (a / 16).toNat ω).2 (by rw[show(((a / 16).toNat:Nat):Int)=a / 16 by omega];exact d);unfold ac;rw[C9 ⟨ω,e⟩];exact f
theorem vB{h:ab}{E:List Int}(b:aV h E){k:Nat}(c:k<h.K.length){size:Int}(d:9<=size/\size<=(nth h.K k).o):∀{m:Nat},m<=(16*((size+15) / 16) - size).toNat->a7 (zK h.G (16*(nth h.K k).Q+size) m)=true:=fun {m} hm=>by
 have a:=b.L.lok _ (am c);unfold bE at a;rw[C0]at a;exact M5 b.ker λj e=>jF b c ⟨ω,ω⟩
theorem aV.trimH{h:ab}{i k:Nat}{size:Int}(d:aV h [])(A:i<h.O.length)(f:k<h.K.length)(B:(nth h.O i).Addr=16*(nth h.K k).Q)(r:9<=size/\size<=(nth h.K k).o):aV (trimH h i k size) []/\JK h (trimH h i k size):=by
 have t:=vB d f r (W2 _);have l:=(nP h.G (16*(nth h.K k).Q+size) (16*((size+15) / 16) - size).toNat).1;have C:=d.cells t l;obtain⟨o,u,w,y⟩:=C.trimL (i:=i) (k:=k) (size:=size) A f B r;simp only at u w y;have n:eM {h with G:=zK h.G (16*(nth h.K k).Q+size) (16*((size+15) / 16) - size).toNat} = eM h:=by
  unfold eM;simp only[l]
 have D:GT h k size=o:=by
  unfold GT;split
  ·rename_i g;have:=w g;rw[n]at this;rw[this];rfl
  exact(u ω).symm
 have E:Ab.trimH h i k size = {h with G:=unmN (jR h k size) ((nth h.K k).Q+(size+15) / 16) (dt (nth h.K k) size),K:=h.K.set k (Ab.trimL (nth h.K k) size),O:=h.O.set i {nth h.O i with o:=size},q:=o}:=by unfold Ab.trimH;rw[D]
 refine⟨by rw[E];exact y,JK.less rfl rfl rfl λq j=>?_⟩;have a:=d.L.lok _ (am f);unfold bE at a;rw[C0]at a;obtain⟨F,G⟩:=ss d f;have b:(jR h k size).F.R=h.G.F.R:=l;have c:=ma (k:=jR h k size) t (p:=(nth h.K k).Q+(size+15) / 16) ω (dt (nth h.K k) size) (by rw[b];have:((tbl h).J.length:Int)=(h.G.F.R.J.length:Int):=rfl;unfold dt;omega) q;change (nth (unmN (jR h k size) ((nth h.K k).Q+(size+15) / 16) (dt (nth h.K k) size)).F.R.J q).j≠0 at j;show nth (unmN (jR h k size) ((nth h.K k).Q+(size+15) / 16) (dt (nth h.K k) size)).F.R.J q=nth h.G.F.R.J q;rw[c]at j |-;split at j
 ·exact absurd rfl j
 rename_i e;rw[C8 e,b]
theorem Ga{t:Nat}(h:1<=t/\t<=4):bJ (dN t)=true:=by
 have f:∀n,n<=t->bu (dN t) n=0:=λn=>by
  induction n with
  | zero=>intro _;rfl
  | succ n g=>
   intro j;have a:nth (dN t).U n=[]:=cJ ω;have b:nth (dN t).a0 n=[]:=cJ ω;simp only[bu,g ω,a,b,List.length_nil]
   decide
 have e:(dN t).U.length=t:=R3 ..;refine d6.2 ⟨⟨ω,ω,by simp[dN]⟩,λi c=>?_,by rw[e,f t (W2 _)];omega⟩;rw[e]at c;have a:nth (dN t).U i=[]:=cJ c;have b:nth (dN t).a0 i=[]:=cJ c;rw[a,b];exact⟨λp d=>(by cases d),λp d=>(by cases d)⟩
theorem tA(t:Nat):aL (dN t)=[]:=by
 unfold aL;split
 ·simp[dN]
 rfl
def qj(k:ah)(t:Nat)(sd ck lim:Int):ab:=⟨k,[⟨0,(k.F.R.J.length:Nat)⟩],[],[],[],List.replicate t fw,dN t,⟨16,[]⟩,sd,ck,lim,1,false,⟨⟨0,0,[]⟩,0,0⟩⟩
theorem B8:bw fw=true:=by decide
theorem aV.fresh{k:ah}{t:Nat}{lim sd ck:Int}(A:a7 k=true)(B:∀q,q<k.F.R.J.length->(nth k.F.R.J q).j=0)(E:1<=t/\t<=4)(g:0<=lim/\lim<=1000)(h:0<=sd/\sd<=1073741823)(d:0<=ck/\ck<=1000000):aV (qj k t sd ck lim) []:=by
 obtain⟨G,H,J⟩:=bx.1 (aD.1 A).2.2.1;have hca:cy (qj k t sd ck lim)=[]:=by
  unfold cy;refine List.flatMap_eq_nil_iff.2 λc d=>?_
  rw[(List.mem_replicate.1 d).2]
  rfl
 have C:holders (qj k t sd ck lim)=[]:=by
  unfold holders;rw[hca];show(([]++[])++[])++aL (dN t)=[];rw[tA];rfl
 have i:∀a,¬mb (qj k t sd ck lim).M (qj k t sd ck lim).K a:=λa=>by
  rintro(⟨s,h,-⟩|⟨l,g,-⟩)
  ·cases h
  cases g
 exact {
   ker:=A
   rng:=fA.2 ⟨⟨List.pairwise_singleton ..,λy n=>by rw[C1.1 n];show(1:Int)<=(k.F.R.J.length:Nat);omega⟩,λy n=>by
       rw[C1.1 n];refine⟨W4 _,by show(1:Int)<=(k.F.R.J.length:Nat);omega,?_⟩;show(0:Int)+(k.F.R.J.length:Nat)<=(k.F.R.J.length:Nat);omega,by show(1:Int)<=(k.F.R.J.length:Nat);omega,by show((k.F.R.J.length:Nat):Int)<=32;omega⟩
   lay:=by show bk [] []=true;decide
   srs:=List.Pairwise.nil
   srl:=List.Pairwise.nil
   pg:=⟨λl g=>(by cases g),λp f=>(by cases f),λp f=>⟨λe=>absurd (B p f) e,λe=>by cases e⟩,λp f=>⟨λe=>absurd (B p f) e,λe=>absurd ⟨_,C1.2 rfl,by show(0:Int)<=p;omega,by
       show(p:Int)<0+(k.F.R.J.length:Nat);have F:p<k.F.R.J.length:=f;omega⟩ e⟩,λs h=>by cases h⟩
   mail:=Ga E
   nc:=by show(List.replicate t fw).length=(List.replicate t _).length;simp
   quar:=by show fT ⟨16,[]⟩ = true;decide
   snc:=λx r=>by cases r
   cach:=λc d=>by rw[(List.mem_replicate.1 d).2];exact B8
   nums:=by unfold cg;rw[C0];simp only[qj];omega
   osr:=List.Pairwise.nil
   onu:=λo u=>by cases u
   oid:=List.nodup_nil
   oow:=λo u=>by cases u
   hca:=λc d j D a b=>by
     rw[(List.mem_replicate.1 d).2]at D b;have w:j<4:=D;have:nth fw.d j=[]:=cJ w;rw[this]at b;cases b
   hqu:=λx r=>by cases r
   hfl:=λa b=>by
     have:aL (dN t)=[]:=tA t;change a∈aL (dN t) at b;rw[this]at b;cases b
   hin:=λa b=>by cases b
   nd:=by rw[C];exact List.nodup_nil
   mem:=λa=>by rw[C];exact⟨λe=>(by cases e),λe=>absurd e (i a)⟩
   job:=λe=>by cases e
   noj:=λ_=>by show qO ⟨⟨0,0,[]⟩,0,0⟩ = true;decide}
theorem JI.no{h:ab}(a:h.u=false):JI h:=⟨λe=>(by rw[a]at e;cases e),λe=>(by rw[a]at e;cases e),λe=>(by rw[a]at e;cases e),λe=>(by rw[a]at e;cases e)⟩
theorem p9{p f:Nat}{a:List Int}(d:1<=p/\p<=32)(e:1<=f/\f<=32)(b:a.length<=40/\∀x∈a,0<=x):a7 (bF p f a)=true:=by
 obtain⟨-,g,h,i,c⟩:=aD.1 (AG d e);exact aD.2 ⟨λj k=>b.2 _ (am k),g,h,i,c.1,c.2.1,b.1⟩
theorem Dx{p f t:Nat}{lim:Int}{a:List Int}(c:1<=p/\p<=32)(d:1<=f/\f<=32)(g:1<=t/\t<=4)(i:0<=lim/\lim<=1000)(j:a.length<=40/\∀x∈a,0<=x):aV (newHeap p f t lim a) []:=by
 have h:=aV.fresh (k:=bF p f a) (t:=t) (lim:=lim) (sd:=0) (ck:=0) (p9 c d j) (λq l=>by
   have b:q<p:=by simpa[bF,eB] using l
   rw[show nth (bF p f a).F.R.J q = ⟨0,0⟩ from cJ b]) g i ω ω
 have e:(bF p f a).F.R.J.length=p:=by simp[bF,eB]
 unfold qj at h;rw[e]at h;exact h
structure eg where
 b6:Int
 a3:Int
 N:Int
 At:Int
 Value:Int
deriving DecidableEq,Inhabited
def eg.enc(_:dK)(x:eg):List C:=[I x.b6,I x.a3,I x.N,I x.At,I x.Value]
def mR(id:Int)(o:bp):Bool:=decide (o.Id=id)
def nA(r:ay)(id:Int):Int:=dD (mR id) r.O
def iv(r:ay)(n:Int):ay:=if 1<=n/\n<=1000 then {r with a:=r.a+1,O:=r.O++[⟨r.a,List.replicate n.toNat 0⟩]} else r
def jl(r:ay)(id:Int):ay:=if nA r id<0 then r else {r with O:=dele r.O (nA r id).toNat}
def dR(r:ay)(id at_ v:Int):ay:=if 0<=nA r id/\(0<=at_/\at_<=(nth r.O (nA r id).toNat).S.length - 1)/\0<=v/\v<=999 then {r with O:=r.O.set (nA r id).toNat ⟨(nth r.O (nA r id).toNat).Id,(nth r.O (nA r id).toNat).S.set at_.toNat v⟩} else r
def fg(r:ay)(id n:Int):ay:=if 0<=nA r id/\1<=n/\n<=(nth r.O (nA r id).toNat).S.length then {r with O:=r.O.set (nA r id).toNat ⟨(nth r.O (nA r id).toNat).Id,(nth r.O (nA r id).toNat).S.take n.toNat⟩} else r
structure rS(r:ay)(m:Nat):Prop where
 len:r.O.length<=m
 cel:∀o∈r.O,o.S.length<=1000
 nx:0<=r.a/\r.a<=m+1
theorem rS.more{r:ay}{m n:Nat}(h:rS r m)(a:m<=n):rS r n:=⟨by have:=h.len;omega,h.cel,h.nx.1,by have:=h.nx.2;omega⟩
theorem rS.sml{r:ay}{m:Nat}(h:rS r m)(b:m<=1000):ay.sml r:=⟨by have:=h.len;omega,λo a=>by have:=h.cel o a;show o.S.length<=1048576;omega⟩
theorem rS.alloc{r:ay}{m:Nat}(h:rS r m)(n:Int):rS (iv r n) (m+1):=by
 unfold iv;split
 ·refine⟨by have:=h.len;simp only[Z2,List.length_singleton];omega,λo a=>?_,by have:=h.nx.1;simp only;omega,by have:=h.nx.2;simp only;omega⟩
  rcases U2.1 a with a|a
  ·exact h.cel o a
  rw[C1.1 a];simp only[R3];omega
 exact h.more ω
theorem rS.free{r:ay}{m:Nat}(h:rS r m)(id:Int):rS (jl r id) m:=by
 unfold jl;split
 ·exact h
 have a:=fk r.O (nA r id).toNat;exact⟨V4 a.length_le h.len,λo b=>h.cel o (a.subset b),h.nx⟩
theorem rS.set{r:ay}{m i:Nat}{x:bp}(h:rS r m)(b:x.S.length<=1000):rS {r with O:=r.O.set i x} m:=
 ⟨by simp only[I1];exact h.len,λo a=>by
   rcases Z5 a with a|rfl
   · exact h.cel o a
   exact b,h.nx⟩
theorem fx{α:Type}[Inhabited α](p:α->Bool)(xs:List α)(h:0<=dD p xs):(dD p xs).toNat<xs.length/\p (nth xs (dD p xs).toNat)=true/\dD p xs=((dD p xs).toNat:Nat):=by
 rcases oe p xs with e|⟨n,a,e,b⟩
 ·omega
 rw[e,O2];exact⟨a,b,rfl⟩
theorem rS.store{r:ay}{m:Nat}(h:rS r m)(id a v:Int):rS (dR r id a v) m:=by
 unfold dR;split
 ·rename_i e
  refine h.set ?_;simp only[I1];exact h.cel (nth r.O (nA r id).toNat) (am (fx _ _ e.1).1)
 exact h
theorem rS.trim{r:ay}{m:Nat}(h:rS r m)(id n:Int):rS (fg r id n) m:=by
 unfold fg;split
 ·rename_i e
  refine h.set ?_;have:=h.cel (nth r.O (nA r id).toNat) (am (fx _ _ e.1).1);simp only[O1];omega
 exact h
def KX(id:Int)(o:br):Bool:=decide (o.Id=id)
def pF(h:ab)(id:Int):Int:=dD (KX id) h.O
def Gr(a:Int)(l:a8):Bool:=decide (l.Q*16=a)
def yk(h:ab)(a:Int):Int:=dD (Gr a) h.K
def mu(h:ab)(a:eg):Prop:=0<=a.a3/\a.a3<=h.T.length - 1
instance (h:ab) (a:eg):Decidable (mu h a):=by unfold mu;infer_instance
def rA(w:bj)(a:eg)(i:Nat):bj × Int:=
 if w.Z.G.Calls=100000 then(w,6)
 else if mu w.Z a then(⟨(freeT w.Z a.a3.toNat i).1,if(freeT w.Z a.a3.toNat i).2=0 then jl w.b3 (nth w.Z.O i).Id else w.b3⟩,(freeT w.Z a.a3.toNat i).2)
 else(w,1)
def nU(w:bj)(a:eg)(i:Nat):bj × Int:=
 if ¬(0<=a.At/\a.At<=(nth w.Z.O i).o - 1) then(w,90)
 else if(ac w.Z.G.F.R (((nth w.Z.O i).Addr+a.At) / 16)).j=1 then(w,2)
 else if ¬(0<=a.Value/\a.Value<=999) then(w,3)
 else(⟨{w.Z with G:=d3 w.Z.G ((nth w.Z.O i).Addr+a.At) a.Value},dR w.b3 (nth w.Z.O i).Id a.At a.Value⟩,0)
def kR(h:ab)(i:Nat)(n:Int):Prop:=0<=yk h (nth h.O i).Addr/\9<=n/\n<=(nth h.K (yk h (nth h.O i).Addr).toNat).o
instance (h:ab) (i:Nat) (n:Int):Decidable (kR h i n):=by unfold kR;infer_instance
def r7(w:bj)(a:eg)(i:Nat):bj × Int:=
 if w.Z.G.Calls≠100000/\kR w.Z i a.Value then(⟨trimH w.Z i (yk w.Z (nth w.Z.O i).Addr).toNat a.Value,fg w.b3 (nth w.Z.O i).Id a.Value⟩,0) else(w,90)
def mH(w:bj)(a:eg)(i:Nat):bj × Int:=if a.b6=2 then rA w a i else if a.b6=3 then nU w a i else r7 w a i
def fL(h:ab)(a:eg):ab × Int:=
 if a.b6=5 then(if mu h a/\0<(nth h.w.U a.a3.toNat).length then({h with w:=fC h.w a.a3.toNat},0) else(h,90))
 else if ¬(h.G.Calls≠100000/\mu h a) then(h,0)
 else if a.b6=6 then(collect h a.a3.toNat,((nth h.w.a0 a.a3.toNat).length:Nat))
 else((flushN a.a3.toNat h 4).1,((flushN a.a3.toNat h 4).2:Nat))
def oW(h:ab)(n:Int):ab × Int:=if h.G.Calls≠100000/\(0<=n/\n<=1000)/\h.b5+n<=1000000 then(tick h n,((mS h n).length:Nat)) else(h,0)
def sQ(h:ab):Bool:=h.u&&decide (h.G.Calls<=99000)
def stN(h:ab):Nat->ab × Nat
 | 0=>(h,0)
 | i+1=>if sQ (stN h i).1=true then(mStep (stN h i).1,(stN h i).2+1) else stN h i
def pb(h:ab):ab × Int:=if h.u=true then(h,90) else((started h).1,if(started h).2=true then 0 else 90)
def oc(w:bj)(a:eg):bj × Int:=
 if a.b6=1 then(⟨(allocH w.Z a.a3 a.N).1,if(allocH w.Z a.a3 a.N).2.2=0 then iv w.b3 a.N else w.b3⟩,(allocH w.Z a.a3 a.N).2.2)
 else if a.b6=2\/a.b6=3\/a.b6=4 then(if pF w.Z a.N<0 then(w,90) else mH w a (pF w.Z a.N).toNat)
 else if a.b6=5\/a.b6=6\/a.b6=7 then(⟨(fL w.Z a).1,w.b3⟩,(fL w.Z a).2)
 else if a.b6=8 then(⟨(oW w.Z a.N).1,w.b3⟩,(oW w.Z a.N).2)
 else if a.b6=9 then(⟨(pb w.Z).1,w.b3⟩,(pb w.Z).2)
 else if a.b6=10/\0<=a.N/\a.N<=50 then(⟨(stN w.Z a.N.toNat).1,w.b3⟩,((stN w.Z a.N.toNat).2:Nat))
 else(w,90)
structure qA(w:bj)(m:Nat):Prop where
 inv:aV w.Z []
 ji:JI w.Z
 ref:rS w.b3 m
theorem qA.more{w:bj}{m n:Nat}(h:qA w m)(a:m<=n):qA w n:=⟨h.inv,h.ji,h.ref.more a⟩
theorem qA.jk{w:bj}{m:Nat}(h:qA w m){g:ab}{r:ay}(a:aV g []/\JK w.Z g)(b:rS r m):qA ⟨g,r⟩ m:=⟨a.1,h.ji.keep a.1 a.2,b⟩
theorem cG{h:ab}{E:List Int}(a:aV h E){o:br}(p:o∈h.O){k:Int}(D:0<=k/\k<=o.o - 1):(ac h.G.F.R ((o.Addr+k) / 16)).j≠0/\0<=o.Addr/\o.Addr+k<512:=by
 rcases a.oow o p with⟨s,g,q,r⟩|⟨l,i,F,G⟩
 ·have b:=a.L.sok s g
  have t:=aC b;obtain⟨u,w,y⟩:=a.mapped g;have d:=bM t.2.2;obtain⟨H,J,A,-⟩:=q;have f:o.o<=csz s.b:=by
   have K:=gf (n:=o.o) ω;rw[r];have:o.o=1\/o.o=2\/o.o=3\/o.o=4\/o.o=5\/o.o=6\/o.o=7\/o.o=8:=ω
   rcases this with e|e|e|e|e|e|e|e<;>rw[e]<;>decide
  have B:(o.Addr+k) / 16=s.Q:=by
   rcases d with e|e|e|e<;>rw[e]at A f<;>omega
  rw[B];refine⟨?_,ω,ω⟩;unfold ac;rw[C9 ⟨u,w⟩];exact y
 obtain⟨j,C,rfl⟩:=aJ i;have c:=a.L.lok _ i;unfold bE at c;rw[C0]at c;exact⟨jF a C ⟨ω,ω⟩,ω,ω⟩
theorem qA.obj{w:bj}{m:Nat}(h:qA w m)(a:eg){i:Nat}(b:i<w.Z.O.length):qA (mH w a i).1 m:=by
 unfold mH;split
 ·unfold rA
  split
  ·exact h
  split
  ·rename_i d
   unfold mu at d;refine h.jk (h.inv.freeT b ω) ?_;split
   ·exact h.ref.free _
   exact h.ref
  exact h
 split
 ·unfold nU
  split
  ·exact h
  rename_i l;split
  ·exact h
  split
  ·exact h
  rename_i n;exact h.jk (h.inv.store (cG h.inv (am b) ω).1 ω) (h.ref.store _ _ _)
 unfold r7;split
 ·rename_i e
  obtain⟨-,f,g⟩:=e;obtain⟨j,k,o⟩:=fx _ _ f;have c:=of_decide_eq_true k;exact h.jk (h.inv.trimH b j (c.symm.trans (Int.mul_comm _ _)) g) (h.ref.trim _ _)
 exact h
theorem qA.thread{w:bj}{m:Nat}(h:qA w m)(a:eg):qA ⟨(fL w.Z a).1,w.b3⟩ m:=by
 unfold fL;split
 ·split
  ·rename_i e
   obtain⟨b,i⟩:=e;unfold mu at b;exact h.jk (g:={w.Z with w:=fC w.Z.w a.a3.toNat}) ⟨h.inv.deliv (by rw[<-h.inv.nc];omega) i,JK.eq rfl rfl rfl rfl⟩ h.ref
  exact h
 split
 ·exact h
 rename_i e;have e:=Classical.not_not.1 e;obtain⟨-,b⟩:=e;unfold mu at b;split
 ·exact h.jk (g:=collect w.Z a.a3.toNat) (h.inv.collect ω) h.ref
 have c:a.a3.toNat<w.Z.T.length:=ω
 have d:=(iY h.inv c (W2 4)).1;have f:=JK.flushN h.inv c (W2 4);generalize flushN a.a3.toNat w.Z 4=r at d f |-;exact h.jk (g:=r.1) ⟨d,f⟩ h.ref
theorem vw{h:ab}(a:aV h [])(b:JI h):∀n,aV (stN h n).1 []/\JI (stN h n).1
 | 0=>⟨a,b⟩
 | n+1=>by
  obtain⟨c,d⟩:=vw a b n;unfold stN;split
  ·rename_i e
   unfold sQ at e;rw[I0]at e;exact c.mStep d e.1
  exact⟨c,d⟩
theorem qA.act{w:bj}{m:Nat}(h:qA w m)(a:eg):qA (oc w a).1 (m+1):=by
 unfold oc;split
 ·have b:=zA (t:=a.a3) (size:=a.N) h.inv
  refine⟨b.1,h.ji.keep b.1 b.2,?_⟩;show rS (if _ then _ else _) (m+1);split
  ·exact h.ref.alloc _
  exact h.ref.more ω
 refine qA.more (m:=m) ?_ ω;split
 ·split
  ·exact h
  rename_i e;exact h.obj a (fx _ _ (by unfold pF at e;omega)).1
 split
 ·exact h.thread a
 split
 ·unfold oW
  split
  ·rename_i e
   exact h.jk (h.inv.tick e.2.1.1 e.2.2) h.ref
  exact h
 split
 ·unfold pb
  split
  ·exact h
  rename_i e;have b:=Fk h.inv (by simpa using e);exact⟨b.1,b.2,h.ref⟩
 split
 ·have b:=vw h.inv h.ji a.N.toNat
  exact⟨b.1,b.2,h.ref⟩
 exact h
structure cF where
 a2:Nat
 V:Nat
 c7:Nat
 c3:Int
 y:List Int
deriving Inhabited
structure Fz(c:cF):Prop where
 p:1<=c.a2/\c.a2<=32
 f:1<=c.V/\c.V<=32
 t:1<=c.c7/\c.c7<=4
 l:0<=c.c3/\c.c3<=1000
 r:c.y.length<=40/\∀x∈c.y,0<=x
def world0(c:cF):bj:=⟨newHeap c.a2 c.V c.c7 c.c3 c.y,{a:=1,O:=[]}⟩
def zZ(c:cF)(acts:List eg):Nat->bj × List Int
 | 0=>(world0 c,[])
 | i+1=>((oc (zZ c acts i).1 (nth acts i)).1,(zZ c acts i).2++[(oc (zZ c acts i).1 (nth acts i)).2])
theorem H9{c:cF}(h:Fz c):qA (world0 c) 0:=
 ⟨Dx h.p h.f h.t h.l h.r,JI.no rfl,⟨W2 _,λo a=>(by cases a),by show(0:Int)<=1;omega,by show(1:Int)<=((0:Nat):Int)+1;omega⟩⟩
theorem vA{c:cF}(h:Fz c)(acts:List eg):∀n,qA (zZ c acts n).1 n
 | 0=>H9 h
 | n+1=>(vA h acts n).act _
def dB(o:dK)(x:List cn):List C:=[.s o (x.map (cn.enc o))]
theorem xe(x:List cn):dP (dB .own x)=dB .X x:=by simp[dP,dB,cn.enc_fz,<-bZ,T5]
theorem wz(x:List cn):gR (dB .own x):=⟨⟨.inl λh=>(by cases h),bf _ _ λy _=>cn.enc_fr y⟩,trivial⟩
theorem Ap.sl{rows b:List (List C)}{r:List C}{sz by_:Nat}{K:List (List C)->Prop}(h1:∀r∈rows,r.length=sz)(c:r.length=sz)(d:rows.length+1<=1073741824)(e:by_<=1000)(a:b=rows++[r])(f:K b):Ap false rows [r] sz by_ K:=
 CT h1 (λg a=>by rw[C1.1 a];exact c) (λh=>by cases h) (by simp;omega) (by
   have h1:(rows.length+[r].length)*by_<=1073741824*1000:=Nat.mul_le_mul (by simpa using d) e;omega) a f
theorem wF{v k:Int}(a:0<=v/\v<=999)(b:0<=k/\k<=1000):0<=k*v/\k*v<=1000000:=by
 have c:0<=k*v:=Int.mul_nonneg b.1 a.1;have d:k*v<=1000*999:=Int.mul_le_mul b.2 a.2 a.1 (by decide);omega
theorem or64{z1 z2:Int}(h1:0<=z1/\z1<=65535)(a:0<=z2/\z2<=65535):IntKind.i64.wrap ((BitVec.ofInt IntKind.i64.bits z1 ||| BitVec.ofInt IntKind.i64.bits z2).toNat:Nat)=bor z1 z2:=by
 rw[BitVec.toNat_or,mP ω,mP ω];have b:=Ke h1 a;unfold bor at b |-;exact eE ω ω
theorem xO(h:ab)(i:Nat)(n:d8 h.M)(d:xD h)(a:∀s∈h.M,bg s=true)(y:i<h.M.length):ar Tryz.prog 482 false [.val (some 24) (ab.enc .X h),.val none [I (i:Nat)]] .one [I (gM h i)]:=by
 have F:=n.1;have G:=ao y;have g:=uV a y;have B:=aF ((i:Nat):Int) 0 ((h.M.length:Int) - 1);rw[O0 (show(0:Int)<=(i:Nat)/\((i:Nat):Int)<=(h.M.length:Int) - 1 by omega)]at B;have C:=gY h (nth h.M i).Q d;have o:=gU h (nth h.M i).Q;have H:eM h<=1048576:=d.1;have c:gM h i=jQ h.M (aP h (nth h.M i).Q) (nth h.M i).b1 (aP h (nth h.M i).Q).length:=rfl;obtain⟨ps,q⟩ : ∃ps,aP h (nth h.M i).Q=ps:=⟨_,rfl⟩
 obtain⟨b,r⟩ : ∃b,(nth h.M i).b1=b:=⟨_,rfl⟩
 rw[q]at C o c;rw[r]at c g;rw[c];have J:jQ h.M ps b 0=b:=rfl;refine fO 63 [(4,7,[22,23,24,25,26,27,28]),(11,10,[43,44,45,46,47,48,49,50,51,52])] Tryz.func482 rfl ?_
 repeat'(first|refine gO ?_|(conv=>whnf);first|with_reducible refine CC (aa G) ?_|refine C7 (B) ?_|refine C7 (C) ?_)
 (conv=>whnf)
 refine CE (ι:=Nat) (λu=>[(2,.H .box (ab.enc .X h)),(5,.H .one [I (jQ h.M ps b u)]),(6,.H .one (aG .own ps)),(7,.H .one [I ((u:Nat):Int)])]) (λu=>u<=ps.length) (λu=>ps.length - u) (0) ?_ (T0 _) λu M=>?_
 ·exact wB
 by_cases K:u<ps.length
 ·have l:=ao K
  have t:=rC a (ps:=ps) g u
  repeat'(first|refine gD ?_|fail)
  (conv=>whnf)
  refine CE (ι:=Nat) (λj=>[(2,.H .box (ab.enc .X h)),(5,.H .one [I (rq h.M (nth ps u) (jQ h.M ps b u) j)]),(6,.H .one (aG .own ps)),(7,.H .one [I ((u:Nat):Int)]),(8,.H .one [I ((j:Nat):Int)])]) (λj=>j<=h.M.length) (λj=>h.M.length - j) (0) ?_ (T0 _) λj L=>?_
  ·exact wB
  by_cases D:j<h.M.length
  ·have E:=ao D
   have w:=uL a (p:=nth ps u) t j L;by_cases e:(nth h.M j).Q=nth ps u
   ·have k:rq h.M (nth ps u) (jQ h.M ps b u) (j+1)=bor (rq h.M (nth ps u) (jQ h.M ps b u) j) (nth h.M j).b1:=C9 e
    repeat'(first|refine gA ?_|(conv=>whnf);first|with_reducible (first|refine CC (aa l) ?_|refine CC (aa E) ?_)|refine CH rfl (aa l) rfl ?_|refine CL (or64 w (uV a D)) ?_)
    ((conv=>whnf);refine CD (j+1) ω ω ?_;(exact wB))
   have k:rq h.M (nth ps u) (jQ h.M ps b u) (j+1)=rq h.M (nth ps u) (jQ h.M ps b u) j:=C8 e
   repeat'(first|refine gA ?_|(conv=>whnf);first|with_reducible (first|refine CC (aa l) ?_|refine CC (aa E) ?_)|refine CH rfl (aa l) rfl ?_)
   ((conv=>whnf);refine CD (j+1) ω ω ?_;(exact wB))
  obtain rfl:j=h.M.length:=ω
  repeat'(first|refine gD ?_|fail)
  ((conv=>whnf);refine CD (u+1) ω ω ?_;(exact wB))
 obtain rfl:u=ps.length:=ω
 repeat'(first|refine gD ?_|fail)
 rfl
theorem sH{xs:List br}(h:∀o∈xs,0<=o.o/\o.o<=1000):∀k:Nat,k<=xs.length->0<=sj xs k/\sj xs k<=1000*k
 | 0,_=>⟨W4 _,W4 _⟩
 | k+1,a=>by
  have b:=sH h k ω;have c:=h _ (am (xs:=xs) (i:=k) ω);simp only[sj];omega
theorem vr(h:ab)(a:∀o∈h.O,0<=o.o/\o.o<=1000)(e:h.O.length<=1048576):ar Tryz.prog 20 false [.val (some 24) (ab.enc .X h)] .one [I (so h)]:=by
 refine fO 21 [] Tryz.func20 rfl ?_
 repeat'(first|refine gO ?_|fail)
 (conv=>whnf)
 refine CE (ι:=Nat) (λk=>[(1,.H .box (ab.enc .X h)),(3,.H .one [I (sj h.O k)]),(4,.H .one [I ((k:Nat):Int)])]) (λk=>k<=h.O.length) (λk=>h.O.length - k) (0) ?_ (T0 _) λk c=>?_
 ·exact wB
 have g:=sH a k c;by_cases b:k<h.O.length
 ·have d:=ao b
  have i:=a _ (am b)
  repeat'(first|refine gD ?_|(conv=>whnf);first|refine CC (aa d) ?_)
  ((conv=>whnf);refine CD (k+1) ω ω ?_;(exact wB))
 obtain rfl:k=h.O.length:=ω
 repeat'(first|refine gD ?_|fail)
 rfl
theorem vS(k b:Int)(h:b<=9223372036854775807):ar Tryz.prog 481 false [.val none [I (slots k)],.val none [I b]] .one (aG .own (pR k b)):=by
 have c:=pw k b;have p:0<=slots k/\slots k<=16:=by unfold slots;repeat' split<;>omega
 unfold pR;cases e:K6 k b<;>rw[e]at c
 ·rw[C8 (by simp)]
  refine fO 27 [] Tryz.func481 rfl ?_ (.inr (bV _))
  repeat'(first|refine gO ?_|fail)
  (conv=>whnf)
  refine CE (ι:=Nat) (λj=>[(0,.H .one [I (slots k)]),(1,.H .one [I (b)]),(5,.H .one (aG .own [])),(6,.H .one [I ((j:Nat):Int)])]) (λj=>j=0) (λj=>1 - j) (0) ?_ (rfl) λj g=>?_
  ·exact wB
  subst g
  repeat'(first|refine gD ?_|(conv=>whnf);first|with_reducible refine Bf.D (λi=>?_) (λi=>?_)|refine C7 (c) ?_)
  all_goals rfl
 rw[C9 rfl];refine fO 27 [] Tryz.func481 rfl ?_ (.inr (bV _))
 repeat'(first|refine gO ?_|fail)
 (conv=>whnf)
 refine CE (ι:=Nat) (λj=>[(0,.H .one [I (slots k)]),(1,.H .one [I (b)]),(5,.H .one (aG .own (nE b j))),(6,.H .one [I ((j:Nat):Int)])]) (λj=>j<=(slots k).toNat) (λj=>(slots k).toNat - j) (0) ?_ (T0 _) λj g=>?_
 ·exact wB
 have l:=sv b j;by_cases q:j<(slots k).toNat
 ·have d:=i7 b (j:Nat) h
  have a:nE b (j+1)=if aR b (j:Nat)=true then nE b j else nE b j++[((j:Nat):Int)]:=rfl
  cases n:aR b (j:Nat)<;>rw[n]at d a
  ·rw[C8 (by simp)]at a
   repeat'(first|refine gD ?_|(conv=>whnf);first|refine C7 (c) ?_|refine C7 (d) ?_|refine CT cI (λr o=>by rw[C1.1 o];rfl) (by simp[aX,dU]) (by simp;omega) (by simp only[X0];exact yM (by simp;omega) (by decide)) rfl ?_)
   ((conv=>whnf);refine CD (j+1) ω ω ?_)
   rw[a]
   repeat'(first|exact trivial|rfl|exact CK rfl (CK (U0 (C.s dK.own) (by simp[rI])) trivial)|refine CK ?_ ?_|(exact DY (by first|omega|(simp only;omega)|(simp;omega))))
  rw[C9 rfl]at a
  repeat'(first|refine gD ?_|(conv=>whnf);first|refine C7 (c) ?_|refine C7 (d) ?_)
  ((conv=>whnf);refine CD (j+1) ω ω ?_)
  rw[a];exact wB
 obtain rfl:j=(slots k).toNat:=ω
 repeat'(first|refine gD ?_|fail)
 rfl
theorem HB(b i:Int):bor b (2 ^ i.toNat)=gJ b i:=by
 unfold bor gJ;have:((2 ^ i.toNat:Nat):Int)=(2:Int) ^ i.toNat:=Int.natCast_pow 2 i.toNat;rw[<-this,O2]
theorem yo(b i:Int)(d:0<=b/\b<=65535)(a:0<=i/\i<=15):ar Tryz.prog 484 false [.val none [I b],.val none [I i]] .one [I (gJ b i)]:=by
 have c:=oF b i;rw[O0 ω]at c;have e:IntKind.u64.wrap i=i:=by unfold IntKind.wrap;simp[IntKind.signed,IntKind.bits];omega
 have h:=(shl64 a).2;have g:=(or64 (z1:=b) (z2:=2 ^ i.toNat) d ω).trans (HB b i);refine fO 15 [] Tryz.func484 rfl ?_
 repeat'(first|refine gO ?_|(conv=>whnf);first|refine C7 (c) ?_|refine CN ω ?_|refine CL e ?_|refine CL (shl64 a).1 ?_|refine CL g ?_)
 rfl
theorem LJ{s:ax}(b:bg s=true){k:Int}(d:0<=k/\k<slots s.b):0<=k*csz s.b/\k*csz s.b<=15:=by
 have a:=aC b;have c:=g9 a.2.2;rcases bM a.2.2 with e|e|e|e<;>rw[e]at c |-<;>omega
theorem xM(s:ax)(k:Int)(a:bg s=true)(d:0<=k/\k<slots s.b):ar Tryz.prog 485 false [.val (some 3) (ax.enc .X s),.val none [I k]] .one [I (16*s.Q+k*csz s.b)]:=by
 have e:=aC a;have i:=LJ a d;have j:=g9 e.2.2;have b:=gi s;rw[a]at b;have g:=mX s.b;have c:=aF k 0 (slots s.b - 1);rw[O0 ω]at c;have h:=dE s.b;refine fO 26 [(3,8,[17,18,19,20,21,22,23,24])] Tryz.func485 rfl ?_
 repeat'(first|refine gO ?_|(conv=>whnf);first|refine C7 (b) ?_|refine C7 (g) ?_|refine C7 (c) ?_|refine C7 (h) ?_|refine CB ?_)
 exact U0 (λz=>[I z]) ω
theorem zC(f:bo)(g:f.a9.length<=1048576):ar Tryz.prog 486 false [.val (some 2) (bo.enc .X f)] .one [I (dD (λu=>!u) f.a9)]:=by
 refine fO 18 [] Tryz.func486 rfl ?_
 repeat'(first|refine gO ?_|fail)
 (conv=>whnf)
 refine CE (ι:=Nat) (λi=>[(1,.H .box (bo.enc .X f)),(3,.H .one [I ((i:Nat):Int)])]) (λi=>i<=f.a9.length/\∀(j:Nat)(z:Bool),j<i->f.a9[j]? = some z->(!z)=false) (λi=>f.a9.length - i) (0) ?_ (⟨T0 _,λj z h=>ω⟩) λi c=>?_
 ·exact wB
 obtain⟨c,b⟩:=c;by_cases d:i<f.a9.length
 ·have a:=ao d
  cases e:nth f.a9 i<;>rw[e]at a
  ·repeat'(first|refine gD ?_|(conv=>whnf);first|with_reducible refine CC (aa a) ?_)
   exact U0 (λz=>[I z]) (ed a rfl b).symm
  repeat'(first|refine gD ?_|(conv=>whnf);first|with_reducible refine CC (aa a) ?_)
  ((conv=>whnf);refine CD (i+1) ⟨ω,d4 a rfl b⟩ ω ?_;(exact wB))
 repeat'(first|refine gD ?_|fail)
 exact U0 (λz=>[I z]) (gP ω b).symm
theorem mB(m:aK):∀(n i:Nat),i<n->((nth m.U i).length:Int)+(nth m.a0 i).length<=bu m n/\0<=bu m n
 | 0,i,h=>absurd h (Nat.not_lt_zero i)
 | n+1,i,h=>by
  have a:0<=bu m n:=by
   cases n with
   | zero=>exact W4 _
   | succ k=>exact(mB m (k+1) 0 ω).2
  simp only[bu];by_cases e:i=n
  ·subst e;omega
  have:=(mB m n i ω).1;omega
structure lr(m:aK):Prop where
 b4:1<=m.U.length/\m.U.length<=4
 i4:m.a0.length=m.U.length
 bl:∀i,i<m.U.length->(nth m.U i).length<=30
 il:∀i,i<m.U.length->(nth m.a0 i).length<=30
theorem lr.of{m:aK}(h:bJ m=true):lr m:=by
 obtain⟨⟨b,c,d⟩,-,e⟩:=d6.1 h;exact⟨⟨b,c⟩,d,λi a=>by have:=(mB m m.U.length i a).1;omega,λi a=>by have:=(mB m m.U.length i a).1;omega⟩
theorem lr.sml{m:aK}(h:lr m):aK.sml m:=by
 have c:=h.b4;have d:=h.i4;refine⟨⟨ω,λl a=>?_⟩,⟨ω,λl a=>?_⟩⟩
 ·obtain⟨i,b,rfl⟩:=aJ a
  have:=h.bl i b;exact⟨ω,λ_ _=>trivial⟩
 obtain⟨i,b,rfl⟩:=aJ a;have:=h.il i ω;show(nth m.a0 i).length<=1048576;omega
theorem qY(m:aK)(k:Int)(a:aK.sml m):ar Tryz.prog 569 false [.val (some 2) (aK.enc .X m),.val none [I k]] .one [B (bJ m&&decide (0<=k/\k<=m.U.length - 1))]:=by
 have b:=kW m a;have c:m.U.length<=1048576:=a.1.1;cases e:bJ m<;>rw[e]at b
 all_goals
  refine fO 15 [] Tryz.func569 rfl ?_
  repeat'(first|refine gO ?_|(conv=>whnf);first|refine CB ?_|refine C7 (b) ?_|refine C7 (aF k 0 (m.U.length - 1:Int)) ?_)
  all_goals rfl
theorem Qs{m:aK}{f:Nat}(a:f<m.U.length):m.U[f]? = some (nth m.U f):=ao a
theorem HL(m:aK)(f:Nat)(p:dl):aK.enc .own (gQ m f p)=[.s .own ((m.U.map (dd .own)).set f (dd .own (nth m.U f++[p]))),.s .own (m.a0.map (aG .own))]:=by simp[aK.enc,gQ,W5]
theorem HX{m:aK}(h:lr m){f:Nat}(c:f<m.U.length)(p:dl):aK.sml (gQ m f p):=by
 have d:=h.b4;have b:=h.sml;refine⟨⟨by simp only[gQ,I1];omega,λl a=>?_⟩,b.2⟩;rcases Z5 a with a|rfl
 ·exact b.1.2 l a
 have:=h.bl f c;exact⟨by simp;omega,λ_ _=>trivial⟩
theorem JC(m:aK)(f:Nat)(p:dl)(j:bJ m=true)(g:f<m.U.length):ar Tryz.prog 561 false [.val (some 2) (aK.enc .X m),.val none [I (f:Nat)],.val (some 2) (dl.enc .X p)] (.tup [some 2,none]) (aK.enc .own (if bJ (gQ m f p)=true then gQ m f p else m)++[B (bJ (gQ m f p))]):=by
 have c:=lr.of j;have k:=c.sml;have q:=c.b4;have h:=qY m f k;rw[j,O0 ω]at h;have l:=fG m k;have b:=HX c g p;have i:=kW (gQ m f p) b;have n:=fG (gQ m f p) b;have a:=Qs g;have o:=c.bl f g;have d:=aK.enc_fz (gQ m f p);rw[HL]at d;cases e:bJ (gQ m f p)<;>rw[e]at i
 ·rw[C8 (by simp)]
  refine fO 35 [(4,267,[16,17,18,19,20,21,22,23,24,25,27,0,1,2,3,4,5,6,7,8,9,10,1000,1001,1002,11,12])] Tryz.func561 rfl ?_ (.inr (aZ (aK.enc_fr _) ⟨trivial,trivial⟩))
  repeat'(first|refine gO ?_|(conv=>whnf);first|with_reducible refine CC (aa a) ?_|refine CB ?_|refine CC (gq a) ?_|refine CH rfl (gq a) rfl ?_|refine C7 (h) ?_|refine C7 (l) ?_|refine Lq.one rfl rfl (aa a) rfl (Z0 rfl) rfl rfl ?_|refine CH rfl (aa a) rfl ?_|refine CO rfl rfl (gq a) rfl (Z0 rfl) (show [C.s dK.own ((m.U.map (dd .own)).set f (dd .own (nth m.U f++[p]))),C.s .own (m.a0.map (aG .own))]=_ from by simp only[List.set_cons_zero,List.set_set,O2];rfl) ?_|refine Ap.sm (aQ λ_=>rfl) rfl (by simp;omega) (by decide) (iF _ _ _) ?_|refine CG (i) ⟨⟨rfl,d⟩,trivial⟩ ?_)
  rfl
 rw[C9 rfl];refine fO 35 [(4,267,[16,17,18,19,20,21,22,23,24,25,27,0,1,2,3,4,5,6,7,8,9,10,1000,1001,1002,11,12])] Tryz.func561 rfl ?_ (.inr (aZ (aK.enc_fr _) ⟨trivial,trivial⟩))
 repeat'(first|refine gO ?_|(conv=>whnf);first|with_reducible refine CC (aa a) ?_|refine CB ?_|refine CC (gq a) ?_|refine CH rfl (gq a) rfl ?_|refine C7 (h) ?_|refine C7 (l) ?_|refine Lq.one rfl rfl (aa a) rfl (Z0 rfl) rfl rfl ?_|refine CH rfl (aa a) rfl ?_|refine CO rfl rfl (gq a) rfl (Z0 rfl) (show [C.s dK.own ((m.U.map (dd .own)).set f (dd .own (nth m.U f++[p]))),C.s .own (m.a0.map (aG .own))]=_ from by simp only[List.set_cons_zero,List.set_set,O2];rfl) ?_|refine Ap.sm (aQ λ_=>rfl) rfl (by simp;omega) (by decide) (iF _ _ _) ?_|refine CG (i) ⟨⟨rfl,d⟩,trivial⟩ ?_|refine CG (n) ⟨⟨rfl,d⟩,trivial⟩ ?_)
 rfl
theorem Gf(m:aK)(f:Int)(a:bJ m=true)(d:¬(0<=f/\f<=m.U.length - 1)):ar Tryz.prog 533 false [.val (some 2) (aK.enc .X m),.val none [I f]] (.tup [some 2,none]) (aK.enc .own m++[B false]):=by
 have e:=lr.of a;have b:=e.sml;have c:=qY m f b;rw[a,R0 d]at c;have g:=fG m b;refine fO 60 [(5,267,[31,32,33,34,35,36,37,38,39,40,42,0,1,2,3,4,5,6,7,8,9,10,1000,1001,1002,11,12]),(6,270,[43,44,45,46,47,48,49,50,51,52,53,54,55,57,0,1,2,3,4,5,6,7,8,9,10,11,12,13,1000,1001,1002,1003,14,15])] Tryz.func533 rfl ?_ (.inr (aZ (aK.enc_fr _) ⟨trivial,trivial⟩))
 repeat'(first|refine gO ?_|(conv=>whnf);first|refine CB ?_|refine C7 (c) ?_|refine C7 (g) ?_)
 rfl
theorem ER(m:aK)(f t:Nat)(a:(nth (nth m.U f) 0).To=t):aK.enc .own (fC m f)=[.s .own ((m.U.map (dd .own)).set f [.s .own (((nth m.U f).drop 1).map (dl.enc .X))]),.s .own ((m.a0.map (aG .own)).set t (aG .own (nth m.a0 t++[(nth (nth m.U f) 0).Addr])))]:=by
 unfold aK.enc fC;simp only[W5,a,O2]
 rfl
theorem Ec(m:aK)(f:Nat)(h:bJ m=true)(i:f<m.U.length):ar Tryz.prog 533 false [.val (some 2) (aK.enc .X m),.val none [I (f:Nat)]] (.tup [some 2,none]) (aK.enc .own (if 0<(nth m.U f).length then fC m f else m)++[B (decide (0<(nth m.U f).length))]):=by
 have d:=lr.of h;have u:=d.sml;have K:=d.b4;have D:=d.i4;have j:=qY m f u;rw[h,O0 ω]at j;have w:=fG m u;have a:=Qs i;have F:=d.bl f i;by_cases e:0<(nth m.U f).length
 ·rw[C9 e,O0 e]
  have g:=((d6.1 h).2.1 f i).1 _ (am e);obtain⟨t,k⟩:=R2 g.1;have l:t<m.a0.length:=ω
  have y:=ao e;have c:=ao l;have G:=d.il t ω;have n:=(lr.of (DB h i e)).sml;have H:=fG (fC m f) n;have o:=aK.enc_fz (fC m f);rw[ER m f t k]at o;have q:=aZ (b:=[B true]) (aK.enc_fr (fC m f)) ⟨trivial,trivial⟩;generalize L:nth (nth m.U f) 0=p at *;obtain⟨M,J⟩:=p;simp only at k g o;subst k;refine fO 60 [(5,267,[31,32,33,34,35,36,37,38,39,40,42,0,1,2,3,4,5,6,7,8,9,10,1000,1001,1002,11,12]),(6,270,[43,44,45,46,47,48,49,50,51,52,53,54,55,57,0,1,2,3,4,5,6,7,8,9,10,11,12,13,1000,1001,1002,1003,14,15])] Tryz.func533 rfl ?_ (.inr q)
  repeat'(first|refine gA ?_|(conv=>whnf);first|with_reducible (first|refine CC (aa a) ?_|refine CC (aa c) ?_|refine Bf.E (λr=>?_) (λr=>?_))|refine CB ?_|refine CM (by decide) (aa y) ?_|refine CC (gq a) ?_|refine CC (gq c) ?_|refine CH rfl (gq a) rfl ?_|refine CH rfl (gq c) rfl ?_|refine C7 (j) ?_|refine C7 (w) ?_|refine CH rfl (aa a) rfl ?_|refine CH rfl (aa c) rfl ?_|refine CH rfl (aa y) rfl ?_|refine Lq.one rfl rfl (aa c) rfl (Z0 rfl) rfl rfl ?_|refine Sl.suf 1 rfl (by rw[X0];omega) (aQ λ_=>rfl) Z3 ?_|refine CU (λ_=>rfl) (λ_=>rfl) (by rw[C3];omega) (by decide) ?_|refine CR (λ_=>rfl) (λ_=>rfl) (by rw[C3];omega) (by decide) ?_|refine CO rfl rfl (aa a) rfl (Z0 rfl) rfl ?_|refine CO rfl rfl (gq c) rfl (Z0 rfl) (show [C.s dK.own ((m.U.map (dd .own)).set f [.s .own (((nth m.U f).drop 1).map (dl.enc .X))]),C.s .own ((m.a0.map (aG .own)).set t (aG .own (nth m.a0 t++[J])))]=_ from by simp only[List.set_cons_zero,List.set_cons_succ,List.set_set,O2];rfl) ?_|refine Ap.sm (aQ λ_=>rfl) rfl (by simp;omega) (by decide) (iF _ _ _) ?_|refine CB ?_|refine CG (H) ⟨⟨rfl,o⟩,trivial⟩ ?_)
  rfl
 rw[C8 e,R0 e];refine fO 60 [(5,267,[31,32,33,34,35,36,37,38,39,40,42,0,1,2,3,4,5,6,7,8,9,10,1000,1001,1002,11,12]),(6,270,[43,44,45,46,47,48,49,50,51,52,53,54,55,57,0,1,2,3,4,5,6,7,8,9,10,11,12,13,1000,1001,1002,1003,14,15])] Tryz.func533 rfl ?_ (.inr (aZ (aK.enc_fr _) ⟨trivial,trivial⟩))
 repeat'(first|refine gA ?_|(conv=>whnf);first|with_reducible (first|refine CC (aa a) ?_|refine Bf.E (λr=>?_) (λr=>?_))|refine CB ?_|refine C7 (j) ?_|refine C7 (w) ?_|refine CH rfl (aa a) rfl ?_)
 rfl
theorem JH.set(rows:List (List C))(i:Nat){r n:List C}(h:JJ r n):JH (.s .own (rows.set i r)) (.s .own (rows.set i n)):=by
 refine .own_ _ _ (by simp) (λj a b d f=>?_) (λj l a b c p d f o g=>?_)
 ·by_cases e:i=j
  ·subst e
   have k:i<rows.length:=by have:=(Z1.1 d).1;simpa using this
   rw[O3 k]at d f;cases d;cases f;exact h.1
  rw[List.getElem?_set_ne e]at d f;rw[d]at f;cases f;rfl
 by_cases e:i=j
 ·subst e
  have k:i<rows.length:=by have:=(Z1.1 d).1;simpa using this
  rw[O3 k]at d f;cases d;cases f;exact h.2 l c p o g
 rw[List.getElem?_set_ne e]at d f;rw[d]at f;cases f;rw[o]at g;cases g;exact .rfl_ _
theorem AM(m:aK)(t:Nat)(d:bJ m=true)(h:t<m.U.length):ar Tryz.prog 570 false [.val (some 2) (aK.enc .X m),.val none [I (t:Nat)]] (.tup [some 2,none]) (aK.enc .own (kG m t)++aG .own (nth m.a0 t)):=by
 have b:=lr.of d;have e:=b.sml;have o:=b.b4;have j:=b.i4;have g:=qY m t e;rw[d,O0 ω]at g;have k:=fG m e;have c:=ao (xs:=m.a0) (i:=t) ω;have l:=b.il t h;have a:=aZ (aK.enc_fr (kG m t)) (bV (nth m.a0 t));have n:aK.enc .own (kG m t)=[.s .own (m.U.map (dd .own)),.s .own ((m.a0.map (aG .own)).set t [.s .own []])]:=by simp[aK.enc,kG,W5];rfl
 rw[n]at a |-;refine fO 28 [(5,263,[20,21,22,23,24,25,26,0,1,2,3,4,5,6,7,1000,8,9])] Tryz.func570 rfl ?_ (.inr a)
 repeat'((conv=>whnf);first|with_reducible (first|refine Lm ?_|refine Wm ω ?_|refine CC (aa c) ?_|refine Bn ?_|refine iU.dk rfl ?_)|refine Bt ?_|refine Bu ?_|refine CB ?_|refine C7 (g) ?_|refine C7 (k) ?_|refine CH rfl (aa c) rfl ?_|refine CO rfl rfl (aa c) rfl (Z0 rfl) rfl ?_|refine CU (λ_=>rfl) (λ_=>rfl) ω (by decide) ?_|refine CR (λ_=>rfl) (λ_=>rfl) ω (by decide) ?_|refine CB ?_)
 exact .cons (.rfl_ _) (.cons (JH.set _ _ (.cons .z_ .nil)) (.cons (.rfl_ _) .nil))
theorem G0(now:Int):∀{l:List aN}{i:Nat},i<=l.length->(∀j,j<i->(nth l j).b7<now - 100)->(i<l.length->¬(nth l i).b7<now - 100)->rP now l=i
 | [],i,h,_,_=>by simp at h;subst h;rfl
 | x::xs,0,_,_,h=>by
  unfold rP;exact C8 (h (by simp))
 | x::xs,i+1,b,a,c=>by
  unfold rP;refine(C9 (a 0 ω)).trans ?_;rw[G0 now (l:=xs) (i:=i) (by simp at b;omega) (λj d=>a (j+1) ω) (λe=>c (by simp;omega))]
def NC(q:bQ)(now:Int):List C:=bQ.enc .own ⟨q.c1,q.a5.drop (rP now q.a5)⟩++cS .own (q.a5.take (rP now q.a5))
theorem uG(q:bQ)(now:Int)(g:fT q=true)(G:q.a5.length<=4096)(u:0<=now/\now<=1000000):ar Tryz.prog 535 false [.val (some 2) (bQ.enc .X q),.val none [I now],.val none [I 100]] (.tup [some 2,none]) (NC q now):=by
 have w:bQ.sml q:=⟨ω,λ_ _=>trivial⟩
 have n:=oo q w;rw[g]at n;have o:=aF now 0 1000000;rw[O0 u]at o;have p:=aF 100 0 1000000;rw[O0 (by decide)]at p;have h:=(jA.1 g).1;have a:gR (NC q now):=aZ (bQ.enc_fr _) (tD _);have y:∀i,i<q.a5.length->0<=(nth q.a5 i).b7:=λi b=>(h _ (am b)).2.2.2
 unfold NC at a |-;generalize B:rP now q.a5=k at a |-;refine fO 59 [(6,270,[44,45,46,47,48,49,50,51,53,54,55,56,57,58,0,1,2,3,4,5,6,7,9,10,11,12,13,14,8,1009,1010,1011,1012,1013,1014,15,16])] Tryz.func535 rfl ?_ (.inr a)
 repeat'(first|refine gO ?_|(conv=>whnf);first|refine CB ?_|refine C7 (n) ?_|refine C7 (o) ?_|refine C7 (p) ?_)
 (conv=>whnf)
 refine CE (ι:=Nat) (λi=>[(1,.H .one [I (now)]),(2,.H .one [I (100)]),(3,.H .box (bQ.enc .X q)),(6,.H .box [I 0,.z]),(8,.H .one [I ((i:Nat):Int)])]) (λi=>i<=q.a5.length/\∀j,j<i->(nth q.a5 j).b7<now - 100) (λi=>q.a5.length - i) (0) ?_ (⟨T0 _,λj C=>ω⟩) λi b=>?_
 ·exact wC
 obtain⟨b,r⟩:=b;by_cases l:i<q.a5.length/\(nth q.a5 i).b7<now - 100
 ·have c:=ao l.1
  repeat'(first|refine gD ?_|(conv=>whnf);first|with_reducible refine CC (aa c) ?_|refine CB ?_|refine CH rfl (aa c) rfl ?_)
  ((conv=>whnf);refine CD (i+1) ⟨ω,λj C=>by by_cases e:j=i;(subst e;exact l.2);exact r j ω⟩ ω ?_;(exact wC))
 have d:=G0 now (i:=i) b r (λE F=>l ⟨E,F⟩);rw[B]at d;subst d;by_cases t:k<q.a5.length
 ·have c:=ao t
  have:=y k t
  repeat'(first|refine gD ?_|(conv=>whnf);first|with_reducible (first|refine CC (aa c) ?_|refine Bf.D (λg=>?_) (λg=>?_))|refine CB ?_|refine CH rfl (aa c) rfl ?_|refine CV k rfl (by rw[X0];omega) (aQ λ_=>rfl) Y3 ?_|refine Sl.suf k rfl (by rw[X0];omega) (aQ λ_=>rfl) Z3 ?_|refine CU (λ_=>rfl) (λ_=>rfl) (by rw[O1];omega) (by decide) ?_|refine CU (λ_=>rfl) (λ_=>rfl) (by rw[C3];omega) (by decide) ?_|refine CR (λ_=>rfl) (λ_=>rfl) (by rw[C3];omega) (by decide) ?_|refine CB ?_)
  rfl
 repeat'(first|refine gD ?_|(conv=>whnf);first|refine CB ?_|refine CV k rfl (by rw[X0];omega) (aQ λ_=>rfl) Y3 ?_|refine Sl.suf k rfl (by rw[X0];omega) (aQ λ_=>rfl) Z3 ?_|refine CU (λ_=>rfl) (λ_=>rfl) (by rw[O1];omega) (by decide) ?_|refine CU (λ_=>rfl) (λ_=>rfl) (by rw[C3];omega) (by decide) ?_|refine CR (λ_=>rfl) (λ_=>rfl) (by rw[C3];omega) (by decide) ?_|refine CB ?_)
 rfl
theorem Ax(h:ab)(n:Int)(g:aV h [])(r:0<=n/\n<=1000)(p:h.b5+n<=1000000):aS Tryz.prog 456 false [.ptr (bz h),.val none [I n]] [.ptr (bz (tick h n)),.val none [I n]] .one [I ((mS h n).length:Nat)]:=by
 have a:=g.nums;unfold cg at a;rw[C0]at a;have t:=g.lens.quar;have i:=uG h.a6 (h.b5+n) g.quar ω ⟨ω,p⟩;have j:=g.aged r.1 p;unfold NC at i;unfold tick mS aged at *;have l:(h.a6.a5.take (rP (h.b5+n) h.a6.a5)).length<=4096:=by rw[O1];omega
 rw[X0];generalize h.a6.a5.take (rP (h.b5+n) h.a6.a5)=out at i j l |-;generalize h.a6.a5.drop (rP (h.b5+n) h.a6.a5)=rest at i j |-;refine fM 48 [(511,[2,0])] [(2,269,[18,19,20,21,22,23,24,25,26,17,27,28,5,0,1,2,3,4,5,6,7,8,9,10,11,12,13,1011,14])] [(0,0),(0,0)] Tryz.func456 rfl (λu q=>?_)
 repeat'(first|refine gO ?_|(conv=>whnf);first|refine CB ?_|refine CG (i) ⟨⟨rfl,bQ.enc_fz h.a6⟩,⟨rfl,rfl⟩,⟨rfl,rfl⟩,trivial⟩ ?_|refine CB ?_)
 (conv=>whnf)
 refine CE (ι:=Nat) (λk=>[(0,.H .box (bz (freeAs {h with b5:=h.b5+n,a6:=⟨h.a6.c1,rest⟩} ((out.map (·.Addr)).take k)))),(6,.H .one (cS .own out)),(7,.H .one [I ((k:Nat):Int)])]) (λk=>k<=out.length) (λk=>out.length - k) (0) ?_ (T0 _) λk y=>?_
 ·exact wC
 by_cases o:k<out.length
 ·have b:=ao o
  have c:k<(out.map (·.Addr)).length:=by rw[X0];exact o
  have d:nth (out.map (·.Addr)) k=(nth out k).Addr:=bc (by rw[X2,ao o];rfl);have e:aV (freeAs {h with b5:=h.b5+n,a6:=⟨h.a6.c1,rest⟩} ((out.map (·.Addr)).take k)) (nth (out.map (·.Addr)) k::(out.map (·.Addr)).drop (k+1)):=by
   refine aV.freeAs ?_;rw[<-jD c,List.take_append_drop];rw[List.append_nil]at j;exact j
  rw[d]at e;have w:=ng _ _ _ e
  repeat'(first|refine gD ?_|(conv=>whnf);first|refine CB ?_|refine CC (aa b) ?_|refine CH rfl (aa b) rfl ?_|refine CJ (w) (.inl rfl) ?_)
  ((conv=>whnf);refine CD (k+1) ω ω ?_)
  rw[tP _ _ _ c,d];exact wC
 obtain rfl:k=out.length:=ω
 rw[U6 (by rw[X0];omega)]
 repeat'(first|refine gD ?_|(conv=>whnf);first|refine CB ?_)
 refine CF rfl rfl ?_;exact wC
theorem En(t:Nat)(h:ab)(az:List Int)(k:Nat)(a:k<az.length):recycs t h (az.take (k+1))=recyc t (recycs t h (az.take k)) (nth az k):=by
 unfold recycs;rw[I5,ao a,Option.toList_some,List.foldl_append];rfl
theorem uB(h:ab)(t:Nat)(a:aV h [])(i:t<h.T.length):aS Tryz.prog 534 false [.ptr (bz h),.val none [I (t:Nat)]] [.ptr (bz (collect h t)),.val none [I (t:Nat)]] .one [I ((nth h.w.a0 t).length:Nat)]:=by
 have l:=a.nc;have n:=(d6.1 a.mail).1.2.2;have j:=AM h.w t a.mail ω;have c:=(lr.of a.mail).il t ω;have d:=a.coll (t:=t) ω;rw[List.append_nil]at d;unfold collect;generalize nth h.w.a0 t=out at j d c |-;refine fM 36 [(564,[2,0,0])] [] [(0,0),(0,0)] Tryz.func534 rfl (λu q=>?_)
 repeat'(first|refine gO ?_|(conv=>whnf);first|refine CB ?_|refine CG (j) ⟨⟨rfl,aK.enc_fz h.w⟩,⟨rfl,rfl⟩,trivial⟩ ?_)
 (conv=>whnf)
 refine CE (ι:=Nat) (λk=>[(0,.H .box (bz (recycs t {h with w:=kG h.w t} (out.take k)))),(1,.H .one [I ((t:Nat):Int)]),(6,.H .one (aG .own out)),(7,.H .one [I ((k:Nat):Int)])]) (λk=>k<=out.length) (λk=>out.length - k) (0) ?_ (T0 _) λk p=>?_
 ·exact wC
 by_cases e:k<out.length
 ·have b:=ao e
  have g:aV (recycs t {h with w:=kG h.w t} (out.take k)) (nth out k::out.drop (k+1)):=by
   refine aV.recycs ?_ i;rw[<-jD e,List.take_append_drop];exact d
  have o:=nr _ _ t _ g (by rw[(gn t _ _).1];exact i)
  repeat'(first|refine gD ?_|(conv=>whnf);first|refine CB ?_|refine CC (aa b) ?_|refine CH rfl (aa b) rfl ?_|refine CJ (o) (.inl rfl) ?_)
  ((conv=>whnf);refine CD (k+1) ω ω ?_)
  rw[En _ _ _ _ e];exact wC
 obtain rfl:k=out.length:=ω
 rw[X4]
 repeat'(first|refine gD ?_|(conv=>whnf);first|refine CB ?_)
 refine CF rfl rfl ?_;exact wC
def LN(a:Int)(o:br):Bool:=decide (o.Addr<=a/\a<o.Addr+o.o)
theorem EZ(h:ab)(E:List Int)(a:Int)(d:aV h E):aS Tryz.prog 566 false [.ptr (bz h),.val none [I a]] [.ptr (bz h),.val none [I a]] .one [I (dD (LN a) h.O)]:=by
 have r:=d.lens.objs;refine fM 47 [] [(4,29,[15,16,17,18,19,20,21,22,23,24,25,26,27,28,29,30,31,32,33,34,35,36,37,38,39,40,41,42,43])] [(0,0),(0,0)] Tryz.func566 rfl (λu q=>?_)
 repeat'(first|refine gO ?_|(conv=>whnf);first|refine CB ?_)
 (conv=>whnf)
 refine CE (ι:=Nat) (λi=>[(0,.H .box (bz h)),(1,.H .one [I (a)]),(5,.H .one [I ((i:Nat):Int)])]) (λi=>i<=h.O.length/\∀(j:Nat)(z:br),j<i->h.O[j]? = some z->LN a z=false) (λi=>h.O.length - i) (0) ?_ (⟨T0 _,λj z C=>ω⟩) λi d=>?_
 ·exact wC
 obtain⟨t,c⟩:=d;by_cases e:i<h.O.length
 ·have b:=ao e
  have w:=tl ‹aV h E› (am e);have y:0<=(nth h.O i).o/\(nth h.O i).o<=1000:=by
   rcases aV.oow ‹aV h E› _ (am e) with⟨s,B,F,G⟩|⟨l,g,k,o⟩
   ·have H:=aC ((aV.L ‹aV h E›).sok s B)
    have:=gf (n:=(nth h.O i).o) ω;omega
   have J:=cw ((aV.L ‹aV h E›).lok l g);omega
  by_cases k:(nth h.O i).Addr<=a
  ·by_cases o:a<(nth h.O i).Addr+(nth h.O i).o
   ·repeat'(first|refine gD ?_|(conv=>whnf);first|with_reducible refine CC (aa b) ?_|refine CB ?_|refine CH rfl (aa b) rfl ?_|refine CB ?_)
    refine CF rfl (U0 (λz=>[I z]) (ed b (O0 ⟨k,o⟩) c).symm) ?_;exact wC
   repeat'(first|refine gD ?_|(conv=>whnf);first|with_reducible (first|refine CC (aa b) ?_|refine Bf.D (λp=>?_) (λp=>?_))|refine CB ?_|refine CH rfl (aa b) rfl ?_|refine CB ?_)
   ((conv=>whnf);refine CD (i+1) ⟨ω,d4 b (R0 λx=>o x.2) c⟩ ω ?_;(exact wC))
  repeat'(first|refine gD ?_|(conv=>whnf);first|with_reducible (first|refine CC (aa b) ?_|refine Bf.D (λp=>?_) (λp=>?_))|refine CB ?_|refine CH rfl (aa b) rfl ?_|refine CB ?_)
  ((conv=>whnf);refine CD (i+1) ⟨ω,d4 b (R0 λx=>k x.1) c⟩ ω ?_;(exact wC))
 repeat'(first|refine gD ?_|(conv=>whnf);first|refine CB ?_)
 refine CF rfl (U0 (λz=>[I z]) (gP ω c).symm) ?_;exact wC
theorem G3(h:ab)(a v:Int):bz {h with G:=d3 h.G a v} = (bz h).set 0 (.s .own ((h.G.F.V.S.map (aG .own)).set (ac h.G.F.R (a / 16)).e.toNat ((aG .own (nth h.G.F.V.S (cL h.G a))).set 0 (.s .own (((nth h.G.F.V.S (cL h.G a)).map (rI .own)).set (a % 16).toNat (splice (rI .own (nth (nth h.G.F.V.S (cL h.G a)) (a % 16).toNat)) 0 [I v])))))):=by
 simp[bz,d3,setCell,W5,aG,splice,cL,rI]
theorem Ey{α:Type}{p:α->Bool}{xs:List α}{x:α}(a:x∈xs)(b:p x=true):0<=dD p xs:=by
 have:=lL p xs;rw[show xs.any p=true from V3.2 ⟨x,a,b⟩,C0]at this;exact this
theorem xE(h:ab)(i:Nat)(j v:Int)(e:aV h [])(C:i<h.O.length)(D:0<=j/\j<=(nth h.O i).o - 1):aS Tryz.prog 529 false [.ptr (bz h),.val none [I ((nth h.O i).Addr+j)],.val none [I v]]
  [.ptr (bz (if(ac h.G.F.R (((nth h.O i).Addr+j) / 16)).j=1\/¬(0<=v/\v<=999) then h else {h with G:=d3 h.G ((nth h.O i).Addr+j) v})),.val none [I ((nth h.O i).Addr+j)],.val none [I v]] .one [I (if(ac h.G.F.R (((nth h.O i).Addr+j) / 16)).j=1 then 2 else if ¬(0<=v/\v<=999) then 3 else 0)]:=by
 obtain⟨E,J,K⟩:=cG e (am C) D;have F:0<=dD (LN ((nth h.O i).Addr+j)) h.O:=Ey (am C) (O0 ω);have p:=EZ h [] ((nth h.O i).Addr+j) e;have r:=bH e.ker;have t:=db h.G.F.R (((nth h.O i).Addr+j) / 16) r.1.2;have n:=aF v 0 999;generalize L:(nth h.O i).Addr+j=a at *;have b:0<=a/\a<512:=ω
 obtain⟨-,-,-,G,M⟩:=bX e.ker E;have H:=(aW.1 (aD.1 e.ker).2.1).2.2.1;have k:cL h.G a<h.G.F.V.S.length:=by unfold cL;omega
 have d:h.G.F.V.S[(ac h.G.F.R (a / 16)).e.toNat]? = some (nth h.G.F.V.S (cL h.G a)):=ao k;have w:=e.lens.row _ (am k);have l:=ao (xs:=nth h.G.F.V.S (cL h.G a)) (i:=(a % 16).toNat) (by rw[w];omega);have B:a.tmod 16=a % 16:=eR b.1;refine fM 42 [(566,[2,0])] [(8,14,[27,28,29,30,31,32,33,34,35,36,37,38,39,40])] [(0,0),(0,0),(0,0)] Tryz.func529 rfl (λu q=>?_);by_cases o:(ac h.G.F.R (a / 16)).j=1
 ·rw[C9 (Or.inl o),C9 o]
  repeat'(first|refine gA ?_|(conv=>whnf);first|refine CB ?_|refine CJ (p) (.inl rfl) ?_|refine CG (t) ⟨⟨rfl,CZ _⟩,⟨rfl,rfl⟩,trivial⟩ ?_|refine CN (by decide) ?_|refine CL (pB b) ?_)
  refine CF rfl rfl ?_;exact wC
 rw[C8 (c:=_=(1:Int)) o];by_cases g:0<=v/\v<=999
 ·rw[O0 g]at n
  rw[C8 (c:=¬(0<=v/\v<=999)) (X3 g),C8 (c:=_\/¬(0<=v/\v<=999)) (λy=>y.elim o λy=>y g)]
  repeat'(first|refine gA ?_|(conv=>whnf);first|refine CB ?_|refine CJ (p) (.inl rfl) ?_|refine CG (t) ⟨⟨rfl,CZ _⟩,⟨rfl,rfl⟩,trivial⟩ ?_|refine C7 (n) ?_|refine CN (by decide) ?_|refine CL (pB b) ?_|refine CS B ?_|refine CM G (aa d) ?_|refine CH rfl (aa d) rfl ?_|refine CM ω (aa l) ?_|refine Pu.two rfl rfl (aa d) rfl rfl rfl (aa l) rfl (W2 _) (G3 h a v) ?_|refine CB ?_)
  refine CF rfl rfl ?_;exact wC
 rw[R0 g]at n;rw[C9 (Or.inr g),C9 g]
 repeat'(first|refine gA ?_|(conv=>whnf);first|refine CB ?_|refine CJ (p) (.inl rfl) ?_|refine CG (t) ⟨⟨rfl,CZ _⟩,⟨rfl,rfl⟩,trivial⟩ ?_|refine C7 (n) ?_|refine CN (by decide) ?_|refine CL (pB b) ?_)
 refine CF rfl rfl ?_;exact wC
def xf(l:a8)(n:Int):aA:=if(n+15) / 16<l.a2 then⟨l.Q+(n+15) / 16,l.a2 - (n+15) / 16⟩ else⟨0,0⟩
theorem vb(l:a8)(n:Int)(d:bE l=true):ar Tryz.prog 567 false [.val (some 3) (a8.enc .X l),.val none [I n]] (.tup [some 3,some 2,none]) (if 9<=n/\n<=l.o then a8.enc .own (trimL l n)++aA.enc .own (xf l n)++[B true] else a8.enc .own l++[I 0,I 0]++[B false]):=by
 have b:=mJ l;rw[d]at b;have a:=aF n 9 l.o;have g:=d;unfold bE at g;rw[C0]at g;by_cases e:9<=n/\n<=l.o
 ·rw[O0 e]at a
  rw[C9 e];have c:=lF n;rw[show fj n=(n+15) / 16 by unfold fj;rw[C9 ω]]at c;unfold xf;by_cases h:(n+15) / 16<l.a2
  ·rw[C9 h]
   refine fO 43 [(7,261,[37,38,39,40,42,0,1,2,3,5,4,1005,6,1005,7,8])] Tryz.func567 rfl ?_ (.inr ⟨trivial,trivial,trivial,trivial,trivial,trivial,trivial⟩)
   repeat'(first|refine gD ?_|(conv=>whnf);first|refine CB ?_|refine C7 (b) ?_|refine C7 (a) ?_|refine C7 (c) ?_|refine CB ?_)
   rfl
  rw[C8 h];refine fO 43 [(7,261,[37,38,39,40,42,0,1,2,3,5,4,1005,6,1005,7,8])] Tryz.func567 rfl ?_ (.inr ⟨trivial,trivial,trivial,trivial,trivial,trivial,trivial⟩)
  repeat'(first|refine gD ?_|(conv=>whnf);first|refine CB ?_|refine C7 (b) ?_|refine C7 (a) ?_|refine C7 (c) ?_|refine CB ?_)
  rfl
 rw[R0 e]at a;rw[C8 e];refine fO 43 [(7,261,[37,38,39,40,42,0,1,2,3,5,4,1005,6,1005,7,8])] Tryz.func567 rfl ?_ (.inr ⟨trivial,trivial,trivial,trivial,trivial,trivial,trivial⟩)
 repeat'(first|refine gO ?_|(conv=>whnf);first|refine CB ?_|refine C7 (b) ?_|refine C7 (a) ?_|refine CB ?_)
 rfl
theorem Ba(h:ab)(t a:Int)(c:h.T.length<=4)(d:¬(0<=t/\t<=h.T.length - 1)):aS Tryz.prog 527 false [.ptr (bz h),.val none [I t],.val none [I a]] [.ptr (bz h),.val none [I t],.val none [I a]] .one [I 1]:=by
 have b:=aF t 0 (h.T.length - 1:Int);rw[R0 d]at b;refine fM 148 [(560,[2,0]),(562,[2,0]),(564,[2,0,0]),(559,[2,0])] [(15,269,[68,69,70,71,72,73,74,75,77,67,78,79,11,0,1,2,3,4,5,6,7,13,8,1000,1001,1002,1003,1004,1013,9,10,11,12,14,1012,15]),(22,15,[92,93,94,95,96,97,98,99,100,101,102,103,104,105,106]),(25,271,[116,117,118,119,120,121,122,123,124,125,127,115,128,129,14,0,1,2,3,4,5,6,7,8,9,15,10,1000,1001,1002,1003,1015,11,12,13,14,16,1014,17])] [(0,0),(0,0),(0,0)] Tryz.func527 rfl (λu q=>?_)
 repeat'(first|refine gO ?_|(conv=>whnf);first|refine CB ?_|refine C7 (b) ?_)
 refine CF rfl rfl ?_;exact wC
theorem BB(h:ab)(i t:Nat)(a:aV h [])(j:i<h.O.length)(U:t<h.T.length)(K:(nth h.O i).a3≠t):aS Tryz.prog 527 false [.ptr (bz h),.val none [I (t:Nat)],.val none [I (nth h.O i).Addr]] [.ptr (bz (freeT h t i).1),.val none [I (t:Nat)],.val none [I (nth h.O i).Addr]] .one [I (freeT h t i).2]:=by
 have F:=am j;obtain⟨-,L,d⟩:=a.objAt F;have N:o7 h (nth h.O i).Addr=i:=by
  have V:=(a.objAt F).1;exact cE (f:=(·.Addr)) (cN a.osr) V j (by rw[L])
 rw[N]at d;have b:=tl a F;have W:=a.onu _ F;have n:=a.lens;have X:=n.objs;have Y:=a.nc;have Z:=lr.of a.mail;have hb4:=Z.b4;have o:=aF (t:Nat) 0 (h.T.length - 1:Int);rw[O0 ω]at o;have p:=qp h (nth h.O i).Addr ω;rw[d]at p;have e:=ao j;have G:=jZ (nth h.O i).o;have O:=bH a.ker;have P:=db h.G.F.R ((nth h.O i).Addr / 16) O.1.2;unfold freeT;by_cases H:aI (nth h.O i).o<0
 ·rw[C9 H]
  have c3:=pI h i a j H;refine fM 148 [(560,[2,0]),(562,[2,0]),(564,[2,0,0]),(559,[2,0])] [(15,269,[68,69,70,71,72,73,74,75,77,67,78,79,11,0,1,2,3,4,5,6,7,13,8,1000,1001,1002,1003,1004,1013,9,10,11,12,14,1012,15]),(22,15,[92,93,94,95,96,97,98,99,100,101,102,103,104,105,106]),(25,271,[116,117,118,119,120,121,122,123,124,125,127,115,128,129,14,0,1,2,3,4,5,6,7,8,9,15,10,1000,1001,1002,1003,1015,11,12,13,14,16,1014,17])] [(0,0),(0,0),(0,0)] Tryz.func527 rfl (λu q=>?_)
  repeat'(first|refine gD ?_|(conv=>whnf);first|with_reducible refine Bf.D (λc=>?_) (λc=>?_)|refine CB ?_|refine C7 (o) ?_|refine CG (p) ⟨⟨rfl,bD h⟩,⟨rfl,rfl⟩,trivial⟩ ?_|refine CC (aa e) ?_|refine CH rfl (aa e) rfl ?_|refine C7 (G) ?_|refine CJ (c3) (.inl rfl) ?_)
  refine CF rfl rfl ?_;exact wC
 rw[C8 H];obtain⟨s1,s2,s3,s4⟩:=QG.of a (am j) H;by_cases J:(ac (tbl h) ((nth h.O i).Addr / 16)).j=1
 ·rw[C9 J]
  unfold tbl at J;refine fM 148 [(560,[2,0]),(562,[2,0]),(564,[2,0,0]),(559,[2,0])] [(15,269,[68,69,70,71,72,73,74,75,77,67,78,79,11,0,1,2,3,4,5,6,7,13,8,1000,1001,1002,1003,1004,1013,9,10,11,12,14,1012,15]),(22,15,[92,93,94,95,96,97,98,99,100,101,102,103,104,105,106]),(25,271,[116,117,118,119,120,121,122,123,124,125,127,115,128,129,14,0,1,2,3,4,5,6,7,8,9,15,10,1000,1001,1002,1003,1015,11,12,13,14,16,1014,17])] [(0,0),(0,0),(0,0)] Tryz.func527 rfl (λu q=>?_)
  repeat'(first|refine gA ?_|(conv=>whnf);first|with_reducible refine Bf.D (λc=>?_) (λc=>?_)|refine CB ?_|refine CN (by decide) ?_|refine CL (pB b) ?_|refine C7 (o) ?_|refine CG (p) ⟨⟨rfl,bD h⟩,⟨rfl,rfl⟩,trivial⟩ ?_|refine CC (aa e) ?_|refine CH rfl (aa e) rfl ?_|refine C7 (G) ?_|refine CG (P) ⟨⟨rfl,CZ _⟩,⟨rfl,rfl⟩,trivial⟩ ?_)
  refine CF rfl rfl ?_;exact wC
 rw[C8 J,C8 K];unfold tbl at J;have r:=JC h.w t ⟨(nth h.O i).a3,(nth h.O i).Addr⟩ a.mail ω;by_cases l:bJ (gQ h.w t ⟨(nth h.O i).a3,(nth h.O i).Addr⟩)=true;rotate_left
 ·rw[C8 l]
  rw[C8 l,show bJ (gQ h.w t ⟨(nth h.O i).a3,(nth h.O i).Addr⟩)=false by simpa using l]at r;refine fM 148 [(560,[2,0]),(562,[2,0]),(564,[2,0,0]),(559,[2,0])] [(15,269,[68,69,70,71,72,73,74,75,77,67,78,79,11,0,1,2,3,4,5,6,7,13,8,1000,1001,1002,1003,1004,1013,9,10,11,12,14,1012,15]),(22,15,[92,93,94,95,96,97,98,99,100,101,102,103,104,105,106]),(25,271,[116,117,118,119,120,121,122,123,124,125,127,115,128,129,14,0,1,2,3,4,5,6,7,8,9,15,10,1000,1001,1002,1003,1015,11,12,13,14,16,1014,17])] [(0,0),(0,0),(0,0)] Tryz.func527 rfl (λu q=>?_)
  repeat'(first|refine gA ?_|(conv=>whnf);first|with_reducible refine Bf.D (λc=>?_) (λc=>?_)|refine CB ?_|refine CN (by decide) ?_|refine CL (pB b) ?_|refine C7 (o) ?_|refine CG (p) ⟨⟨rfl,bD h⟩,⟨rfl,rfl⟩,trivial⟩ ?_|refine CC (aa e) ?_|refine CH rfl (aa e) rfl ?_|refine C7 (G) ?_|refine CG (P) ⟨⟨rfl,CZ _⟩,⟨rfl,rfl⟩,trivial⟩ ?_|refine CG (r) ⟨⟨rfl,aK.enc_fz h.w⟩,⟨rfl,rfl⟩,⟨rfl,rfl⟩,trivial⟩ ?_|refine CB ?_)
  refine CF rfl rfl ?_;exact wC
 rw[C9 l];rw[C9 l,l]at r;have w:cL h.G (nth h.O i).Addr<h.G.F.V.S.length:=by unfold cL;omega
 have hcz:=JV s1;have B:=dE (aI (nth h.O i).o);unfold KB;generalize gQ h.w t ⟨(nth h.O i).a3,(nth h.O i).Addr⟩ = M at r;refine fM 148 [(560,[2,0]),(562,[2,0]),(564,[2,0,0]),(559,[2,0])] [(15,269,[68,69,70,71,72,73,74,75,77,67,78,79,11,0,1,2,3,4,5,6,7,13,8,1000,1001,1002,1003,1004,1013,9,10,11,12,14,1012,15]),(22,15,[92,93,94,95,96,97,98,99,100,101,102,103,104,105,106]),(25,271,[116,117,118,119,120,121,122,123,124,125,127,115,128,129,14,0,1,2,3,4,5,6,7,8,9,15,10,1000,1001,1002,1003,1015,11,12,13,14,16,1014,17])] [(0,0),(0,0),(0,0)] Tryz.func527 rfl (λu q=>?_)
 repeat'(first|refine gA ?_|(conv=>whnf);first|with_reducible refine Bf.D (λc=>?_) (λc=>?_)|refine CB ?_|refine CN (by decide) ?_|refine CL (pB b) ?_|refine C7 (o) ?_|refine CG (p) ⟨⟨rfl,bD h⟩,⟨rfl,rfl⟩,trivial⟩ ?_|refine CC (aa e) ?_|refine CH rfl (aa e) rfl ?_|refine C7 (G) ?_|refine CG (P) ⟨⟨rfl,CZ _⟩,⟨rfl,rfl⟩,trivial⟩ ?_|refine CG (r) ⟨⟨rfl,aK.enc_fz h.w⟩,⟨rfl,rfl⟩,⟨rfl,rfl⟩,trivial⟩ ?_|refine CB ?_)
 have Q:({{h with w:=M} with G:=eQ h.G (nth h.O i).Addr 0} : ab) = {h with w:=M}:=GZ {h with w:=M} _ w;have R:=U0 (λy:ab=>C.s .own (y.G.F.V.S.map (aG .own))) Q
 (conv=>whnf)
 refine CE (ι:=Nat) (λk=>[(0,.H .box (bz {{h with w:=M} with G:=eQ h.G (nth h.O i).Addr k})),(1,.H .one [I ((t:Nat):Int)]),(2,.H .one [I ((nth h.O i).Addr)]),(7,.H .one [I ((i:Nat):Int)]),(8,.H .box (br.enc .own (nth h.O i))),(9,.H .one [I (aI (nth h.O i).o)]),(10,.H .box (bi.enc .own (ac h.G.F.R ((nth h.O i).Addr / 16)))),(13,.H .one [I ((k:Nat):Int)])]) (λk=>k<=(csz (aI (nth h.O i).o)).toNat) (λk=>(csz (aI (nth h.O i).o)).toNat - k) (0) ?_ (T0 _) λk hk=>?_
 ·repeat'(first|exact trivial|rfl |exact o6 R|exact ee _|refine CK ?_ ?_|(exact DY (by first|omega|(simp only;omega)|(simp;omega))))
 have T:IntKind.i64.wrap 0=0:=rfl;have S:(nth h.O i).Addr.tmod 16=(nth h.O i).Addr % 16:=eR b.1;have g:(eQ h.G (nth h.O i).Addr k).F.V.S[(ac h.G.F.R ((nth h.O i).Addr / 16)).e.toNat]? = some (kI (nth h.G.F.V.S (cL h.G (nth h.O i).Addr)) ((nth h.O i).Addr % 16).toNat k):=O3 w;by_cases lk:k<(csz (aI (nth h.O i).o)).toNat
 ·have E:=ao (xs:=kI (nth h.G.F.V.S (cL h.G (nth h.O i).Addr)) ((nth h.O i).Addr % 16).toNat k) (i:=((nth h.O i).Addr % 16+k).toNat) (by rw[lV,s4];omega)
  repeat'(first|refine gD ?_|(conv=>whnf);first|refine CB ?_|refine CN (by decide) ?_|refine CS S ?_|refine C7 (B) ?_|refine CM s2.1 (aa g) ?_|refine CH rfl (aa g) rfl ?_|refine CM ω (aa E) ?_|refine Pu.two rfl rfl (aa g) rfl rfl rfl (aa E) rfl (W2 _) (E0 {h with w:=M} _ k _ b.1) ?_)
  ((conv=>whnf);refine CD (k+1) ω ω ?_;(exact wC))
 obtain rfl:k=(csz (aI (nth h.O i).o)).toNat:=ω
 have c6:=nj {{h with w:=M} with G:=eQ h.G (nth h.O i).Addr (csz (aI (nth h.O i).o)).toNat} i j (by show h.O.length<=_;omega)
 repeat'(first|refine gA ?_|(conv=>whnf);first|with_reducible refine Bf.D (λc=>?_) (λc=>?_)|refine CB ?_|refine C7 (B) ?_|refine CJ (c6) (.inl rfl) ?_)
 refine CF rfl rfl ?_;exact wC
theorem NQ(h:ab)(i:Nat)(t:Int)(a:aV h [])(d:i<h.O.length):aS Tryz.prog 527 false [.ptr (bz h),.val none [I t],.val none [I (nth h.O i).Addr]] [.ptr (bz (if 0<=t/\t<=h.T.length - 1 then(freeT h t.toNat i).1 else h)),.val none [I t],.val none [I (nth h.O i).Addr]] .one [I (if 0<=t/\t<=h.T.length - 1 then(freeT h t.toNat i).2 else 1)]:=by
 have c:h.T.length<=4:=by have:=(d6.1 a.mail).1.2.1;have:=a.nc;omega
 by_cases b:0<=t/\t<=h.T.length - 1
 ·rw[C9 b,C9 b]
  obtain⟨n,rfl⟩:=R2 b.1;simp only[O2];by_cases e:(nth h.O i).a3=n
  ·have:=Fg h (nth h.O i) n a (am d) e c
   have g:o7 h (nth h.O i).Addr=i:=by
    obtain⟨k,j,-⟩:=a.objAt (am d);exact cE (f:=(·.Addr)) (cN a.osr) k d (by rw[j])
   rw[g,<-yG e]at this;exact this
  exact BB h i n a d ω e
 rw[C8 b,C8 b];exact Ba h t _ c b
end Go.Proofs.YtecefhjnejfheaaGreat.Ab
