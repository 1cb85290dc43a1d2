/- A slot taken, an address taken out of a cache, an object begun: a heap stays whole. No condition. -/
import Derived.Test.YtcblmfpcekokjaaGreatKDd
import Derived.Test.YtcblmfpcekokjaaGreatKDf
import Derived.Test.YtcblmfpcekokjaaGreatKDc
import Derived.Test.YtcblmfpcekokjaaGreatKDe
set_option linter.unusedVariables false
set_option linter.defProp false
set_option linter.unusedSimpArgs false
set_option linter.constructorNameAsVariable false
namespace Go.Proofs.YtcblmfpcekokjaaGreat.Ab
variable{α:Type}
def mq(p:α->Bool)(xs:List α):Nat:=(xs.findIdx? p).getD xs.length
def lA(p:α->Bool)(xs:List α)(y:α):List α:=xs.take (mq p xs)++y::xs.drop (mq p xs)
theorem XO(p:α->Bool)(xs:List α):mq p xs<=xs.length:=by
 unfold mq;cases e:xs.findIdx? p with
 | none=>exact z5 _
 | some i=>grind [IE]
theorem nY(p:α->Bool)(xs:List α)(y:α):(lA p xs y).Perm (y::xs):=by grind [List.perm_middle,List.take_append_drop,lA]
theorem eO{p:α->Bool}{xs:List α}{y z:α} : z∈lA p xs y↔z=y\/z∈xs:=by grind [nY]
variable{i:Nat}
theorem pF{p:α->Bool}{xs:List α}(b:i<=xs.length)(a:∀(j:Nat)(z:α),j<i->xs[j]? = some z->p z=false)(c:∀z,xs[i]? = some z->p z=true):mq p xs=i:=by
 unfold mq;by_cases e:i<xs.length
 ·rw[AN (z4 e) ψ a];rfl
 grind [Jy]
theorem po{f:α->Int}{xs:List α}{y:α}(h:xs.Pairwise λa b=>f a<f b)(g:∀z∈xs,f z≠f y):(lA (λz=>decide (f y<=f z)) xs y).Pairwise λa b=>f a<f b:=by
 have k:∀z∈xs.drop (mq (λz=>decide (f y<=f z)) xs),f y<f z:=λz c=>by
  obtain⟨j,d,rfl⟩:=List.mem_drop_iff_getElem.1 c;have l:=g _ (List.getElem_mem d);cases e:xs.findIdx? (λz=>decide (f y<=f z)) with
  | none=>
   grind [mq]
  | some i=>
   grind [IE,List.pairwise_iff_getElem,mq]
 have n:∀z∈xs.take (mq (λz=>decide (f y<=f z)) xs),f z<f y:=λz c=>by
  obtain⟨j,d,rfl⟩:=List.mem_take_iff_getElem.1 c;unfold mq at d;cases e:xs.findIdx? (λz=>decide (f y<=f z)) with
  | none=>
   grind
  | some i=>
   grind [IE]
 unfold lA
 grind [List.pairwise_cons]
def jg(b i:Int):Int:=((b.toNat ||| 2 ^ i.toNat:Nat):Int)
def vj(s:aC)(i:Int):aC:={s with a3:=jg s.a3 i}
theorem Ee(b i:Int)(j:Nat):(jg b i).toNat.testBit j=(b.toNat.testBit j || decide (i.toNat=j)):=by
 unfold jg;rw[O4,Nat.testBit_or,Nat.testBit_two_pow]
theorem ND{b i:Int}(a:0<=b)(c:0<=i/\i<=15)(j:Int):br (jg b i) j=true↔br b j=true\/j=i:=by grind [lW,Ee,jg]
variable{k:Int}
theorem iB(h:0<=k/\k<=3):lim k=2 ^ (slots k).toNat - 1/\0<=slots k/\slots k<=16/\slots k*csz k=16:=by
 obtain rfl|rfl|rfl|rfl:k=0\/k=1\/k=2\/k=3:=ω
 all_goals decide
variable{s:aC}
theorem HD(h:bu s=true){i:Int}(k:0<=i/\i<slots s.Z):bu (vj s i)=true:=by
 have b:=aT h;obtain⟨c,l,o,-⟩:=iB b.2.2;unfold bu at h;rw[C0]at h;obtain⟨d,e,f,g,p,a⟩:=h;refine O0 ⟨d,e,f,g,by show 0<=jg s.a3 i;grind [jg],?_⟩;show jg s.a3 i<=lim s.Z;rw[c]at a |-;have j:((2 ^ (slots s.Z).toNat:Nat):Int)=(2:Int) ^ (slots s.Z).toNat:=by norm_cast
 rw[<-j]at a |-;have:=Nat.or_lt_two_pow (x:=s.a3.toNat) (y:=2 ^ i.toNat) (n:=(slots s.Z).toNat) ω (Nat.pow_lt_pow_right ω ω)
 grind [jg]
theorem TT{u:aC}{i:Int}(c:0<=i/\i<slots s.Z)(k:br u.a3 i=false)(h:meshable s u=true):meshable (vj s i) u=true:=by
 unfold meshable at h |-;simp only[I0,C0]at h |-;obtain⟨⟨a,b⟩,d,e,l⟩:=h;have f:=aT a;obtain⟨n,o,p,-⟩:=iB f.2.2;have g:=f8 b;refine⟨⟨HD a c,b⟩,d,e,?_⟩;refine Nat.eq_of_testBit_eq λj=>?_
 grind [Ee,lW,vj]
theorem yQ(h:bu s=true){i:Int}(c:0<=i/\i<slots s.Z)(b:Int):hO (vj s i) b↔hO s b\/b=16*s.S+i*csz s.Z:=by
 have a:=aT h;obtain⟨d,e,f,g⟩:=iB a.2.2;have j:=dx a.2.2;unfold hO
 grind [ND,f8,vj]
variable{sp:List aC}
def TW(k:Int)(a:i<sp.length):(sp.set i (vj (nth sp i) k)).map (·.S)=sp.map (·.S):=by
 rw[IC];refine List.ext_getElem (by simp) λj b c=>?_
 rw[List.getElem_set];split
 ·rename_i e;subst e
  rw[List.getElem_map];show(nth sp i).S=_;rw[bI (z4 a)]
 rfl
variable{la:List aA}
def kX.setS(p:sj sp la)(g:i<sp.length)(h:0<=k/\k<slots (nth sp i).Z)(b c:Int):kX (sp.set i (vj (nth sp i) k)) b c↔kX sp b c\/(b=16*(nth sp i).S+k*csz (nth sp i).Z/\(c<0\/(nth sp i).Z=c)):=by
 have d:=p.sok _ (ay g);constructor
 ·rintro⟨s,l,f,a⟩
  rcases kg l with rfl|⟨j,n,q,rfl⟩
  ·rcases(yQ d h b).1 f with o|o
   ·exact .inl ⟨_,ay g,o,a⟩
   exact .inr ⟨o,a⟩
  exact .inl ⟨_,ay n,f,a⟩
 rintro(⟨s,l,f,a⟩|⟨f,a⟩)
 ·obtain⟨j,n,rfl⟩:=b9 l
  by_cases e:j=i
  ·subst e
   exact⟨_,k4 _ g,(yQ d h b).2 (.inl f),a⟩
  exact⟨_,lZ _ n e,f,a⟩
 exact⟨_,k4 _ g,(yQ d h b).2 (.inr f),a⟩
variable{E:List Int}{h:ac}
theorem Xl(d:bo h E)(g:i<h.J.length)(o:0<=k/\k<=15)(b:br (fp h i) k=false):br (nth h.J i).a3 k=false/\∀u∈h.J,(nth (tbl h).M u.S.toNat).g=(nth (tbl h).M (nth h.J i).S.toNat).g->br u.a3 k=false:=by
 have e:=d.L;have p:=f8 (e.sok _ (ay g));unfold fp at b;rw[<-OA,H5 e.sok p o]at b;rw[not_or]at b;have q:br (nth h.J i).a3 k=false:=by simpa using b.1
 have a:∀s∈h.J,s.S.toNat<ge h/\(nth (tbl h).M s.S.toNat).o≠0/\((s.S.toNat:Nat):Int)=s.S:=λs l=>by
  have K:=aT (e.sok s l);have M:=d.pg.bnd s.S (fR l);have n:s.S.toNat<(tbl h).M.length:=ω
  have r:((s.S.toNat:Nat):Int)=s.S:=ω
  exact⟨n,(d.pg.own _ n).2 (by grind [fR]),r⟩
 refine⟨q,λu c t=>?_⟩;rw[<-OA];intro w;obtain⟨y,A,B⟩:=a _ (ay g);obtain⟨C,D,F⟩:=a u c;have G:u.S∈bh h (nth h.J i).S:=by
  rw[<-B,iD y A,<-F];exact ik.2 ⟨C,D,t⟩
 obtain⟨v,H,f⟩:=b9 G;obtain⟨j,J,rfl⟩:=b9 c;exact b.2 ⟨v,H,j,J,f.symm,w⟩
theorem bo.take{F:Int}(d:bo h E)(r:i<h.J.length)(G:0<=k/\k<slots (nth h.J i).Z)(w:br (fp h i) k=false)(Q:0<=F/\F<=1073741823) :
  bo {h with b3:=F,J:=h.J.set i (vj (nth h.J i) k)} ((16*(nth h.J i).S+k*csz (nth h.J i).Z)::E):=by
 have A:=d.L;have H:=A.sok _ (ay r);have B:=aT H;obtain⟨l1,l2,l3,l4⟩:=iB B.2.2;have hz:=dx B.2.2;obtain⟨u1,u2⟩:=Xl d r ω w;have g:=λb c=>kX.setS A r G b c
 have J:=TW k r;generalize ha:16*(nth h.J i).S+k*csz (nth h.J i).Z=a at g |-;have K:¬hO (nth h.J i) a:=by
  rintro⟨-,-,-,h4⟩
  grind
 have hrange:16*(nth h.J i).S<=a/\a<=16*(nth h.J i).S+15:=ψ
 have M:¬sv h.J h.H a:=by
  rintro(⟨s,p,t,-⟩|⟨l,R,e⟩)
  ·obtain⟨j,O,rfl⟩:=b9 p
   have:=iO (f:=(·.S)) A.nd O r (by have a1:=t.1;have a2:=t.2.1;omega)
   grind
  exact(Dm A R).1 _ (ay r) ω
 have N:a∉E++holders h:=λP=>M ((d.mem a).1 P)
 have n:∀s∈h.J.set i (vj (nth h.J i) k),∃u∈h.J,u.S=s.S/\(s=u\/(u=nth h.J i/\s=vj u k)):=λs p=>by
  rcases kg p with rfl|⟨j,O,S,rfl⟩
  ·exact⟨_,ay r,rfl,.inr ⟨rfl,rfl⟩⟩
  grind [ay]
 generalize T:h.J.set i (vj (nth h.J i) k)=sp at g J n |-;have q:pgs sp h.H=pgs h.J h.H:=by grind [pgs]
 have U:∀u∈h.J,∃s∈sp,s.S=u.S:=λu w=>by
  have:u.S∈sp.map (·.S):=ψ
  grind
 exact {d with
   lay:=by grind [bo.lay,HD,bK]
   srs:=by
     have t:(h.J.map (·.S)).Pairwise (λa b=>a<b):=List.pairwise_map.2 d.srs
     grind
   pg:=⟨d.pg.one,by rw[q];exact d.pg.bnd,by rw[q];exact d.pg.own,d.pg.fre,λs p u w V W=>by
     obtain⟨X,Y,Z,hs2⟩:=n s p;obtain⟨u',hu',eu,hu2⟩:=n u w;have hf':(nth (tbl h).M X.S.toNat).g=(nth (tbl h).M u'.S.toNat).g:=by rw[Z,eu];exact W
     grind [Pg.mesh,bo.pg,qL,TT]⟩
   nums:=by
     have:=d.nums
     grind [cU]
   oow:=λo ho=>by
     rcases d.oow o ho with⟨s,p,t,h2⟩|t
     · obtain⟨u,w,g1,C⟩:=(g o.Addr (aZ o.q)).2 (.inl ⟨s,p,t,.inr h2⟩)
       refine .inl ⟨u,w,g1,?_⟩;rcases C with C|C
       · have:=aT (A.sok _ p);omega
       exact C
     exact .inr t
   hca:=λc B k G b D=>(g b k).2 (.inl (d.hca c B k G b D))
   hqu:=λy hy=>(g _ _).2 (.inl (d.hqu y hy))
   hfl:=λb D=>(g _ _).2 (.inl (d.hfl b D))
   hin:=λb D=>by grind [bo.hin]
   nd:=by
     rw[List.cons_append];exact List.nodup_cons.2 ⟨N,d.nd⟩
   mem:=λb=>by
     show b∈a::E++holders h↔sv sp h.H b
     grind [bo.mem,sv]
   job:=λP=>by grind [bo.job]}
def xL(c:aB)(k:Nat):aB:=⟨c.X.set k ((nth c.X k).take ((nth c.X k).length - 1))⟩
theorem UL{l:List Int}(h:0<l.length):l=l.take (l.length - 1)++[nth l (l.length - 1)]:=by grind [hB,List.take_append_drop]
variable{t:Nat}
theorem bo.pop{k:Nat}(d:bo h E)(f:t<h.Q.length)(g:k<(nth h.Q t).X.length)(l:0<(nth (nth h.Q t).X k).length)(u:bL (xL (nth h.Q t) k)=true) :
  bo {h with Q:=h.Q.set t (xL (nth h.Q t) k)} (nth (nth (nth h.Q t).X k) ((nth (nth h.Q t).X k).length - 1)::E)/\kX h.J (nth (nth (nth h.Q t).X k) ((nth (nth h.Q t).X k).length - 1)) k:=by
 have n:=UL l;have i:=d.hca _ (ay f) k g (nth (nth (nth h.Q t).X k) ((nth (nth h.Q t).X k).length - 1)) ψ;refine⟨?_,i⟩;generalize w:nth (nth (nth h.Q t).X k) ((nth (nth h.Q t).X k).length - 1)=a at n i |-;have p:(E++holders h).Perm (a::E++holders {h with Q:=h.Q.set t (xL (nth h.Q t) k)}):=by
  refine List.perm_iff_count.2 λb=>?_
  have A:=kV (λc:aB=>c.X.flatten) b h.Q t (xL (nth h.Q t) k) f;have q:=kV (λy:List Int=>y) b (nth h.Q t).X k ((nth (nth h.Q t).X k).take ((nth (nth h.Q t).X k).length - 1)) g;rw[<-oe,<-oe]at q
  grind [xL,holders,dB]
 exact {d with
   nc:=by grind [bo.nc]
   cach:=λc e=>by grind [bo.cach]
   onu:=by show ∀o∈h.K,1<=o.Id/\o.Id<=h.j - 1/\0<=o.p/\o.p<=(h.Q.set t _).length - 1;rw[C3];exact d.onu
   hca:=λc e j B b r=>by grind [bo.hca,dd,ay,xL]
   hin:=λb r=>by grind [kX.any,bo.hin]
   nd:=p.nodup_iff.1 d.nd
   mem:=λb=>by grind [bo.mem]}
def QU(a:Int)(o:aW):Bool:=decide (a<=o.Addr)
def addO(h:ac)(a size t:Int):ac:={h with K:=lA (QU a) h.K ⟨h.j,a,size,t⟩,j:=h.j+1}
theorem GI(a:cU h=true)(b:h.j<1000000):decide (0<=h.b3/\h.b3<=1073741823/\0<=h.a4/\h.a4<=1000000/\0<=h.b7/\h.b7<=1000/\1<=h.j+1/\h.j+1<=1000000)=true:=by grind [cU]
theorem bo.addO{h:ac}{E:List Int}{a size t:Int}(c:bo h (a::E))(d:Wo h.J h.H ⟨h.j,a,size,t⟩)(p:h.j<1000000)(q:0<=t/\t<=h.Q.length - 1):bo (addO h a size t) E:=by
 have i:=nY (QU a) h.K ⟨h.j,a,size,t⟩;have n:(a::E++holders h).Perm (E++holders (Ab.addO h a size t)):=by
  have r:=i.map (·.Addr);refine List.perm_iff_count.2 λb=>?_
  have u:=r.count_eq b;simp only[SB,List.count_cons]at u;simp only[holders,dB,Ab.addO,CC,List.cons_append,List.count_cons];omega
 have j:=c.nd;rw[List.cons_append]at j;obtain⟨k,-⟩:=List.nodup_cons.1 j;have l:∀o∈h.K,o.Addr≠a:=λo d e=>k (v5.2 (.inr (by unfold holders;grind)))
 exact {c with
   nums:=GI c.nums p
   osr:=po (f:=λo:aW=>o.Addr) (y:=⟨h.j,a,size,t⟩) c.osr l
   onu:=λo d=>by
     rcases eO.1 d with rfl|d
     · have:=c.nums
       unfold cU at this;rw[C0]at this;exact⟨ψ,by show h.j<=h.j+1 - 1;omega,q⟩
     have:=c.onu o d;exact⟨this.1,by show o.Id<=h.j+1 - 1;omega,this.2.2⟩
   oid:=by
     show((lA (QU a) h.K ⟨h.j,a,size,t⟩).map (·.Id)).Nodup;rw[(i.map _).nodup_iff,SB];refine List.nodup_cons.2 ⟨λw=>?_,c.oid⟩;obtain⟨o,d,e⟩:=O8.1 w;have:=(c.onu o d).2.1
     grind
   oow:=λo g=>by
     rcases eO.1 g with rfl|g
     · exact d
     exact c.oow o g
   hin:=λb A=>c.hin b ψ
   nd:=n.nodup_iff.1 c.nd
   mem:=λb=>by rw[<-n.mem_iff];exact c.mem b}
def gZ(xs:List aD)(n:Int):Nat->Int
 | 0=>-1
 | i+1=>if n<=(nth xs i).a1/\(gZ xs n i<0\/(nth xs i).a1<(nth xs (gZ xs n i).toNat).a1) then(i:Nat) else gZ xs n i
def gG(xs:List aD)(n:Int):Int:=gZ xs n xs.length
def aG(xs:List aD)(n:Int):List aD × Int × Bool:=
 if gG xs n<0 then(xs,-1,false)
 else if(nth xs (gG xs n).toNat).a1=n then(dele xs (gG xs n).toNat,(nth xs (gG xs n).toNat).At,true)
 else(xs.set (gG xs n).toNat ⟨(nth xs (gG xs n).toNat).At+n,(nth xs (gG xs n).toNat).a1 - n⟩,(nth xs (gG xs n).toNat).At,true)
theorem xj(xs:List aD)(n:Int):∀i,i<=xs.length->gZ xs n i = -1\/(0<=gZ xs n i/\gZ xs n i<i/\n<=(nth xs (gZ xs n i).toNat).a1)
 | 0,_=>.inl rfl
 | i+1,a=>by
  have b:=xj xs n i ω
  grind [gZ]
variable{xs:List aD}
def EI(h:lh xs){j:Nat}(a:i<j)(b:j<xs.length):(nth xs i).At+(nth xs i).a1<(nth xs j).At:=by
 have:=List.pairwise_iff_getElem.1 h.1 i j ω b a
 rwa [<-bI (z4 (show i<xs.length by omega)),<-bI (z4 b)]at this
variable{p:Int}
theorem Bp : RH xs p↔∃j,j<xs.length/\(nth xs j).At<=p/\p<(nth xs j).At+(nth xs j).a1:=by grind [b9,ay,RH]
theorem ri{pages:Int}{n:Int}(h:bR pages xs=true)(R:1<=n)(f:(aG xs n).2.2=true) :
  bR pages (aG xs n).1=true/\0<=(aG xs n).2.1/\(aG xs n).2.1+n<=pages/\(∀p,RH (aG xs n).1 p↔RH xs p/\¬((aG xs n).2.1<=p/\p<(aG xs n).2.1+n))/\∀p,(aG xs n).2.1<=p->p<(aG xs n).2.1+n->RH xs p:=by
 obtain⟨e,E,t⟩:=jl.1 h;have u:=xj xs n xs.length (z5 _);unfold aG at f |-;change gG xs n = -1\/_ at u;split at f
 ·cases f
 rename_i g;rw[CJ g];obtain⟨F,G,w⟩:=u.resolve_left ω;change 0<=gG xs n at F;change gG xs n<xs.length at G;change n<=(nth xs (gG xs n).toNat).a1 at w;generalize H:(gG xs n).toNat=b at w |-;have d:b<xs.length:=ω
 have A:=E _ (ay d);have J:∀j,j<xs.length->j≠b->(nth xs j).At+(nth xs j).a1<(nth xs b).At\/(nth xs b).At+(nth xs b).a1<(nth xs j).At:=λj c k=>by
  rcases Nat.lt_or_gt_of_ne k with l|o
  ·exact .inl (EI e l d)
  exact .inr (EI e o c)
 split
 ·rename_i K
  have L:(dele xs b).Sublist xs:=gC ..;refine⟨jl.2 ⟨⟨e.1.sublist L,ψ⟩,ψ,t⟩,A.1,ψ,λp=>?_,λp M N=>Bp.2 ψ⟩;simp only;rw[Bp (xs:=xs)];constructor
  ·rintro⟨r,O,B,C⟩
   grind [ig]
  rintro⟨⟨j,c,B,C⟩,P⟩
  exact⟨_,ig.2 ψ,B,C⟩
 rename_i K;have a:∀j,nth (xs.set b ⟨(nth xs b).At+n,(nth xs b).a1 - n⟩) j=if j=b then⟨(nth xs b).At+n,(nth xs b).a1 - n⟩ else nth xs j:=λj=>by grind [dd]
 refine⟨jl.2 ⟨⟨?_,λy Q=>?_⟩,λy Q=>?_,t⟩,A.1,ψ,λp=>?_,λp M N=>Bp.2 ψ⟩
 ·rw[List.pairwise_iff_getElem]
  intro i j D c q;rw[<-bI (z4 D),<-bI (z4 c),a,a];simp only[C3]at D c;have S:=EI e q c
  grind
 ·grind
 ·grind
 simp only;rw[Bp,Bp,C3];constructor
 ·grind
 grind
def sP(k:af):Int:=cC (λu=>!u) k.F.V.y
def zq(k:af)(p:Int)(f:Nat):af:={k with F:=⟨⟨k.F.V.U,k.F.V.y.set f true⟩,⟨k.F.R.M.set p.toNat ⟨2,(f:Nat)⟩⟩⟩}
def eD(k:af)(p:Int):af × Bool:=if refd k=true\/sP k<0 then(eC k,false) else(zq (eC k) p (sP k).toNat,true)
theorem LK{k:af}(h:¬sP k<0):(sP k).toNat<k.F.V.y.length/\nth k.F.V.y (sP k).toNat=false:=by grind [tE,sP]
variable{f:Nat}
theorem G2{k:af}(h:aN k=true)(a:f<k.F.V.y.length)(b:nth k.F.V.y f=false)(q:Nat)(c:q<k.F.R.M.length)(d:(nth k.F.R.M q).o≠0):(nth k.F.R.M q).g≠(f:Nat):=by grind [aM,gH]
theorem XA{k:af}(h:aN k=true)(A:0<=p/\p<k.F.R.M.length)(B:(nth k.F.R.M p.toNat).o=0)(c:f<k.F.V.y.length)(d:nth k.F.V.y f=false):aN (zq k p f)=true:=by
 have g:=G2 h c d;obtain⟨i,l,n,o,r⟩:=aM.1 h;obtain⟨t,u,C,w⟩:=bk.1 l;obtain⟨D,E,F⟩:=bF.1 n;have a:∀q,nth (k.F.R.M.set p.toNat ⟨2,(f:Nat)⟩) q=if p.toNat=q then⟨2,(f:Nat)⟩ else nth k.F.R.M q:=λq=>by grind [dd]
 refine aM.2 ⟨i,bk.2 ⟨t,u,by grind [zq],λj b=>?_⟩,bF.2 ⟨λj b=>?_,?_,?_⟩,λj b=>?_,r⟩
 ·replace b:j<k.F.V.U.length:=b
  show jH (nth k.F.V.U j) (nth (k.F.V.y.set f true) j)=true;have G:=w j b;rw[dd]
  grind [jH,kY]
 ·simp only[zq,C3]at b |-
  rw[a];split
  all_goals grind [qY]
 ·grind [zq]
 ·grind [zq]
 simp only[zq,C3]at b;show nth (k.F.V.y.set f true) j=_;rw[dd];by_cases e:f=j
 ·grind [gH,zq]
 rw[CJ λz=>e z.1,o j b];refine decide_eq_decide.2 ?_;rw[gH,gH];simp only[zq,C3,a];constructor
 ·rintro⟨q,y,H,J⟩
  refine⟨q,y,?_⟩
  grind
 grind
structure Dr(k:af)(p:Int)(r:af × Bool):Prop where
 ker:aN r.1=true
 len:r.1.F.R.M.length=k.F.R.M.length
 calls:r.1.Calls=k.Calls+1
 ref:r.1.k=k.k
 cells:r.1.F.V.U=k.F.V.U
 no:r.2=false->r.1=eC k
 yes:r.2=true->∃f:Nat,f<k.F.V.y.length/\nth k.F.V.y f=false/\(∀q:Nat,nth r.1.F.R.M q=if(q:Int)=p then⟨2,(f:Nat)⟩ else nth k.F.R.M q)/\∀q,q<k.F.R.M.length->(nth k.F.R.M q).o≠0->(nth k.F.R.M q).g≠(f:Nat)
theorem Dr.of{k:af}(h:aN k=true)(c:k.Calls≠100000)(f:0<=p/\p<k.F.R.M.length)(g:(nth k.F.R.M p.toNat).o=0):Dr k p (eD k p):=by
 unfold eD;split
 ·exact⟨qW h c,rfl,rfl,rfl,rfl,λ_=>rfl,λe=>by cases e⟩
 rename_i d;rw[not_or]at d;obtain⟨a,b⟩:=LK d.2;refine⟨XA (qW h c) f g a b,by simp[zq,eC],rfl,rfl,rfl,ψ,λ_=>⟨_,a,b,λq=>?_,λq=>G2 h a b q⟩⟩
 grind [dd,zq,eC]
def bP(k:af)(p:Int):Nat->af × Nat
 | 0=>(k,0)
 | i+1=>if(bP k p i).2=i then((eD (bP k p i).1 (p+(i:Nat))).1,if(eD (bP k p i).1 (p+(i:Nat))).2=true then i+1 else i) else bP k p i
structure iZ(k:af)(p:Int)(i:Nat)(r:af × Nat):Prop where
 ker:aN r.1=true
 len:r.1.F.R.M.length=k.F.R.M.length
 calls:k.Calls<=r.1.Calls/\r.1.Calls<=k.Calls+i
 ref:r.1.k=k.k
 cells:r.1.F.V.U=k.F.V.U
 le:r.2<=i
 out:∀q:Nat,¬(p<=q/\(q:Int)<p+r.2)->nth r.1.F.R.M q=nth k.F.R.M q
 new:∀q:Nat,p<=q->(q:Int)<p+r.2->(nth r.1.F.R.M q).o=2/\∀u:Nat,u<k.F.R.M.length->(nth r.1.F.R.M u).o≠0->(nth r.1.F.R.M u).g=(nth r.1.F.R.M q).g->u=q
theorem iZ.of{k:af}{p:Int}{n:Nat}(h:aN k=true)(l:k.Calls+n<=100000)(o:0<=p/\p+n<=k.F.R.M.length)(t:∀q:Nat,p<=q->(q:Int)<p+n->(nth k.F.R.M q).o=0):∀i,i<=n->iZ k p i (bP k p i)
 | 0,_=>⟨h,rfl,⟨O9 _,by show k.Calls<=k.Calls+((0:Nat):Int);omega⟩,rfl,rfl,z5 _,λ_ _=>rfl,λq d b=>by grind [bP]⟩
 | i+1,B=>by
  have a:=iZ.of h l o t i ω;unfold bP;split
  case isFalse=>exact⟨a.ker,a.len,⟨a.calls.1,by have:=a.calls.2;omega⟩,a.ref,a.cells,by have:=a.le;omega,a.out,a.new⟩
  rename_i u;generalize bP k p i=r at a u |-;have y:=a.calls;have c:(nth r.1.F.R.M (p+(i:Nat)).toNat).o=0:=by grind [iZ.out]
  have s:=Dr.of (p:=p+(i:Nat)) a.ker ω ⟨ω,by rw[a.len];omega⟩ c;generalize eD r.1 (p+(i:Nat))=w at s |-;refine⟨s.ker,s.len.trans a.len,⟨by grind [Dr.calls],by grind [Dr.calls]⟩,s.ref.trans a.ref,s.cells.trans a.cells,ψ,λq g=>?_,λq d b=>?_⟩
  ·simp only at g |-
   cases e:w.2 with
   | false=>
    rw[s.no e];rw[e]at g;exact a.out q ψ
   | true=>
    obtain⟨f,-,-,j,-⟩:=s.yes e
    grind [iZ.out]
  simp only at b |-;cases e:w.2 with
  | false=>
   rw[s.no e];rw[e]at b;exact a.new q d ψ
  | true=>
   obtain⟨f,-,-,j,C⟩:=s.yes e;rw[e,CK rfl]at b;have A:q<k.F.R.M.length:=ω
   rw[j];by_cases D:(q:Int)=p+(i:Nat)
   ·grind [iZ.len]
   grind [iZ.new,iZ.len]
theorem iZ.undo{k:af}{r:af × Nat}(s:iZ k p i r)(h:aN k=true)(a:0<=p/\p+i<=k.F.R.M.length)(b:∀q:Nat,p<=q->(q:Int)<p+i->(nth k.F.R.M q).o=0):aN (dX r.1 p r.2)=true/\tEq k.F.R (dX r.1 p r.2).F.R:=by
 have c:=s.le;have d:=qU s.ker a.1 r.2 (by rw[s.len];omega);refine⟨kz s.ker p r.2,((iy r.1 p r.2).1).trans s.len,λq=>?_⟩;rw[d];split
 ·rename_i e
  have f:=b q e.1 ω
  grind [aM,bF,qY]
 grind [iZ.out]
theorem Pg.add{t c:aL}{B f:List aD}{a:List aC}{b:List aA}{n:Nat}(o:Pg t B sp la)(C:c.M.length=t.M.length)(H:p+n<=t.M.length)(R:0<=p)(S:∀q:Nat,¬(p<=q/\(q:Int)<p+n)->nth c.M q=nth t.M q)(D:∀q:Nat,p<=q->(q:Int)<p+n->(nth c.M q).o=2/\∀u:Nat,u<t.M.length->(nth c.M u).o≠0->(nth c.M u).g=(nth c.M q).g->u=q)(J:∀q,RH f q↔RH B q/\¬(p<=q/\q<p+n))(r:∀q,q∈pgs a b↔q∈pgs sp la\/(p<=q/\q<p+n))(g:∀s∈a,0<=s.S/\(s∈sp\/(p<=s.S/\s.S<p+n)))(w:∀l∈b,l∈la\/∀q∈lpgs l l.a0.toNat,p<=q/\q<p+n):Pg c f a b:=by
 have E:∀q:Nat,q<t.M.length->((nth c.M q).o≠0↔(q:Int)∈pgs a b):=λq h=>by grind [Pg.own]
 refine⟨λl i q h u k T U=>?_,λq h=>?_,ψ,λq h=>?_,λs F u k K V=>?_⟩
 ·rw[C]at k
  have A:=iz (sp:=a) i h;have L:q<t.M.length:=by
   rcases(r _).1 A with d|d
   ·have:=o.bnd _ d;omega
   omega
  by_cases e:p<=q/\(q:Int)<p+n
  ·grind
  have M:=(w l i).resolve_right ψ
  grind [Pg.one]
 ·rw[C]
  rcases(r _).1 h with d|d
  ·exact o.bnd _ d
  omega
 ·grind [Pg.fre]
 obtain⟨N,W⟩:=g s F;obtain⟨O,X⟩:=g u k;have j:∀y∈a,0<=y.S->y.S.toNat<t.M.length/\((y.S.toNat:Nat):Int)=y.S/\(nth c.M y.S.toNat).o≠0:=λy P Q=>by
  have d:=fR (la:=b) P;have Y:y.S.toNat<t.M.length:=by
   rcases(r _).1 d with G|G
   ·have:=o.bnd _ G;omega
   omega
  grind
 obtain⟨Z,sc,sd⟩:=j s F N;obtain⟨ub,uc,ud⟩:=j u k O;by_cases es:p<=s.S/\s.S<p+n
 ·grind
 by_cases eu:p<=u.S/\u.S<p+n
 all_goals grind [Pg.mesh]
theorem MI{a:List aC}{b:List aA}(c:a.Perm sp)(d:b.Perm la):(pgs a b).Perm (pgs sp la):=by grind [pgs]
def ML(p:Int)(s:aC):Bool:=decide (p<=s.S)
def WY(p:Int)(l:aA):Bool:=decide (p<=l.S)
def addS(h:ac)(k:af)(a:List aD)(p c:Int):ac:={h with G:=k,a:=a,J:=lA (ML p) h.J ⟨p,c,0⟩}
def lQ(a:bo h E){n:Int}(j:1<=n)(k:(aG h.a n).2.2=true):0<=(aG h.a n).2.1/\(aG h.a n).2.1+n<=(tbl h).M.length/\(∀q:Nat,(aG h.a n).2.1<=q->(q:Int)<(aG h.a n).2.1+n->(nth (tbl h).M q).o=0)/\∀q:Int,(aG h.a n).2.1<=q->q<(aG h.a n).2.1+n->q∉pgs h.J h.H:=by
 obtain⟨r,l,f,t,o⟩:=ri a.rng j k;have g:∀q:Nat,(aG h.a n).2.1<=q->(q:Int)<(aG h.a n).2.1+n->(nth (tbl h).M q).o=0:=λq b c=>by
  have d:q<(tbl h).M.length:=by
   have:(aG h.a n).2.1+n<=((tbl h).M.length:Nat):=f;omega
  by_cases e:(nth (tbl h).M q).o=0
  ·exact e
  exact absurd (o q b c) ((a.pg.fre q d).1 e)
 refine⟨l,f,g,λq b c i=>?_⟩;have u:=a.pg.bnd q i;obtain⟨m,rfl⟩:=t5 (show 0<=q by omega);have p:=(a.pg.own m ω).2 i;exact p (g m b c)
theorem bo.addS{h:ac}{E:List Int}{c:Int}(a:bo h E)(V:0<=c/\c<=3)(D:(aG h.a 1).2.2=true){k:af}(s:Dr h.G (aG h.a 1).2.1 (k,true)):bo (addS h k (aG h.a 1).1 (aG h.a 1).2.1 c) E:=by
 obtain⟨Q,R,W,F,X⟩:=ri a.rng (O9 _) D;obtain⟨-,S,Y,Z⟩:=lQ a (O9 _) D;generalize (aG h.a 1).2.1=p at R W F X S Y Z s |-;generalize (aG h.a 1).1=fr at Q F |-;obtain⟨f,f1,f2,T,f4⟩:=s.yes rfl;have G:=(bF.1 (aM.1 a.ker).2.2.1).2.2;change (tbl h).M.length<=32 at G;have hL:=a.L;have H:=nY (ML p) h.J ⟨p,c,0⟩;have J:=MI H (List.Perm.refl h.H);have A:(pgs (lA (ML p) h.J ⟨p,c,0⟩) h.H).Perm (p::pgs h.J h.H):=J;have K:p∉pgs h.J h.H:=ψ
 have M:∀z∈h.J,z.S≠p:=λz i e=>K (by grind [fR])
 have r:∀b d,kX (lA (ML p) h.J ⟨p,c,0⟩) b d↔kX h.J b d:=λb d=>by
  constructor
  ·rintro⟨s,B,w,N⟩
   rcases eO.1 B with rfl|B
   ·grind [JD]
   exact⟨s,B,w,N⟩
  rintro⟨s,B,w⟩
  exact⟨s,eO.2 (.inr B),w⟩
 exact {a with
   ker:=s.ker
   rng:=by show bR ((k.F.R.M.length:Nat):Int) fr=true;rw[s.len];exact Q
   lay:=by
     obtain⟨l1,l2,l3⟩:=gq a.lay;unfold bK;simp only[I0,C0];refine⟨⟨O7.2 λz i=>?_,l2⟩,A.nodup_iff.2 ψ⟩;rcases eO.1 i with rfl|i
     · have hl0:0<=lim c:=by
         have:=(iB V).1;obtain rfl|rfl|rfl|rfl:c=0\/c=1\/c=2\/c=3:=ω
         all_goals decide
       exact O0 ψ
     grind
   srs:=po (f:=λz:aC=>z.S) (y:=⟨p,c,0⟩) a.srs M
   pg:=by
     refine a.pg.add (p:=p) (n:=1) s.len (by exact S) R (λq hq=>?_) (λq q1 q2=>?_) (λq=>F q) (λq=>?_) (λz i=>?_) (λl hl=>.inl hl)
     · exact(T q).trans (CJ ω)
     · have hq:(q:Int)=p:=ω
       have U:nth k.F.R.M q = ⟨2,(f:Nat)⟩:=ψ
       refine⟨O1 aS.o U,λu O t g=>?_⟩;have fu:nth k.F.R.M u=if(u:Int)=p then⟨2,(f:Nat)⟩ else nth h.G.F.R.M u:=T u
       change (nth k.F.R.M u).o≠0 at t;change (nth k.F.R.M u).g=(nth k.F.R.M q).g at g;rw[fu]at t g;rw[U]at g;by_cases eu:(u:Int)=p
       · omega
       rw[CJ eu]at t g;exact absurd g (f4 u O t)
     · show q∈pgs (lA (ML p) h.J ⟨p,c,0⟩) h.H↔_
       grind
     rcases eO.1 i with rfl|i
     · grind
     exact⟨(aT (hL.sok z i)).1,.inl i⟩
   oow:=λo D=>by
     rcases a.oow o D with⟨z,i,w,N⟩|w
     · exact .inl ⟨z,eO.2 (.inr i),w,N⟩
     exact .inr w
   hca:=λd hd j hj b C=>(r b j).2 (a.hca d hd j hj b C)
   hqu:=λy P=>(r _ _).2 (a.hqu y P)
   hfl:=λb C=>(r _ _).2 (a.hfl b C)
   hin:=λb C=>(r _ _).2 (a.hin b C)
   mem:=λb=>(a.mem b).trans (by
     show sv h.J h.H b↔sv (lA (ML p) h.J ⟨p,c,0⟩) h.H b
     grind [sv])
   job:=λhm=>by
     obtain⟨j1,⟨y,P,e1⟩,⟨u,O,e2⟩⟩:=a.job hm;exact⟨j1,⟨y,eO.2 (.inr P),e1⟩,⟨u,eO.2 (.inr O),e2⟩⟩}
def addL(h:ac)(k:af)(a:List aD)(p n size t:Int):ac:={h with G:=k,a:=a,H:=lA (WY p) h.H ⟨p,n,size⟩,K:=lA (QU (16*p)) h.K ⟨h.j,16*p,size,t⟩,j:=h.j+1}
theorem bo.addL{h:ac}{E:List Int}{size t:Int}{n:Nat}(a:bo h E)(g:9<=size/\size<=1000)(J:(n:Int)=(size+15) / 16)(i:(aG h.a n).2.2=true){k:af}(s:iZ h.G (aG h.a n).2.1 n (k,n))(hn:h.j<1000000)(ht:0<=t/\t<=h.Q.length - 1) :
  bo (addL h k (aG h.a n).1 (aG h.a n).2.1 n size t) E:=by
 have B:(1:Int)<=n:=ω
 obtain⟨V,K,r3,M,r5⟩:=ri a.rng B i;obtain⟨-,W,u3,H⟩:=lQ a B i;generalize (aG h.a n).2.1=p at K r3 M r5 W u3 H s |-;generalize (aG h.a n).1=fr at V M |-;have N:=(bF.1 (aM.1 a.ker).2.2.1).2.2;change (tbl h).M.length<=32 at N;have O:=a.L;have P:=nY (WY p) h.H ⟨p,n,size⟩;have C:=nY (QU (16*p)) h.K ⟨h.j,16*p,size,t⟩;have Q:lpgs ⟨p,n,size⟩ ((n:Nat):Int).toNat=lpgs ⟨p,n,size⟩ n:=by rw[O4]
 have D:(pgs h.J (lA (WY p) h.H ⟨p,n,size⟩)).Perm (lpgs ⟨p,n,size⟩ n++pgs h.J h.H):=by
  refine(MI (List.Perm.refl h.J) P).trans ?_;unfold pgs;rw[OD];simp only[Q];rw[<-CB,<-CB];exact List.perm_append_comm.append_right _
 have u:∀q,q∈lpgs ⟨p,n,size⟩ n↔p<=q/\q<p+n:=λq=>by
  rw[eM];constructor
  ·rintro⟨j,hj,rfl⟩;exact⟨by show p<=p+(j:Int);omega,by show p+(j:Int)<_;omega⟩
  rintro⟨X,Y⟩;exact⟨(q - p).toNat,ω,by show q=p+_;omega⟩
 have R:(lpgs ⟨p,n,size⟩ n).Nodup:=by
  unfold lpgs List.Nodup;rw[List.pairwise_map];exact List.nodup_range.imp λr e=>r (by simp only at e;omega)
 have r:∀z∈h.H,z.S≠p:=λz g e=>H p (O9 _) ω (by rw[<-e];exact iz g (eM.2 ⟨0,by have:=bj (O.lok z g);omega,ω⟩))
 have S:¬sv h.J h.H (16*p):=by
  rintro(⟨z,g,d,-⟩|⟨l,c,e⟩)
  ·exact H p (O9 _) ω (by rw[show p=z.S by have a1:=d.1;have a2:=d.2.1;omega];exact fR g)
  exact r l c ω
 have F:(16*p)∉E++holders h:=λT=>S ((a.mem _).1 T)
 have U:∀o∈h.K,o.Addr≠16*p:=λo i e=>F (v5.2 (.inr (by unfold holders;simp only[v5];exact .inl (.inl (.inl (O8.2 ⟨o,i,e⟩))))))
 have Z:(E++holders (Ab.addL h k fr p n size t)).Perm ((16*p)::(E++holders h)):=by
  have h0:=C.map (·.Addr);refine List.perm_iff_count.2 λb=>?_
  have d:=h0.count_eq b;simp only[SB,List.count_cons]at d;simp only[holders,dB,Ab.addL,CC,List.count_cons];omega
 exact {a with
   ker:=s.ker
   rng:=by show bR ((k.F.R.M.length:Nat):Int) fr=true;rw[s.len];exact V
   lay:=by
     obtain⟨l1,l2,l3⟩:=gq a.lay;unfold bK;simp only[I0,C0];refine⟨⟨l1,O7.2 λz w=>?_⟩,D.nodup_iff.2 (List.nodup_append.2 ⟨R,l3,λq G b hb e=>?_⟩)⟩
     · rcases eO.1 w with rfl|w
       · exact O0 ⟨g.1,g.2,J,K,by show p<=32 - (n:Int);omega⟩
       exact O.lok z w
     subst e;have:=(u q).1 G;exact H q this.1 this.2 hb
   srl:=po (f:=λz:aA=>z.S) (y:=⟨p,n,size⟩) a.srl r
   pg:=by
     refine a.pg.add (p:=p) (n:=n) s.len (by exact W) K (λq G=>s.out q G) (λq X Y=>s.new q X Y) (λq=>M q) (λq=>?_) (λz g=>⟨(aT (O.sok z g)).1,.inl g⟩) (λl c=>?_)
     · show q∈pgs h.J (lA (WY p) h.H ⟨p,n,size⟩)↔_
       rw[D.mem_iff,v5,u];exact Or.comm
     rcases eO.1 c with rfl|c
     · exact .inr λq G=>(u q).1 (by simpa using G)
     exact .inl c
   nums:=GI a.nums hn
   osr:=po (f:=λo:aW=>o.Addr) (y:=⟨h.j,16*p,size,t⟩) a.osr U
   onu:=λo i=>by
     rcases eO.1 i with rfl|i
     · have:=a.nums
       unfold cU at this;rw[C0]at this;exact⟨by show 1<=h.j;omega,by show h.j<=h.j+1 - 1;omega,ht⟩
     have:=a.onu o i;exact⟨this.1,by show o.Id<=h.j+1 - 1;omega,this.2.2⟩
   oid:=by
     show((lA (QU (16*p)) h.K ⟨h.j,16*p,size,t⟩).map (·.Id)).Nodup;rw[(C.map _).nodup_iff,SB];refine List.nodup_cons.2 ⟨λT=>?_,a.oid⟩;obtain⟨o,i,e⟩:=O8.1 T;have:=(a.onu o i).2.1;simp only at e;omega
   oow:=λo A=>by
     rcases eO.1 A with rfl|A
     · exact .inr ⟨_,eO.2 (.inl rfl),rfl,rfl⟩
     rcases a.oow o A with d|⟨l,c,d⟩
     · exact .inl d
     exact .inr ⟨l,eO.2 (.inr c),d⟩
   nd:=Z.nodup_iff.2 (List.nodup_cons.2 ⟨F,a.nd⟩)
   mem:=λb=>by
     rw[Z.mem_iff,List.mem_cons,a.mem b];show _↔sv h.J (lA (WY p) h.H ⟨p,n,size⟩) b;unfold sv;constructor
     · rintro(rfl|d|⟨l,c,e⟩)
       · exact .inr ⟨_,eO.2 (.inl rfl),rfl⟩
       · exact .inl d
       exact .inr ⟨l,eO.2 (.inr c),e⟩
     rintro(d|⟨l,c,e⟩)
     · exact .inr (.inl d)
     rcases eO.1 c with rfl|c
     · exact .inl e
     exact .inr (.inr ⟨l,c,e⟩)}
structure JK(h h':ac):Prop where
 job:h'.a2=h.a2
 msh:h'.w=h.w
 sp:∀s∈h.J,iw h s.S=true->∃s'∈h'.J,s'.S=s.S/\∀u,meshable s u=true->meshable s' u=true
 ent:∀q:Nat,(nth (tbl h').M q).o≠0->((nth (tbl h).M q).o≠0/\(nth (tbl h').M q).g=(nth (tbl h).M q).g)\/∀u:Nat,(nth (tbl h').M u).o≠0->(nth (tbl h').M u).g=(nth (tbl h').M q).g->u=q
theorem JK.refl(h:ac):JK h h:=⟨rfl,rfl,ψ,ω⟩
variable{h':ac}
theorem JK.pg(k:JK h h')(p:Int):iw h' p=iw h p:=by grind [JK.job,JK.msh,iw]
theorem JK.trans{h1 h2:ac}(a:JK h h1)(b:JK h1 h2):JK h h2:=by
 refine⟨b.job.trans a.job,b.msh.trans a.msh,λs e f=>?_,λq c=>?_⟩
 ·grind [JK.sp,JK.pg]
 rcases b.ent q c with⟨d,g⟩|d
 all_goals grind [JK.ent]
theorem bo.mapped(a:bo h E)(b:s∈h.J):0<=s.S/\s.S<(tbl h).M.length/\(nth (tbl h).M s.S.toNat).o≠0:=by
 have c:=(aT (a.L.sok s b)).1;have d:=a.pg.bnd _ (fR (la:=h.H) b);refine⟨c,d,(a.pg.own s.S.toNat ω).2 ?_⟩
 grind [fR]
theorem JK.less(h1:h'.a2=h.a2)(h2:h'.w=h.w)(a:h'.J=h.J)(b:∀q:Nat,(nth (tbl h').M q).o≠0->nth (tbl h').M q=nth (tbl h).M q):JK h h':=
 ⟨h1,h2,ψ,ψ⟩
theorem JK.eq(h1:h'.a2=h.a2)(h2:h'.w=h.w)(a:h'.J=h.J)(b:tbl h'=tbl h):JK h h':=.less h1 h2 a ψ
def JK.clrS{h:ac}{E:List Int}{a:Int}{i:Nat}(f:bo h E)(c:i<h.J.length)(d:hO (nth h.J i) a):JK h (clrS h i a):=by
 refine⟨rfl,rfl,λs g _=>?_,λq k=>.inl ⟨k,rfl⟩⟩;obtain⟨j,l,rfl⟩:=b9 g;by_cases e:j=i
 ·subst e
  have b:=f.L.sok _ (ay c);exact⟨_,k4 _ c,rfl,λu n=>Hy b (yL b ⟨d.1,d.2.1⟩) n⟩
 exact⟨_,lZ _ l e,rfl,λ_ z=>z⟩
theorem JK.giveP{h:ac}{E:List Int}{i:Nat}(a:bo h E)(b:i<h.J.length)(c:iw h (nth h.J i).S=false):JK h (giveP h i):=by
 obtain⟨d,e,-⟩:=a.mapped (ay b);refine⟨rfl,rfl,λs f g=>?_,λq k=>.inl ?_⟩
 ·obtain⟨j,l,rfl⟩:=b9 f
  exact⟨_,ig.2 ψ,rfl,λ_ z=>z⟩
 have n:=Ej a.ker (p:=(nth h.J i).S) ⟨d,e⟩ q;change (nth (cY h.G (nth h.J i).S).F.R.M q).o≠0 at k;show(nth h.G.F.R.M q).o≠0/\(nth (cY h.G (nth h.J i).S).F.R.M q).g=(nth h.G.F.R.M q).g
 grind
def JK.freeS{h:ac}{E:List Int}{a:Int}{i:Nat}(c:bo h (a::E))(b:i<h.J.length)(d:hO (nth h.J i) a):JK h (freeS h i a):=by
 have g:=c.give b d;have f:=JK.clrS c b d;unfold Ab.freeS;split
 ·rename_i e
  have j:nth (Ab.clrS h i a).J i=nz (nth h.J i) (fo (nth h.J i) a):=by unfold Ab.clrS;simp only[dd,true_and];rw[CK b]
  exact f.trans (JK.giveP (h:=Ab.clrS h i a) g (by unfold Ab.clrS;simp only[C3];exact b) (by rw[j];exact e.2))
 exact f
theorem JK.freeA{h:ac}{E:List Int}{a:Int}(b:bo h (a::E)):JK h (freeA h a):=by
 obtain⟨c,d,-⟩:=b.at (b.hin a ψ);exact JK.freeS b c d
def JK.recyc{h:ac}{E:List Int}{a:Int}{t:Nat}(b:bo h (a::E)):JK h (recyc t h a):=by
 unfold Ab.recyc;split
 ·exact JK.eq rfl rfl rfl rfl
 exact JK.freeA b
theorem JK.recycs{t:Nat}{E:List Int} : ∀{az:List Int}{h:ac},bo h (az++E)->t<h.Q.length->JK h (recycs t h az)
 | [],h,_,_=>JK.refl h
 | a::az,h,b,c=>(JK.recyc (t:=t) b).trans (JK.recycs (az:=az) (h:=Ab.recyc t h a) (b.recyc c) (by grind [wP]))
def JK.freeAs{E:List Int} : ∀{az:List Int}{h:ac},bo h (az++E)->JK h (freeAs h az)
 | [],h,_=>JK.refl h
 | a::az,h,b=>(JK.freeA b).trans (JK.freeAs (az:=az) (h:=Ab.freeA h a) b.freeA)
def HR(a:bo h E){k:Nat}(b:k<h.H.length):0<=(nth h.H k).S/\(nth h.H k).S+((nth h.H k).a0.toNat:Nat)<=(tbl h).M.length:=by
 have c:=bj (a.L.lok _ (ay b));have d:=a.pg.bnd _ (iz (sp:=h.J) (ay b) (eM.2 ⟨(nth h.H k).a0.toNat - 1,ω,rfl⟩));omega
theorem JK.freeL{h:ac}{E:List Int}{i k:Nat}(a:bo h E)(b:k<h.H.length):JK h (freeL h i k):=by
 obtain⟨c,d⟩:=HR a b;refine JK.less rfl rfl rfl λq e=>?_
 have f:=qU a.ker c (nth h.H k).a0.toNat d q;change (nth (dX h.G (nth h.H k).S (nth h.H k).a0.toNat).F.R.M q).o≠0 at e;show nth (dX h.G (nth h.H k).S (nth h.H k).a0.toNat).F.R.M q=nth h.G.F.R.M q
 grind
theorem JK.freeOb{h:ac}{t i:Nat}(b:bo h [])(c:i<h.K.length)(d:t<h.Q.length):JK h (freeOb h t i).1:=by
 unfold Ab.freeOb;split
 ·rename_i a
  obtain⟨l,e,h1,-⟩:=(fA b (ay c)).1 a
  grind [JK.freeL,yn]
 rename_i a;split
 ·exact JK.refl h
 have h1:=b.inQuar c a;exact JK.trans (h1:=Ab.inQuar h i) (JK.eq rfl rfl rfl rfl) (JK.recycs (E:=[]) ψ d)
variable{a:Int}
theorem JK.take(b:iw h (nth h.J i).S=false):JK h {h with b3:=a,J:=h.J.set i (vj (nth h.J i) k)}:=by
 refine⟨rfl,rfl,λs e c=>?_,λq d=>.inl ⟨d,rfl⟩⟩
 grind [b9,lZ]
theorem QH{t:aL}{q:Nat}(h:(nth t.M q).o≠0):q<t.M.length:=by
 by_cases e:q<t.M.length
 ·exact e
 exfalso;apply h;unfold nth;rw[List.getD_eq_getElem?_getD,I4 ω]
 rfl
theorem JK.addS{h:ac}{k:af}{b:List aD}{p c:Int}(s:Dr h.G p (k,true)):JK h (addS h k b p c):=by
 obtain⟨f,g,i,j,l⟩:=s.yes rfl;have a:k.F.R.M.length=h.G.F.R.M.length:=s.len;refine⟨rfl,rfl,λz d _=>⟨z,eO.2 (.inr d),rfl,λ_ y=>y⟩,λq e=>?_⟩;change (nth k.F.R.M q).o≠0 at e;show((nth h.G.F.R.M q).o≠0/\(nth k.F.R.M q).g=(nth h.G.F.R.M q).g)\/∀u:Nat,(nth k.F.R.M u).o≠0->(nth k.F.R.M u).g=(nth k.F.R.M q).g->u=q
 grind [QH]
theorem JK.addL{h:ac}{k:af}{d:List aD}{p size t:Int}{n:Nat}(s:iZ h.G p n (k,n)):JK h (addL h k d p n size t):=by
 have a:k.F.R.M.length=h.G.F.R.M.length:=s.len;refine⟨rfl,rfl,λz f _=>⟨z,f,rfl,λ_ y=>y⟩,λq g=>?_⟩;change (nth k.F.R.M q).o≠0 at g;show((nth h.G.F.R.M q).o≠0/\(nth k.F.R.M q).g=(nth h.G.F.R.M q).g)\/∀u:Nat,(nth k.F.R.M u).o≠0->(nth k.F.R.M u).g=(nth k.F.R.M q).g->u=q
 by_cases e:p<=q/\(q:Int)<p+n
 ·exact .inr λu c b=>(s.new q e.1 e.2).2 u (by rw[<-a];exact QH c) c b
 have i:=s.out q e
 grind
def fj(m:aJ)(f:Nat):aJ:=⟨m.T.set f ((nth m.T f).drop 1),m.e.set (nth (nth m.T f) 0).To.toNat (nth m.e (nth (nth m.T f) 0).To.toNat++[(nth (nth m.T f) 0).Addr])⟩
def km(m:aJ)(t:Nat):aJ:=⟨m.T,m.e.set t []⟩
def gI(m:aJ)(f:Nat)(p:aV):aJ:=⟨m.T.set f (nth m.T f++[p]),m.e⟩
variable{m:aJ}
theorem eG : bN m=true↔(1<=m.T.length/\m.T.length<=4/\m.e.length=m.T.length)/\(∀i,i<m.T.length->(∀p∈nth m.T i,0<=p.To/\p.To<=(m.T.length:Int) - 1/\0<=p.Addr)/\∀a∈nth m.e i,0<=a)/\bW m m.T.length<=30:=by grind [cK,bN,jx,rd,Xh]
theorem tK(m:aJ)(f t:Nat)(x:List aV)(y:List Int)(a:f<m.T.length)(b:t<m.e.length):∀n:Nat,bW ⟨m.T.set f x,m.e.set t y⟩ n=bW m n+(if f<n then(x.length:Int) - ((nth m.T f).length:Nat) else 0)+(if t<n then(y.length:Int) - ((nth m.e t).length:Nat) else 0)
 | 0=>by simp[bW]
 | n+1=>by
  have c:=tK m f t x y a b n
  grind [dd,bW]
theorem Qz[Inhabited α]{xs:List α}(h:i<xs.length):xs.set i (nth xs i)=xs:=by
 rw[<-C4.1 (au h) |>.2]
 simp_all
theorem L1(h:bN m=true)(a:f<m.T.length)(b:0<(nth m.T f).length):bN (fj m f)=true:=by
 obtain⟨⟨e,g,j⟩,c,k⟩:=eG.1 h;obtain⟨d,l⟩:=c f a;have n:=d _ (ay b);have o:(nth (nth m.T f) 0).To.toNat<m.e.length:=ω
 refine eG.2 ⟨⟨?_,?_,?_⟩,λi p=>?_,?_⟩
 ·grind [fj]
 ·grind [fj]
 ·grind [fj]
 ·grind [dd,fj]
 grind [tK,fj]
theorem XC(h:bN m=true)(a:t<m.e.length):bN (km m t)=true:=by
 obtain⟨⟨b,c,e⟩,f,g⟩:=eG.1 h;refine eG.2 ⟨⟨b,c,?_⟩,λi j=>?_,?_⟩
 ·grind [km]
 ·grind [dd,km]
 have d:=tK m t t (nth m.T t) [] ω a m.T.length;rw[Qz ω]at d;show bW ⟨m.T,m.e.set t []⟩ m.T.length<=30
 grind
theorem qJ(h:bN m=true)(b:Int):(bi m).count b=(m.T.flatMap λl=>l.map (·.Addr)).count b+(m.e.flatMap λx=>x).count b:=by grind [oe,bi]
theorem bo.mailed{c:List Int}(d:bo h E)(e:bN m=true)(f:m.T.length=h.b.T.length)(i:∀b,c.count b+(bi m).count b=E.count b+(bi h.b).count b)(j:∀a,a∈c\/a∈bi m->kX h.J a (-1)):bo {h with b:=m} c:=by
 have g:(E++holders h).Perm (c++holders {h with b:=m}):=by grind [holders,dB]
 exact {d with
   mail:=e
   nc:=d.nc.trans f.symm
   hfl:=(ψ)
   hin:=(ψ)
   nd:=g.nodup_iff.1 d.nd
   mem:=λb=>by grind [bo.mem]}
theorem P9{c:List Int}(e:bo h E)(d:∀b,c.count b+(bi m).count b=E.count b+(bi h.b).count b):∀a,a∈c\/a∈bi m->kX h.J a (-1):=λa f=>by
 have g:=d a
 grind [bo.hin,bo.hfl]
theorem bo.deliv(c:bo h E)(d:f<h.b.T.length)(a:0<(nth h.b.T f).length):bo {h with b:=fj h.b f} E:=by
 have e:=L1 c.mail d a;obtain⟨⟨j,k,n⟩,g,o⟩:=eG.1 c.mail;have i:=(g f d).1 _ (ay a);have q:∀b,E.count b+(bi (fj h.b f)).count b=E.count b+(bi h.b).count b:=λb=>by
  rw[qJ e,qJ c.mail];have r:=kV (λl:List aV=>l.map (·.Addr)) b h.b.T f ((nth h.b.T f).drop 1) d;have t:=kV (λx:List Int=>x) b h.b.e (nth (nth h.b.T f) 0).To.toNat (nth h.b.e (nth (nth h.b.T f) 0).To.toNat++[(nth (nth h.b.T f) 0).Addr]) ω;have u:(nth h.b.T f).map (·.Addr)=(nth (nth h.b.T f) 0).Addr::((nth h.b.T f).drop 1).map (·.Addr):=by
   generalize nth h.b.T f=l at a
   match l,a with
   | p::l,_=>rfl
  grind [fj]
 grind [bo.mailed,P9,fj]
theorem bo.coll(a:bo h E)(e:t<h.b.e.length):bo {h with b:=km h.b t} (nth h.b.e t++E):=by
 have c:=XC a.mail e;have d:∀b,(nth h.b.e t++E).count b+(bi (km h.b t)).count b=E.count b+(bi h.b).count b:=λb=>by grind [qJ,bo.mail,kV,km]
 exact a.mailed c rfl d (P9 a d)
theorem bo.send{p:aV}(c:bo h (p.Addr::E))(d:f<h.b.T.length)(a:bN (gI h.b f p)=true):bo {h with b:=gI h.b f p} E:=by
 have e:∀b,E.count b+(bi (gI h.b f p)).count b=(p.Addr::E).count b+(bi h.b).count b:=λb=>by
  rw[qJ a,qJ c.mail];have g:=kV (λl:List aV=>l.map (·.Addr)) b h.b.T f (nth h.b.T f++[p]) d
  grind [gI]
 grind [bo.mailed,P9,gI]
def sy(now:Int):List aK->Nat
 | []=>0
 | x::xs=>if x.a9<now - 100 then sy now xs+1 else 0
def aged(h:ac)(n:Int):ac:={h with a4:=h.a4+n,r:=⟨h.r.b2,h.r.l.drop (sy (h.a4+n) h.r.l)⟩}
def n7(h:ac)(n:Int):List Int:=(h.r.l.take (sy (h.a4+n) h.r.l)).map (·.Addr)
def tick(h:ac)(n:Int):ac:=freeAs (aged h n) (n7 h n)
def tI(x:aK)(xs:List aK):∀n,quarCells (x::xs) (n+1)=csz x.Z+quarCells xs n
 | 0=>by simp only[quarCells];show 0+csz x.Z=csz x.Z+0;omega
 | n+1=>by
  rw[kS,tI x xs n,kS];show csz x.Z+quarCells xs n+csz (nth xs n).Z=_;omega
theorem Z1(k:Int):0<=csz k:=by grind [csz]
theorem Rd:∀(l:List aK)(k:Nat),qc (l.drop k)<=qc l
 | [],k=>by simp
 | x::xs,0=>O9 _
 | x::xs,k+1=>by
  have a:=Rd xs k;have b:=Z1 x.Z;have c:qc (x::xs)=csz x.Z+qc xs:=tI x xs xs.length
  grind
theorem bo.aged{h:ac}{E:List Int}{n:Int}(a:bo h E)(t:0<=n)(u:h.a4+n<=1000000):bo (aged h n) (n7 h n++E):=by
 obtain⟨i,j,k,o,p,q⟩:=jO.1 a.quar;have c:=a.nums;unfold cU at c;rw[C0]at c;have e:=List.drop_sublist (sy (h.a4+n) h.r.l) h.r.l;have g:(E++holders h).Perm ((n7 h n++E)++holders (Ab.aged h n)):=by
  refine List.perm_iff_count.2 λb=>?_
  have r:=O1 (λl:List aK=>(l.map (·.Addr)).count b) (List.take_append_drop (sy (h.a4+n) h.r.l) h.r.l);simp only[IB,CC]at r;simp only[holders,dB,Ab.aged,n7,CC];omega
 exact {a with
   nums:=by unfold cU;rw[C0];simp only[Ab.aged];omega
   quar:=jO.2 ⟨λy d=>i y (e.subset d),j.sublist e,k.sublist (e.map _),o,p,Int.le_trans (Rd _ _) q⟩
   snc:=λy d=>by
     have:=a.snc y (e.subset d);show y.a9<=h.a4+n;omega
   hqu:=λy d=>a.hqu y (e.subset d)
   hin:=λb f=>by
     rcases v5.1 f with f|f
     · obtain⟨y,d,rfl⟩:=O8.1 f
       exact(a.hqu y ψ).any
     exact a.hin b f
   nd:=g.nodup_iff.1 a.nd
   mem:=λb=>by rw[<-g.mem_iff];exact a.mem b}
def bo.tick{h:ac}{n:Int}(a:bo h [])(b:0<=n)(c:h.a4+n<=1000000):bo (tick h n) []/\JK h (tick h n):=by
 have h1:=a.aged b c;exact⟨bo.freeAs h1,JK.trans (h1:=Ab.aged h n) (JK.eq rfl rfl rfl rfl) (JK.freeAs h1)⟩
def collect(h:ac)(t:Nat):ac:=recycs t {h with b:=km h.b t} (nth h.b.e t)
theorem bo.collect{h:ac}{t:Nat}(b:bo h [])(a:t<h.Q.length):bo (collect h t) []/\JK h (collect h t):=by
 have h1:=b.coll (t:=t) (by grind [eG,bo.mail,bo.nc]);exact⟨bo.recycs h1 a,JK.trans (h1:={h with b:=km h.b t}) (JK.eq rfl rfl rfl rfl) (JK.recycs h1 a)⟩
def H4(h:ac)(t i:Nat):ac:={h with G:=fG h.G (nth h.K i).Addr (csz (aZ (nth h.K i).q)).toNat,K:=dele h.K i,b:=gI h.b t ⟨(nth h.K i).p,(nth h.K i).Addr⟩}
def freeT(h:ac)(t i:Nat):ac × Int:=
 if aZ (nth h.K i).q<0 then(freeL h i (xf h (nth h.K i).Addr),0)
 else if(ax (tbl h) ((nth h.K i).Addr / 16)).o=1 then(h,5)
 else if(nth h.K i).p=t then(Q2 h t i,0)
 else if bN (gI h.b t ⟨(nth h.K i).p,(nth h.K i).Addr⟩)=true then(H4 h t i,0) else(h,5)
theorem zh(e:(nth h.K i).p=t):freeT h t i=freeOb h t i:=by grind [freeT,freeOb]
theorem bo.freeT{h:ac}{t i:Nat}(a:bo h [])(b:i<h.K.length)(c:t<h.Q.length):bo (freeT h t i).1 []/\JK h (freeT h t i).1:=by
 by_cases e:(nth h.K i).p=t
 ·grind [zh,bo.freeOb,JK.freeOb]
 have d:=a.freeOb b c;have f:=JK.freeOb a b c;unfold Ab.freeOb at d f;unfold Ab.freeT;split
 ·grind
 rename_i g;rw[CJ g]at d f;split
 ·grind
 split
 ·rename_i j
  obtain⟨⟨s,l,n,o⟩,u⟩:=(fA a (ay b)).2 g;have q:=a.dropO b (kX.any ⟨s,l,n,.inr o⟩);have r:=q.cells (k:=fG h.G (nth h.K i).Addr (csz (aZ (nth h.K i).q)).toNat) (LG a.ker _ _) rfl;exact⟨bo.send (p:=⟨(nth h.K i).p,(nth h.K i).Addr⟩) r (by grind [bo.nc]) j,JK.eq rfl rfl rfl rfl⟩
 grind [JK.refl]
def jt(k:af)(a v:Int):af:=setCell k (gc k a) (a % 16) v
def B4{k:af}(h:aN k=true){v:Int}(b:(ax k.F.R (a / 16)).o≠0)(c:0<=v/\v<=999):aN (jt k a v)=true:=by
 obtain⟨d,e,-⟩:=lz h b;exact wz h (f:=gc k a) d e c
def bo.store{v:Int}(b:bo h [])(c:(ax h.G.F.R (a / 16)).o≠0)(d:0<=v/\v<=999):bo {h with G:=jt h.G a v} []/\JK h {h with G:=jt h.G a v}:=
 ⟨b.cells (B4 b.ker c d) rfl,JK.eq rfl rfl rfl rfl⟩
open Go.RowKit
set_option maxRecDepth 20000
set_option maxHeartbeats 4000000
def Yq{xs:List Int}{x:Int}(h:dK xs.length (λj=>decide (nth xs j≠x))=true):x∉xs:=λb=>by
 obtain⟨j,a⟩:=List.mem_iff_getElem?.1 b;have:=gY h (C4.1 a).1;rw[bI a]at this;simp at this
def LJ(xs:List Int)(x:Int)(g:xs.length<=4611686018427387904):zzA 168 false [.val none (aI .O xs),.vI x] .one [B (decide (x∈xs))]:=by
 refine fO 18 [] Tryz.func168 rfl ?_
 refine σP ?_
 refine g0 xs.length (λi=>[(0,b8 (aI .O xs)),(1,fI x),(5,fN i)]) (λi=>dK i (λj=>decide (nth xs j≠x))=true) rfl λi a=>?_
 obtain⟨a,b⟩:=a;by_cases c:i<xs.length
 ·have d:=au c
  by_cases e:nth xs i=x
  ·refine σB ?_
   exact bE ((by symm;exact O0 (by rw[<-e];exact ay c)))
  refine σB ?_
  (exact dL (i+1) ⟨ω,co b (O0 e)⟩)
 refine σE ?_
 obtain rfl:i=xs.length:=ω
 exact bE ((by symm;exact C1 (Yq b)))
theorem bM.more{M c:am}{w d:World}(h:bM M w d)(f:∀b o,M b o->c b o):bM c w d:=
 ⟨h.os,h.tape,h.output,h.size,λb a e=>h.blk b a ψ,λb o a e=>h.cel b o a ψ,λb o a e=>h.fro b o a ψ⟩
variable{rcs:List C}
theorem aX.wk{P:Program}{sh:Bool}{c u:List C}{A B:List MA}{k:Kd}(h:aX P f sh A (.ptr c::B) k rcs)(D:Tl c u):aX P f sh A (.ptr u::B) k rcs:=by
 refine⟨h.has,λw S V i E F l G=>(h.run w S V i E F l G).mono λe w1 H=>?_⟩;obtain⟨v,J,K,X,L,S1,M,n,p,a,q,r,b,N,O,y⟩:=H;refine⟨v,J,K,X,L,S1,M,n,p,a,q,r,b,N,O,?_⟩;cases i with
 | nil=>exact y.elim
 | cons v0 i=>
  obtain⟨⟨Q,Y,R,T,U,⟨g,o,W,Z⟩,d⟩,t⟩:=y;refine⟨⟨Q,Y,R,T,U,⟨g,o,W,λj hj=>Z j (by grind [xz])⟩,HN D d⟩,t⟩
variable{r:List C}
def aX.frame{P:Program}{sh:Bool}{c c':List C}{A B:List MA}{k:Kd}(h:aX P f sh (.ptr c::A) (.ptr c'::B) k rcs)(hl:c'.length=c.length):aX P f sh (.ptr (c++r)::A) (.ptr (c'++r)::B) k rcs:=by
 refine⟨h.has,λw S V vs hS hV hVd hA=>?_⟩;cases vs with
 | nil=>exact hA.elim
 | cons v0 vs=>
 obtain⟨⟨X1,Y,hX1,hY,O,⟨g,q,rfl,u⟩,ff,hf1,J,hf3⟩,hA'⟩:=hA;have hlen:(c++r).length=c.length+r.length:=I5
 let V0:am:=piece g q ff 0 c.length
 let W:Nat->am:=Vh V0 (λi=>V (i+1))
 have hcX:∀o,q<=o->o<q+(c++r).length->X1 g o:=λo l a=>by
  have:=(u (o - q) ω).1
  rwa [show q+(o - q)=o by omega]at this
 have hV0:∀b o,V0 b o->V 0 b o:=λb o p=>by
  rcases p with⟨rfl,l,a⟩|⟨j,-,a,Q⟩
  ·exact hX1 _ _ (hcX o ω ω)
  exact hY _ _ (J j ω b o Q)
 have K:∀i b o,W i b o->V i b o:=λi b o p=>by
  cases i with
  | zero=>exact hV0 b o p
  | succ i=>exact p
 have hA2:U6 w S W (.ptr c::A) (.pointer (some ⟨g,q,none⟩)::vs):=by
  refine⟨?_,hA'⟩;have:=zn (lo:=0) (n:=c.length) (cs:=c++r) ω u hf1 J hf3 O;rw[show bU (c++r) 0 c.length=c by simp[bU]]at this;simp only[CE,Nat.add_zero]at this;exact this
 refine(h.run w S W _ hS (λi b o p=>hV i b o (K i b o p)) (λi i' D b o l a=>hVd i i' D b o (K i b o l) (K i' b o a)) hA2).mono λe w1 hv=>?_
 obtain⟨v,he,hk,X,V',S1,hX,E,hS1,hVd',hXV,hXS,hVS1,hh,hr,hm⟩:=hv;have H:∀b o,(∃i,W i b o)->∃i,V i b o:=λb o ⟨i,Z⟩=>⟨i,K i b o Z⟩
 let R:am:=λb o=>V 0 b o/\¬V0 b o
 have hRW:∀b o,R b o->¬∃i,W i b o:=λb o y ⟨i,Z⟩=>by
  cases i with
  | zero=>exact y.2 Z
  | succ i=>exact hVd 0 (i+1) ω b o y.1 Z
 have F:∀b o,R b o->b<w.heap.size:=λb o y=>(hV 0 b o y.1).1
 have t:∀b o,R b o->¬((∃i,W i b o)\/(b<w1.heap.size/\w.heap.size<=b)):=λb o y p=>by
  rcases p with p|p
  ·exact hRW b o y p
  have:=F b o y;omega
 have hRsame:bB R w w1:=λb o y=>⟨hk.cel b o (F b o y) (hRW b o y),hk.fro b o (F b o y) (hRW b o y)⟩
 have hRS1:∀b o,R b o->¬S1 b o:=λb o y hs=>by
  rcases hS1 b o hs with⟨-,l⟩|l
  ·exact(hV 0 b o y.1).2 l
  exact t b o y l
 have hSsame:bB S w w1:=λb o hb=>⟨hk.cel b o (hS b o hb) (λ⟨i,Z⟩=>(hV i b o (K i b o Z)).2 hb),hk.fro b o (hS b o hb) (λ⟨i,Z⟩=>(hV i b o (K i b o Z)).2 hb)⟩
 have hRc:∀j,c.length<=j->j<(c++r).length->R g (q+j):=λj l a=>by
  refine⟨hX1 _ _ (u j a).1,λp=>?_⟩;rcases p with⟨-,Q,h4⟩|⟨N,Q,h4,h5⟩
  ·omega
  exact O _ _ (u j a).1 (J N ω _ _ h5)
 have L:∀j,c.length<=j->j<(c++r).length->∀b o,ff j b o->R b o:=λj l a b o p=>by
  refine⟨hY _ _ (J j a b o p),λhp=>?_⟩;rcases hp with⟨rfl,Q,h4⟩|⟨N,Q,h4,h5⟩
  ·exact O _ _ (hcX o ω ω) (J j a _ _ p)
  exact hf3 j N a ω ω b o p h5
 let U:Nat->am:=Vh (λb o=>V' 0 b o\/R b o) (λi=>V' (i+1))
 have hU:∀i b o,U i b o->V' i b o\/(i=0/\R b o):=λi b o p=>by
  cases i with
  | zero=>exact p.imp id (λh=>⟨rfl,h⟩)
  | succ i=>exact .inl p
 refine⟨v,he,hk.more H,X,U,S1,λb o p=>(hX b o p).imp (H b o) id,λi b o p=>?_,λb o p=>(hS1 b o p).imp id (Or.imp (H b o) id),λi i' D b o l a=>?_,λi b o l a=>?_,hXS,λi b o l a=>?_,hh,hr,?_,hm.2⟩
 ·rcases hU i b o p with l|⟨-,l⟩
  ·exact(E i b o l).imp (H b o) id
  exact .inl ⟨0,l.1⟩
 ·rcases hU i b o l with l|⟨e1,l⟩
  ·rcases hU i' b o a with a|⟨e2,a⟩
   ·exact hVd' i i' D b o l a
   exact t b o a (E i b o l)
  rcases hU i' b o a with a|⟨e2,a⟩
  ·exact t b o l (E i' b o a)
  exact D ω
 ·rcases hU i b o a with a|⟨-,a⟩
  ·exact hXV i b o l a
  exact t b o a (hX b o l)
 ·rcases hU i b o l with l|⟨-,l⟩
  ·exact hVS1 i b o l a
  exact hRS1 b o l a
 obtain⟨Xa,Ya,ha1,ha2,ha3,⟨ga,oa,hea,ha4⟩,fa,ha5,ha6,ha7⟩:=(show tM w1 (λb o=>S b o\/S1 b o) (V' 0) (.ptr c') (.pointer (some ⟨g,q,none⟩)) from hm.1)
 obtain⟨rfl,rfl⟩ : g=ga/\q=oa:=by simpa using hea
 have G:(c'++r).length=c.length+r.length:=by rw[I5,hl]
 show tM w1 (λb o=>S b o\/S1 b o) (λb o=>V' 0 b o\/R b o) (.ptr (c'++r)) (.pointer (some ⟨g,q,none⟩));have faV:∀j,j<c.length->∀b o,fa j b o->V' 0 b o:=λj M b o p=>ha2 _ _ (ha6 j ω b o p)
 refine⟨λb o=>Xa b o\/(R b o/\∃j,c.length<=j/\j<(c++r).length/\b=g/\o=q+j),λb o=>Ya b o\/∃j,c.length<=j/\j<(c++r).length/\ff j b o,λb o p=>?_,λb o p=>?_,λb o l a=>?_,⟨g,q,rfl,λj M=>?_⟩,λj=>if j<c.length then fa j else ff j,λj d M=>?_,λj M b o p=>?_,λj N M hj' D b o l a=>?_⟩
 ·exact p.imp (ha1 b o) (·.1)
 ·rcases p with p|⟨j,l,a,Q⟩
  ·exact .inl (ha2 b o p)
  exact .inr (L j l a b o Q)
 ·rcases l with l|⟨l,j,j1,j2,rfl,rfl⟩
  ·rcases a with a|⟨j,j1,j2,j3⟩
   ·exact ha3 b o l a
   exact t b o (L j j1 j2 b o j3) (E 0 b o (ha1 b o l))
  rcases a with a|⟨N,j3,j4,j5⟩
  ·exact t _ _ l (E 0 _ _ (ha2 _ _ a))
  exact O _ _ (u j j2).1 (J N j4 _ _ j5)
 ·rw[G]at M
  by_cases hc:j<c.length
  ·have:=ha4 j ω
   exact⟨.inl this.1,this.2⟩
  have y:=hRc j ω ω;have hs:=hRsame _ _ y;have T:=u j ω;refine⟨.inr ⟨y,j,ω,ω,rfl,rfl⟩,?_,?_⟩
  ·rw[hs.1];exact T.2.1
  rw[hs.2];exact T.2.2
 ·dsimp only
  by_cases hc:j<c.length
  ·rw[CK hc]
   rw[t9 ω]at M;exact ha5 j d M
  rw[CJ hc];rw[v9 ω,hl]at M;have hj2:(c++r)[j]? = some d:=by rw[v9 ω];exact M
  have hjl:=(C4.1 hj2).1;have Q:=(hf1 j d hj2).keep hSsame (λb o p=>hRsame b o (L j ω hjl b o p));have T:=(hRsame _ _ (hRc j ω hjl)).1;have:cz w1 .box (.pointer (some ⟨g,q,none⟩)) j=cz w .box (.pointer (some ⟨g,q,none⟩)) j:=by
   simp only[cz];rw[T]
  rw[this];exact Q.mono (λ_ _ h=>.inl h) (λ_ _ h=>h)
 ·rw[G]at M
  split at p
  ·rename_i hc;exact .inl (ha6 j ω b o p)
  exact .inr ⟨j,ω,ω,p⟩
 rw[G]at M hj';split at l
 ·rename_i c1
  split at a
  ·exact ha7 j N ω ω D b o l a
  exact t b o (L N ω ω b o a) (E 0 b o (faV j c1 b o l))
 split at a
 ·rename_i c1;exact t b o (L j ω ω b o l) (E 0 b o (faV N c1 b o a))
 exact hf3 j N ω ω D b o l a
mutual
def ZS:∀c:C,fz (fz c)=fz c
 | .v x=>by simp[fz]
 | .s o rows=>by simp only[fz];rw[Ro rows]
 | .x=>by simp[fz]
 | .z=>by simp[fz]
 | .m _=>by simp[fz]
 | .it _ _=>by simp[fz]
def Ro:∀a:List (List C),fzR (fzR a)=fzR a
 | []=>rfl
 | r::a=>by simp only[fzR];rw[wV r,Ro a]
def wV:∀cs:List C,du (du cs)=du cs
 | []=>rfl
 | c::cs=>by simp only[du];rw[ZS c,wV cs]
end
def rX(k:af)(a:aN k=true)(e:k.Calls≠100000):zzB 420 false [.ptr (af.enc .own k)] [.ptr (af.enc .own (eC k))] .one [B (!refd k)]:=by
 have b:=bq a;have c:=(aM.1 a).2.2.2.2;have d:=LJ k.k k.Calls (by have:=b.2;omega);refine fM 22 [] [(2,9,[11,12,13,14,15,16,17,18,19])] [(0,0)] Tryz.func420 rfl (λu q=>?_)
 repeat'(first|refine gP ?_|refine CN (d) ⟨⟨rfl,eI _⟩,⟨rfl,eE ω⟩,tV1⟩ ?_)
 refine CO rfl ?_ ?_
 ·rfl
 exact wB
def sI(k:af)(p m:Int)(a:aN k=true)(j:k.Calls≠100000)(d:(ax k.F.R p).o≠0)(l:m=1\/m=2):zzB 427 false [.ptr (af.enc .own k),.vI p,.vI m] [.ptr (af.enc .own (kn k p m).1),.vI p,.vI m] .one [B (kn k p m).2]:=by
 have n:=bq a;have b:=rX k a j;have g:=gf (eC k) p n.1.2;have c:=aU m 1 2;rw[O0 ω]at c;obtain⟨o,t,w,-⟩:=bV a d;have h:=au (xs:=k.F.R.M) (i:=p.toNat) ω;have r:¬(ax (eC k).F.R p).o=0:=d;unfold kn;cases e:refd k<;>rw[e]at b
 ·rw[CJ (by simp),y1]
  refine fM 31 [(420,[2])] [] [(0,0),(0,0),(0,0)] Tryz.func427 rfl (λu q=>?_)
  repeat'(first|refine gB ?_|refine CN (g) ⟨CW (eC k),⟨rfl,rfl⟩,tV1⟩ ?_|refine CS o (aa h) ?_|refine CR rfl rfl (aa h) rfl (O2 rfl) rfl ?_)
  refine CO rfl ?_ ?_
  ·rfl
  exact wB
 rw[CK rfl];refine fM 31 [(420,[2])] [] [(0,0),(0,0),(0,0)] Tryz.func427 rfl (λu q=>?_)
 repeat'(first|refine gB ?_|refine CN (g) ⟨CW (eC k),⟨rfl,rfl⟩,tV1⟩ ?_)
 refine CO rfl ?_ ?_
 ·rfl
 exact wB
def Rw.two{c:List C}{off k j d e b:Nat}{K:List C->Nat->Prop}{o f:eS}{rows rows2:List (List C)}{a:List C}(h1:c[off]? = some (.s o rows))(h2:rows[i]? = some r)(g:r.length=k)(h:r[j]? = some (.s f rows2))(l:rows2[d]? = some a)(n:a.length=e)(p:K a b):Rw c off [(i,k,j),(d,e,b)] K:=
 Rw.mk (r:=a) (j:=b) (by simp[cA,h1,h2,g,h,l,n]) p
def Gd(k:af)(a b c:Int)(h:aN k=true)(F:(ax k.F.R a).o≠0)(G:(ax k.F.R b).o≠0)(g:0<=c/\c<=15):zzB 428 false [.ptr (af.enc .own k),.vI a,.vI b,.val none (aI .O [c])] [.ptr (af.enc .own (xR k a b c)),.vI a,.vI b,.val none (aI .O [c])] .one [B true]:=by
 have w:=bq h;have H:=gf k a w.1.2;have J:=gf k b w.1.2;have y:=aU c 0 15;rw[O0 g]at y;obtain⟨K,O,L,C,P⟩:=bV h F;obtain⟨M,Q,D,E,R⟩:=bV h G;have N:=(bk.1 (aM.1 h).2.1).2.2.1;have S:=row16 h (f:=kK k a) (by unfold kK;omega);have T:=row16 h (f:=kK k b) (by unfold kK;omega);have d:k.F.V.U[(ax k.F.R a).g.toNat]? = some (nth k.F.V.U (kK k a)):=au ω;have e:k.F.V.U[(ax k.F.R b).g.toNat]? = some (nth k.F.V.U (kK k b)):=au ω;have l:=au (xs:=nth k.F.V.U (kK k a)) (i:=c.toNat) ω;have o:=au (xs:=nth k.F.V.U (kK k b)) (i:=c.toNat) ω;have p:=au (xs:=k.F.R.M) (i:=a.toNat) ω;have r:=au (xs:=k.F.R.M) (i:=b.toNat) ω;rw[L]at C d;rw[D]at E e;have t:[c][0]? = some c:=rfl;refine fM 90 [] [(13,28,[61,62,63,64,65,66,67,68,69,70,71,72,73,74,75,76,77,78,79,80,81,82,83,84,85,86,87,88])] [(0,0),(0,0),(0,0),(0,0)] Tryz.func428 rfl (λu q=>?_)
 repeat'(first|refine gB ?_|refine CN (H) ⟨CW k,⟨rfl,rfl⟩,tV1⟩ ?_|refine CN (J) ⟨CW k,⟨rfl,rfl⟩,tV1⟩ ?_)
 refine lp0 1 (λn=>[(0,bX (af.enc .own k)),(1,fI a),(2,fI b),(3,b8 (aI .O [c])),(9,fN n)]) λn U=>?_
 by_cases V:n<1
 ·obtain rfl:n=0:=ω
  repeat'(first|refine gE ?_|refine CS qs (aa t) ?_)
  (exact dL 1 ω)
 obtain rfl:n=1:=ω
 repeat'(first|refine gE ?_|refine CS K (aa p) ?_|refine CS M (aa r) ?_)
 refine lp0 1 (λj=>[(0,bX (af.enc .own (QO k a b c j))),(3,b8 (aI .O [c])),(10,fI ((nth k.F.R.M a.toNat).g)),(11,fI ((nth k.F.R.M b.toNat).g)),(12,fN j)]) λj W=>?_
 by_cases X:j<1
 ·obtain rfl:j=0:=ω
  repeat'(first|refine gE ?_|refine CS qs (aa t) ?_|refine CS C (aa d) ?_|refine CS E (aa e) ?_|refine CS g.1 (aa l) ?_|refine CS g.1 (aa o) ?_|refine Rw.two rfl (aa d) rfl rfl (aa l) rfl ?_|refine Pu.two rfl rfl (aa e) rfl rfl rfl (aa o) rfl (z5 _) rfl ?_)
  (refine CQ 1 ω ω ?_)
  rw[show QO k a b c 1=xR k a b c from rfl];unfold xR;rw[Ad,show kK k b=(nth k.F.R.M b.toNat).g.toNat by unfold kK;rw[D]];exact wB
 obtain rfl:j=1:=ω
 refine σE ?_
 refine CO rfl ?_ ?_
 ·rfl
 exact wB
def Qt(k:af)(p o:Int)(a:aN k=true)(y:k.Calls≠100000)(g:(ax k.F.R p).o≠0)(h:(ax k.F.R o).o≠0)(C:p≠o):zzB 429 false [.ptr (af.enc .own k),.vI p,.vI o] [.ptr (af.enc .own (D8 k p o).1),.vI p,.vI o] .one [B (D8 k p o).2]:=by
 have b:=bq a;have c:=rX k a y;have j:=gf (eC k) p b.1.2;have l:=gf (eC k) o b.1.2;obtain⟨D,K,E,n,r⟩:=bV a g;obtain⟨F,L,M,N,O⟩:=bV a h;have G:=(bk.1 (aM.1 a).2.1).2.2.1;have d:=au (xs:=k.F.R.M) (i:=p.toNat) ω;have t:=au (xs:=k.F.R.M) (i:=o.toNat) ω;have H:¬(ax (eC k).F.R p).o=0:=g;have J:¬(ax (eC k).F.R o).o=0:=h;rw[E]at n r;have w:=ym (Az (eC k) p.toNat ⟨2,(nth k.F.R.M o.toNat).g⟩) (nth k.F.R.M p.toNat).g (KE _ _ b.1.2) ⟨n,by show _<((k.F.V.U.length:Nat):Int);omega,r⟩;rw[LI]at w;unfold D8;cases e:refd k<;>rw[e]at c
 ·rw[CJ (by simp)]
  refine fM 60 [(420,[2]),(422,[2,0])] [(4,274,[38,39,40,41,42,43,44,45,46,47,48,49,50,51,52,53,54,56,0,1,2,3,4,5,6,7,8,9,10,11,12,13,14,15,16,17,1000,1001,1002,1003,1004,1005,1006,18,19])] [(0,0),(0,0),(0,0)] Tryz.func429 rfl (λu q=>?_)
  repeat'(first|refine gB ?_|refine CN (j) ⟨CW (eC k),⟨rfl,rfl⟩,tV1⟩ ?_|refine CN (l) ⟨CW (eC k),⟨rfl,rfl⟩,tV1⟩ ?_|refine CS D (aa d) ?_|refine CS F (aa t) ?_|refine CR rfl rfl (aa d) rfl (O2 rfl) rfl ?_)
  refine CO rfl ?_ ?_
  ·rfl
  exact wB
 rw[CK rfl];refine fM 60 [(420,[2]),(422,[2,0])] [(4,274,[38,39,40,41,42,43,44,45,46,47,48,49,50,51,52,53,54,56,0,1,2,3,4,5,6,7,8,9,10,11,12,13,14,15,16,17,1000,1001,1002,1003,1004,1005,1006,18,19])] [(0,0),(0,0),(0,0)] Tryz.func429 rfl (λu q=>?_)
 repeat'(first|refine gB ?_|refine CN (j) ⟨CW (eC k),⟨rfl,rfl⟩,tV1⟩ ?_|refine CN (l) ⟨CW (eC k),⟨rfl,rfl⟩,tV1⟩ ?_)
 refine CO rfl ?_ ?_
 ·rfl
 exact wB
def Gj(m:aH)(a:Int)(d:aH.sml m)(c:0<=a/\a<512):zzA 480 false [.val (some 3) (aH.enc .O m),.vI a] (.tup [some 2,none]) (aS.enc .own (ax m.R (a / 16))++[I (a % 16)]):=by
 have e:=dO m.R (a / 16) d.2;have b:a.tmod 16=a % 16:=fH c.1;refine fO 16 [] Tryz.func480 rfl ?_ (.inr ⟨tV1,tV1,tV1,tV1⟩)
 repeat'(first|refine gE ?_|refine CT (mi c) ?_|refine CU qs ?_|refine CY b ?_)
 rfl
def Pn(m:aH)(a v:Int)(o:db m=true)(e:aH.sml m)(p:0<=a/\a<512)(q:0<=v/\v<=999)(r:(ax m.R (a / 16)).o≠0->0<=(ax m.R (a / 16)).g/\(ax m.R (a / 16)).g<m.V.U.length/\(nth m.V.U (ax m.R (a / 16)).g.toNat).length=16):zzA 462 false [.val (some 3) (aH.enc .O m),.vI a,.vI v] (.tup [some 3,none]) (aH.enc .own (jb m a v).1++[I (jb m a v).2]):=by
 have c:=un m e;rw[o]at c;have g:=xH m e;have h:=Gj m a e p;have d:=aU v 0 999;rw[O0 q]at d;have b:=aH.enc_fr (jb m a v).1;unfold jb at b |-;by_cases j:(ax m.R (a / 16)).o=0
 ·rw[CK j]at b |-
  refine fO 47 [] Tryz.func462 rfl ?_ (.inr (aE b ⟨tV1,tV1⟩))
  refine σB ?_
  rfl
 rw[CJ j]at b |-;by_cases l:(ax m.R (a / 16)).o=1
 ·rw[CK l]at b |-
  refine fO 47 [] Tryz.func462 rfl ?_ (.inr (aE b ⟨tV1,tV1⟩))
  refine σB ?_
  rfl
 rw[CJ l]at b |-;obtain⟨t,u,w⟩:=r j;have k:=au (xs:=m.V.U) (i:=(ax m.R (a / 16)).g.toNat) ω;have n:=au (xs:=nth m.V.U (ax m.R (a / 16)).g.toNat) (i:=(a % 16).toNat) ω;simp only at b |-;rw[De]at b |-;refine fO 47 [] Tryz.func462 rfl ?_ (.inr (aE b ⟨tV1,tV1⟩))
 repeat'(first|refine gB ?_|refine CS t (aa k) ?_|refine CS ω (aa n) ?_|refine Pu.two rfl rfl (aa k) rfl rfl rfl (aa n) rfl (z5 _) rfl ?_)
 rfl
def jd{k:af}{j:bz} : jmay k j=true↔(aN k=true/\k.Calls≠100000)/\md j=true/\(ax k.F.R j.d.a5).o≠0/\(ax k.F.R j.d.a7).o≠0/\(ax k.F.R j.d.a5).g≠(ax k.F.R j.d.a7).g:=by
 unfold jmay;simp only[I0,C0]
def oD{p:bn}(h:gK p=true):p.U.length<=16:=by
 unfold gK at h;simp only[I0]at h;have a:∀i,i<p.U.length->(i:Int)<=nth p.U i:=λi=>by
  induction i with
  | zero=>
   intro a;have:=gY h.1 a;unfold ss at this;rw[C0]at this;exact this.1
  | succ i b=>
   intro a;have c:=b ω;have:=gY h.1 a;unfold ss at this;rw[C0]at this;have d:=this.2.2.resolve_left ω;rw[Nat.add_sub_cancel]at d;omega
 by_cases e:p.U.length<=16
 ·exact e
 exfalso;have c:=a 16 ω;have:=gY h.1 (show 16<p.U.length by omega);unfold ss at this;rw[C0]at this;omega
def zr{j:bz}(h:md j=true):bz.sml j:=by
 have:=oD (iG.1 h).1;show j.d.U.length<=1048576;omega
def jr{k:af}(h:aN k=true):db k.F=true:=by
 unfold aN at h;simp only[I0]at h;exact h.1.2
def Kj(k:af)(j:bz)(p:jmay k j=true)(g:j.a8=3):zzB 430 false [.ptr (af.enc .own k),.ptr (Dy j)] [.ptr (af.enc .own (jstep k j).1),.ptr (Dy (jstep k j).2)] (.tup []) []:=by
 obtain⟨⟨a,r⟩,t,c,d,w⟩:=jd.1 p;obtain⟨h,H,J,K,L⟩:=iG.1 t;have y:=bq a;obtain⟨M,N,O,B,P⟩:=bV a c;have l:=(bF.1 (aM.1 a).2.2.1).2.2;have C:=oD h;have D:=(bk.1 (aM.1 a).2.1).2.2.1;unfold jstep;rw[CJ ω,CJ ω,CJ ω,CK g];by_cases n:0<j.j
 ·rw[CK n]
  have o:=lC h (i:=(j.j - 1).toNat) ω;have E:=au (xs:=j.d.U) (i:=(j.j - 1).toNat) ω;have F:0<=j.d.a5*16+nth j.d.U (j.j - 1).toNat/\j.d.a5*16+nth j.d.U (j.j - 1).toNat<512:=ω
  have G:(j.d.a5*16+nth j.d.U (j.j - 1).toNat) / 16=j.d.a5:=ω
  have b:=Pn k.F (j.d.a5*16+nth j.d.U (j.j - 1).toNat) 0 (jr a) y.1 F ω (λ_=>by rw[G];exact⟨B,ω,row16 a (f:=kK k j.d.a5) (by unfold kK;omega)⟩);generalize (jb k.F (j.d.a5*16+nth j.d.U (j.j - 1).toNat) 0).1=m at b |-;generalize (jb k.F (j.d.a5*16+nth j.d.U (j.j - 1).toNat) 0).2=e at b;refine fM 59 [(427,[2,0,0])] [(2,283,[20,21,22,23,24,25,26,27,28,29,30,31,32,33,34,35,36,37,38,39,40,41,42,19,43,44,4,0,1,2,3,4,5,6,7,8,9,10,11,12,13,14,15,16,17,18,19,20,21,22,23,24,25,26,27,1025,28])] [(0,0),(1,0)] Tryz.func430 rfl (λu q=>?_) (.inr tV1)
  repeat'(first|refine gE ?_|refine CN (b) ⟨⟨rfl,aH.enc_fz k.F⟩,⟨rfl,rfl⟩,⟨rfl,rfl⟩,tV1⟩ ?_|refine CS ω (aa E) ?_)
  exact kk
 rw[CJ n];have b:=sI k j.d.a7 2 a r d (.inr rfl);cases e:(kn k j.d.a7 2).2<;>rw[e]at b
 ·refine fM 59 [(427,[2,0,0])] [(2,283,[20,21,22,23,24,25,26,27,28,29,30,31,32,33,34,35,36,37,38,39,40,41,42,19,43,44,4,0,1,2,3,4,5,6,7,8,9,10,11,12,13,14,15,16,17,18,19,20,21,22,23,24,25,26,27,1025,28])] [(0,0),(1,0)] Tryz.func430 rfl (λu q=>?_) (.inr tV1)
  refine σE ?_
  refine CO rfl rfl ?_;rw[<-g];exact wC
 refine fM 59 [(427,[2,0,0])] [(2,283,[20,21,22,23,24,25,26,27,28,29,30,31,32,33,34,35,36,37,38,39,40,41,42,19,43,44,4,0,1,2,3,4,5,6,7,8,9,10,11,12,13,14,15,16,17,18,19,20,21,22,23,24,25,26,27,1025,28])] [(0,0),(1,0)] Tryz.func430 rfl (λu q=>?_) (.inr tV1)
 refine σE ?_
 exact kk
def Kg(k:af)(j:bz)(g:jmay k j=true):zzB 348 false [.ptr (af.enc .own k),.ptr (Dy j)] [.ptr (af.enc .own (jstep k j).1),.ptr (Dy (jstep k j).2)] (.tup []) []:=by
 obtain⟨⟨h,p⟩,B,c,b,l⟩:=jd.1 g;obtain⟨r,F,G,H,J⟩:=iG.1 B;have n:j.d.a7≠j.d.a5:=λe=>l (by rw[e])
 have C:=oD r;by_cases d:j.a8=0
 ·have a:=sI k j.d.a7 1 h p b (.inl rfl)
  unfold jstep;rw[CK d];cases e:(kn k j.d.a7 1).2<;>rw[e]at a
  ·refine fM 80 [(427,[2,0,0]),(428,[2,0,0,0]),(429,[2,0,0]),(430,[2,2])] [(7,7,[27,28,29,30,31,32,33]),(9,14,[38,39,40,41,42,43,44,45,46,47,48,49,50,51])] [(0,0),(1,0)] Tryz.func348 rfl (λu q=>?_) (.inr tV1)
   refine σB ?_
   exact kk
  refine fM 80 [(427,[2,0,0]),(428,[2,0,0,0]),(429,[2,0,0]),(430,[2,2])] [(7,7,[27,28,29,30,31,32,33]),(9,14,[38,39,40,41,42,43,44,45,46,47,48,49,50,51])] [(0,0),(1,0)] Tryz.func348 rfl (λu q=>?_) (.inr tV1)
  refine σB ?_
  exact kk
 by_cases o:j.a8=1
 ·unfold jstep
  rw[CJ d,CK o];by_cases t:j.j=j.d.U.length
  ·rw[CK t]
   refine fM 80 [(427,[2,0,0]),(428,[2,0,0,0]),(429,[2,0,0]),(430,[2,2])] [(7,7,[27,28,29,30,31,32,33]),(9,14,[38,39,40,41,42,43,44,45,46,47,48,49,50,51])] [(0,0),(1,0)] Tryz.func348 rfl (λu q=>?_) (.inr tV1)
   refine σB ?_
   exact kk
  rw[CJ t];have D:=au (xs:=j.d.U) (i:=j.j.toNat) ω;have a:=Gd k j.d.a7 j.d.a5 (nth j.d.U j.j.toNat) h b c (lC r ω);have E:=(jd.1 g).2.1;refine fM 80 [(427,[2,0,0]),(428,[2,0,0,0]),(429,[2,0,0]),(430,[2,2])] [(7,7,[27,28,29,30,31,32,33]),(9,14,[38,39,40,41,42,43,44,45,46,47,48,49,50,51])] [(0,0),(1,0)] Tryz.func348 rfl (λu q=>?_) (.inr tV1)
  repeat'(first|refine gB ?_|refine CP a (.inr ⟨rfl,Ck _,tV1⟩) ?_|refine CS ω (aa D) ?_)
  exact kk
 by_cases w:j.a8=2
 ·have a:=Qt k j.d.a7 j.d.a5 h p b c n
  unfold jstep;rw[CJ d,CJ o,CK w];cases e:(D8 k j.d.a7 j.d.a5).2<;>rw[e]at a
  ·refine fM 80 [(427,[2,0,0]),(428,[2,0,0,0]),(429,[2,0,0]),(430,[2,2])] [(7,7,[27,28,29,30,31,32,33]),(9,14,[38,39,40,41,42,43,44,45,46,47,48,49,50,51])] [(0,0),(1,0)] Tryz.func348 rfl (λu q=>?_) (.inr tV1)
   refine σB ?_
   exact kk
  refine fM 80 [(427,[2,0,0]),(428,[2,0,0,0]),(429,[2,0,0]),(430,[2,2])] [(7,7,[27,28,29,30,31,32,33]),(9,14,[38,39,40,41,42,43,44,45,46,47,48,49,50,51])] [(0,0),(1,0)] Tryz.func348 rfl (λu q=>?_) (.inr tV1)
  refine σB ?_
  exact kk
 by_cases y:j.a8=3
 ·have a:=Kj k j g y
  refine fM 80 [(427,[2,0,0]),(428,[2,0,0,0]),(429,[2,0,0]),(430,[2,2])] [(7,7,[27,28,29,30,31,32,33]),(9,14,[38,39,40,41,42,43,44,45,46,47,48,49,50,51])] [(0,0),(1,0)] Tryz.func348 rfl (λu q=>?_) (.inr tV1)
  refine σB ?_
  exact kk
 unfold jstep;rw[CJ d,CJ o,CJ w,CJ y];refine fM 80 [(427,[2,0,0]),(428,[2,0,0,0]),(429,[2,0,0]),(430,[2,2])] [(7,7,[27,28,29,30,31,32,33]),(9,14,[38,39,40,41,42,43,44,45,46,47,48,49,50,51])] [(0,0),(1,0)] Tryz.func348 rfl (λu q=>?_) (.inr tV1)
 refine σB ?_
 exact kk
def MH(k:af)(j:bz)(e:aN k=true)(i:md j=true):zzA 347 false [.val (some 5) (af.enc .O k),.val (some 5) (bz.enc .O j)] .one [B (jmay k j)]:=by
 have c:=bq e;have b:du (af.enc .O k)=af.enc .O k:=by rw[<-CW k,wV]
 have r:=(aM.1 e).2.2.2.2;have a:=pm k c;rw[e]at a;have d:=BS j (zr i);rw[i]at d;have l:=gf k j.d.a5 c.1.2;have n:=gf k j.d.a7 c.1.2;have t:=dO k.F.R j.d.a5 c.1.2;have u:=dO k.F.R j.d.a7 c.1.2;by_cases o:k.Calls=100000
 ·rw[C1 ω]at a
  rw[show jmay k j=false by rw[<-OA,jd];exact λh=>h.1.2 o];refine fO 44 [(3,16,[27,28,29,30,31,32,33,34,35,36,37,38,39,40,41,42])] Tryz.func347 rfl ?_
  refine σP ?_
  rfl
 rw[O0 ω]at a;by_cases p:(ax k.F.R j.d.a5).o=0
 ·rw[show jmay k j=false by rw[<-OA,jd];exact λh=>h.2.2.1 p]
  refine fO 44 [(3,16,[27,28,29,30,31,32,33,34,35,36,37,38,39,40,41,42])] Tryz.func347 rfl ?_
  repeat'(first|refine gB ?_|refine CN (l) ⟨b,⟨rfl,rfl⟩,tV1⟩ ?_|refine CN (n) ⟨b,⟨rfl,rfl⟩,tV1⟩ ?_)
  rfl
 by_cases q:(ax k.F.R j.d.a7).o=0
 ·rw[show jmay k j=false by rw[<-OA,jd];exact λh=>h.2.2.2.1 q]
  refine fO 44 [(3,16,[27,28,29,30,31,32,33,34,35,36,37,38,39,40,41,42])] Tryz.func347 rfl ?_
  repeat'(first|refine gB ?_|refine CN (l) ⟨b,⟨rfl,rfl⟩,tV1⟩ ?_|refine CN (n) ⟨b,⟨rfl,rfl⟩,tV1⟩ ?_)
  rfl
 refine fO 44 [(3,16,[27,28,29,30,31,32,33,34,35,36,37,38,39,40,41,42])] Tryz.func347 rfl ?_
 repeat'(first|refine gB ?_|refine CN (l) ⟨b,⟨rfl,rfl⟩,tV1⟩ ?_|refine CN (n) ⟨b,⟨rfl,rfl⟩,tV1⟩ ?_)
 exact bE (by
   unfold jmay;rw[e,i,O0 o];by_cases g:(ax k.F.R j.d.a5).g=(ax k.F.R j.d.a7).g
   · rw[C1 (λh=>h.2.2 g)];simp[g]
   rw[O0 ⟨p,q,g⟩];simp[g])
def Kl(j:bz):zzA 349 false [.val (some 5) (bz.enc .O j)] .one [B (over j)]:=by
 by_cases a:j.a8=4
 ·rw[show over j=true from O0 (.inl a)]
  refine fO 11 [] Tryz.func349 rfl ?_
  refine σB ?_
  rfl
 rw[show over j=decide (j.a8=5) from decide_eq_decide.2 ω];refine fO 11 [] Tryz.func349 rfl ?_
 refine σB ?_
 exact bE (by rw[C9];simp)
def QW(x:ac):List C:=(bT x).set 21 .z
def MU{x:ac}(h:x.a2.d.U=[]):Tl (QW x) (bT x):=by
 unfold QW bT;simp only[List.set,h,List.map_nil]
 repeat'(first|exact tV1|exact Dh _|refine CL ?_ ?_|rfl)
def Jr(h:ac)(j:bo h [])(k:h.w=true):zzB 201 false [.ptr (bT h)] [.ptr (bT (mStep h))] .one [B (zG h)]:=by
 obtain⟨l,-,-⟩:=j.job k;have b:=MH h.G h.a2 j.ker l;have a:=Kl (iU h.G h.a2).2;unfold zG mStep;cases e:jmay h.G h.a2 with
 | false=>
  rw[e]at b;have d:iU h.G h.a2=(h.G,h.a2):=by unfold iU;rw[e];rfl
  rw[d]at a |-;simp only at a |-;cases g:over h.a2<;>rw[g]at a
  ·refine fM 39 [(348,[3,5,5])] [(1,8,[4,5,6,7,8,9,10,11]),(2,6,[13,14,15,16,17,18])] [(0,0)] Tryz.func201 rfl (λu q=>?_)
   repeat'(first|refine gP ?_|refine CN (b) ⟨⟨rfl,CW h.G⟩,⟨rfl,rfl⟩,tV1⟩ ?_)
   refine CO rfl ?_ ?_
   ·exact bE (by rw[C9];simp)
   exact wC
  refine aX.wk (c:=QW _) ?_ (MU rfl);refine fM 39 [(348,[3,5,5])] [(1,8,[4,5,6,7,8,9,10,11]),(2,6,[13,14,15,16,17,18])] [(0,0)] Tryz.func201 rfl (λu q=>?_)
  repeat'(first|refine gP ?_|refine CN (b) ⟨⟨rfl,CW h.G⟩,⟨rfl,rfl⟩,tV1⟩ ?_)
  refine CO rfl ?_ ?_
  ·exact bE (by rw[C9];simp)
  exact wC
 | true=>
  rw[e]at b;have d:iU h.G h.a2=jstep h.G h.a2:=by unfold iU;rw[e];rfl
  have i:=Kg h.G h.a2 e;rw[d]at a |-;generalize jstep h.G h.a2=r at i a |-;cases g:over r.2<;>rw[g]at a
  ·refine fM 39 [(348,[3,5,5])] [(1,8,[4,5,6,7,8,9,10,11]),(2,6,[13,14,15,16,17,18])] [(0,0)] Tryz.func201 rfl (λu q=>?_)
   repeat'(first|refine gP ?_|refine CN (b) ⟨⟨rfl,CW h.G⟩,⟨rfl,rfl⟩,tV1⟩ ?_)
   refine CO rfl ?_ ?_
   ·exact bE (by rw[C9];simp)
   exact wC
  refine aX.wk (c:=QW _) ?_ (MU rfl);refine fM 39 [(348,[3,5,5])] [(1,8,[4,5,6,7,8,9,10,11]),(2,6,[13,14,15,16,17,18])] [(0,0)] Tryz.func201 rfl (λu q=>?_)
  repeat'(first|refine gP ?_|refine CN (b) ⟨⟨rfl,CW h.G⟩,⟨rfl,rfl⟩,tV1⟩ ?_)
  refine CO rfl ?_ ?_
  ·exact bE (by rw[C9];simp)
  exact wC
theorem Rm{k:Int} : ∀{l s s2 b:List Int}(n:Nat),(∀x∈s2,x∈s)->x9 k s l=some b->∃c,x9 k s2 (l.take n)=some c/\∀x∈c,x∈b
 | [],s,s2,b,n,h,e=>by grind [x9]
 | a::l,s,s2,b,0,h,e=>⟨s2,rfl,λx d=>(uf (λ_ y=>y) e).1 x (h x d)⟩
 | a::l,s,s2,b,n+1,h,e=>by
  simp only[List.take_succ_cons,x9]at e |-;split at e
  ·rename_i g
   rw[CK (show good k s2 a from⟨g.1,g.2.1,g.2.2.1,λx=>g.2.2.2 (h a x)⟩)];exact Rm (l:=l) (s:=s++[a]) (s2:=s2++[a]) n ψ e
  cases e
theorem KG:∀{a:List (List Int)}{k:Nat}{s s2:List Int}(i n:Nat),(∀x∈s2,x∈s)->(jy k s a).isSome=true->(jy k s2 (a.set i ((nth a i).take n))).isSome=true
 | [],_,_,_,_,_,_,_=>rfl
 | l::a,k,s,s2,i,n,h,e=>by
  simp only[jy,gU]at e;split at e
  ·rename_i g
   cases b:x9 k s l with
   | none=>grind
   | some j=>
    rw[b]at e;cases i with
    | zero=>
     obtain⟨c,d,f⟩:=Rm n h b
     grind [I3,yF,jy,gU,nth]
    | succ i=>
     obtain⟨o,c,d,f⟩:=uf h b;simp only[List.set_cons_succ,jy,gU];rw[CK g,d];exact KG i n f e
  cases e
theorem Rb{c:aB}(h:bL c=true)(k:Nat):bL (xL c k)=true:=by grind [KG,bL,xL]
def oX(b:Int):Nat->List Int
 | 0=>[]
 | j+1=>if br b (j:Nat)=true then oX b j else oX b j++[((j:Nat):Int)]
theorem yA{b:Int} : ∀{n:Nat}{z:Int},z∈oX b n->0<=z/\z<n/\br b z=false
 | 0,_,h=>by cases h
 | n+1,z,h=>by
  unfold oX at h;split at h
  ·have:=yA h;grind
  rename_i e;rcases v5.1 h with h|h
  ·have:=yA h;grind
  grind
theorem uE(b:Int):∀n,(oX b n).length<=n
 | 0=>z5 _
 | n+1=>by have:=uE b n;grind [oX]
def rO(k b:Int):List Int:=if Uf k b=true then oX b (slots k).toNat else []
def jc(h:ac)(i:Nat):List Int:=rO (nth h.J i).Z (fp h i)
theorem wl{b z:Int}(h:z∈rO k b):0<=z/\z<slots k/\br b z=false:=by
 unfold rO at h;split at h
 ·have:=yA h;grind
 cases h
theorem DN(k b:Int):(rO k b).length<=16:=by grind [iB,uE,rO,Uf]
def qQ(h:ac)(i:Nat):Int:=nth (jc h i) (K3 h.b3 ((jc h i).length:Nat)).toNat
def slotT(h:ac)(i:Nat):ac:={h with b3:=ET h.b3,J:=h.J.set i (vj (nth h.J i) (qQ h i))}
def uk(h:ac)(i:Nat):Int:=16*(nth h.J i).S+qQ h i*csz (nth h.J i).Z
def yZ(a:0<(jc h i).length):qQ h i∈jc h i:=by
 have:=uh h.b3 (n:=((jc h i).length:Nat)) ω;exact ay ω
def bo.slotT{h:ac}{E:List Int}{i:Nat}(a:bo h E)(b:i<h.J.length)(e:0<(jc h i).length):bo (slotT h i) (uk h i::E)/\kX (slotT h i).J (uk h i) (nth h.J i).Z:=by
 obtain⟨c,d,f⟩:=wl (yZ e);exact⟨a.take b ⟨c,d⟩ f (Jq _),(kX.setS a.L b ⟨c,d⟩ _ _).2 (.inr ⟨rfl,.inr rfl⟩)⟩
def sY(h:ac)(c:Int)(i:Nat):Bool:=decide ((nth h.J i).Z=c)&&(!iw h (nth h.J i).S&&decide (0<(jc h i).length))
def rx(h:ac)(c:Int):Option Nat:=(List.range h.J.length).find? (sY h c)
def sW(h:ac)(c:Int):ac:=addS h (eD h.G (aG h.a 1).2.1).1 (aG h.a 1).1 (aG h.a 1).2.1 c
def rS(h:ac):Nat:=mq (ML (aG h.a 1).2.1) h.J
def nt(h:ac)(i:Nat):ac × Int:=if(jc h i).length=0 then(h,-1) else(slotT h i,uk h i)
def fT(h:ac)(t c:Nat):ac × Int:=
 if 0<(nth (nth h.Q t).X c).length then({h with Q:=h.Q.set t (xL (nth h.Q t) c)},nth (nth (nth h.Q t).X c) ((nth (nth h.Q t).X c).length - 1))
 else match rx h c with
 | some i=>(slotT h i,uk h i)
 | none=>if(aG h.a 1).2.2=false then(h,-1)
  else if(eD h.G (aG h.a 1).2.1).2=false then({h with G:=(eD h.G (aG h.a 1).2.1).1},-1)
  else nt (sW h c) (rS h)
theorem QB[Inhabited α](p:α->Bool)(xs:List α)(y:α):mq p xs<(lA p xs y).length/\nth (lA p xs y) (mq p xs)=y:=by
 have a:=XO p xs;have b:(xs.take (mq p xs)).length=mq p xs:=ψ
 refine⟨by grind [List.Perm.length_eq,nY,List.length_cons],bI ?_⟩
 grind [lA]
theorem bo.tEq{h:ac}{E:List Int}(a:bo h E){k:af}(c:aN k=true)(b:tEq (tbl h) k.F.R):bo {h with G:=k} E/\JK h {h with G:=k}:=
 ⟨a.step (j:=h.a2) (m:=h.w) c b.1 (a.pg.tEq b) a.job a.noj,⟨rfl,rfl,ψ,λq d=>.inl ⟨(b.2 q).1.1 d,(b.2 q).2⟩⟩⟩
structure Zp(h:ac)(c:Int)(r:ac × Int):Prop where
 no:r.2<0->bo r.1 []
 yes:0<=r.2->bo r.1 [r.2]/\kX r.1.J r.2 c
 jk:JK h r.1
 nx:r.1.j=h.j
 cl:r.1.Q.length=h.Q.length
variable{c:Int}
def kX.nn(b:bo h E)(d:kX h.J a c):0<=a:=(kX.bd b d).1
theorem Zp.slot(b:bo h' [])(d:i<h'.J.length)(e:0<(jc h' i).length)(l:(nth h'.J i).Z=c)(f:JK h h')(a:iw h' (nth h'.J i).S=false)(h1:h'.j=h.j)(h2:h'.Q.length=h.Q.length):Zp h c (slotT h' i,uk h' i):=by
 obtain⟨g,j⟩:=b.slotT d e;have k:=kX.nn g j;exact⟨ω,ψ,f.trans (JK.take a),h1,h2⟩
theorem uX{c:Nat}(a:bo h [])(l:t<h.Q.length)(J:c<=3)(r:h.G.Calls<=90000):Zp h c (fT h t c):=by
 have f:=a.cach _ (ay l);have u:=tj f;unfold fT;split
 ·rename_i w
  obtain⟨d,b⟩:=a.pop l ω w (Rb f c);have A:=kX.nn a b;exact⟨ω,λ_=>⟨d,b⟩,JK.eq rfl rfl rfl rfl,rfl,C3 ..⟩
 split
 ·rename_i i n
  have K:=List.find?_some n;have L:=List.mem_range.1 (List.mem_of_find?_eq_some n)
  grind [Zp.slot,JK.refl,sY]
 split
 ·exact⟨λ_=>a,ω,JK.refl h,rfl,rfl⟩
 rename_i B;have g:(aG h.a 1).2.2=true:=by simpa using B
 obtain⟨C,D,E,o⟩:=lQ a (O9 1) g;have s:=Dr.of (p:=(aG h.a 1).2.1) a.ker ω ⟨C,by have:(aG h.a 1).2.1+1<=(h.G.F.R.M.length:Nat):=D;omega⟩ (E _ ω ω);split
 ·rename_i k
  rw[s.no k];obtain⟨d,b⟩:=a.tEq (qW a.ker ω) (tEq.refl _);exact⟨λ_=>d,ω,b,rfl,rfl⟩
 rename_i k;have F:(eD h.G (aG h.a 1).2.1).2=true:=by simpa using k
 have q:Dr h.G (aG h.a 1).2.1 ((eD h.G (aG h.a 1).2.1).1,true):=ψ
 have d:=a.addS (c:=c) ω g q;have b:JK h (sW h c):=JK.addS q;obtain⟨G,H⟩:=QB (ML (aG h.a 1).2.1) h.J ⟨(aG h.a 1).2.1,c,0⟩;unfold nt;split
 ·exact⟨λ_=>d,ω,b,rfl,rfl⟩
 refine Zp.slot (h':=sW h c) (i:=rS h) d G ω (by show(nth (lA (ML (aG h.a 1).2.1) h.J ⟨(aG h.a 1).2.1,c,0⟩) (rS h)).Z=_;grind [rS]) b ?_ rfl rfl;show iw (sW h c) (nth (lA (ML (aG h.a 1).2.1) h.J ⟨(aG h.a 1).2.1,c,0⟩) (rS h)).S=false;unfold rS;rw[H,b.pg];rw[<-OA];intro j;unfold iw at j;simp only[I0,OC,C0]at j;obtain⟨-,⟨y,M,N⟩,⟨z,O,P⟩⟩:=a.job j.1;rcases j.2 with e|e
 ·exact o _ (O9 _) ω (by grind [fR])
 exact o _ (O9 _) ω (by grind [fR])
def nX(size:Int):Nat:=((size+15) / 16).toNat
def kI(h:ac)(size:Int):af × Nat:=bP h.G (aG h.a (nX size:Nat)).2.1 (nX size)
def wM(h:ac)(t size:Int):ac × Int × Int:=
 if(aG h.a (nX size:Nat)).2.2=false then(h,-1,4)
 else if(kI h size).2=nX size then(addL h (kI h size).1 (aG h.a (nX size:Nat)).1 (aG h.a (nX size:Nat)).2.1 (nX size:Nat) size t,16*(aG h.a (nX size:Nat)).2.1,0)
 else({h with G:=dX (kI h size).1 (aG h.a (nX size:Nat)).2.1 (kI h size).2},-1,4)
def wj(xs:List aW):Nat->Int
 | 0=>0
 | i+1=>wj xs i+(nth xs i).q
def rK(h:ac):Int:=wj h.K h.K.length
def fm(h:ac)(t size:Int):ac × Int × Int:=
 if 1000000<=h.j\/90000<h.G.Calls then(h,-1,5)
 else if ¬(0<=t/\t<=h.Q.length - 1) then(h,-1,1)
 else if ¬(1<=size/\size<=1000) then(h,-1,2)
 else if h.b7<rK h+size then(h,-1,3)
 else if 0<=aZ size then(if(fT h t.toNat (aZ size).toNat).2<0 then((fT h t.toNat (aZ size).toNat).1,-1,4) else(addO (fT h t.toNat (aZ size).toNat).1 (fT h t.toNat (aZ size).toNat).2 size t,(fT h t.toNat (aZ size).toNat).2,0))
 else wM h t size
variable{size:Int}
theorem TN{t:Int}(a:bo h [])(l:9<=size/\size<=1000)(o:h.j<1000000)(f:h.G.Calls<=90000)(q:0<=t/\t<=h.Q.length - 1):bo (wM h t size).1 []/\JK h (wM h t size).1:=by
 have r:(nX size:Int)=(size+15) / 16:=by unfold nX;omega
 unfold wM;split
 ·grind [JK.refl]
 rename_i g;have b:(aG h.a (nX size:Nat)).2.2=true:=by simpa using g
 obtain⟨c,d,e,u⟩:=lQ a ω b;have s:=iZ.of (p:=(aG h.a (nX size:Nat)).2.1) (n:=nX size) a.ker ω ⟨c,d⟩ e (nX size) (z5 _);split
 ·rename_i i
  have w:iZ h.G (aG h.a (nX size:Nat)).2.1 (nX size) ((kI h size).1,nX size):=by
   have:((kI h size).1,nX size)=kI h size:=by rw[<-i]
   rw[this];exact s
  grind [bo.addL,JK.addL]
 obtain⟨j,k⟩:=s.undo a.ker ⟨c,d⟩ e;exact a.tEq j k
theorem Ud{t:Int}(a:bo h []):bo (fm h t size).1 []/\JK h (fm h t size).1:=by
 unfold fm;split
 ·grind [JK.refl]
 rename_i b;rw[not_or]at b;split
 ·grind [JK.refl]
 rename_i i;split
 ·grind [JK.refl]
 rename_i j;split
 ·grind [JK.refl]
 split
 ·rename_i k
  have d:aZ size<=3:=by grind [aZ]
  have s:=uX (t:=t.toNat) (c:=(aZ size).toNat) a ω ω ω;generalize fT h t.toNat (aZ size).toNat=r at s;split
  ·grind [Zp.no,Zp.jk]
  rename_i e;obtain⟨f,g⟩:=s.yes ω;refine⟨f.addO (.inl ?_) (by rw[s.nx];omega) (by rw[s.cl];omega),s.jk.trans (JK.eq rfl rfl rfl rfl)⟩;obtain⟨z,l,n,o⟩:=g
  grind
 grind [TN,aZ]
def rP{β:Type}[Inhabited α]{f:α->β}{xs:List α}{y:α}(a:i<xs.length)(e:f y=f (nth xs i)):(xs.set i y).map f=xs.map f:=by
 rw[IC];refine List.ext_getElem (by simp) λj b c=>?_
 rw[List.getElem_set];split
 ·rename_i g;subst g
  rw[List.getElem_map,e,bI (z4 a)]
 rfl
theorem sU{α β:Type}[Inhabited α](f:α->List β):∀(xs:List α)(i:Nat)(y:α),i<xs.length->(f y).Sublist (f (nth xs i))->((xs.set i y).flatMap f).Sublist (xs.flatMap f)
 | [],_,_,h,_=>absurd h (Nat.not_lt_zero _)
 | x::xs,0,y,_,a=>by
  rw[List.set_cons_zero,OD,OD];exact List.Sublist.append a ψ
 | x::xs,i+1,y,h,a=>by
  rw[List.set_cons_succ,OD,OD];exact List.Sublist.append ψ (sU f xs i y (by simpa using h) a)
def zK(k:af)(a:Int):Nat->af
 | 0=>k
 | m+1=>jt (zK k a m) (a+m) 0
theorem y8(k:af)(a:Int):∀m,(zK k a m).F.R=k.F.R/\(zK k a m).Calls=k.Calls/\(zK k a m).k=k.k
 | 0=>⟨rfl,rfl,rfl⟩
 | m+1=>y8 k a m
theorem YI{k:af}(h:aN k=true){a:Int} : ∀{m:Nat},(∀j:Nat,j<m->(ax k.F.R ((a+j) / 16)).o≠0)->aN (zK k a m)=true
 | 0,_=>h
 | m+1,b=>B4 (YI h ψ) (by grind [y8]) ω
theorem NL(f:bo h E){o:List aD}{n:Nat}(w:p+n<=h.G.F.R.M.length)(G:sp.Sublist h.J)(H:∀l∈la,∀q∈lpgs l l.a0.toNat,∃t∈h.H,q∈lpgs t t.a0.toNat)(J:0<=p)(y:∀q,q∈pgs sp la↔q∈pgs h.J h.H/\¬(p<=q/\q<p+n))(K:∀q,RH o q↔RH h.a q\/(p<=q/\q<p+n)) :
  Pg (dX h.G p n).F.R o sp la:=by
 have b:=(iy h.G p n).1;have d:=qU f.ker J n w;have g:∀q:Nat,(q:Int)∈pgs sp la->nth (dX h.G p n).F.R.M q=nth (tbl h).M q:=λq c=>by rw[d,CJ ((y q).1 c).2];rfl
 have a:∀q:Nat,(nth (dX h.G p n).F.R.M q).o≠0↔(nth (tbl h).M q).o≠0/\¬(p<=q/\(q:Int)<p+n):=λq=>by
  rw[d];by_cases e:p<=q/\(q:Int)<p+n
  ·grind
  rw[CJ e];exact⟨λx=>⟨x,e⟩,λx=>x.1⟩
 refine⟨λl i q c r D A j=>?_,λq c=>?_,λq c=>?_,λq c=>?_,λs i u N M O=>?_⟩
 ·have k:=(a r).1 A
  rw[b]at D;rw[g q (iz i c),d,CJ k.2]at j;obtain⟨t,B,C⟩:=H l i _ c;exact f.pg.one t B q C r D k.1 j
 ·rw[b];exact f.pg.bnd q ((y q).1 c).1
 ·rw[b]at c
  rw[a,y,f.pg.own q c]
 ·rw[b]at c
  rw[a,K,f.pg.fre q c]
  grind
 have F:∀s∈sp,0<=s.S:=λs i=>(aT (f.L.sok s (G.subset i))).1
 grind [fR,Pg.mesh,bo.pg]
def trimL(l:aA)(size:Int):aA:=⟨l.S,(size+15) / 16,size⟩
def dU(l:aA)(size:Int):Nat:=(l.a0 - (size+15) / 16).toNat
def bo.trimL{h:ac}{E:List Int}{i k:Nat}{size:Int}(t:bo h E)(T:i<h.K.length)(H:k<h.H.length)(Y:(nth h.K i).Addr=16*(nth h.H k).S)(N:9<=size/\size<=(nth h.H k).q) :
  ∃o,(dU (nth h.H k) size=0->o=h.a)/\(0<dU (nth h.H k) size->cw (ge h) h.a ⟨(nth h.H k).S+(size+15) / 16,(dU (nth h.H k) size:Nat)⟩ = some o)/\
   bo {h with G:=dX h.G ((nth h.H k).S+(size+15) / 16) (dU (nth h.H k) size),H:=h.H.set k (trimL (nth h.H k) size),K:=h.K.set i {nth h.K i with q:=size},a:=o} E:=by
 have U:=t.L;have C:=U.lok _ (ay H);have hf:=bj C;unfold cv at C;rw[C0]at C;obtain⟨b1,b2⟩:=HR t H;have O:=U.dis;have G:=λj n=>U.one j k n H
 have y:=(ay H:nth h.H k∈h.H)
 have d:∀z∈h.H.set k (Ab.trimL (nth h.H k) size),z=Ab.trimL (nth h.H k) size\/∃j,j<h.H.length/\j≠k/\nth h.H j=z:=λz N=>kg N
 have p:Ab.trimL (nth h.H k) size∈h.H.set k (Ab.trimL (nth h.H k) size):=k4 _ H;have u:∀j,j<h.H.length->j≠k->nth h.H j∈h.H.set k (Ab.trimL (nth h.H k) size):=λj n e=>lZ _ n e
 have hpageM:(h.H.set k (Ab.trimL (nth h.H k) size)).map (·.S)=h.H.map (·.S):=rP H rfl;have w:(pgs h.J (h.H.set k (Ab.trimL (nth h.H k) size))).Sublist (pgs h.J h.H):=by
  unfold pgs;refine List.Sublist.append (List.Sublist.refl _) (sU _ _ _ _ H ?_);unfold lpgs;exact(List.range_sublist.2 (by simp only[Ab.trimL];omega)).map _
 obtain⟨l,V⟩ : ∃l,nth h.H k=l:=⟨_,rfl⟩
 rw[V]at C hf b1 b2 G y d p u hpageM w Y N |-;generalize hla:h.H.set k (Ab.trimL l size)=la at d p u hpageM w |-;have hn1:(1:Int)<=(size+15) / 16/\(size+15) / 16+(dU l size:Nat)=l.a0:=by unfold dU;omega
 have D:∀q,q∈lpgs l l.a0.toNat↔l.S<=q/\q<l.S+l.a0:=λq=>by
  rw[eM];constructor
  ·rintro⟨j,n,rfl⟩;omega
  rintro⟨Z,q2⟩;exact⟨(q - l.S).toNat,ω,ω⟩
 have J:∀q,q∈lpgs (Ab.trimL l size) (Ab.trimL l size).a0.toNat↔l.S<=q/\q<l.S+(size+15) / 16:=λq=>by
  rw[eM];simp only[Ab.trimL];constructor
  ·rintro⟨j,n,rfl⟩;omega
  rintro⟨Z,q2⟩;exact⟨(q - l.S).toNat,ω,ω⟩
 have hpe:l.S+(size+15) / 16+(dU l size:Nat)=l.S+l.a0:=ω
 have P:∀q,q∈pgs h.J la↔q∈pgs h.J h.H/\¬(l.S+(size+15) / 16<=q/\q<l.S+(size+15) / 16+(dU l size:Nat)):=λq=>by
  rw[uJ,uJ,hpe];constructor
  ·rintro(⟨s,W,rfl⟩|⟨z,c,B⟩)
   ·exact⟨.inl ⟨s,W,rfl⟩,λe=>O s W l y (s.S - l.S).toNat ω ω⟩
   rcases d z c with rfl|⟨j,n,hjk,rfl⟩
   ·have:=(J q).1 B
    exact⟨.inr ⟨l,y,(D q).2 ⟨ω,ω⟩⟩,ω⟩
   refine⟨.inr ⟨_,ay n,B⟩,λe=>?_⟩;obtain⟨m,hm,rfl⟩:=eM.1 B;exact hjk (G j n m ((nth h.H j).S+(m:Int) - l.S).toNat hm ω ω)
  rintro⟨⟨s,W,rfl⟩|⟨z,c,B⟩,hne⟩
  ·exact .inl ⟨s,W,rfl⟩
  obtain⟨j,n,rfl⟩:=b9 c;by_cases e:j=k
  ·subst e
   rw[V]at B;have:=(D q).1 B;exact .inr ⟨_,p,(J q).2 ⟨ω,ω⟩⟩
  exact .inr ⟨_,u j n e,B⟩
 have K:∃o,(dU l size=0->o=h.a)/\(0<dU l size->cw (ge h) h.a ⟨l.S+(size+15) / 16,(dU l size:Nat)⟩ = some o)/\bR (ge h) o=true/\∀q,RH o q↔RH h.a q\/(l.S+(size+15) / 16<=q/\q<l.S+(size+15) / 16+(dU l size:Nat)):=by
  by_cases e:dU l size=0
  ·refine⟨h.a,λ_=>rfl,λg=>absurd g ω,t.rng,λq=>⟨.inl,λg=>g.resolve_right ω⟩⟩
  obtain⟨o,o1,o2,o3⟩:=zX (r:=⟨l.S+(size+15) / 16,(dU l size:Nat)⟩) t.rng ⟨by simp only;omega,by simp only;omega,by show l.S+(size+15) / 16+(dU l size:Nat)<=(ge h:Int);have:((tbl h).M.length:Int)=(ge h:Int):=rfl;omega⟩ λq Z q2=>by
   simp only at Z q2;obtain⟨m,rfl⟩:=t5 (show 0<=q by omega);have Q:m<(tbl h).M.length:=ω
   exact(t.pg.fre m Q).1 ((t.pg.own m Q).2 (iz y ((D _).2 ⟨ω,ω⟩)))
  exact⟨o,λg=>absurd g e,λ_=>o1,o2,o3⟩
 obtain⟨o,o0,o1,o2,o3⟩:=K;have R:=(iy h.G (l.S+(size+15) / 16) (dU l size)).1;have M:∀z∈h.K.set i {nth h.K i with q:=size},z = {nth h.K i with q:=size}\/∃j,j<h.K.length/\j≠i/\nth h.K j=z:=λz N=>kg N
 have F:(h.K.set i {nth h.K i with q:=size}).map (·.Addr)=h.K.map (·.Addr):=rP T rfl;have S:(h.K.set i {nth h.K i with q:=size}).map (·.Id)=h.K.map (·.Id):=rP T rfl;have hli:=(ay T:nth h.K i∈h.K)
 generalize h.K.set i {nth h.K i with q:=size} = ob at M F S |-;refine⟨o,o0,o1,{t with
   ker:=kz t.ker _ _
   rng:=by show bR (((dX h.G (l.S+(size+15) / 16) (dU l size)).F.R.M.length:Nat):Int) o=true;rw[R];exact o2
   lay:=?_
   srl:=?_
   pg:=NL t (by have:((tbl h).M.length:Int)=(h.G.F.R.M.length:Int):=rfl;omega) (List.Sublist.refl _) (λz c q B=>?_) ω P o3
   osr:=?_
   onu:=λz c=>?_
   oid:=by show(ob.map (·.Id)).Nodup;rw[S];exact t.oid
   oow:=λz c=>?_
   nd:=?_
   mem:=λb=>?_}⟩
 ·obtain⟨l1,l2,l3⟩:=gq t.lay
  unfold bK;simp only[I0,C0];refine⟨⟨l1,O7.2 λz c=>?_⟩,l3.sublist w⟩;rcases d z c with rfl|⟨j,n,-,rfl⟩
  ·exact O0 ⟨N.1,by show size<=1000;omega,rfl,by show 0<=l.S;omega,by show l.S<=32 - (size+15) / 16;omega⟩
  exact U.lok _ (ay n)
 ·have A:(h.H.map (·.S)).Pairwise (λa b=>a<b):=List.pairwise_map.2 t.srl
  rw[<-hpageM]at A;exact List.pairwise_map.1 A
 ·rcases d z c with rfl|⟨j,n,-,rfl⟩
  ·have:=(J q).1 B
   exact⟨l,y,(D q).2 ⟨ω,ω⟩⟩
  exact⟨_,ay n,B⟩
 ·have A:(h.K.map (·.Addr)).Pairwise (λa b=>a<b):=List.pairwise_map.2 t.osr
  rw[<-F]at A;exact List.pairwise_map.1 A
 ·rcases M z c with rfl|⟨j,n,-,rfl⟩
  ·exact t.onu (nth h.K i) hli
  exact t.onu _ (ay n)
 ·rcases M z c with rfl|⟨j,n,hji,rfl⟩
  ·exact .inr ⟨_,p,Y,rfl⟩
  rcases t.oow _ (ay n) with A|⟨l',hl',e1,X⟩
  ·exact .inl A
  obtain⟨m,hm,rfl⟩:=b9 hl';by_cases e:m=k
  ·subst e
   rw[V]at e1;exact absurd (iO (f:=(·.Addr)) (iE t.osr) n T (e1.trans Y.symm)) hji
  exact .inr ⟨_,u m hm e,e1,X⟩
 ·have hh:holders {h with G:=dX h.G (l.S+(size+15) / 16) (dU l size),H:=la,K:=ob,a:=o} = holders h:=by
   show((ob.map (·.Addr)++dB h)++h.r.l.map (·.Addr))++bi h.b=_;rw[F];rfl
  rw[hh];exact t.nd
 have hh:holders {h with G:=dX h.G (l.S+(size+15) / 16) (dU l size),H:=la,K:=ob,a:=o} = holders h:=by
  show((ob.map (·.Addr)++dB h)++h.r.l.map (·.Addr))++bi h.b=_;rw[F];rfl
 rw[hh,t.mem b];show sv h.J h.H b↔sv h.J la b;unfold sv;constructor
 ·rintro(A|⟨z,c,e⟩)
  ·exact .inl A
  obtain⟨j,n,rfl⟩:=b9 c;by_cases X:j=k
  ·subst X
   rw[V]at e;exact .inr ⟨_,p,e⟩
  exact .inr ⟨_,u j n X,e⟩
 rintro(A|⟨z,c,e⟩)
 ·exact .inl A
 rcases d z c with rfl|⟨j,n,-,rfl⟩
 ·exact .inr ⟨l,y,e⟩
 exact .inr ⟨_,ay n,e⟩
def sG(h:ac)(k:Nat)(size:Int):af:=zK h.G (16*(nth h.H k).S+size) (16*((size+15) / 16) - size).toNat
def Aw(h:ac)(k:Nat)(size:Int):List aD:=if 0<dU (nth h.H k) size then(cw (ge h) h.a ⟨(nth h.H k).S+(size+15) / 16,(dU (nth h.H k) size:Nat)⟩).getD h.a else h.a
def trimH(h:ac)(i k:Nat)(size:Int):ac:={h with G:=dX (sG h k size) ((nth h.H k).S+(size+15) / 16) (dU (nth h.H k) size),H:=h.H.set k (trimL (nth h.H k) size),K:=h.K.set i {nth h.K i with q:=size},a:=Aw h k size}
theorem pn(b:bo h E){k:Nat}(c:k<h.H.length)(g:16*(nth h.H k).S<=a/\a<16*(nth h.H k).S+16*(nth h.H k).a0):(ax h.G.F.R (a / 16)).o≠0:=by
 obtain⟨i,j⟩:=HR b c;have l:=bj (b.L.lok _ (ay c));have d:(a / 16)∈pgs h.J h.H:=iz (ay c) (eM.2 ⟨(a / 16 - (nth h.H k).S).toNat,ω,ω⟩);have e:=b.pg.bnd _ d;have f:=(b.pg.own (a / 16).toNat ω).2 ψ;unfold ax;rw[CK ⟨ω,e⟩];exact f
theorem BW(a:bo h E){k:Nat}(b:k<h.H.length)(d:9<=size/\size<=(nth h.H k).q):∀{m:Nat},m<=(16*((size+15) / 16) - size).toNat->aN (zK h.G (16*(nth h.H k).S+size) m)=true:=fun {m} hm=>by
 have c:=a.L.lok _ (ay b)
 grind [YI,bo.ker,pn,cv]
theorem bo.trimH{h:ac}{i k:Nat}{size:Int}(b:bo h [])(n:i<h.K.length)(c:k<h.H.length)(r:(nth h.K i).Addr=16*(nth h.H k).S)(e:9<=size/\size<=(nth h.H k).q):bo (trimH h i k size) []/\JK h (trimH h i k size):=by
 have f:=BW b c e (z5 _);have g:=(y8 h.G (16*(nth h.H k).S+size) (16*((size+15) / 16) - size).toNat).1;have t:=b.cells f g;obtain⟨o,u,w,j⟩:=t.trimL (i:=i) (k:=k) (size:=size) n c r e;simp only at u w j;have y:ge {h with G:=zK h.G (16*(nth h.H k).S+size) (16*((size+15) / 16) - size).toNat} = ge h:=by grind [ge]
 have A:Aw h k size=o:=by grind [Aw]
 have B:Ab.trimH h i k size = {h with G:=dX (sG h k size) ((nth h.H k).S+(size+15) / 16) (dU (nth h.H k) size),H:=h.H.set k (Ab.trimL (nth h.H k) size),K:=h.K.set i {nth h.K i with q:=size},a:=o}:=by unfold Ab.trimH;rw[A]
 refine⟨by rw[B];exact j,JK.less rfl rfl rfl λq C=>?_⟩;have a:=b.L.lok _ (ay c);unfold cv at a;rw[C0]at a;obtain⟨D,E⟩:=HR b c;have d:(sG h k size).F.R=h.G.F.R:=g;have l:=qU (k:=sG h k size) f (p:=(nth h.H k).S+(size+15) / 16) ω (dU (nth h.H k) size) (by rw[d];have:((tbl h).M.length:Int)=(h.G.F.R.M.length:Int):=rfl;unfold dU;omega) q;change (nth (dX (sG h k size) ((nth h.H k).S+(size+15) / 16) (dU (nth h.H k) size)).F.R.M q).o≠0 at C;show nth (dX (sG h k size) ((nth h.H k).S+(size+15) / 16) (dU (nth h.H k) size)).F.R.M q=nth h.G.F.R.M q
 grind
structure dP where
 a6:Int
 p:Int
 N:Int
 At:Int
 Value:Int
deriving DecidableEq,Inhabited
def dP.enc(_:eS)(x:dP):List C:=[I x.a6,I x.p,I x.N,I x.At,I x.Value]
def iR(id:Int)(o:aF):Bool:=decide (o.Id=id)
def pR(r:ar)(id:Int):Int:=cC (iR id) r.K
def Wf(r:ar)(n:Int):ar:=if 1<=n/\n<=1000 then {r with j:=r.j+1,K:=r.K++[⟨r.j,List.replicate n.toNat 0⟩]} else r
def kL(r:ar)(id:Int):ar:=if pR r id<0 then r else {r with K:=dele r.K (pR r id).toNat}
def ef(r:ar)(id at_ v:Int):ar:=if 0<=pR r id/\(0<=at_/\at_<=(nth r.K (pR r id).toNat).U.length - 1)/\0<=v/\v<=999 then {r with K:=r.K.set (pR r id).toNat ⟨(nth r.K (pR r id).toNat).Id,(nth r.K (pR r id).toNat).U.set at_.toNat v⟩} else r
def fQ(r:ar)(id n:Int):ar:=if 0<=pR r id/\1<=n/\n<=(nth r.K (pR r id).toNat).U.length then {r with K:=r.K.set (pR r id).toNat ⟨(nth r.K (pR r id).toNat).Id,(nth r.K (pR r id).toNat).U.take n.toNat⟩} else r
theorem fJ[Inhabited α](p:α->Bool)(xs:List α)(h:0<=cC p xs):(cC p xs).toNat<xs.length/\p (nth xs (cC p xs).toNat)=true/\cC p xs=((cC p xs).toNat:Nat):=by grind [tE]
def Rh(id:Int)(o:aW):Bool:=decide (o.Id=id)
def oY(h:ac)(id:Int):Int:=cC (Rh id) h.K
def nu(a:Int)(l:aA):Bool:=decide (l.S*16=a)
def tT(h:ac)(a:Int):Int:=cC (nu a) h.H
def oW(h:ac)(a:dP):Prop:=0<=a.p/\a.p<=h.Q.length - 1
instance (h:ac) (a:dP):Decidable (oW h a):=by unfold oW;infer_instance
def uO(w:aP)(a:dP)(i:Nat):aP × Int:=
 if w.W.G.Calls=100000 then(w,6)
 else if oW w.W a then(⟨(freeT w.W a.p.toNat i).1,if(freeT w.W a.p.toNat i).2=0 then kL w.b0 (nth w.W.K i).Id else w.b0⟩,(freeT w.W a.p.toNat i).2)
 else(w,1)
def qM(w:aP)(a:dP)(i:Nat):aP × Int:=
 if ¬(0<=a.At/\a.At<=(nth w.W.K i).q - 1) then(w,90)
 else if(ax w.W.G.F.R (((nth w.W.K i).Addr+a.At) / 16)).o=1 then(w,2)
 else if ¬(0<=a.Value/\a.Value<=999) then(w,3)
 else(⟨{w.W with G:=jt w.W.G ((nth w.W.K i).Addr+a.At) a.Value},ef w.b0 (nth w.W.K i).Id a.At a.Value⟩,0)
def ju(h:ac)(i:Nat)(n:Int):Prop:=0<=tT h (nth h.K i).Addr/\9<=n/\n<=(nth h.H (tT h (nth h.K i).Addr).toNat).q
instance (h:ac) (i:Nat) (n:Int):Decidable (ju h i n):=by unfold ju;infer_instance
def vd(w:aP)(a:dP)(i:Nat):aP × Int:=
 if w.W.G.Calls≠100000/\ju w.W i a.Value then(⟨trimH w.W i (tT w.W (nth w.W.K i).Addr).toNat a.Value,fQ w.b0 (nth w.W.K i).Id a.Value⟩,0) else(w,90)
def mY(w:aP)(a:dP)(i:Nat):aP × Int:=if a.a6=2 then uO w a i else if a.a6=3 then qM w a i else vd w a i
def jv(h:ac)(a:dP):ac × Int:=
 if a.a6=5 then(if oW h a/\0<(nth h.b.T a.p.toNat).length then({h with b:=fj h.b a.p.toNat},0) else(h,90))
 else if ¬(h.G.Calls≠100000/\oW h a) then(h,0)
 else if a.a6=6 then(collect h a.p.toNat,((nth h.b.e a.p.toNat).length:Nat))
 else((bC a.p.toNat h 4).1,((bC a.p.toNat h 4).2:Nat))
def vi(h:ac)(n:Int):ac × Int:=if h.G.Calls≠100000/\(0<=n/\n<=1000)/\h.a4+n<=1000000 then(tick h n,((n7 h n).length:Nat)) else(h,0)
def pd(h:ac):Bool:=h.w&&decide (h.G.Calls<=99000)
def mQ(h:ac):Nat->ac × Nat
 | 0=>(h,0)
 | i+1=>if pd (mQ h i).1=true then(mStep (mQ h i).1,(mQ h i).2+1) else mQ h i
def uS(h:ac):ac × Int:=if h.w=true then(h,90) else((started h).1,if(started h).2=true then 0 else 90)
def nq(w:aP)(a:dP):aP × Int:=
 if a.a6=1 then(⟨(fm w.W a.p a.N).1,if(fm w.W a.p a.N).2.2=0 then Wf w.b0 a.N else w.b0⟩,(fm w.W a.p a.N).2.2)
 else if a.a6=2\/a.a6=3\/a.a6=4 then(if oY w.W a.N<0 then(w,90) else mY w a (oY w.W a.N).toNat)
 else if a.a6=5\/a.a6=6\/a.a6=7 then(⟨(jv w.W a).1,w.b0⟩,(jv w.W a).2)
 else if a.a6=8 then(⟨(vi w.W a.N).1,w.b0⟩,(vi w.W a.N).2)
 else if a.a6=9 then(⟨(uS w.W).1,w.b0⟩,(uS w.W).2)
 else if a.a6=10/\0<=a.N/\a.N<=50 then(⟨(mQ w.W a.N.toNat).1,w.b0⟩,((mQ w.W a.N.toNat).2:Nat))
 else(w,90)
theorem lI(b:bo h E){o:aW}(i:o∈h.K)(C:0<=k/\k<=o.q - 1):(ax h.G.F.R ((o.Addr+k) / 16)).o≠0/\0<=o.Addr/\o.Addr+k<512:=by
 rcases b.oow o i with⟨s,f,p,q⟩|⟨l,g,D,F⟩
 ·have a:=b.L.sok s f
  have r:=aT a;obtain⟨t,u,w⟩:=b.mapped f;have c:=dx r.2.2;obtain⟨G,H,y,-⟩:=p;have d:o.q<=csz s.Z:=by
   have J:=ru (n:=o.q) ω;rw[q];have:o.q=1\/o.q=2\/o.q=3\/o.q=4\/o.q=5\/o.q=6\/o.q=7\/o.q=8:=ω
   rcases this with e|e|e|e|e|e|e|e<;>rw[e]<;>decide
  have A:(o.Addr+k) / 16=s.S:=by
   rcases c with e|e|e|e<;>rw[e]at y d<;>omega
  rw[A];refine⟨?_,ω,ω⟩;unfold ax;rw[CK ⟨t,u⟩];exact w
 obtain⟨j,K,rfl⟩:=b9 g;have B:=b.L.lok _ g
 grind [pn,cv]
structure HT where
 a0:Nat
 V:Nat
 c2:Nat
 b7:Int
 k:List Int
deriving Inhabited
def world0(c:HT):aP:=⟨Xm c.a0 c.V c.c2 c.b7 c.k,{j:=1,K:=[]}⟩
def rnN(c:HT)(acts:List dP):Nat->aP × List Int
 | 0=>(world0 c,[])
 | i+1=>((nq (rnN c acts i).1 (nth acts i)).1,(rnN c acts i).2++[(nq (rnN c acts i).1 (nth acts i)).2])
def or64{z1 z2:Int}(h1:0<=z1/\z1<=65535)(h2:0<=z2/\z2<=65535):IntKind.i64.wrap ((BitVec.ofInt IntKind.i64.bits z1 ||| BitVec.ofInt IntKind.i64.bits z2).toNat:Nat)=bor z1 z2:=by
 rw[BitVec.toNat_or,vf ω,vf ω];have a:=Pf h1 h2;unfold bor at a |-;exact ij ω ω
def Fh(h:ac)(i:Nat)(n:cP h.J)(d:AA h)(a:∀s∈h.J,bu s=true)(y:i<h.J.length):zzA 415 false [.val (some 24) (ac.enc .O h),.vI (i:Nat)] .one [I (fp h i)]:=by
 have F:=n.1;have G:=au y;have g:=pD a y;have B:=aU ((i:Nat):Int) 0 ((h.J.length:Int) - 1);rw[O0 (show(0:Int)<=(i:Nat)/\((i:Nat):Int)<=(h.J.length:Int) - 1 by omega)]at B;have C:=jQ h (nth h.J i).S d;have o:=gR h (nth h.J i).S;have H:ge h<=1048576:=d.1;have c:fp h i=jL h.J (bh h (nth h.J i).S) (nth h.J i).a3 (bh h (nth h.J i).S).length:=rfl;obtain⟨ps,q⟩ : ∃ps,bh h (nth h.J i).S=ps:=⟨_,rfl⟩
 obtain⟨b,r⟩ : ∃b,(nth h.J i).a3=b:=⟨_,rfl⟩
 rw[q]at C o c;rw[r]at c g;rw[c];have J:jL h.J ps b 0=b:=rfl;refine fO 63 [(4,7,[22,23,24,25,26,27,28]),(11,10,[43,44,45,46,47,48,49,50,51,52])] Tryz.func415 rfl ?_
 refine σP ?_
 refine lp0 ps.length (λu=>[(2,bX (ac.enc .O h)),(5,fI (jL h.J ps b u)),(6,b8 (aI .own ps)),(7,fN u)]) λu M=>?_
 by_cases K:u<ps.length
 ·have l:=au K
  have t:=oU a (ps:=ps) g u
  refine σE ?_
  refine lp0 h.J.length (λj=>[(2,bX (ac.enc .O h)),(5,fI (tX h.J (nth ps u) (jL h.J ps b u) j)),(6,b8 (aI .own ps)),(7,fN u),(8,fN j)]) λj L=>?_
  by_cases D:j<h.J.length
  ·have E:=au D
   have w:=AR a (p:=nth ps u) t j L;by_cases e:(nth h.J j).S=nth ps u
   ·have k:tX h.J (nth ps u) (jL h.J ps b u) (j+1)=bor (tX h.J (nth ps u) (jL h.J ps b u) j) (nth h.J j).a3:=CK e
    repeat'(first|refine gB ?_|refine CT (or64 w (pD a D)) ?_)
    (exact dL (j+1) ω)
   have k:tX h.J (nth ps u) (jL h.J ps b u) (j+1)=tX h.J (nth ps u) (jL h.J ps b u) j:=CJ e
   refine σB ?_
   (exact dL (j+1) ω)
  obtain rfl:j=h.J.length:=ω
  refine σE ?_
  (exact dL (u+1) ω)
 obtain rfl:u=ps.length:=ω
 refine σE ?_
 rfl
def qI{xs:List aW}(h:∀o∈xs,0<=o.q/\o.q<=1000):∀k:Nat,k<=xs.length->0<=wj xs k/\wj xs k<=1000*k
 | 0,_=>⟨O9 _,O9 _⟩
 | k+1,a=>by
  have b:=qI h k ω;have c:=h _ (ay (xs:=xs) (i:=k) ω);simp only[wj];omega
def Br(h:ac)(a:∀o∈h.K,0<=o.q/\o.q<=1000)(e:h.K.length<=1048576):zzA 183 false [.val (some 24) (ac.enc .O h)] .one [I (rK h)]:=by
 refine fO 21 [] Tryz.func183 rfl ?_
 refine σP ?_
 refine lp0 h.K.length (λk=>[(1,bX (ac.enc .O h)),(3,fI (wj h.K k)),(4,fN k)]) λk c=>?_
 have g:=qI a k c;by_cases b:k<h.K.length
 ·have d:=au b
  have i:=a _ (ay b)
  refine σE ?_
  (exact dL (k+1) ω)
 obtain rfl:k=h.K.length:=ω
 refine σE ?_
 rfl
def Ea(k b:Int)(h:b<=9223372036854775807):zzA 414 false [.vI (slots k),.vI b] .one (aI .own (rO k b)):=by
 have c:=vN k b;have p:0<=slots k/\slots k<=16:=by unfold slots;repeat' split<;>omega
 unfold rO;cases e:Uf k b<;>rw[e]at c
 ·rw[CJ (by simp)]
  refine fO 27 [] Tryz.func414 rfl ?_ (.inr (bO _))
  refine σP ?_
  refine pe (λj:Nat=>[(0,fI (slots k)),(1,fI b),(5,b8 (aI .own [])),(6,fN j)]) (λj=>j=0) (λj=>1 - j) (0) (rfl) λj g=>?_
  subst g
  repeat'(first|refine gE ?_|refine gS (λi=>?_) (λi=>?_)|fail)
  all_goals rfl
 rw[CK rfl];refine fO 27 [] Tryz.func414 rfl ?_ (.inr (bO _))
 refine σP ?_
 refine lp0 ((slots k).toNat) (λj=>[(0,fI (slots k)),(1,fI b),(5,b8 (aI .own (oX b j))),(6,fN j)]) λj g=>?_
 have l:=uE b j;by_cases q:j<(slots k).toNat
 ·have d:=kQ b (j:Nat) h
  have a:oX b (j+1)=if br b (j:Nat)=true then oX b j else oX b j++[((j:Nat):Int)]:=rfl
  cases n:br b (j:Nat)<;>rw[n]at d a
  ·rw[CJ (by simp)]at a
   repeat'(first|refine gE ?_|refine Ce dz (λr o=>by rw[z3.1 o];rfl) (by simp[b6,gj]) kd (by simp only[I2];exact wT kd qs) rfl ?_)
   (refine CQ (j+1) ω ω ?_)
   rw[a]
   repeat'(first|exact tV1|rfl|exact CL rfl (CL (O1 (C.s eS.own) (by simp[rI])) tV1)|refine CL ?_ ?_|(exact wkI (by first|omega|(simp only;omega)|(simp;omega))))
  rw[CK rfl]at a
  refine σE ?_
  (refine CQ (j+1) ω ω ?_)
  rw[a];exact wB
 obtain rfl:j=(slots k).toNat:=ω
 refine σE ?_
 rfl
def G5(b i:Int):bor b (2 ^ i.toNat)=jg b i:=by
 unfold bor jg;have:((2 ^ i.toNat:Nat):Int)=(2:Int) ^ i.toNat:=Int.natCast_pow 2 i.toNat;rw[<-this,O4]
def FB(b i:Int)(d:0<=b/\b<=65535)(a:0<=i/\i<=15):zzA 417 false [.vI b,.vI i] .one [I (jg b i)]:=by
 have c:=vh b i;rw[O0 ω]at c;have e:IntKind.u64.wrap i=i:=by unfold IntKind.wrap;simp[IntKind.signed,IntKind.bits];omega
 have h:=(shl64 a).2;have g:=(or64 (z1:=b) (z2:=2 ^ i.toNat) d ω).trans (G5 b i);refine fO 15 [] Tryz.func417 rfl ?_
 repeat'(first|refine gP ?_|refine CU ω ?_|refine CT e ?_|refine CT (shl64 a).1 ?_|refine CT g ?_)
 rfl
def UA(b:bu s=true)(d:0<=k/\k<slots s.Z):0<=k*csz s.Z/\k*csz s.Z<=15:=by
 have a:=aT b;have c:=iB a.2.2;rcases dx a.2.2 with e|e|e|e<;>rw[e]at c |-<;>omega
def FU(s:aC)(k:Int)(a:bu s=true)(d:0<=k/\k<slots s.Z):zzA 418 false [.val (some 3) (aC.enc .O s),.vI k] .one [I (16*s.S+k*csz s.Z)]:=by
 have e:=aT a;have i:=UA a d;have j:=iB e.2.2;have b:=jj s;rw[a]at b;have g:=sB s.Z;have c:=aU k 0 (slots s.Z - 1);rw[O0 ω]at c;have h:=fF s.Z;refine fO 26 [(3,8,[17,18,19,20,21,22,23,24])] Tryz.func418 rfl ?_
 refine σP ?_
 exact eE ω
def JV(f:aO)(g:f.y.length<=1048576):zzA 419 false [.val (some 2) (aO.enc .O f)] .one [I (cC (λu=>!u) f.y)]:=by
 refine fO 18 [] Tryz.func419 rfl ?_
 refine σP ?_
 refine g0 f.y.length (λi=>[(1,bX (aO.enc .O f)),(3,fN i)]) (λi=>∀(j:Nat)(z:Bool),j<i->f.y[j]? = some z->(!z)=false) (λj z h=>ω) λi c=>?_
 obtain⟨c,b⟩:=c;by_cases d:i<f.y.length
 ·have a:=au d
  cases e:nth f.y i<;>rw[e]at a
  ·refine σE ?_
   exact eE (eA a rfl b).symm
  refine σE ?_
  (exact dL (i+1) ⟨ω,gd a rfl b⟩)
 refine σE ?_
 exact eE (gr ω b).symm
def rC(m:aJ):∀(n i:Nat),i<n->((nth m.T i).length:Int)+(nth m.e i).length<=bW m n/\0<=bW m n
 | 0,i,h=>absurd h (Nat.not_lt_zero i)
 | n+1,i,h=>by
  have a:0<=bW m n:=by
   cases n with
   | zero=>exact O9 _
   | succ k=>exact(rC m (k+1) 0 ω).2
  simp only[bW];by_cases e:i=n
  ·subst e;omega
  have:=(rC m n i ω).1;omega
structure iK(m:aJ):Prop where
 b4:1<=m.T.length/\m.T.length<=4
 i4:m.e.length=m.T.length
 bl:∀i,i<m.T.length->(nth m.T i).length<=30
 il:∀i,i<m.T.length->(nth m.e i).length<=30
def iK.of(h:bN m=true):iK m:=by
 obtain⟨⟨b,c,d⟩,-,e⟩:=eG.1 h;exact⟨⟨b,c⟩,d,λi a=>by have:=(rC m m.T.length i a).1;omega,λi a=>by have:=(rC m m.T.length i a).1;omega⟩
def iK.sml(h:iK m):aJ.sml m:=by
 have c:=h.b4;have d:=h.i4;refine⟨⟨ω,λl a=>?_⟩,⟨ω,λl a=>?_⟩⟩
 ·obtain⟨i,b,rfl⟩:=b9 a
  have:=h.bl i b;exact⟨ω,λ_ _=>tV1⟩
 obtain⟨i,b,rfl⟩:=b9 a;have:=h.il i ω;show(nth m.e i).length<=1048576;omega
def xA(m:aJ)(k:Int)(a:aJ.sml m):zzA 339 false [.val (some 2) (aJ.enc .O m),.vI k] .one [B (bN m&&decide (0<=k/\k<=m.T.length - 1))]:=by
 have b:=pA m a;have c:m.T.length<=1048576:=a.1.1;cases e:bN m<;>rw[e]at b
 all_goals
  refine fO 15 [] Tryz.func339 rfl ?_
  repeat'(first|refine gP ?_|refine CG (aU k 0 (m.T.length - 1:Int)) ?_)
  all_goals rfl
def TC(a:f<m.T.length):m.T[f]? = some (nth m.T f):=au a
def y4(m:aJ)(f:Nat)(p:aV):aJ.enc .own (gI m f p)=[.s .own ((m.T.map (bf .own)).set f (bf .own (nth m.T f++[p]))),.s .own (m.e.map (aI .own))]:=by simp[aJ.enc,gI,IC]
def Hx(h:iK m)(c:f<m.T.length)(p:aV):aJ.sml (gI m f p):=by
 have d:=h.b4;have b:=h.sml;refine⟨⟨by simp only[gI,C3];omega,λl a=>?_⟩,b.2⟩;rcases CD a with a|rfl
 ·exact b.1.2 l a
 have:=h.bl f c;exact⟨by simp;omega,λ_ _=>tV1⟩
def TB(m:aJ)(f:Nat)(p:aV)(j:bN m=true)(g:f<m.T.length):zzA 331 false [.val (some 2) (aJ.enc .O m),.vI (f:Nat),.val (some 2) (aV.enc .O p)] (.tup [some 2,none]) (aJ.enc .own (if bN (gI m f p)=true then gI m f p else m)++[B (bN (gI m f p))]):=by
 have c:=iK.of j;have k:=c.sml;have q:=c.b4;have h:=xA m f k;rw[j,O0 ω]at h;have l:=iv m k;have b:=Hx c g p;have i:=pA (gI m f p) b;have n:=iv (gI m f p) b;have a:=TC g;have o:=c.bl f g;have d:=Cv (gI m f p);rw[y4]at d;cases e:bN (gI m f p)<;>rw[e]at i
 ·rw[CJ (by simp)]
  refine fO 35 [(4,267,[16,17,18,19,20,21,22,23,24,25,27,0,1,2,3,4,5,6,7,8,9,10,1000,1001,1002,11,12])] Tryz.func331 rfl ?_ (.inr (aE (Cr _) ⟨tV1,tV1⟩))
  repeat'(first|refine gP ?_|refine CI (bZ a) ?_|refine CM rfl (bZ a) rfl ?_|refine Cj rfl rfl (aa a) rfl (O2 rfl) rfl rfl ?_|refine CR rfl rfl (bZ a) rfl (O2 rfl) (show [C.s eS.own ((m.T.map (bf .own)).set f (bf .own (nth m.T f++[p]))),C.s .own (m.e.map (aI .own))]=_ from by simp only[List.set_cons_zero,List.set_set,O4];rfl) ?_|refine Cf (aR λ_=>rfl) rfl kd qs (eL _ _ _) ?_|refine CN (i) ⟨⟨rfl,d⟩,tV1⟩ ?_)
  rfl
 rw[CK rfl];refine fO 35 [(4,267,[16,17,18,19,20,21,22,23,24,25,27,0,1,2,3,4,5,6,7,8,9,10,1000,1001,1002,11,12])] Tryz.func331 rfl ?_ (.inr (aE (Cr _) ⟨tV1,tV1⟩))
 repeat'(first|refine gP ?_|refine CI (bZ a) ?_|refine CM rfl (bZ a) rfl ?_|refine Cj rfl rfl (aa a) rfl (O2 rfl) rfl rfl ?_|refine CR rfl rfl (bZ a) rfl (O2 rfl) (show [C.s eS.own ((m.T.map (bf .own)).set f (bf .own (nth m.T f++[p]))),C.s .own (m.e.map (aI .own))]=_ from by simp only[List.set_cons_zero,List.set_set,O4];rfl) ?_|refine Cf (aR λ_=>rfl) rfl kd qs (eL _ _ _) ?_|refine CN (i) ⟨⟨rfl,d⟩,tV1⟩ ?_|refine CN (n) ⟨⟨rfl,d⟩,tV1⟩ ?_)
 rfl
def Qc(m:aJ)(f:Int)(a:bN m=true)(d:¬(0<=f/\f<=m.T.length - 1)):zzA 192 false [.val (some 2) (aJ.enc .O m),.vI f] (.tup [some 2,none]) (aJ.enc .own m++[B false]):=by
 have e:=iK.of a;have b:=e.sml;have c:=xA m f b;rw[a,C1 d]at c;have g:=iv m b;refine fO 60 [(5,267,[31,32,33,34,35,36,37,38,39,40,42,0,1,2,3,4,5,6,7,8,9,10,1000,1001,1002,11,12]),(6,270,[43,44,45,46,47,48,49,50,51,52,53,54,55,57,0,1,2,3,4,5,6,7,8,9,10,11,12,13,1000,1001,1002,1003,14,15])] Tryz.func192 rfl ?_ (.inr (aE (Cr _) ⟨tV1,tV1⟩))
 refine σP ?_
 rfl
def D0(m:aJ)(f t:Nat)(a:(nth (nth m.T f) 0).To=t):aJ.enc .own (fj m f)=[.s .own ((m.T.map (bf .own)).set f [.s .own (((nth m.T f).drop 1).map (aV.enc .O))]),.s .own ((m.e.map (aI .own)).set t (aI .own (nth m.e t++[(nth (nth m.T f) 0).Addr])))]:=by
 unfold aJ.enc fj;simp only[IC,a,O4]
 rfl
def LM(m:aJ)(f:Nat)(h:bN m=true)(i:f<m.T.length):zzA 192 false [.val (some 2) (aJ.enc .O m),.vI (f:Nat)] (.tup [some 2,none]) (aJ.enc .own (if 0<(nth m.T f).length then fj m f else m)++[B (decide (0<(nth m.T f).length))]):=by
 have d:=iK.of h;have u:=d.sml;have J:=d.b4;have D:=d.i4;have j:=xA m f u;rw[h,O0 ω]at j;have w:=iv m u;have a:=TC i;have E:=d.bl f i;by_cases e:0<(nth m.T f).length
 ·rw[CK e,O0 e]
  have g:=((eG.1 h).2.1 f i).1 _ (ay e);obtain⟨t,k⟩:=t5 g.1;have l:t<m.e.length:=ω
  have y:=au e;have c:=au l;have F:=d.il t ω;have n:=(iK.of (L1 h i e)).sml;have G:=iv (fj m f) n;have o:=Cv (fj m f);rw[D0 m f t k]at o;have q:=aE (b:=[B true]) (Cr (fj m f)) ⟨tV1,tV1⟩;generalize K:nth (nth m.T f) 0=p at *;obtain⟨L,H⟩:=p;simp only at k g o;subst k;refine fO 60 [(5,267,[31,32,33,34,35,36,37,38,39,40,42,0,1,2,3,4,5,6,7,8,9,10,1000,1001,1002,11,12]),(6,270,[43,44,45,46,47,48,49,50,51,52,53,54,55,57,0,1,2,3,4,5,6,7,8,9,10,11,12,13,1000,1001,1002,1003,14,15])] Tryz.func192 rfl ?_ (.inr q)
  repeat'(first|refine gB ?_|refine gS (λr=>?_) (λr=>?_)|refine CS qs (aa y) ?_|refine CI (bZ a) ?_|refine CI (bZ c) ?_|refine CM rfl (bZ a) rfl ?_|refine CM rfl (bZ c) rfl ?_|refine Cj rfl rfl (aa c) rfl (O2 rfl) rfl rfl ?_|refine Ci 1 rfl (by rw[I2];omega) (aR λ_=>rfl) I8 ?_|refine Cg (λ_=>rfl) (λ_=>rfl) (by rw[O5];omega) qs ?_|refine CX (λ_=>rfl) (λ_=>rfl) (by rw[O5];omega) qs ?_|refine CR rfl rfl (aa a) rfl (O2 rfl) rfl ?_|refine CR rfl rfl (bZ c) rfl (O2 rfl) (show [C.s eS.own ((m.T.map (bf .own)).set f [.s .own (((nth m.T f).drop 1).map (aV.enc .O))]),C.s .own ((m.e.map (aI .own)).set t (aI .own (nth m.e t++[H])))]=_ from by simp only[List.set_cons_zero,List.set_cons_succ,List.set_set,O4];rfl) ?_|refine Cf (aR λ_=>rfl) rfl kd qs (eL _ _ _) ?_|refine CN (G) ⟨⟨rfl,o⟩,tV1⟩ ?_)
  rfl
 rw[CJ e,C1 e];refine fO 60 [(5,267,[31,32,33,34,35,36,37,38,39,40,42,0,1,2,3,4,5,6,7,8,9,10,1000,1001,1002,11,12]),(6,270,[43,44,45,46,47,48,49,50,51,52,53,54,55,57,0,1,2,3,4,5,6,7,8,9,10,11,12,13,1000,1001,1002,1003,14,15])] Tryz.func192 rfl ?_ (.inr (aE (Cr _) ⟨tV1,tV1⟩))
 repeat'(first|refine gB ?_|refine gS (λr=>?_) (λr=>?_)|fail)
 rfl
def Ve.set(rows:List (List C))(i:Nat){r':List C}(h:YK r r'):Ve (.s .own (rows.set i r)) (.s .own (rows.set i r')):=by
 refine .own_ _ _ (by simp) (λj a b d f=>?_) (λj l a b c o d f n g=>?_)
 ·by_cases e:i=j
  ·subst e
   have k:i<rows.length:=by have:=(C4.1 d).1;simpa using this
   rw[I6 k]at d f;cases d;cases f;exact h.1
  rw[List.getElem?_set_ne e]at d f;rw[d]at f;cases f;rfl
 by_cases e:i=j
 ·subst e
  have k:i<rows.length:=by have:=(C4.1 d).1;simpa using this
  rw[I6 k]at d f;cases d;cases f;exact h.2 l c o n g
 rw[List.getElem?_set_ne e]at d f;rw[d]at f;cases f;rw[n]at g;cases g;exact .rfl_ _
def Kn(m:aJ)(t:Nat)(d:bN m=true)(h:t<m.T.length):zzA 340 false [.val (some 2) (aJ.enc .O m),.vI (t:Nat)] (.tup [some 2,none]) (aJ.enc .own (km m t)++aI .own (nth m.e t)):=by
 have b:=iK.of d;have e:=b.sml;have o:=b.b4;have j:=b.i4;have g:=xA m t e;rw[d,O0 ω]at g;have k:=iv m e;have c:=au (xs:=m.e) (i:=t) ω;have l:=b.il t h;have a:=aE (Cr (km m t)) (bO (nth m.e t));have n:aJ.enc .own (km m t)=[.s .own (m.T.map (bf .own)),.s .own ((m.e.map (aI .own)).set t [.s .own []])]:=by simp[aJ.enc,km,IC];rfl
 rw[n]at a |-;refine fO 28 [(5,263,[20,21,22,23,24,25,26,0,1,2,3,4,5,6,7,1000,8,9])] Tryz.func340 rfl ?_ (.inr a)
 repeat'((conv=>whnf);first|with_reducible (first|refine Lm ?_|refine Wm ω ?_|refine CI (aa c) ?_|refine Bn ?_|refine pU.dk rfl ?_)|refine Bt ?_|refine Bu ?_|refine CH ?_|refine CG (g) ?_|refine CG (k) ?_|refine CM rfl (aa c) rfl ?_|refine CR rfl rfl (aa c) rfl (O2 rfl) rfl ?_|refine Cg (λ_=>rfl) (λ_=>rfl) ω qs ?_|refine CX (λ_=>rfl) (λ_=>rfl) ω qs ?_|refine CH ?_)
 exact .cons (.rfl_ _) (.cons (Ve.set _ _ (.cons .z_ .nil)) (.cons (.rfl_ _) .nil))
def Kr(now:Int):∀{l:List aK}{i:Nat},i<=l.length->(∀j,j<i->(nth l j).a9<now - 100)->(i<l.length->¬(nth l i).a9<now - 100)->sy now l=i
 | [],i,h,_,_=>by simp at h;subst h;rfl
 | x::xs,0,_,_,h=>by
  unfold sy;exact CJ (h (by simp))
 | x::xs,i+1,b,a,c=>by
  unfold sy;refine(CK (a 0 ω)).trans ?_;rw[Kr now (l:=xs) (i:=i) (by simp at b;omega) (λj d=>a (j+1) ω) (λe=>c kd)]
def LW(q:aY)(now:Int):List C:=aY.enc .own ⟨q.b2,q.l.drop (sy now q.l)⟩++bJ .own (q.l.take (sy now q.l))
def AG(q:aY)(now:Int)(g:ir q=true)(F:q.l.length<=4096)(u:0<=now/\now<=1000000):zzA 195 false [.val (some 2) (aY.enc .O q),.vI now,.vI 100] (.tup [some 2,none]) (LW q now):=by
 have w:aY.sml q:=⟨ω,λ_ _=>tV1⟩
 have n:=u5 q w;rw[g]at n;have o:=aU now 0 1000000;rw[O0 u]at o;have p:=aU 100 0 1000000;rw[O0 qs]at p;have h:=(jO.1 g).1;have a:gl (LW q now):=aE (aY.enc_fr _) (mh _);have y:∀i,i<q.l.length->0<=(nth q.l i).a9:=λi b=>(h _ (ay b)).2.2.2
 unfold LW at a |-;generalize B:sy now q.l=k at a |-;refine fO 59 [(6,270,[44,45,46,47,48,49,50,51,53,54,55,56,57,58,0,1,2,3,4,5,6,7,9,10,11,12,13,14,8,1009,1010,1011,1012,1013,1014,15,16])] Tryz.func195 rfl ?_ (.inr a)
 refine σP ?_
 refine g0 q.l.length (λi=>[(1,fI now),(2,fI 100),(3,bX (aY.enc .O q)),(6,bX [I 0,.z]),(8,fN i)]) (λi=>∀j,j<i->(nth q.l j).a9<now - 100) (λj C=>ω) λi b=>?_
 obtain⟨b,r⟩:=b;by_cases l:i<q.l.length/\(nth q.l i).a9<now - 100
 ·have c:=au l.1
  refine σE ?_
  (exact dL (i+1) ⟨ω,λj C=>by by_cases e:j=i;(subst e;exact l.2);exact r j ω⟩)
 have d:=Kr now (i:=i) b r (λD E=>l ⟨D,E⟩);rw[B]at d;subst d;by_cases t:k<q.l.length
 ·have c:=au t
  have:=y k t
  repeat'(first|refine gE ?_|refine gS (λg=>?_) (λg=>?_)|refine CZ k rfl (by rw[I2];omega) (aR λ_=>rfl) C8 ?_|refine Ci k rfl (by rw[I2];omega) (aR λ_=>rfl) I8 ?_|refine Cg (λ_=>rfl) (λ_=>rfl) (by rw[I3];omega) qs ?_|refine Cg (λ_=>rfl) (λ_=>rfl) (by rw[O5];omega) qs ?_|refine CX (λ_=>rfl) (λ_=>rfl) (by rw[O5];omega) qs ?_)
  rfl
 repeat'(first|refine gE ?_|refine CZ k rfl (by rw[I2];omega) (aR λ_=>rfl) C8 ?_|refine Ci k rfl (by rw[I2];omega) (aR λ_=>rfl) I8 ?_|refine Cg (λ_=>rfl) (λ_=>rfl) (by rw[I3];omega) qs ?_|refine Cg (λ_=>rfl) (λ_=>rfl) (by rw[O5];omega) qs ?_|refine CX (λ_=>rfl) (λ_=>rfl) (by rw[O5];omega) qs ?_)
 rfl
def HU(h:ac)(n:Int)(g:bo h [])(r:0<=n/\n<=1000)(p:h.a4+n<=1000000):zzB 72 false [.ptr (bT h),.vI n] [.ptr (bT (tick h n)),.vI n] .one [I ((n7 h n).length:Nat)]:=by
 have a:=g.nums;unfold cU at a;rw[C0]at a;have t:=g.lens.quar;have i:=AG h.r (h.a4+n) g.quar ω ⟨ω,p⟩;have j:=g.aged r.1 p;unfold LW at i;unfold tick n7 aged at *;have l:(h.r.l.take (sy (h.a4+n) h.r.l)).length<=4096:=by rw[I3];omega
 rw[I2];generalize h.r.l.take (sy (h.a4+n) h.r.l)=out at i j l |-;generalize h.r.l.drop (sy (h.a4+n) h.r.l)=rest at i j |-;refine fM 48 [(196,[2,0])] [(2,269,[18,19,20,21,22,23,24,25,26,17,27,28,5,0,1,2,3,4,5,6,7,8,9,10,11,12,13,1011,14])] [(0,0),(0,0)] Tryz.func72 rfl (λu q=>?_)
 repeat'(first|refine gP ?_|refine CN (i) ⟨⟨rfl,aY.enc_fz h.r⟩,⟨rfl,rfl⟩,⟨rfl,rfl⟩,tV1⟩ ?_)
 refine lp0 out.length (λk=>[(0,bX (bT (freeAs {h with a4:=h.a4+n,r:=⟨h.r.b2,rest⟩} ((out.map (·.Addr)).take k)))),(6,b8 (bJ .own out)),(7,fN k)]) λk y=>?_
 by_cases o:k<out.length
 ·have b:=au o
  have c:k<(out.map (·.Addr)).length:=by rw[I2];exact o
  have d:nth (out.map (·.Addr)) k=(nth out k).Addr:=bI (by rw[C5,au o];rfl);have e:bo (freeAs {h with a4:=h.a4+n,r:=⟨h.r.b2,rest⟩} ((out.map (·.Addr)).take k)) (nth (out.map (·.Addr)) k::(out.map (·.Addr)).drop (k+1)):=by
   refine bo.freeAs ?_;rw[<-hB c,List.take_append_drop];rw[List.append_nil]at j;exact j
  rw[d]at e;have w:=rg _ _ _ e
  refine σE ?_
  (refine CQ (k+1) ω ω ?_)
  rw[t6 _ _ _ c,d];exact wC
 obtain rfl:k=out.length:=ω
 rw[OE (by rw[I2];omega)]
 refine σE ?_
 exact kk
def An(t:Nat)(h:ac)(az:List Int)(k:Nat)(a:k<az.length):recycs t h (az.take (k+1))=recyc t (recycs t h (az.take k)) (nth az k):=by
 unfold recycs;rw[SA,au a,Option.toList_some,List.foldl_append];rfl
def A6(h:ac)(t:Nat)(a:bo h [])(i:t<h.Q.length):zzB 193 false [.ptr (bT h),.vI (t:Nat)] [.ptr (bT (collect h t)),.vI (t:Nat)] .one [I ((nth h.b.e t).length:Nat)]:=by
 have l:=a.nc;have n:=(eG.1 a.mail).1.2.2;have j:=Kn h.b t a.mail ω;have c:=(iK.of a.mail).il t ω;have d:=a.coll (t:=t) ω;rw[List.append_nil]at d;unfold collect;generalize nth h.b.e t=out at j d c |-;refine fM 36 [(334,[2,0,0])] [] [(0,0),(0,0)] Tryz.func193 rfl (λu q=>?_)
 repeat'(first|refine gP ?_|refine CN (j) ⟨⟨rfl,Cv h.b⟩,⟨rfl,rfl⟩,tV1⟩ ?_)
 refine lp0 out.length (λk=>[(0,bX (bT (recycs t {h with b:=km h.b t} (out.take k)))),(1,fN t),(6,b8 (aI .own out)),(7,fN k)]) λk p=>?_
 by_cases e:k<out.length
 ·have b:=au e
  have g:bo (recycs t {h with b:=km h.b t} (out.take k)) (nth out k::out.drop (k+1)):=by
   refine bo.recycs ?_ i;rw[<-hB e,List.take_append_drop];exact d
  have o:=sH _ _ t _ g (by rw[(gJ t _ _).1];exact i)
  refine σE ?_
  (refine CQ (k+1) ω ω ?_)
  rw[An _ _ _ _ e];exact wC
 obtain rfl:k=out.length:=ω
 rw[S9]
 refine σE ?_
 exact kk
def xx(a:Int)(o:aW):Bool:=decide (o.Addr<=a/\a<o.Addr+o.q)
def PB(h:ac)(E:List Int)(a:Int)(d:bo h E):zzB 336 false [.ptr (bT h),.vI a] [.ptr (bT h),.vI a] .one [I (cC (xx a) h.K)]:=by
 have r:=d.lens.objs;refine fM 47 [] [(4,29,[15,16,17,18,19,20,21,22,23,24,25,26,27,28,29,30,31,32,33,34,35,36,37,38,39,40,41,42,43])] [(0,0),(0,0)] Tryz.func336 rfl (λu q=>?_)
 refine σP ?_
 refine g0 h.K.length (λi=>[(0,bX (bT h)),(1,fI a),(5,fN i)]) (λi=>∀(j:Nat)(z:aW),j<i->h.K[j]? = some z->xx a z=false) (λj z C=>ω) λi d=>?_
 obtain⟨t,c⟩:=d;by_cases e:i<h.K.length
 ·have b:=au e
  have w:=pO ‹bo h E› (ay e);have y:0<=(nth h.K i).q/\(nth h.K i).q<=1000:=by
   rcases bo.oow ‹bo h E› _ (ay e) with⟨s,B,D,F⟩|⟨l,g,k,o⟩
   ·have G:=aT ((bo.L ‹bo h E›).sok s B)
    have:=ru (n:=(nth h.K i).q) ω;omega
   have H:=cQ ((bo.L ‹bo h E›).lok l g);omega
  by_cases k:(nth h.K i).Addr<=a
  ·by_cases o:a<(nth h.K i).Addr+(nth h.K i).q
   ·refine σE ?_
    refine CO rfl (eE (eA b (O0 ⟨k,o⟩) c).symm) ?_;exact wC
   repeat'(first|refine gE ?_|refine gS (λp=>?_) (λp=>?_)|fail)
   (exact dL (i+1) ⟨ω,gd b (C1 λx=>o x.2) c⟩)
  repeat'(first|refine gE ?_|refine gS (λp=>?_) (λp=>?_)|fail)
  (exact dL (i+1) ⟨ω,gd b (C1 λx=>k x.1) c⟩)
 refine σE ?_
 refine CO rfl (eE (gr ω c).symm) ?_;exact wC
def QK(h:ac)(a v:Int):bT {h with G:=jt h.G a v} = (bT h).set 0 (.s .own ((h.G.F.V.U.map (aI .own)).set (ax h.G.F.R (a / 16)).g.toNat ((aI .own (nth h.G.F.V.U (gc h.G a))).set 0 (.s .own (((nth h.G.F.V.U (gc h.G a)).map (rI .own)).set (a % 16).toNat (splice (rI .own (nth (nth h.G.F.V.U (gc h.G a)) (a % 16).toNat)) 0 [I v])))))):=by
 simp[bT,jt,setCell,IC,aI,splice,gc,rI]
def DY{p:α->Bool}{xs:List α}{x:α}(a:x∈xs)(b:p x=true):0<=cC p xs:=by
 have:=nQ p xs;rw[show xs.any p=true from I7.2 ⟨x,a,b⟩,C0]at this;exact this
def FD(h:ac)(i:Nat)(j v:Int)(e:bo h [])(C:i<h.K.length)(D:0<=j/\j<=(nth h.K i).q - 1):zzB 188 false [.ptr (bT h),.vI ((nth h.K i).Addr+j),.vI v]
  [.ptr (bT (if(ax h.G.F.R (((nth h.K i).Addr+j) / 16)).o=1\/¬(0<=v/\v<=999) then h else {h with G:=jt h.G ((nth h.K i).Addr+j) v})),.vI ((nth h.K i).Addr+j),.vI v] .one [I (if(ax h.G.F.R (((nth h.K i).Addr+j) / 16)).o=1 then 2 else if ¬(0<=v/\v<=999) then 3 else 0)]:=by
 obtain⟨E,J,K⟩:=lI e (ay C) D;have F:0<=cC (xx ((nth h.K i).Addr+j)) h.K:=DY (ay C) (O0 ω);have p:=PB h [] ((nth h.K i).Addr+j) e;have r:=bq e.ker;have t:=dO h.G.F.R (((nth h.K i).Addr+j) / 16) r.1.2;have n:=aU v 0 999;generalize L:(nth h.K i).Addr+j=a at *;have b:0<=a/\a<512:=ω
 obtain⟨-,-,-,G,M⟩:=bV e.ker E;have H:=(bk.1 (aM.1 e.ker).2.1).2.2.1;have k:gc h.G a<h.G.F.V.U.length:=by unfold gc;omega
 have d:h.G.F.V.U[(ax h.G.F.R (a / 16)).g.toNat]? = some (nth h.G.F.V.U (gc h.G a)):=au k;have w:=e.lens.row _ (ay k);have l:=au (xs:=nth h.G.F.V.U (gc h.G a)) (i:=(a % 16).toNat) (by rw[w];omega);have B:a.tmod 16=a % 16:=fH b.1;refine fM 42 [(336,[2,0])] [(8,14,[27,28,29,30,31,32,33,34,35,36,37,38,39,40])] [(0,0),(0,0),(0,0)] Tryz.func188 rfl (λu q=>?_);by_cases o:(ax h.G.F.R (a / 16)).o=1
 ·rw[CK (Or.inl o),CK o]
  repeat'(first|refine gB ?_|refine CN (t) ⟨⟨rfl,Cm _⟩,⟨rfl,rfl⟩,tV1⟩ ?_|refine CU qs ?_|refine CT (mi b) ?_)
  exact kk
 rw[CJ (c:=_=(1:Int)) o];by_cases g:0<=v/\v<=999
 ·rw[O0 g]at n
  rw[CJ (c:=¬(0<=v/\v<=999)) (S7 g),CJ (c:=_\/¬(0<=v/\v<=999)) (λy=>y.elim o λy=>y g)]
  repeat'(first|refine gB ?_|refine CN (t) ⟨⟨rfl,Cm _⟩,⟨rfl,rfl⟩,tV1⟩ ?_|refine CU qs ?_|refine CT (mi b) ?_|refine CY B ?_|refine CS G (aa d) ?_|refine CS ω (aa l) ?_|refine Pu.two rfl rfl (aa d) rfl rfl rfl (aa l) rfl (z5 _) (QK h a v) ?_)
  exact kk
 rw[C1 g]at n;rw[CK (Or.inr g),CK g]
 repeat'(first|refine gB ?_|refine CN (t) ⟨⟨rfl,Cm _⟩,⟨rfl,rfl⟩,tV1⟩ ?_|refine CU qs ?_|refine CT (mi b) ?_)
 exact kk
def kE(l:aA)(n:Int):aD:=if(n+15) / 16<l.a0 then⟨l.S+(n+15) / 16,l.a0 - (n+15) / 16⟩ else⟨0,0⟩
def E6(l:aA)(n:Int)(d:cv l=true):zzA 337 false [.val (some 3) (aA.enc .O l),.vI n] (.tup [some 3,some 2,none]) (if 9<=n/\n<=l.q then aA.enc .own (trimL l n)++aD.enc .own (kE l n)++[B true] else aA.enc .own l++[I 0,I 0]++[B false]):=by
 have b:=re l;rw[d]at b;have a:=aU n 9 l.q;have g:=d;unfold cv at g;rw[C0]at g;by_cases e:9<=n/\n<=l.q
 ·rw[O0 e]at a
  rw[CK e];have c:=qt n;rw[show fE n=(n+15) / 16 by unfold fE;rw[CK ω]]at c;unfold kE;by_cases h:(n+15) / 16<l.a0
  ·rw[CK h]
   refine fO 43 [(7,261,[37,38,39,40,42,0,1,2,3,5,4,1005,6,1005,7,8])] Tryz.func337 rfl ?_ (.inr ⟨tV1,tV1,tV1,tV1,tV1,tV1,tV1⟩)
   refine σE ?_
   rfl
  rw[CJ h];refine fO 43 [(7,261,[37,38,39,40,42,0,1,2,3,5,4,1005,6,1005,7,8])] Tryz.func337 rfl ?_ (.inr ⟨tV1,tV1,tV1,tV1,tV1,tV1,tV1⟩)
  refine σE ?_
  rfl
 rw[C1 e]at a;rw[CJ e];refine fO 43 [(7,261,[37,38,39,40,42,0,1,2,3,5,4,1005,6,1005,7,8])] Tryz.func337 rfl ?_ (.inr ⟨tV1,tV1,tV1,tV1,tV1,tV1,tV1⟩)
 refine σP ?_
 rfl
def J3(h:ac)(t a:Int)(c:h.Q.length<=4)(d:¬(0<=t/\t<=h.Q.length - 1)):zzB 186 false [.ptr (bT h),.vI t,.vI a] [.ptr (bT h),.vI t,.vI a] .one [I 1]:=by
 have b:=aU t 0 (h.Q.length - 1:Int);rw[C1 d]at b;refine fM 148 [(330,[2,0]),(332,[2,0]),(334,[2,0,0]),(329,[2,0])] [(15,269,[68,69,70,71,72,73,74,75,77,67,78,79,11,0,1,2,3,4,5,6,7,13,8,1000,1001,1002,1003,1004,1013,9,10,11,12,14,1012,15]),(22,15,[92,93,94,95,96,97,98,99,100,101,102,103,104,105,106]),(25,271,[116,117,118,119,120,121,122,123,124,125,127,115,128,129,14,0,1,2,3,4,5,6,7,8,9,15,10,1000,1001,1002,1003,1015,11,12,13,14,16,1014,17])] [(0,0),(0,0),(0,0)] Tryz.func186 rfl (λu q=>?_)
 refine σP ?_
 exact kk
def KX(h:ac)(i t:Nat)(a:bo h [])(j:i<h.K.length)(S:t<h.Q.length)(J:(nth h.K i).p≠t):zzB 186 false [.ptr (bT h),.vI (t:Nat),.val none [I (nth h.K i).Addr]] [.ptr (bT (freeT h t i).1),.vI (t:Nat),.val none [I (nth h.K i).Addr]] .one [I (freeT h t i).2]:=by
 have E:=ay j;obtain⟨-,K,d⟩:=a.objAt E;have L:lf h (nth h.K i).Addr=i:=by
  have T:=(a.objAt E).1;exact iO (f:=(·.Addr)) (iE a.osr) T j (by rw[K])
 rw[L]at d;have b:=pO a E;have U:=a.onu _ E;have n:=a.lens;have V:=n.objs;have W:=a.nc;have X:=iK.of a.mail;have Y:=X.b4;have o:=aU (t:Nat) 0 (h.Q.length - 1:Int);rw[O0 ω]at o;have p:=wy h (nth h.K i).Addr ω;rw[d]at p;have e:=au j;have F:=ny (nth h.K i).q;have N:=bq a.ker;have O:=dO h.G.F.R ((nth h.K i).Addr / 16) N.1.2;unfold freeT;by_cases G:aZ (nth h.K i).q<0
 ·rw[CK G]
  have Z:=vp h i a j G;refine fM 148 [(330,[2,0]),(332,[2,0]),(334,[2,0,0]),(329,[2,0])] [(15,269,[68,69,70,71,72,73,74,75,77,67,78,79,11,0,1,2,3,4,5,6,7,13,8,1000,1001,1002,1003,1004,1013,9,10,11,12,14,1012,15]),(22,15,[92,93,94,95,96,97,98,99,100,101,102,103,104,105,106]),(25,271,[116,117,118,119,120,121,122,123,124,125,127,115,128,129,14,0,1,2,3,4,5,6,7,8,9,15,10,1000,1001,1002,1003,1015,11,12,13,14,16,1014,17])] [(0,0),(0,0),(0,0)] Tryz.func186 rfl (λu q=>?_)
  repeat'(first|refine gE ?_|refine gS (λc=>?_) (λc=>?_)|refine CN (p) ⟨⟨rfl,bY h⟩,⟨rfl,rfl⟩,tV1⟩ ?_)
  exact kk
 rw[CJ G];obtain⟨s1,s2,s3,s4⟩:=ZN.of a (ay j) G;by_cases H:(ax (tbl h) ((nth h.K i).Addr / 16)).o=1
 ·rw[CK H]
  unfold tbl at H;refine fM 148 [(330,[2,0]),(332,[2,0]),(334,[2,0,0]),(329,[2,0])] [(15,269,[68,69,70,71,72,73,74,75,77,67,78,79,11,0,1,2,3,4,5,6,7,13,8,1000,1001,1002,1003,1004,1013,9,10,11,12,14,1012,15]),(22,15,[92,93,94,95,96,97,98,99,100,101,102,103,104,105,106]),(25,271,[116,117,118,119,120,121,122,123,124,125,127,115,128,129,14,0,1,2,3,4,5,6,7,8,9,15,10,1000,1001,1002,1003,1015,11,12,13,14,16,1014,17])] [(0,0),(0,0),(0,0)] Tryz.func186 rfl (λu q=>?_)
  repeat'(first|refine gB ?_|refine gS (λc=>?_) (λc=>?_)|refine CU qs ?_|refine CT (mi b) ?_|refine CN (p) ⟨⟨rfl,bY h⟩,⟨rfl,rfl⟩,tV1⟩ ?_|refine CN (O) ⟨⟨rfl,Cm _⟩,⟨rfl,rfl⟩,tV1⟩ ?_)
  exact kk
 rw[CJ H,CJ J];unfold tbl at H;have r:=TB h.b t ⟨(nth h.K i).p,(nth h.K i).Addr⟩ a.mail ω;by_cases l:bN (gI h.b t ⟨(nth h.K i).p,(nth h.K i).Addr⟩)=true;rotate_left
 ·rw[CJ l]
  rw[CJ l,show bN (gI h.b t ⟨(nth h.K i).p,(nth h.K i).Addr⟩)=false by simpa using l]at r;refine fM 148 [(330,[2,0]),(332,[2,0]),(334,[2,0,0]),(329,[2,0])] [(15,269,[68,69,70,71,72,73,74,75,77,67,78,79,11,0,1,2,3,4,5,6,7,13,8,1000,1001,1002,1003,1004,1013,9,10,11,12,14,1012,15]),(22,15,[92,93,94,95,96,97,98,99,100,101,102,103,104,105,106]),(25,271,[116,117,118,119,120,121,122,123,124,125,127,115,128,129,14,0,1,2,3,4,5,6,7,8,9,15,10,1000,1001,1002,1003,1015,11,12,13,14,16,1014,17])] [(0,0),(0,0),(0,0)] Tryz.func186 rfl (λu q=>?_)
  repeat'(first|refine gB ?_|refine gS (λc=>?_) (λc=>?_)|refine CU qs ?_|refine CT (mi b) ?_|refine CN (p) ⟨⟨rfl,bY h⟩,⟨rfl,rfl⟩,tV1⟩ ?_|refine CN (O) ⟨⟨rfl,Cm _⟩,⟨rfl,rfl⟩,tV1⟩ ?_|refine CN (r) ⟨⟨rfl,Cv h.b⟩,⟨rfl,rfl⟩,⟨rfl,rfl⟩,tV1⟩ ?_)
  exact kk
 rw[CK l];rw[CK l,l]at r;have w:gc h.G (nth h.K i).Addr<h.G.F.V.U.length:=by unfold gc;omega
 have hcz:=Ka s1;have B:=fF (aZ (nth h.K i).q);unfold H4;generalize gI h.b t ⟨(nth h.K i).p,(nth h.K i).Addr⟩ = M at r;refine fM 148 [(330,[2,0]),(332,[2,0]),(334,[2,0,0]),(329,[2,0])] [(15,269,[68,69,70,71,72,73,74,75,77,67,78,79,11,0,1,2,3,4,5,6,7,13,8,1000,1001,1002,1003,1004,1013,9,10,11,12,14,1012,15]),(22,15,[92,93,94,95,96,97,98,99,100,101,102,103,104,105,106]),(25,271,[116,117,118,119,120,121,122,123,124,125,127,115,128,129,14,0,1,2,3,4,5,6,7,8,9,15,10,1000,1001,1002,1003,1015,11,12,13,14,16,1014,17])] [(0,0),(0,0),(0,0)] Tryz.func186 rfl (λu q=>?_)
 repeat'(first|refine gB ?_|refine gS (λc=>?_) (λc=>?_)|refine CU qs ?_|refine CT (mi b) ?_|refine CN (p) ⟨⟨rfl,bY h⟩,⟨rfl,rfl⟩,tV1⟩ ?_|refine CN (O) ⟨⟨rfl,Cm _⟩,⟨rfl,rfl⟩,tV1⟩ ?_|refine CN (r) ⟨⟨rfl,Cv h.b⟩,⟨rfl,rfl⟩,⟨rfl,rfl⟩,tV1⟩ ?_)
 have P:({{h with b:=M} with G:=fG h.G (nth h.K i).Addr 0} : ac) = {h with b:=M}:=Jp {h with b:=M} _ w;have hoo:=O1 (λy:ac=>C.s .own (y.G.F.V.U.map (aI .own))) P
 (conv=>whnf)
 refine CV (ι:=Nat) (λk=>[(0,bX (bT {{h with b:=M} with G:=fG h.G (nth h.K i).Addr k})),(1,fN t),(2,fI ((nth h.K i).Addr)),(7,fN i),(8,bX (aW.enc .own (nth h.K i))),(9,fI (aZ (nth h.K i).q)),(10,bX (aS.enc .own (ax h.G.F.R ((nth h.K i).Addr / 16)))),(13,fN k)]) (λk=>k<=(csz (aZ (nth h.K i).q)).toNat) (λk=>(csz (aZ (nth h.K i).q)).toNat - k) (0) ?_ (I1 _) λk hk=>?_
 ·exact wE
 have R:IntKind.i64.wrap 0=0:=rfl;have Q:(nth h.K i).Addr.tmod 16=(nth h.K i).Addr % 16:=fH b.1;have g:(fG h.G (nth h.K i).Addr k).F.V.U[(ax h.G.F.R ((nth h.K i).Addr / 16)).g.toNat]? = some (kh (nth h.G.F.V.U (gc h.G (nth h.K i).Addr)) ((nth h.K i).Addr % 16).toNat k):=I6 w;by_cases lk:k<(csz (aZ (nth h.K i).q)).toNat
 ·have D:=au (xs:=kh (nth h.G.F.V.U (gc h.G (nth h.K i).Addr)) ((nth h.K i).Addr % 16).toNat k) (i:=((nth h.K i).Addr % 16+k).toNat) (by rw[q9,s4];omega)
  repeat'(first|refine gE ?_|refine CU qs ?_|refine CY Q ?_|refine CS s2.1 (aa g) ?_|refine CS ω (aa D) ?_|refine Pu.two rfl rfl (aa g) rfl rfl rfl (aa D) rfl (z5 _) (MK {h with b:=M} _ k _ b.1) ?_)
  (exact dL (k+1) ω)
 obtain rfl:k=(csz (aZ (nth h.K i).q)).toNat:=ω
 have c6:=ry {{h with b:=M} with G:=fG h.G (nth h.K i).Addr (csz (aZ (nth h.K i).q)).toNat} i j (by show h.K.length<=_;omega)
 repeat'(first|refine gB ?_|refine gS (λc=>?_) (λc=>?_)|fail)
 exact kk
def Y7(h:ac)(i:Nat)(t:Int)(a:bo h [])(d:i<h.K.length):zzB 186 false [.ptr (bT h),.vI t,.val none [I (nth h.K i).Addr]] [.ptr (bT (if 0<=t/\t<=h.Q.length - 1 then(freeT h t.toNat i).1 else h)),.vI t,.val none [I (nth h.K i).Addr]] .one [I (if 0<=t/\t<=h.Q.length - 1 then(freeT h t.toNat i).2 else 1)]:=by
 have c:h.Q.length<=4:=by have:=(eG.1 a.mail).1.2.1;have:=a.nc;omega
 by_cases b:0<=t/\t<=h.Q.length - 1
 ·rw[CK b,CK b]
  obtain⟨n,rfl⟩:=t5 b.1;simp only[O4];by_cases e:(nth h.K i).p=n
  ·have:=Ql h (nth h.K i) n a (ay d) e c
   have g:lf h (nth h.K i).Addr=i:=by
    obtain⟨k,j,-⟩:=a.objAt (ay d);exact iO (f:=(·.Addr)) (iE a.osr) k d (by rw[j])
   rw[g,<-zh e]at this;exact this
  exact KX h i n a d ω e
 rw[CJ b,CJ b];exact J3 h t _ c b
def VJ(c:aB)(k:Nat):aB.enc .own (xL c k)=[.s .own ((c.X.map (aI .own)).set k (aI .own ((nth c.X k).take ((nth c.X k).length - 1))))]:=by simp[aB.enc,xL,IC]
def YW(xs:List Int)(n:Nat):(xs.take n).map (rI .O)=(xs.map (rI .O)).take n:=C8
def ctR(c:aB)(k:Nat):List C:=if 0<(nth c.X k).length then aB.enc .own (xL c k)++[I (nth (nth c.X k) ((nth c.X k).length - 1)),B true] else aB.enc .own c++[I (-1),B false]
def Zu(c:aB)(k:Nat):gl (ctR c k):=by
 unfold ctR;split
 ·exact aE (Cs _) ⟨tV1,tV1,tV1⟩
 exact aE (Cs _) ⟨tV1,tV1,tV1⟩
def Dc(c:aB)(k:Nat)(h:bL c=true)(u:k<=3):zzA 320 false [.val (some 1) (aB.enc .O c),.vI (k:Nat)] (.tup [some 1,none,none]) (ctR c k):=by
 obtain⟨w,j⟩:=f9 h;have n:aB.sml c:=⟨ω,λl r=>by have:=j l r;show l.length<=1048576;omega⟩
 have d:=D6 c k n;rw[h,O0 ω]at d;have o:=kU c n;have b:=nP (c:=c) (k:=k) ω;have t:=j _ (ay (xs:=c.X) (i:=k) ω);have a:=Zu c k;unfold ctR at a |-;by_cases p:0<(nth c.X k).length
 ·rw[CK p]at a |-
  have q:=au (xs:=nth c.X k) (i:=(nth c.X k).length - 1) ω;have e:(nth c.X k)[(((nth c.X k).length:Int) - 1).toNat]? = some (nth (nth c.X k) ((nth c.X k).length - 1)):=by rw[show(((nth c.X k).length:Int) - 1).toNat=(nth c.X k).length - 1 by omega];exact q
  have g:((((nth c.X k).length:Nat):Int) - 1)=(((nth c.X k).length - 1:Nat):Int):=ω
  rw[VJ]at a |-;refine fO 54 [(5,268,[32,33,34,35,36,37,38,39,40,41,42,44,0,1,2,3,4,5,6,7,8,9,10,11,1000,1001,1002,12,13]),(6,265,[45,46,47,48,49,50,51,52,53,0,1,2,3,4,5,6,7,8,9,1001,1002,1003,1004,1005,1006,1007,1008,10,11])] Tryz.func320 rfl ?_ (.inr a)
  repeat'(first|refine gB ?_|refine CS ω (aa e) ?_|refine CZ ((nth c.X k).length - 1) g (by rw[I2];omega) (aR λ_=>rfl) (YW _ _) ?_|refine Cg (λ_=>rfl) (λ_=>rfl) (by rw[I3];omega) qs ?_|refine CX (λ_=>rfl) (λ_=>rfl) (by rw[I3];omega) qs ?_|refine CR rfl rfl (aa b) rfl (O2 rfl) rfl ?_)
  rfl
 rw[CJ p]at a |-;refine fO 54 [(5,268,[32,33,34,35,36,37,38,39,40,41,42,44,0,1,2,3,4,5,6,7,8,9,10,11,1000,1001,1002,12,13]),(6,265,[45,46,47,48,49,50,51,52,53,0,1,2,3,4,5,6,7,8,9,1001,1002,1003,1004,1005,1006,1007,1008,10,11])] Tryz.func320 rfl ?_ (.inr a)
 refine σB ?_
 rfl
def rtR(xs:List aD)(n:Int):List C:=bm .own (aG xs n).1++[I (aG xs n).2.1,B (aG xs n).2.2]
def Za(xs:List aD)(n:Int):gl (rtR xs n):=aE (ji _) ⟨tV1,tV1,tV1⟩
def ul(pages:Int)(xs:List aD)(n:Int)(w:0<=pages/\pages<=1048576)(l:bR pages xs=true)(H:1<=n/\n<=1000)(J:xs.length<=4096):zzA 324 false [.vI pages,.val none (bm .O xs),.vI n] (.tup [none,none,none]) (rtR xs n):=by
 have o:=pZ pages xs w ⟨ω,λ_ _=>tV1⟩;rw[l]at o;have p:=(xP l).2;refine fO 98 [(8,21,[31,32,33,34,35,36,37,38,39,40,41,42,43,44,45,46,47,48,49,50,51]),(14,265,[71,72,73,74,76,77,78,79,81,0,1,2,3,5,6,7,8,10,4,1005,1006,1007,1008,1010,9,1010,11,1010,12,13])] Tryz.func324 rfl ?_ (.inr (Za xs n))
 repeat'(first|refine gE ?_|refine CX (λ_=>rfl) (λ_=>rfl) ω qs ?_)
 refine lp0 xs.length (λi=>[(1,b8 (bm .O xs)),(2,fI n),(9,b8 (bm .own xs)),(10,fI (gZ xs n i)),(11,fN i)]) λi y=>?_
 have h:=xj xs n i y;by_cases q:i<xs.length
 ·have j:=au q
  have D:=p _ (ay q);have a:gZ xs n (i+1)=if n<=(nth xs i).a1/\(gZ xs n i<0\/(nth xs i).a1<(nth xs (gZ xs n i).toNat).a1) then((i:Nat):Int) else gZ xs n i:=rfl
  by_cases r:n<=(nth xs i).a1
  ·by_cases E:gZ xs n i<0
   ·rw[CK ⟨r,.inl E⟩]at a
    repeat'(first|refine gE ?_|refine gS (λc=>?_) (λc=>?_)|fail)
    (refine CQ (i+1) ω ω ?_)
    rw[a];exact wC
   have d:=au (xs:=xs) (i:=(gZ xs n i).toNat) ω;by_cases F:(nth xs i).a1<(nth xs (gZ xs n i).toNat).a1
   ·rw[CK ⟨r,.inr F⟩]at a
    repeat'(first|refine gE ?_|with_reducible refine CS ω (aa d) ?_|refine gS (λc=>?_) (λc=>?_)|fail)
    (refine CQ (i+1) ω ω ?_)
    rw[a];exact wC
   rw[CJ ω]at a
   repeat'(first|refine gE ?_|with_reducible refine CS ω (aa d) ?_|refine gS (λc=>?_) (λc=>?_)|fail)
   (refine CQ (i+1) ω ω ?_)
   rw[a];exact wC
  rw[CJ ω]at a
  repeat'(first|refine gE ?_|refine gS (λc=>?_) (λc=>?_)|fail)
  (refine CQ (i+1) ω ω ?_)
  rw[a];exact wC
 obtain rfl:i=xs.length:=ω
 change gG xs n = -1\/_ at h;unfold rtR aG;rw[show gZ xs n xs.length=gG xs n from rfl];by_cases e:gG xs n<0
 ·rw[CK e]
  rw[show gG xs n = -1 from h.resolve_right λg=>by have K:0<=gG xs n:=g.1;omega]
  repeat'(first|refine gE ?_|refine gS (λc=>?_) (λc=>?_)|fail)
  rfl
 rw[CJ e];obtain⟨G,t,L⟩:=h.resolve_left ω;change 0<=gG xs n at G;change gG xs n<xs.length at t;obtain⟨b,k⟩:=t5 (show 0<=gG xs n by omega);rw[k]at t |-;simp only[O4];have d:=au (xs:=xs) (i:=b) ω;have D:=p _ (ay (xs:=xs) (i:=b) ω);by_cases u:(nth xs b).a1=n
 ·rw[CK u]
  repeat'(first|refine gB ?_|refine gS (λc=>?_) (λc=>?_)|refine CZ b rfl (by rw[I2];omega) (aR λ_=>rfl) C8 ?_|refine Ci (b+1) rfl (by rw[I2];omega) (aR λ_=>rfl) I8 ?_|refine Cg (λ_=>rfl) (λ_=>rfl) (by rw[I3];omega) qs ?_|refine Ap.dele (λ_=>rfl) (λ_=>rfl) ω qs ?_|refine CX (λ_=>rfl) (λ_=>rfl) (by rw[I3];omega) qs ?_)
  rfl
 rw[CJ u]
 repeat'(first|refine gB ?_|refine gS (λc=>?_) (λc=>?_)|refine CR rfl rfl (aa d) rfl (O2 rfl) rfl ?_)
 exact O1 (λz=>z++[I (nth xs b).At,B true]) (show [C.s eS.own _]=_ from by simp[bm,IC];rfl)
def Bh(k:af)(p:Int)(f:Nat):af.enc .own (zq k p f)=((af.enc .own k).set 1 (.s .own ((k.F.V.y.map (rB .own)).set f (rB .own true)))).set 2 (.s .own ((k.F.R.M.map (aS.enc .own)).set p.toNat (aS.enc .own ⟨2,(f:Nat)⟩))):=by
 simp[af.enc,zq,IC]
def Ny(k:af)(p:Int)(c:aN k=true)(y:k.Calls≠100000)(o:0<=p/\p<k.F.R.M.length)(C:(nth k.F.R.M p.toNat).o=0):zzB 326 false [.ptr (af.enc .own k),.vI p] [.ptr (af.enc .own (eD k p).1),.vI p] .one [B (eD k p).2]:=by
 have D:=bq c;have E:=bk.1 (aM.1 c).2.1;have F:=(bF.1 (aM.1 c).2.2.1).2.2;have G:(eC k).F.R.M.length<=32:=F;have a:=JV k.F.V ω;have d:=rX k c y;have g:=gf (eC k) p D.1.2;have l:ax (eC k).F.R p=nth k.F.R.M p.toNat:=by unfold ax;exact CK o
 rw[l,C]at g;have h:=aU p 0 ((k.F.R.M.length:Int) - 1);rw[O0 ω]at h;have r:=au (xs:=k.F.R.M) (i:=p.toNat) ω;change ah _ _ _ _ _ [I (sP k)]at a;unfold eD;cases e:refd k<;>rw[e]at d
 ·by_cases j:sP k<0
  ·rw[CK (.inr j)]
   refine fM 56 [(420,[2])] [] [(0,0),(0,0)] Tryz.func326 rfl (λu q=>?_)
   repeat'(first|refine gB ?_|refine gS (λb=>?_) (λb=>?_)|refine CN (a) ⟨⟨rfl,aO.enc_fz _⟩,tV1⟩ ?_|refine CN (g) ⟨CW (eC k),⟨rfl,rfl⟩,tV1⟩ ?_)
   refine CO rfl ?_ ?_
   ·rfl
   exact wC
  rw[CJ (by simp[j])];obtain⟨n,t⟩:=LK j;obtain⟨f,H⟩:=t5 (show 0<=sP k by omega);rw[H]at a n t j |-;simp only[O4]at n t |-;have w:=au (xs:=k.F.V.y) (i:=f) n;rw[Bh];refine fM 56 [(420,[2])] [] [(0,0),(0,0)] Tryz.func326 rfl (λu q=>?_)
  repeat'(first|refine gB ?_|refine gS (λb=>?_) (λb=>?_)|refine CN (a) ⟨⟨rfl,aO.enc_fz _⟩,tV1⟩ ?_|refine CN (g) ⟨CW (eC k),⟨rfl,rfl⟩,tV1⟩ ?_|refine CS o.1 (aa r) ?_|refine CR rfl rfl (aa w) rfl (O2 rfl) rfl ?_|refine CR rfl rfl (aa r) rfl (O2 rfl) rfl ?_)
  refine CO rfl ?_ ?_
  ·rfl
  exact wC
 rw[CK (.inl rfl)];refine fM 56 [(420,[2])] [] [(0,0),(0,0)] Tryz.func326 rfl (λu q=>?_)
 repeat'(first|refine gB ?_|refine gS (λb=>?_) (λb=>?_)|refine CN (a) ⟨⟨rfl,aO.enc_fz _⟩,tV1⟩ ?_|refine CN (g) ⟨CW (eC k),⟨rfl,rfl⟩,tV1⟩ ?_)
 refine CO rfl ?_ ?_
 ·rfl
 exact wC
def a0k(h:ac):List C:=(bT h).drop 5
def MS(h:ac)(p:Int)(a:aN h.G=true)(b:h.G.Calls≠100000)(c:0<=p/\p<h.G.F.R.M.length)(d:(nth h.G.F.R.M p.toNat).o=0):zzB 326 false [.ptr (bT h),.vI p] [.ptr (bT {h with G:=(eD h.G p).1}),.vI p] .one [B (eD h.G p).2]:=
 (Ny h.G p a b c d).frame (r:=a0k h) rfl
def Uz(h:ac)(i:Nat):bT (slotT h i)=((bT h).set 14 (I (ET h.b3))).set 6 (.s .own ((h.J.map (aC.enc .own)).set i [I (nth h.J i).S,I (nth h.J i).Z,I (jg (nth h.J i).a3 (qQ h i))])):=by
 simp[bT,slotT,vj,IC,aC.enc]
def xh(h:ac)(E:List Int)(i:Nat)(c:bo h E)(k:i<h.J.length):zzB 322 false [.ptr (bT h),.vI (i:Nat)] [.ptr (bT (nt h i).1),.vI (i:Nat)] .one [I (nt h i).2]:=by
 have F:=c.lens;have G:=F.spans;have d:=au k;have b:=c.L.sok _ (ay k);have e:=f8 b;have a:=c.nums;unfold cU at a;rw[C0]at a;have t:=(bF.1 (aM.1 c.ker).2.2.1).2.2;have l:=oU c.L.sok (ps:=bh h (nth h.J i).S) e (bh h (nth h.J i).S).length;change 0<=fp h i/\fp h i<=65535 at l;have w:=sB (nth h.J i).Z;have y:=Fh h i ⟨ω,λ_ _=>tV1⟩ ⟨by show h.G.F.R.M.length<=_;omega,λ_ _=>tV1⟩ c.L.sok k;have o:=Ea (nth h.J i).Z (fp h i) ω;change ah _ _ _ _ _ (aI .own (jc h i)) at o;have p:=DN (nth h.J i).Z (fp h i);change (jc h i).length<=16 at p;unfold nt;by_cases B:(jc h i).length=0
 ·rw[CK B]
  refine fM 68 [] [(2,7,[16,17,18,19,20,21,22]),(7,12,[42,43,44,45,46,47,48,49,50,51,52,53]),(8,11,[56,57,58,59,60,61,62,63,64,65,66])] [(0,0),(0,0)] Tryz.func322 rfl (λu q=>?_)
  repeat'(first|refine gB ?_|refine CN (y) ⟨⟨rfl,bY h⟩,⟨rfl,rfl⟩,tV1⟩ ?_)
  exact kk
 rw[CJ B];have H:=yZ (h:=h) (i:=i) ω;obtain⟨C,D,O⟩:=wl H;have J:=(iB (aT b).2.2).2.2.1;have r:=uh h.b3 (n:=((jc h i).length:Nat)) ω;have K:=Ac h.b3 ((jc h i).length:Nat) ω ω;have M:=FB (nth h.J i).a3 (qQ h i) e ω;have N:=FU (vj (nth h.J i) (qQ h i)) (qQ h i) (HD b ⟨C,D⟩) ⟨C,D⟩;have g:(jc h i)[(K3 h.b3 ((jc h i).length:Nat)).toNat]? = some (qQ h i):=au ω;have j:((h.J.map (aC.enc .own)).set i [I (nth h.J i).S,I (nth h.J i).Z,I (jg (nth h.J i).a3 (qQ h i))])[i]? = some [I (nth h.J i).S,I (nth h.J i).Z,I (jg (nth h.J i).a3 (qQ h i))]:=kC k;unfold uk;rw[Uz];refine fM 68 [] [(2,7,[16,17,18,19,20,21,22]),(7,12,[42,43,44,45,46,47,48,49,50,51,52,53]),(8,11,[56,57,58,59,60,61,62,63,64,65,66])] [(0,0),(0,0)] Tryz.func322 rfl (λu q=>?_)
 repeat'(first|refine gB ?_|refine CI j ?_|refine CM rfl j rfl ?_|refine CN (y) ⟨⟨rfl,bY h⟩,⟨rfl,rfl⟩,tV1⟩ ?_|refine CS r.1 (aa g) ?_|refine CR rfl rfl (aa d) rfl (O2 rfl) rfl ?_)
 refine CO rfl ?_ ?_
 ·rfl
 exact wC
def Ap.ins{e:α->List C}{xs:List α}{y:α}{sz by_:Nat}{K:List (List C)->Prop}(a:r=e y)(h2:∀y,(e y).length=sz)(b:∀y,b6 (e y)=true)(g:xs.length<=1048576)(c:by_<=1000)(d:K ((xs.take i++y::xs.drop i).map e)):Ap true ((xs.take i).map e++[r]) ((xs.drop i).map e) sz by_ K:=by
 subst a;have f:(xs.take i).length+1+(xs.drop i).length<=3145728:=by rw[I3,O5];omega
 refine Ce (λr a=>?_) (aR h2) (λ_ r a=>by obtain⟨y,-,rfl⟩:=O8.1 a;exact b y) (by simp only[I5,I2,List.length_singleton];omega) (by simp only[I5,I2,List.length_singleton];exact I9 (Nat.mul_le_mul f c) qs) ?_ d
 ·rcases v5.1 a with a|a
  ·exact aR h2 r a
  rw[z3.1 a];exact h2 y
 rw[IB,SB,CB];rfl
def p9{p:α->Bool}{xs:List α}{y:α}(h:mq p xs=i):lA p xs y=xs.take i++y::xs.drop i:=by unfold lA;rw[h]
def RG(h:ac)(c:Int):ac × Int:=
 if(aG h.a 1).2.2=false then(h,-1)
 else if(eD h.G (aG h.a 1).2.1).2=false then({h with G:=(eD h.G (aG h.a 1).2.1).1},-1)
 else(sW h c,(rS h:Nat))
def Ke(h:ac)(E:List Int)(c:Nat)(g:bo h E)(H:h.G.Calls<=90000):zzB 323 false [.ptr (bT h),.vI (c:Nat)] [.ptr (bT (RG h c).1),.vI (c:Nat)] .one [I (RG h c).2]:=by
 have B:=g.lens;have J:=B.spans;have K:ge h<=32:=B.ents;have C:=jJ h;have l:=ul (ge h:Nat) h.a 1 ⟨ω,ω⟩ g.rng qs (by have:=B.free;omega);unfold rtR at l;have d:=lQ g (O9 1);unfold RG sW rS;generalize aG h.a 1=r at l d |-;obtain⟨o,p,ok⟩:=r;simp only at l d |-;cases ok with
 | false=>
  rw[CK rfl];refine fM 79 [(326,[2,0]),(2000010,[0,6])] [(1,267,[11,12,13,14,15,16,17,10,18,19,20,0,1,2,3,4,5,6,7,8,9,10,11,1009,1010,12,1010,13])] [(0,0),(0,0)] Tryz.func323 rfl (λu q=>?_)
  repeat'(first|refine gP ?_|refine CN (C) ⟨bY h,tV1⟩ ?_|refine CN (l) ⟨⟨rfl,rfl⟩,⟨rfl,fe h.a⟩,⟨rfl,rfl⟩,tV1⟩ ?_)
  exact kk
 | true=>
  rw[CJ (by simp)];obtain⟨L,M,N,U⟩:=d rfl;have D:0<=p/\p<h.G.F.R.M.length:=⟨L,by have:p+1<=((tbl h).M.length:Nat):=M;unfold tbl at this;omega⟩
  have t:=MS h p g.ker ω D (N p.toNat ω ω);generalize eD h.G p=w at t |-;obtain⟨k,b⟩:=w;simp only at t |-;cases b with
  | false=>
   rw[CK rfl];refine fM 79 [(326,[2,0]),(2000010,[0,6])] [(1,267,[11,12,13,14,15,16,17,10,18,19,20,0,1,2,3,4,5,6,7,8,9,10,11,1009,1010,12,1010,13])] [(0,0),(0,0)] Tryz.func323 rfl (λu q=>?_)
   repeat'(first|refine gP ?_|refine CN (C) ⟨bY h,tV1⟩ ?_|refine CN (l) ⟨⟨rfl,rfl⟩,⟨rfl,fe h.a⟩,⟨rfl,rfl⟩,tV1⟩ ?_)
   exact kk
  | true=>
   rw[CJ (by simp)];refine fM 79 [(326,[2,0]),(2000010,[0,6])] [(1,267,[11,12,13,14,15,16,17,10,18,19,20,0,1,2,3,4,5,6,7,8,9,10,11,1009,1010,12,1010,13])] [(0,0),(0,0)] Tryz.func323 rfl (λu q=>?_)
   repeat'(first|refine gP ?_|refine CN (C) ⟨bY h,tV1⟩ ?_|refine CN (l) ⟨⟨rfl,rfl⟩,⟨rfl,fe h.a⟩,⟨rfl,rfl⟩,tV1⟩ ?_)
   refine g0 h.J.length (λi=>[(0,bX (bT {h with G:=k,a:=o})),(1,fN c),(6,fI p),(8,fN i)]) (λi=>∀(j:Nat)(z:aC),j<i->h.J[j]? = some z->ML p z=false) (λj z V=>ω) λi g=>?_
   obtain⟨O,F⟩:=g;have P:({h with G:=k,a:=o} : ac).J.length=h.J.length:=rfl;by_cases Q:i<h.J.length/\(nth h.J i).S<p
   ·have n:=au Q.1
    refine σE ?_
    (exact dL (i+1) ⟨ω,gd n (C1 ω) F⟩)
   have a:mq (ML p) h.J=i:=pF ω F λz G=>by
    have R:=(C4.1 G).1;have:z=nth h.J i:=(bI G).symm;subst this;exact O0 ω
   have n:i<h.J.length->h.J[i]? = some (nth h.J i):=λS=>au S
   rw[show addS h k o p (c:Nat) = {h with G:=k,a:=o,J:=h.J.take i++⟨p,(c:Nat),0⟩::h.J.drop i} by unfold addS;rw[p9 a],a]
   repeat'(first|refine gE ?_|with_reducible refine CI (aa (n ω)) ?_|refine gS (λT=>?_) (λT=>?_)|refine CM rfl (aa (n ω)) rfl ?_|refine Nw.mk rfl (DS h.J) rfl ?_|refine CZ i rfl (by rw[I2];omega) (aR λ_=>rfl) C8 ?_|refine Ci i rfl (by rw[I2];omega) (aR λ_=>rfl) I8 ?_|refine CX (λ_=>rfl) (λ_=>rfl) (by rw[I3];omega) qs ?_|refine Ap.sn (aR λ_=>rfl) rfl (by rw[I2,I3];omega) qs rfl ?_|refine Ap.ins (e:=aC.enc .O) (y:=⟨p,(c:Nat),0⟩) rfl (λ_=>rfl) (λ_=>rfl) ω qs ?_)
   all_goals
    exact kk
def zE(a:i<h.J.length)(b:sY h c i=true)(d:∀j,j<i->sY h c j=false):rx h c=some i:=
 List.find?_range_eq_some.2 ⟨b,List.mem_range.2 a,λj e=>by rw[d j e];rfl⟩
def Ao(a:∀j,j<h.J.length->sY h c j=false):rx h c=none:=
 List.find?_range_eq_none.2 λj b=>by rw[a j b];rfl
def nL(a:sY h c i=false)(b:∀j,j<i->sY h c j=false):∀j,j<i+1->sY h c j=false:=λj d=>by
 by_cases e:j=i
 ·rw[e];exact a
 exact b j ω
def Uq(h:ac)(t:Nat)(c:aB):bT {h with Q:=h.Q.set t c} = (bT h).set 9 (.s .own ((h.Q.map (aB.enc .own)).set t (aB.enc .own c))):=by
 simp[bT,IC]
def N0{c:Nat}(b:bo h [])(k:c<=3)(e:h.G.Calls<=90000)(h1:¬(aG h.a 1).2.2=false)(h2:¬(eD h.G (aG h.a 1).2.1).2=false):bo (sW h c) []/\rS h<(sW h c).J.length:=by
 have a:(aG h.a 1).2.2=true:=by simpa using h1
 obtain⟨f,g,i,l⟩:=lQ b (O9 1) a;have s:=Dr.of (p:=(aG h.a 1).2.1) b.ker ω ⟨f,by have:(aG h.a 1).2.1+1<=(h.G.F.R.M.length:Nat):=g;omega⟩ (i _ ω ω);have d:(eD h.G (aG h.a 1).2.1).2=true:=by simpa using h2
 have j:Dr h.G (aG h.a 1).2.1 ((eD h.G (aG h.a 1).2.1).1,true):=by rw[<-d];exact s
 exact⟨b.addS (c:=c) ⟨ω,ω⟩ a j,(QB (ML (aG h.a 1).2.1) h.J ⟨(aG h.a 1).2.1,c,0⟩).1⟩
def Fz(h:ac)(t c:Nat)(o:bo h [])(M:t<h.Q.length)(N:c<=3)(p:h.G.Calls<=90000):zzB 184 false [.ptr (bT h),.vI (t:Nat),.vI (c:Nat)] [.ptr (bT (fT h t c).1),.vI (t:Nat),.vI (c:Nat)] .one [I (fT h t c).2]:=by
 have E:=o.cach _ (ay M);have e:=au M;have r:=Dc (nth h.Q t) c E N;have Q:=o.lens.spans;have B:=o;unfold ctR at r;by_cases F:0<(nth (nth h.Q t).X c).length
 ·unfold fT
  rw[CK F]at r |-;simp only;rw[Uq];refine fM 80 [(322,[2,0]),(323,[2,0])] [(3,6,[27,28,29,30,31,32])] [(0,0),(0,0),(0,0)] Tryz.func184 rfl (λu q=>?_)
  repeat'(first|refine gP ?_|refine CN (r) ⟨⟨rfl,Cp _⟩,⟨rfl,rfl⟩,tV1⟩ ?_|refine CR rfl rfl (aa e) rfl (O2 rfl) rfl ?_)
  exact kk
 rw[CJ F]at r;have d:fT h t c=match rx h c with
  | some i=>(slotT h i,uk h i)
  | none=>if(aG h.a 1).2.2=false then(h,-1)
   else if(eD h.G (aG h.a 1).2.1).2=false then({h with G:=(eD h.G (aG h.a 1).2.1).1},-1)
   else nt (sW h c) (rS h):=by unfold fT;exact CJ F
 refine fM 80 [(322,[2,0]),(323,[2,0])] [(3,6,[27,28,29,30,31,32])] [(0,0),(0,0),(0,0)] Tryz.func184 rfl (λu q=>?_)
 repeat'(first|refine gP ?_|refine CN (r) ⟨⟨rfl,Cp _⟩,⟨rfl,rfl⟩,tV1⟩ ?_)
 refine g0 h.J.length (λi=>[(0,bX (bT h)),(1,fN t),(2,fN c),(10,fN i)]) (λi=>∀j,j<i->sY h c j=false) (λj W=>ω) λi o=>?_
 obtain⟨R,w⟩:=o;by_cases C:i<h.J.length
 ·have l:=au C
  by_cases O:(nth h.J i).Z=c
  ·have y:=Ae h (nth h.J i).S
   cases D:iw h (nth h.J i).S with
   | true=>
    rw[D]at y
    repeat'(first|refine gB ?_|refine CN (y) ⟨bY h,⟨rfl,rfl⟩,tV1⟩ ?_)
    (exact dL (i+1) ⟨ω,nL (by unfold sY;rw[D];simp) w⟩)
   | false=>
    rw[D]at y;have n:=xh h [] i B C;unfold nt at n;by_cases P:(jc h i).length=0
    ·rw[CK P]at n
     repeat'(first|refine gB ?_|refine CN (y) ⟨bY h,⟨rfl,rfl⟩,tV1⟩ ?_)
     (exact dL (i+1) ⟨ω,nL (by unfold sY;rw[C1 (by omega:¬0<(jc h i).length)];simp) w⟩)
    rw[CJ P]at n;have G:rx h c=some i:=zE C (by unfold sY;rw[O0 O,D,O0 ω];rfl) w;rw[G]at d;simp only at d;obtain⟨S,T⟩:=B.slotT C (by omega:0<(jc h i).length);have H:=kX.nn S T;rw[d];generalize slotT h i=g at n |-;generalize uk h i=a at n H |-
    repeat'(first|refine gB ?_|refine CN (y) ⟨bY h,⟨rfl,rfl⟩,tV1⟩ ?_)
    exact kk
  refine σB ?_
  (exact dL (i+1) ⟨ω,nL (by unfold sY;rw[C1 O];rfl) w⟩)
 obtain rfl:i=h.J.length:=ω
 have G:rx h c=none:=Ao w;rw[G]at d;simp only at d;have k:=Ke h [] c B p;rw[d];unfold RG at k;by_cases J:(aG h.a 1).2.2=false
 ·rw[CK J]at k |-
  refine σE ?_
  exact kk
 rw[CJ J]at k |-;by_cases K:(eD h.G (aG h.a 1).2.1).2=false
 ·rw[CK K]at k |-
  refine σE ?_
  exact kk
 rw[CJ K]at k |-;obtain⟨U,V⟩:=N0 B N p J K;have L:=xh (sW h c) [] (rS h) U V;generalize sW h c=g at k L |-;generalize rS h=b at k L |-
 refine σE ?_
 exact kk
def FK(h:ac)(size:Int):ac × Int:=
 if(aG h.a (nX size:Nat)).2.2=false then(h,-1)
 else if(kI h size).2=nX size then({h with G:=(kI h size).1,a:=(aG h.a (nX size:Nat)).1,H:=lA (WY (aG h.a (nX size:Nat)).2.1) h.H ⟨(aG h.a (nX size:Nat)).2.1,(nX size:Nat),size⟩},16*(aG h.a (nX size:Nat)).2.1)
 else({h with G:=dX (kI h size).1 (aG h.a (nX size:Nat)).2.1 (kI h size).2},-1)
def BP(k:af)(p:Int)(i:Nat):bP k p (i+1)=if(bP k p i).2=i then((eD (bP k p i).1 (p+(i:Nat))).1,if(eD (bP k p i).1 (p+(i:Nat))).2=true then i+1 else i) else bP k p i:=rfl
def Mm(k:af)(p:Int):∀i,(bP k p i).2<=i
 | 0=>z5 _
 | i+1=>by
  have b:=Mm k p i;rw[BP];by_cases e:(bP k p i).2=i
  ·rw[CK e]
   show(if _ then i+1 else i)<=i+1;by_cases a:(eD (bP k p i).1 (p+(i:Nat))).2=true
   ·rw[CK a];exact z5 _
   rw[CJ a];exact Nat.le_succ _
  rw[CJ e];omega
def lJ{k:af}{p:Int}{i:Nat}(h:(bP k p i).2≠i):∀j,bP k p (i+j)=bP k p i/\(bP k p (i+j)).2<i+j
 | 0=>⟨rfl,by show(bP k p i).2<i;have:=Mm k p i;omega⟩
 | j+1=>by
  have a:=lJ h j;have e:bP k p (i+(j+1))=bP k p (i+j):=by
   show bP k p (i+j+1)=_;rw[BP,CJ ω]
  exact⟨e.trans a.1,by rw[e];omega⟩
def EY(h:ac)(size:Int)(l:bo h [])(C:9<=size/\size<=1000)(U:h.G.Calls<=90000):zzB 185 false [.ptr (bT h),.vI size] [.ptr (bT (FK h size).1),.vI size] .one [I (FK h size).2]:=by
 have D:=l.lens;have V:=D.larges;have P:=l;have E:ge h<=32:=D.ents;have F:fE size=((nX size:Nat):Int):=by unfold fE nX;split<;>omega
 have hN:1<=nX size/\nX size<=63:=by unfold nX;omega
 have G:=qt size;rw[F]at G;have Q:=jJ h;have t:=ul (ge h:Nat) h.a (nX size:Nat) ⟨ω,ω⟩ l.rng ⟨ω,ω⟩ (by have:=D.free;omega);unfold rtR at t;have b:=lQ l (show(1:Int)<=(nX size:Nat) by omega);unfold FK kI;generalize nX size=N at *;generalize aG h.a (N:Nat)=r at t b |-;obtain⟨H,p,ok⟩:=r;simp only at t b |-;refine fM 105 [(326,[2,0]),(327,[2,0]),(2000018,[0,7])] [(2,268,[16,17,18,19,20,21,22,23,15,24,25,26,0,1,2,3,4,5,6,7,8,9,10,11,12,1010,1011,13,1011,14])] [(0,0),(0,0)] Tryz.func185 rfl (λu q=>?_);cases ok with
 | false=>
  rw[CK rfl]
  repeat'(first|refine gP ?_|refine CN (Q) ⟨bY h,tV1⟩ ?_|refine CN (t) ⟨⟨rfl,rfl⟩,⟨rfl,fe h.a⟩,⟨rfl,rfl⟩,tV1⟩ ?_)
  exact kk
 | true=>
  rw[CJ (by simp)];obtain⟨R,J,B,u4⟩:=b rfl;change p+(N:Nat)<=(h.G.F.R.M.length:Nat) at J;change ∀q:Nat,p<=q->(q:Int)<p+(N:Nat)->(nth h.G.F.R.M q).o=0 at B
  have W:h.G.F.R.M.length<=32:=E
  repeat'(first|refine gP ?_|refine CN (Q) ⟨bY h,tV1⟩ ?_|refine CN (t) ⟨⟨rfl,rfl⟩,⟨rfl,fe h.a⟩,⟨rfl,rfl⟩,tV1⟩ ?_)
  refine g0 N (λi=>[(0,bX (bT {h with G:=(bP h.G p i).1})),(1,fI size),(5,fN N),(6,b8 (bm .own H)),(7,fI p),(9,fN i)]) (λi=>(bP h.G p i).2=i) rfl λi l=>?_
  obtain⟨K,L⟩:=l;have s:=iZ.of (p:=p) (n:=N) P.ker ω ⟨R,J⟩ B i K;have X:=s.calls;have Y:=s.len;by_cases li:i<N
  ·have M:(nth (bP h.G p i).1.F.R.M (p+(i:Nat)).toNat).o=0:=by
    rw[s.out _ (by rw[L];omega)];exact B _ ω ω
   have c:=MS {h with G:=(bP h.G p i).1} (p+(i:Nat)) s.ker (by show(bP h.G p i).1.Calls≠100000;omega) ⟨ω,by show p+(i:Nat)<((bP h.G p i).1.F.R.M.length:Nat);omega⟩ M;have a:bP h.G p (i+1)=((eD (bP h.G p i).1 (p+(i:Nat))).1,if(eD (bP h.G p i).1 (p+(i:Nat))).2=true then i+1 else i):=by
    show(if(bP h.G p i).2=i then _ else _)=_;rw[CK L]
   simp only at c;cases e:(eD (bP h.G p i).1 (p+(i:Nat))).2 with
   | true=>
    rw[e]at c a;rw[CK rfl]at a;have O:(eD (bP h.G p i).1 (p+(i:Nat))).1=(bP h.G p (i+1)).1:=by rw[a]
    rw[O]at c
    refine σE ?_
    (exact dL (i+1) ⟨ω,by rw[a]⟩)
   | false=>
    rw[e]at c a;rw[CJ (by simp)]at a;have d:=lJ (k:=h.G) (p:=p) (i:=i+1) (by rw[a];simp only;omega) (N - (i+1));rw[show i+1+(N - (i+1))=N by omega]at d;rw[d.1]at d;have S:=iZ.of (p:=p) (n:=N) P.ker ω ⟨R,J⟩ B (i+1) ω;rw[CJ (by have:=lJ (k:=h.G) (p:=p) (i:=i+1) (by rw[a];simp only;omega) (N - (i+1));rw[show i+1+(N - (i+1))=N by omega]at this;omega)];rw[show bP h.G p N=bP h.G p (i+1) by have:=lJ (k:=h.G) (p:=p) (i:=i+1) (by rw[a];simp only;omega) (N - (i+1));rw[show i+1+(N - (i+1))=N by omega]at this;exact this.1];rw[a]at S |-;have g:=S.ker;simp only at g |-;generalize (eD (bP h.G p i).1 (p+(i:Nat))).1=k at c g |-
    refine σE ?_
    refine lp0 i (λj=>[(0,bX (bT {h with G:=dX k p j})),(1,fI size),(5,fN N),(7,fI p),(9,fN i),(10,fN j)]) λj Z=>?_
    have c4:=rj {h with G:=dX k p j} (p+(j:Nat)) (kz g p j);by_cases lj:j<i
    ·refine σE ?_
     (exact dL (j+1) ω)
    obtain rfl:j=i:=ω
    refine σE ?_
    exact kk
  obtain rfl:i=N:=ω
  rw[CK L];generalize (bP h.G p i).1=k
  refine σE ?_
  refine g0 h.H.length (λm=>[(0,bX (bT {h with G:=k,a:=H})),(1,fI size),(5,fN i),(7,fI p),(11,fN m)]) (λm=>∀(j:Nat)(z:aA),j<m->h.H[j]? = some z->WY p z=false) (λj z Z=>ω) λm hm=>?_
  obtain⟨hm',T⟩:=hm;have hl2:({h with G:=k,a:=H} : ac).H.length=h.H.length:=rfl;by_cases go:m<h.H.length/\(nth h.H m).S<p
  ·have o:=au go.1
   refine σE ?_
   (exact dL (m+1) ⟨ω,gd o (C1 ω) T⟩)
  have w:mq (WY p) h.H=m:=pF ω T λz C=>by
   have hlt:=(C4.1 C).1;have:z=nth h.H m:=(bI C).symm;subst this;exact O0 ω
  have o:m<h.H.length->h.H[m]? = some (nth h.H m):=λhh=>au hh
  rw[p9 w]
  repeat'(first|refine gE ?_|with_reducible refine CI (aa (o ω)) ?_|refine gS (λhq=>?_) (λhq=>?_)|refine CM rfl (aa (o ω)) rfl ?_|refine Nw.mk rfl (yP h.H) rfl ?_|refine CZ m rfl (by rw[I2];omega) (aR λ_=>rfl) C8 ?_|refine Ci m rfl (by rw[I2];omega) (aR λ_=>rfl) I8 ?_|refine CX (λ_=>rfl) (λ_=>rfl) (by rw[I3];omega) qs ?_|refine Ap.sn (aR λ_=>rfl) rfl (by rw[I2,I3];omega) qs rfl ?_|refine Ap.ins (e:=aA.enc .O) (y:=⟨p,(i:Nat),size⟩) rfl (λ_=>rfl) (λ_=>rfl) ω qs ?_)
  all_goals
   refine CO rfl ?_ ?_
   ·exact eE ω
   exact wC
end Go.Proofs.YtcblmfpcekokjaaGreat.Ab
