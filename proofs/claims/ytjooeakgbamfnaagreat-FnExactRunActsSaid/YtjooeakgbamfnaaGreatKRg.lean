/- A slot taken, an address taken out of a cache, an object begun: a heap stays whole. No condition. -/
import Derived.Test.YtjooeakgbamfnaaGreatKRd
import Derived.Test.YtjooeakgbamfnaaGreatKRf
import Derived.Test.YtjooeakgbamfnaaGreatKRe
import Derived.Test.YtjooeakgbamfnaaGreatKRc
import Derived.Laws.StructEq
set_option linter.unusedVariables false
set_option linter.defProp false
set_option linter.unusedSimpArgs false
set_option linter.constructorNameAsVariable false
namespace Go.Proofs.YtjooeakgbamfnaaGreat.Ab
variable{α:Type}
def mh(p:α->Bool)(xs:List α):Nat:=(xs.findIdx? p).getD xs.length
def lB(p:α->Bool)(xs:List α)(y:α):List α:=xs.take (mh p xs)++y::xs.drop (mh p xs)
theorem Xg(p:α->Bool)(xs:List α):mh p xs<=xs.length:=by
 unfold mh;cases e:xs.findIdx? p with
 | none=>exact z5 _
 | some i=>grind [CE]
theorem n6(p:α->Bool)(xs:List α)(y:α):(lB p xs y).Perm (y::xs):=by grind [List.perm_middle,List.take_append_drop,lB]
theorem ec{p:α->Bool}{xs:List α}{y z:α} : z∈lB p xs y↔z=y\/z∈xs:=by grind [n6]
variable{i:Nat}
theorem oV{p:α->Bool}{xs:List α}(b:i<=xs.length)(a:∀(j:Nat)(z:α),j<i->xs[j]? = some z->p z=false)(c:∀z,xs[i]? = some z->p z=true):mh p xs=i:=by
 unfold mh;by_cases e:i<xs.length
 ·rw[AD (z4 e) ψ a];rfl
 grind [J9]
theorem pi{f:α->Int}{xs:List α}{y:α}(h:xs.Pairwise λa b=>f a<f b)(g:∀z∈xs,f z≠f y):(lB (λz=>decide (f y<=f z)) xs y).Pairwise λa b=>f a<f b:=by
 have k:∀z∈xs.drop (mh (λz=>decide (f y<=f z)) xs),f y<f z:=λz c=>by
  obtain⟨j,d,rfl⟩:=List.mem_drop_iff_getElem.1 c;have l:=g _ (List.getElem_mem d);cases e:xs.findIdx? (λz=>decide (f y<=f z)) with
  | none=>
   grind [mh]
  | some i=>
   grind [CE,List.pairwise_iff_getElem,mh]
 have n:∀z∈xs.take (mh (λz=>decide (f y<=f z)) xs),f z<f y:=λz c=>by
  obtain⟨j,d,rfl⟩:=List.mem_take_iff_getElem.1 c;unfold mh at d;cases e:xs.findIdx? (λz=>decide (f y<=f z)) with
  | none=>
   grind
  | some i=>
   grind [CE]
 unfold lB
 grind [List.pairwise_cons]
def iT(b i:Int):Int:=((b.toNat ||| 2 ^ i.toNat:Nat):Int)
def uO(s:aA)(i:Int):aA:={s with a6:=iT s.a6 i}
theorem El(b i:Int)(j:Nat):(iT b i).toNat.testBit j=(b.toNat.testBit j || decide (i.toNat=j)):=by
 unfold iT;rw[O4,Nat.testBit_or,Nat.testBit_two_pow]
theorem Ps{b i:Int}(a:0<=b)(c:0<=i/\i<=15)(j:Int):bo (iT b i) j=true↔bo b j=true\/j=i:=by grind [lZ,El,iT]
theorem iv{k:Int}(h:0<=k/\k<=3):lim k=2 ^ (slots k).toNat - 1/\0<=slots k/\slots k<=16/\slots k*csz k=16:=by
 obtain rfl|rfl|rfl|rfl:k=0\/k=1\/k=2\/k=3:=ω
 all_goals decide
variable{s:aA}
theorem H1(h:bq s=true){i:Int}(k:0<=i/\i<slots s.Z):bq (uO s i)=true:=by
 have b:=aO h;obtain⟨c,l,o,-⟩:=iv b.2.2;unfold bq at h;rw[C0]at h;obtain⟨d,e,f,g,p,a⟩:=h;refine O0 ⟨d,e,f,g,by show 0<=iT s.a6 i;grind [iT],?_⟩;show iT s.a6 i<=lim s.Z;rw[c]at a |-;have j:((2 ^ (slots s.Z).toNat:Nat):Int)=(2:Int) ^ (slots s.Z).toNat:=by norm_cast
 rw[<-j]at a |-;have:=Nat.or_lt_two_pow (x:=s.a6.toNat) (y:=2 ^ i.toNat) (n:=(slots s.Z).toNat) ω (Nat.pow_lt_pow_right ω ω)
 grind [iT]
theorem RT{u:aA}{i:Int}(c:0<=i/\i<slots s.Z)(k:bo u.a6 i=false)(h:meshable s u=true):meshable (uO s i) u=true:=by
 unfold meshable at h |-;simp only[I0,C0]at h |-;obtain⟨⟨a,b⟩,d,e,l⟩:=h;have f:=aO a;obtain⟨n,o,p,-⟩:=iv f.2.2;have g:=eM b;refine⟨⟨H1 a c,b⟩,d,e,?_⟩;refine Nat.eq_of_testBit_eq λj=>?_
 grind [El,lZ,uO]
theorem yl(h:bq s=true){i:Int}(c:0<=i/\i<slots s.Z)(b:Int):gZ (uO s i) b↔gZ s b\/b=16*s.S+i*csz s.Z:=by
 have a:=aO h;obtain⟨d,e,f,g⟩:=iv a.2.2;have j:=dm a.2.2;unfold gZ
 grind [Ps,eM,uO]
variable{sp:List aA}
def Tj(k:Int)(a:i<sp.length):(sp.set i (uO (nth sp i) k)).map (·.S)=sp.map (·.S):=by
 rw[CC];refine List.ext_getElem (by simp) λj b c=>?_
 rw[List.getElem_set];split
 ·rename_i e;subst e
  rw[List.getElem_map];show(nth sp i).S=_;rw[bB (z4 a)]
 rfl
variable{la:List a8}
def kM.setS(p:rN sp la)(g:i<sp.length){k:Int}(h:0<=k/\k<slots (nth sp i).Z)(b c:Int):kM (sp.set i (uO (nth sp i) k)) b c↔kM sp b c\/(b=16*(nth sp i).S+k*csz (nth sp i).Z/\(c<0\/(nth sp i).Z=c)):=by
 have d:=p.sok _ (ax g);constructor
 ·rintro⟨s,l,f,a⟩
  rcases jW l with rfl|⟨j,n,q,rfl⟩
  ·rcases(yl d h b).1 f with o|o
   ·exact .inl ⟨_,ax g,o,a⟩
   exact .inr ⟨o,a⟩
  exact .inl ⟨_,ax n,f,a⟩
 rintro(⟨s,l,f,a⟩|⟨f,a⟩)
 ·obtain⟨j,n,rfl⟩:=bw l
  by_cases e:j=i
  ·subst e
   exact⟨_,kx _ g,(yl d h b).2 (.inl f),a⟩
  exact⟨_,lP _ n e,f,a⟩
 exact⟨_,kx _ g,(yl d h b).2 (.inr f),a⟩
variable{E:List Int}{h:ac}
theorem W7(d:bm h E)(g:i<h.J.length){k:Int}(o:0<=k/\k<=15)(b:bo (eH h i) k=false):bo (nth h.J i).a6 k=false/\∀u∈h.J,(nth (tbl h).M u.S.toNat).j=(nth (tbl h).M (nth h.J i).S.toNat).j->bo u.a6 k=false:=by
 have e:=d.L;have p:=eM (e.sok _ (ax g));unfold eH at b;rw[<-IA,Ge e.sok p o]at b;rw[not_or]at b;have q:bo (nth h.J i).a6 k=false:=by simpa using b.1
 have a:∀s∈h.J,s.S.toNat<fT h/\(nth (tbl h).M s.S.toNat).o≠0/\((s.S.toNat:Nat):Int)=s.S:=λs l=>by
  have K:=aO (e.sok s l);have M:=d.pg.bnd s.S (fx l);have n:s.S.toNat<(tbl h).M.length:=ω
  have r:((s.S.toNat:Nat):Int)=s.S:=ω
  exact⟨n,(d.pg.own _ n).2 (by grind [fx]),r⟩
 refine⟨q,λu c t=>?_⟩;rw[<-IA];intro w;obtain⟨y,A,B⟩:=a _ (ax g);obtain⟨C,D,F⟩:=a u c;have G:u.S∈aZ h (nth h.J i).S:=by
  rw[<-B,gH y A,<-F];exact fZ.2 ⟨C,D,t⟩
 obtain⟨v,H,f⟩:=bw G;obtain⟨j,J,rfl⟩:=bw c;exact b.2 ⟨v,H,j,J,f.symm,w⟩
variable{sd:Int}
theorem bm.take{k:Int}(d:bm h E)(r:i<h.J.length)(F:0<=k/\k<slots (nth h.J i).Z)(w:bo (eH h i) k=false)(P:0<=sd/\sd<=1073741823) :
  bm {h with c1:=sd,J:=h.J.set i (uO (nth h.J i) k)} ((16*(nth h.J i).S+k*csz (nth h.J i).Z)::E):=by
 have A:=d.L;have G:=A.sok _ (ax r);have B:=aO G;obtain⟨l1,l2,l3,l4⟩:=iv B.2.2;have hz:=dm B.2.2;obtain⟨u1,u2⟩:=W7 d r ω w;have g:=λb c=>kM.setS A r F b c
 have H:=Tj k r;generalize ha:16*(nth h.J i).S+k*csz (nth h.J i).Z=a at g |-;have J:¬gZ (nth h.J i) a:=by
  rintro⟨-,-,-,h4⟩
  grind
 have hrange:16*(nth h.J i).S<=a/\a<=16*(nth h.J i).S+15:=ψ
 have K:¬q9 h.J h.H a:=by
  rintro(⟨s,p,t,-⟩|⟨l,Q,e⟩)
  ·obtain⟨j,N,rfl⟩:=bw p
   have:=i6 (f:=(·.S)) A.nd N r (by have a1:=t.1;have a2:=t.2.1;omega)
   grind
  exact(Di A Q).1 _ (ax r) ω
 have M:a∉E++holders h:=λO=>K ((d.mem a).1 O)
 have n:∀s∈h.J.set i (uO (nth h.J i) k),∃u∈h.J,u.S=s.S/\(s=u\/(u=nth h.J i/\s=uO u k)):=λs p=>by
  rcases jW p with rfl|⟨j,N,R,rfl⟩
  ·exact⟨_,ax r,rfl,.inr ⟨rfl,rfl⟩⟩
  grind [ax]
 generalize S:h.J.set i (uO (nth h.J i) k)=sp at g H n |-;have q:pgs sp h.H=pgs h.J h.H:=by grind [pgs]
 have T:∀u∈h.J,∃s∈sp,s.S=u.S:=λu w=>by
  have:u.S∈sp.map (·.S):=ψ
  grind
 exact {d with
   lay:=by grind [bm.lay,H1,bD]
   srs:=by
     have t:(h.J.map (·.S)).Pairwise (λa b=>a<b):=List.pairwise_map.2 d.srs
     grind
   pg:=⟨d.pg.one,by rw[q];exact d.pg.bnd,by rw[q];exact d.pg.own,d.pg.fre,λs p u w U V=>by
     obtain⟨W,X,Y,Z⟩:=n s p;obtain⟨u',hu',eu,hu2⟩:=n u w;have hf':(nth (tbl h).M W.S.toNat).j=(nth (tbl h).M u'.S.toNat).j:=by rw[Y,eu];exact V
     grind [Pg.mesh,bm.pg,lw,RT]⟩
   nums:=by
     have:=d.nums
     grind [cv]
   oow:=λo ho=>by
     rcases d.oow o ho with⟨s,p,t,h2⟩|t
     · obtain⟨u,w,g1,C⟩:=(g o.Addr (aU o.y)).2 (.inl ⟨s,p,t,.inr h2⟩)
       refine .inl ⟨u,w,g1,?_⟩;rcases C with C|C
       · have:=aO (A.sok _ p);omega
       exact C
     exact .inr t
   hca:=λc B k F b D=>(g b k).2 (.inl (d.hca c B k F b D))
   hqu:=λy hy=>(g _ _).2 (.inl (d.hqu y hy))
   hfl:=λb D=>(g _ _).2 (.inl (d.hfl b D))
   hin:=λb D=>by grind [bm.hin]
   nd:=by
     rw[List.cons_append];exact List.nodup_cons.2 ⟨M,d.nd⟩
   mem:=λb=>by
     show b∈a::E++holders h↔q9 sp h.H b
     grind [bm.mem,q9]
   job:=λO=>by grind [bm.job]}
def xM(c:aB)(k:Nat):aB:=⟨c.W.set k ((nth c.W k).take ((nth c.W k).length - 1))⟩
theorem Vf{l:List Int}(h:0<l.length):l=l.take (l.length - 1)++[nth l (l.length - 1)]:=by grind [gT,List.take_append_drop]
variable{t:Nat}
theorem bm.pop{k:Nat}(d:bm h E)(f:t<h.R.length)(g:k<(nth h.R t).W.length)(l:0<(nth (nth h.R t).W k).length)(u:bE (xM (nth h.R t) k)=true) :
  bm {h with R:=h.R.set t (xM (nth h.R t) k)} (nth (nth (nth h.R t).W k) ((nth (nth h.R t).W k).length - 1)::E)/\kM h.J (nth (nth (nth h.R t).W k) ((nth (nth h.R t).W k).length - 1)) k:=by
 have n:=Vf l;have i:=d.hca _ (ax f) k g (nth (nth (nth h.R t).W k) ((nth (nth h.R t).W k).length - 1)) ψ;refine⟨?_,i⟩;generalize w:nth (nth (nth h.R t).W k) ((nth (nth h.R t).W k).length - 1)=a at n i |-;have p:(E++holders h).Perm (a::E++holders {h with R:=h.R.set t (xM (nth h.R t) k)}):=by
  refine List.perm_iff_count.2 λb=>?_
  have A:=kE (λc:aB=>c.W.flatten) b h.R t (xM (nth h.R t) k) f;have q:=kE (λy:List Int=>y) b (nth h.R t).W k ((nth (nth h.R t).W k).take ((nth (nth h.R t).W k).length - 1)) g;rw[<-oe,<-oe]at q
  grind [xM,holders,cM]
 exact {d with
   nc:=by grind [bm.nc]
   cach:=λc e=>by grind [bm.cach]
   onu:=by show ∀o∈h.K,1<=o.Id/\o.Id<=h.k - 1/\0<=o.w/\o.w<=(h.R.set t _).length - 1;rw[C3];exact d.onu
   hca:=λc e j B b r=>by grind [bm.hca,cT,ax,xM]
   hin:=λb r=>by grind [kM.any,bm.hin]
   nd:=p.nodup_iff.1 d.nd
   mem:=λb=>by grind [bm.mem]}
def QM(a:Int)(o:aW):Bool:=decide (a<=o.Addr)
def addO(h:ac)(a size t:Int):ac:={h with K:=lB (QM a) h.K ⟨h.k,a,size,t⟩,k:=h.k+1}
theorem Gm(a:cv h=true)(b:h.k<1000000):decide (0<=h.c1/\h.c1<=1073741823/\0<=h.b1/\h.b1<=1000000/\0<=h.c2/\h.c2<=1000/\1<=h.k+1/\h.k+1<=1000000)=true:=by grind [cv]
theorem bm.addO{h:ac}{E:List Int}{a size t:Int}(c:bm h (a::E))(d:UZ h.J h.H ⟨h.k,a,size,t⟩)(p:h.k<1000000)(q:0<=t/\t<=h.R.length - 1):bm (addO h a size t) E:=by
 have i:=n6 (QM a) h.K ⟨h.k,a,size,t⟩;have n:(a::E++holders h).Perm (E++holders (Ab.addO h a size t)):=by
  have r:=i.map (·.Addr);refine List.perm_iff_count.2 λb=>?_
  have u:=r.count_eq b;simp only[OB,List.count_cons]at u;simp only[holders,cM,Ab.addO,SB,List.cons_append,List.count_cons];omega
 have j:=c.nd;rw[List.cons_append]at j;obtain⟨k,-⟩:=List.nodup_cons.1 j;have l:∀o∈h.K,o.Addr≠a:=λo d e=>k (v5.2 (.inr (by unfold holders;grind)))
 exact {c with
   nums:=Gm c.nums p
   osr:=pi (f:=λo:aW=>o.Addr) (y:=⟨h.k,a,size,t⟩) c.osr l
   onu:=λo d=>by
     rcases ec.1 d with rfl|d
     · have:=c.nums
       unfold cv at this;rw[C0]at this;exact⟨ψ,by show h.k<=h.k+1 - 1;omega,q⟩
     have:=c.onu o d;exact⟨this.1,by show o.Id<=h.k+1 - 1;omega,this.2.2⟩
   oid:=by
     show((lB (QM a) h.K ⟨h.k,a,size,t⟩).map (·.Id)).Nodup;rw[(i.map _).nodup_iff,OB];refine List.nodup_cons.2 ⟨λw=>?_,c.oid⟩;obtain⟨o,d,e⟩:=O8.1 w;have:=(c.onu o d).2.1
     grind
   oow:=λo g=>by
     rcases ec.1 g with rfl|g
     · exact d
     exact c.oow o g
   hin:=λb A=>c.hin b ψ
   nd:=n.nodup_iff.1 c.nd
   mem:=λb=>by rw[<-n.mem_iff];exact c.mem b}
def gY(xs:List aC)(n:Int):Nat->Int
 | 0=>-1
 | i+1=>if n<=(nth xs i).a4/\(gY xs n i<0\/(nth xs i).a4<(nth xs (gY xs n i).toNat).a4) then(i:Nat) else gY xs n i
def g0(xs:List aC)(n:Int):Int:=gY xs n xs.length
def aD(xs:List aC)(n:Int):List aC × Int × Bool:=
 if g0 xs n<0 then(xs,-1,false)
 else if(nth xs (g0 xs n).toNat).a4=n then(dele xs (g0 xs n).toNat,(nth xs (g0 xs n).toNat).At,true)
 else(xs.set (g0 xs n).toNat ⟨(nth xs (g0 xs n).toNat).At+n,(nth xs (g0 xs n).toNat).a4 - n⟩,(nth xs (g0 xs n).toNat).At,true)
theorem w8(xs:List aC)(n:Int):∀i,i<=xs.length->gY xs n i = -1\/(0<=gY xs n i/\gY xs n i<i/\n<=(nth xs (gY xs n i).toNat).a4)
 | 0,_=>.inl rfl
 | i+1,a=>by
  have b:=w8 xs n i ω
  grind [gY]
variable{xs:List aC}
def BZ(h:lr xs){j:Nat}(a:i<j)(b:j<xs.length):(nth xs i).At+(nth xs i).a4<(nth xs j).At:=by
 have:=List.pairwise_iff_getElem.1 h.1 i j ω b a
 rwa [<-bB (z4 (show i<xs.length by omega)),<-bB (z4 b)]at this
variable{p:Int}
theorem DQ : RH xs p↔∃j,j<xs.length/\(nth xs j).At<=p/\p<(nth xs j).At+(nth xs j).a4:=by grind [bw,ax,RH]
theorem qL{pages:Int}{n:Int}(h:bN pages xs=true)(R:1<=n)(f:(aD xs n).2.2=true) :
  bN pages (aD xs n).1=true/\0<=(aD xs n).2.1/\(aD xs n).2.1+n<=pages/\(∀p,RH (aD xs n).1 p↔RH xs p/\¬((aD xs n).2.1<=p/\p<(aD xs n).2.1+n))/\∀p,(aD xs n).2.1<=p->p<(aD xs n).2.1+n->RH xs p:=by
 obtain⟨e,E,t⟩:=ij.1 h;have u:=w8 xs n xs.length (z5 _);unfold aD at f |-;change g0 xs n = -1\/_ at u;split at f
 ·cases f
 rename_i g;rw[CI g];obtain⟨F,G,w⟩:=u.resolve_left ω;change 0<=g0 xs n at F;change g0 xs n<xs.length at G;change n<=(nth xs (g0 xs n).toNat).a4 at w;generalize H:(g0 xs n).toNat=b at w |-;have d:b<xs.length:=ω
 have A:=E _ (ax d);have J:∀j,j<xs.length->j≠b->(nth xs j).At+(nth xs j).a4<(nth xs b).At\/(nth xs b).At+(nth xs b).a4<(nth xs j).At:=λj c k=>by
  rcases Nat.lt_or_gt_of_ne k with l|o
  ·exact .inl (BZ e l d)
  exact .inr (BZ e o c)
 split
 ·rename_i K
  have L:(dele xs b).Sublist xs:=gw ..;refine⟨ij.2 ⟨⟨e.1.sublist L,ψ⟩,ψ,t⟩,A.1,ψ,λp=>?_,λp M N=>DQ.2 ψ⟩;simp only;rw[DQ (xs:=xs)];constructor
  ·rintro⟨r,O,B,C⟩
   grind [gX]
  rintro⟨⟨j,c,B,C⟩,P⟩
  exact⟨_,gX.2 ψ,B,C⟩
 rename_i K;have a:∀j,nth (xs.set b ⟨(nth xs b).At+n,(nth xs b).a4 - n⟩) j=if j=b then⟨(nth xs b).At+n,(nth xs b).a4 - n⟩ else nth xs j:=λj=>by grind [cT]
 refine⟨ij.2 ⟨⟨?_,λy Q=>?_⟩,λy Q=>?_,t⟩,A.1,ψ,λp=>?_,λp M N=>DQ.2 ψ⟩
 ·rw[List.pairwise_iff_getElem]
  intro i j D c q;rw[<-bB (z4 D),<-bB (z4 c),a,a];simp only[C3]at D c;have S:=BZ e q c
  grind
 ·grind
 ·grind
 simp only;rw[DQ,DQ,C3];constructor
 ·grind
 grind
def su(k:af):Int:=cy (λu=>!u) k.F.V.a3
def yp(k:af)(p:Int)(f:Nat):af:={k with F:=⟨⟨k.F.V.U,k.F.V.a3.set f true⟩,⟨k.F.Q.M.set p.toNat ⟨2,(f:Nat)⟩⟩⟩}
def dY(k:af)(p:Int):af × Bool:=if refd k=true\/su k<0 then(dX k,false) else(yp (dX k) p (su k).toNat,true)
variable{k:af}
theorem Lc(h:¬su k<0):(su k).toNat<k.F.V.a3.length/\nth k.F.V.a3 (su k).toNat=false:=by grind [td,su]
variable{f:Nat}
theorem Gp(h:aH k=true)(a:f<k.F.V.a3.length)(b:nth k.F.V.a3 f=false)(q:Nat)(c:q<k.F.Q.M.length)(d:(nth k.F.Q.M q).o≠0):(nth k.F.Q.M q).j≠(f:Nat):=by grind [aF,gy]
theorem Wl(h:aH k=true)(A:0<=p/\p<k.F.Q.M.length)(B:(nth k.F.Q.M p.toNat).o=0)(c:f<k.F.V.a3.length)(d:nth k.F.V.a3 f=false):aH (yp k p f)=true:=by
 have g:=Gp h c d;obtain⟨i,l,n,o,r⟩:=aF.1 h;obtain⟨t,u,C,w⟩:=bi.1 l;obtain⟨D,E,F⟩:=bz.1 n;have a:∀q,nth (k.F.Q.M.set p.toNat ⟨2,(f:Nat)⟩) q=if p.toNat=q then⟨2,(f:Nat)⟩ else nth k.F.Q.M q:=λq=>by grind [cT]
 refine aF.2 ⟨i,bi.2 ⟨t,u,by grind [yp],λj b=>?_⟩,bz.2 ⟨λj b=>?_,?_,?_⟩,λj b=>?_,r⟩
 ·replace b:j<k.F.V.U.length:=b
  show jV (nth k.F.V.U j) (nth (k.F.V.a3.set f true) j)=true;have G:=w j b;rw[cT]
  grind [jV,kQ]
 ·simp only[yp,C3]at b |-
  rw[a];split
  all_goals grind [oM]
 ·grind [yp]
 ·grind [yp]
 simp only[yp,C3]at b;show nth (k.F.V.a3.set f true) j=_;rw[cT];by_cases e:f=j
 ·grind [gy,yp]
 rw[CI λz=>e z.1,o j b];refine decide_eq_decide.2 ?_;rw[gy,gy];simp only[yp,C3,a];constructor
 ·rintro⟨q,y,H,J⟩
  refine⟨q,y,?_⟩
  grind
 grind
structure Bw(k:af)(p:Int)(r:af × Bool):Prop where
 ker:aH r.1=true
 len:r.1.F.Q.M.length=k.F.Q.M.length
 calls:r.1.Calls=k.Calls+1
 ref:r.1.a=k.a
 cells:r.1.F.V.U=k.F.V.U
 no:r.2=false->r.1=dX k
 yes:r.2=true->∃f:Nat,f<k.F.V.a3.length/\nth k.F.V.a3 f=false/\(∀q:Nat,nth r.1.F.Q.M q=if(q:Int)=p then⟨2,(f:Nat)⟩ else nth k.F.Q.M q)/\∀q,q<k.F.Q.M.length->(nth k.F.Q.M q).o≠0->(nth k.F.Q.M q).j≠(f:Nat)
theorem Bw.of(h:aH k=true)(c:k.Calls≠100000)(f:0<=p/\p<k.F.Q.M.length)(g:(nth k.F.Q.M p.toNat).o=0):Bw k p (dY k p):=by
 unfold dY;split
 ·exact⟨qv h c,rfl,rfl,rfl,rfl,λ_=>rfl,λe=>by cases e⟩
 rename_i d;rw[not_or]at d;obtain⟨a,b⟩:=Lc d.2;refine⟨Wl (qv h c) f g a b,by simp[yp,dX],rfl,rfl,rfl,ψ,λ_=>⟨_,a,b,λq=>?_,λq=>Gp h a b q⟩⟩
 grind [cT,yp,dX]
def bL(k:af)(p:Int):Nat->af × Nat
 | 0=>(k,0)
 | i+1=>if(bL k p i).2=i then((dY (bL k p i).1 (p+(i:Nat))).1,if(dY (bL k p i).1 (p+(i:Nat))).2=true then i+1 else i) else bL k p i
structure iV(k:af)(p:Int)(i:Nat)(r:af × Nat):Prop where
 ker:aH r.1=true
 len:r.1.F.Q.M.length=k.F.Q.M.length
 calls:k.Calls<=r.1.Calls/\r.1.Calls<=k.Calls+i
 ref:r.1.a=k.a
 cells:r.1.F.V.U=k.F.V.U
 le:r.2<=i
 out:∀q:Nat,¬(p<=q/\(q:Int)<p+r.2)->nth r.1.F.Q.M q=nth k.F.Q.M q
 new:∀q:Nat,p<=q->(q:Int)<p+r.2->(nth r.1.F.Q.M q).o=2/\∀u:Nat,u<k.F.Q.M.length->(nth r.1.F.Q.M u).o≠0->(nth r.1.F.Q.M u).j=(nth r.1.F.Q.M q).j->u=q
theorem iV.of{k:af}{p:Int}{n:Nat}(h:aH k=true)(l:k.Calls+n<=100000)(o:0<=p/\p+n<=k.F.Q.M.length)(t:∀q:Nat,p<=q->(q:Int)<p+n->(nth k.F.Q.M q).o=0):∀i,i<=n->iV k p i (bL k p i)
 | 0,_=>⟨h,rfl,⟨I9 _,by show k.Calls<=k.Calls+((0:Nat):Int);omega⟩,rfl,rfl,z5 _,λ_ _=>rfl,λq d b=>by grind [bL]⟩
 | i+1,B=>by
  have a:=iV.of h l o t i ω;unfold bL;split
  case isFalse=>exact⟨a.ker,a.len,⟨a.calls.1,by have:=a.calls.2;omega⟩,a.ref,a.cells,by have:=a.le;omega,a.out,a.new⟩
  rename_i u;generalize bL k p i=r at a u |-;have y:=a.calls;have c:(nth r.1.F.Q.M (p+(i:Nat)).toNat).o=0:=by grind [iV.out]
  have s:=Bw.of (p:=p+(i:Nat)) a.ker ω ⟨ω,by rw[a.len];omega⟩ c;generalize dY r.1 (p+(i:Nat))=w at s |-;refine⟨s.ker,s.len.trans a.len,⟨by grind [Bw.calls],by grind [Bw.calls]⟩,s.ref.trans a.ref,s.cells.trans a.cells,ψ,λq g=>?_,λq d b=>?_⟩
  ·simp only at g |-
   cases e:w.2 with
   | false=>
    rw[s.no e];rw[e]at g;exact a.out q ψ
   | true=>
    obtain⟨f,-,-,j,-⟩:=s.yes e
    grind [iV.out]
  simp only at b |-;cases e:w.2 with
  | false=>
   rw[s.no e];rw[e]at b;exact a.new q d ψ
  | true=>
   obtain⟨f,-,-,j,C⟩:=s.yes e;rw[e,CJ rfl]at b;have A:q<k.F.Q.M.length:=ω
   rw[j];by_cases D:(q:Int)=p+(i:Nat)
   ·grind [iV.len]
   grind [iV.new,iV.len]
theorem iV.undo{r:af × Nat}(s:iV k p i r)(h:aH k=true)(a:0<=p/\p+i<=k.F.Q.M.length)(b:∀q:Nat,p<=q->(q:Int)<p+i->(nth k.F.Q.M q).o=0):aH (dJ r.1 p r.2)=true/\tEq k.F.Q (dJ r.1 p r.2).F.Q:=by
 have c:=s.le;have d:=qC s.ker a.1 r.2 (by rw[s.len];omega);refine⟨kK s.ker p r.2,((ip r.1 p r.2).1).trans s.len,λq=>?_⟩;rw[d];split
 ·rename_i e
  have f:=b q e.1 ω
  grind [aF,bz,oM]
 grind [iV.out]
variable{n:Nat}
theorem Pg.add{t c:aM}{B f:List aC}{a:List aA}{b:List a8}(o:Pg t B sp la)(C:c.M.length=t.M.length)(H:p+n<=t.M.length)(R:0<=p)(S:∀q:Nat,¬(p<=q/\(q:Int)<p+n)->nth c.M q=nth t.M q)(D:∀q:Nat,p<=q->(q:Int)<p+n->(nth c.M q).o=2/\∀u:Nat,u<t.M.length->(nth c.M u).o≠0->(nth c.M u).j=(nth c.M q).j->u=q)(J:∀q,RH f q↔RH B q/\¬(p<=q/\q<p+n))(r:∀q,q∈pgs a b↔q∈pgs sp la\/(p<=q/\q<p+n))(g:∀s∈a,0<=s.S/\(s∈sp\/(p<=s.S/\s.S<p+n)))(w:∀l∈b,l∈la\/∀q∈lpgs l l.a0.toNat,p<=q/\q<p+n):Pg c f a b:=by
 have E:∀q:Nat,q<t.M.length->((nth c.M q).o≠0↔(q:Int)∈pgs a b):=λq h=>by grind [Pg.own]
 refine⟨λl i q h u k T U=>?_,λq h=>?_,ψ,λq h=>?_,λs F u k K V=>?_⟩
 ·rw[C]at k
  have A:=io (sp:=a) i h;have L:q<t.M.length:=by
   rcases(r _).1 A with d|d
   ·have:=o.bnd _ d;omega
   omega
  by_cases e:p<=q/\(q:Int)<p+n
  ·grind
  have M:=(w l i).resolve_right ψ
  grind [Pg.one]
 ·rw[C]
  rcases(r _).1 h with d|d
  ·exact o.bnd _ d
  omega
 ·grind [Pg.fre]
 obtain⟨N,W⟩:=g s F;obtain⟨O,X⟩:=g u k;have j:∀y∈a,0<=y.S->y.S.toNat<t.M.length/\((y.S.toNat:Nat):Int)=y.S/\(nth c.M y.S.toNat).o≠0:=λy P Q=>by
  have d:=fx (la:=b) P;have Y:y.S.toNat<t.M.length:=by
   rcases(r _).1 d with G|G
   ·have:=o.bnd _ G;omega
   omega
  grind
 obtain⟨Z,sc,sd⟩:=j s F N;obtain⟨ub,uc,ud⟩:=j u k O;by_cases es:p<=s.S/\s.S<p+n
 ·grind
 by_cases eu:p<=u.S/\u.S<p+n
 all_goals grind [Pg.mesh]
theorem Kh{a:List aA}{b:List a8}(c:a.Perm sp)(d:b.Perm la):(pgs a b).Perm (pgs sp la):=by grind [pgs]
def Kf(p:Int)(s:aA):Bool:=decide (p<=s.S)
def VF(p:Int)(l:a8):Bool:=decide (p<=l.S)
def addS(h:ac)(k:af)(a:List aC)(p c:Int):ac:={h with G:=k,b:=a,J:=lB (Kf p) h.J ⟨p,c,0⟩}
def lM(a:bm h E){n:Int}(j:1<=n)(k:(aD h.b n).2.2=true):0<=(aD h.b n).2.1/\(aD h.b n).2.1+n<=(tbl h).M.length/\(∀q:Nat,(aD h.b n).2.1<=q->(q:Int)<(aD h.b n).2.1+n->(nth (tbl h).M q).o=0)/\∀q:Int,(aD h.b n).2.1<=q->q<(aD h.b n).2.1+n->q∉pgs h.J h.H:=by
 obtain⟨r,l,f,t,o⟩:=qL a.rng j k;have g:∀q:Nat,(aD h.b n).2.1<=q->(q:Int)<(aD h.b n).2.1+n->(nth (tbl h).M q).o=0:=λq b c=>by
  have d:q<(tbl h).M.length:=by
   have:(aD h.b n).2.1+n<=((tbl h).M.length:Nat):=f;omega
  by_cases e:(nth (tbl h).M q).o=0
  ·exact e
  exact absurd (o q b c) ((a.pg.fre q d).1 e)
 refine⟨l,f,g,λq b c i=>?_⟩;have u:=a.pg.bnd q i;obtain⟨m,rfl⟩:=t5 (show 0<=q by omega);have p:=(a.pg.own m ω).2 i;exact p (g m b c)
theorem bm.addS{h:ac}{E:List Int}{c:Int}(a:bm h E)(V:0<=c/\c<=3)(D:(aD h.b 1).2.2=true){k:af}(s:Bw h.G (aD h.b 1).2.1 (k,true)):bm (addS h k (aD h.b 1).1 (aD h.b 1).2.1 c) E:=by
 obtain⟨Q,R,W,F,X⟩:=qL a.rng (I9 _) D;obtain⟨-,S,Y,Z⟩:=lM a (I9 _) D;generalize (aD h.b 1).2.1=p at R W F X S Y Z s |-;generalize (aD h.b 1).1=fr at Q F |-;obtain⟨f,f1,f2,T,f4⟩:=s.yes rfl;have G:=(bz.1 (aF.1 a.ker).2.2.1).2.2;change (tbl h).M.length<=32 at G;have hL:=a.L;have H:=n6 (Kf p) h.J ⟨p,c,0⟩;have J:=Kh H (List.Perm.refl h.H);have A:(pgs (lB (Kf p) h.J ⟨p,c,0⟩) h.H).Perm (p::pgs h.J h.H):=J;have K:p∉pgs h.J h.H:=ψ
 have M:∀z∈h.J,z.S≠p:=λz i e=>K (by grind [fx])
 have r:∀b d,kM (lB (Kf p) h.J ⟨p,c,0⟩) b d↔kM h.J b d:=λb d=>by
  constructor
  ·rintro⟨s,B,w,N⟩
   rcases ec.1 B with rfl|B
   ·grind [Hr]
   exact⟨s,B,w,N⟩
  rintro⟨s,B,w⟩
  exact⟨s,ec.2 (.inr B),w⟩
 exact {a with
   ker:=s.ker
   rng:=by show bN ((k.F.Q.M.length:Nat):Int) fr=true;rw[s.len];exact Q
   lay:=by
     obtain⟨l1,l2,l3⟩:=gf a.lay;unfold bD;simp only[I0,C0];refine⟨⟨O7.2 λz i=>?_,l2⟩,A.nodup_iff.2 ψ⟩;rcases ec.1 i with rfl|i
     · have hl0:0<=lim c:=by
         have:=(iv V).1;obtain rfl|rfl|rfl|rfl:c=0\/c=1\/c=2\/c=3:=ω
         all_goals decide
       exact O0 ψ
     grind
   srs:=pi (f:=λz:aA=>z.S) (y:=⟨p,c,0⟩) a.srs M
   pg:=by
     refine a.pg.add (p:=p) (n:=1) s.len (by exact S) R (λq hq=>?_) (λq q1 q2=>?_) (λq=>F q) (λq=>?_) (λz i=>?_) (λl hl=>.inl hl)
     · exact(T q).trans (CI ω)
     · have hq:(q:Int)=p:=ω
       have U:nth k.F.Q.M q = ⟨2,(f:Nat)⟩:=ψ
       refine⟨O1 aS.o U,λu O t g=>?_⟩;have fu:nth k.F.Q.M u=if(u:Int)=p then⟨2,(f:Nat)⟩ else nth h.G.F.Q.M u:=T u
       change (nth k.F.Q.M u).o≠0 at t;change (nth k.F.Q.M u).j=(nth k.F.Q.M q).j at g;rw[fu]at t g;rw[U]at g;by_cases eu:(u:Int)=p
       · omega
       rw[CI eu]at t g;exact absurd g (f4 u O t)
     · show q∈pgs (lB (Kf p) h.J ⟨p,c,0⟩) h.H↔_
       grind
     rcases ec.1 i with rfl|i
     · grind
     exact⟨(aO (hL.sok z i)).1,.inl i⟩
   oow:=λo D=>by
     rcases a.oow o D with⟨z,i,w,N⟩|w
     · exact .inl ⟨z,ec.2 (.inr i),w,N⟩
     exact .inr w
   hca:=λd hd j hj b C=>(r b j).2 (a.hca d hd j hj b C)
   hqu:=λy P=>(r _ _).2 (a.hqu y P)
   hfl:=λb C=>(r _ _).2 (a.hfl b C)
   hin:=λb C=>(r _ _).2 (a.hin b C)
   mem:=λb=>(a.mem b).trans (by
     show q9 h.J h.H b↔q9 (lB (Kf p) h.J ⟨p,c,0⟩) h.H b
     grind [q9])
   job:=λhm=>by
     obtain⟨j1,⟨y,P,e1⟩,⟨u,O,e2⟩⟩:=a.job hm;exact⟨j1,⟨y,ec.2 (.inr P),e1⟩,⟨u,ec.2 (.inr O),e2⟩⟩}
def addL(h:ac)(k:af)(a:List aC)(p n size t:Int):ac:={h with G:=k,b:=a,H:=lB (VF p) h.H ⟨p,n,size⟩,K:=lB (QM (16*p)) h.K ⟨h.k,16*p,size,t⟩,k:=h.k+1}
theorem bm.addL{h:ac}{E:List Int}{size t:Int}{n:Nat}(a:bm h E)(g:9<=size/\size<=1000)(J:(n:Int)=(size+15) / 16)(i:(aD h.b n).2.2=true){k:af}(s:iV h.G (aD h.b n).2.1 n (k,n))(hn:h.k<1000000)(ht:0<=t/\t<=h.R.length - 1) :
  bm (addL h k (aD h.b n).1 (aD h.b n).2.1 n size t) E:=by
 have B:(1:Int)<=n:=ω
 obtain⟨V,K,r3,M,r5⟩:=qL a.rng B i;obtain⟨-,W,u3,H⟩:=lM a B i;generalize (aD h.b n).2.1=p at K r3 M r5 W u3 H s |-;generalize (aD h.b n).1=fr at V M |-;have N:=(bz.1 (aF.1 a.ker).2.2.1).2.2;change (tbl h).M.length<=32 at N;have O:=a.L;have P:=n6 (VF p) h.H ⟨p,n,size⟩;have C:=n6 (QM (16*p)) h.K ⟨h.k,16*p,size,t⟩;have Q:lpgs ⟨p,n,size⟩ ((n:Nat):Int).toNat=lpgs ⟨p,n,size⟩ n:=by rw[O4]
 have D:(pgs h.J (lB (VF p) h.H ⟨p,n,size⟩)).Perm (lpgs ⟨p,n,size⟩ n++pgs h.J h.H):=by
  refine(Kh (List.Perm.refl h.J) P).trans ?_;unfold pgs;rw[ID];simp only[Q];rw[<-SA,<-SA];exact List.perm_append_comm.append_right _
 have u:∀q,q∈lpgs ⟨p,n,size⟩ n↔p<=q/\q<p+n:=λq=>by
  rw[en];constructor
  ·rintro⟨j,hj,rfl⟩;exact⟨by show p<=p+(j:Int);omega,by show p+(j:Int)<_;omega⟩
  rintro⟨X,Y⟩;exact⟨(q - p).toNat,ω,by show q=p+_;omega⟩
 have R:(lpgs ⟨p,n,size⟩ n).Nodup:=by
  unfold lpgs List.Nodup;rw[List.pairwise_map];exact List.nodup_range.imp λr e=>r (by simp only at e;omega)
 have r:∀z∈h.H,z.S≠p:=λz g e=>H p (I9 _) ω (by rw[<-e];exact io g (en.2 ⟨0,by have:=bf (O.lok z g);omega,ω⟩))
 have S:¬q9 h.J h.H (16*p):=by
  rintro(⟨z,g,d,-⟩|⟨l,c,e⟩)
  ·exact H p (I9 _) ω (by rw[show p=z.S by have a1:=d.1;have a2:=d.2.1;omega];exact fx g)
  exact r l c ω
 have F:(16*p)∉E++holders h:=λT=>S ((a.mem _).1 T)
 have U:∀o∈h.K,o.Addr≠16*p:=λo i e=>F (v5.2 (.inr (by unfold holders;simp only[v5];exact .inl (.inl (.inl (O8.2 ⟨o,i,e⟩))))))
 have Z:(E++holders (Ab.addL h k fr p n size t)).Perm ((16*p)::(E++holders h)):=by
  have h0:=C.map (·.Addr);refine List.perm_iff_count.2 λb=>?_
  have d:=h0.count_eq b;simp only[OB,List.count_cons]at d;simp only[holders,cM,Ab.addL,SB,List.count_cons];omega
 exact {a with
   ker:=s.ker
   rng:=by show bN ((k.F.Q.M.length:Nat):Int) fr=true;rw[s.len];exact V
   lay:=by
     obtain⟨l1,l2,l3⟩:=gf a.lay;unfold bD;simp only[I0,C0];refine⟨⟨l1,O7.2 λz w=>?_⟩,D.nodup_iff.2 (List.nodup_append.2 ⟨R,l3,λq G b hb e=>?_⟩)⟩
     · rcases ec.1 w with rfl|w
       · exact O0 ⟨g.1,g.2,J,K,by show p<=32 - (n:Int);omega⟩
       exact O.lok z w
     subst e;have:=(u q).1 G;exact H q this.1 this.2 hb
   srl:=pi (f:=λz:a8=>z.S) (y:=⟨p,n,size⟩) a.srl r
   pg:=by
     refine a.pg.add (p:=p) (n:=n) s.len (by exact W) K (λq G=>s.out q G) (λq X Y=>s.new q X Y) (λq=>M q) (λq=>?_) (λz g=>⟨(aO (O.sok z g)).1,.inl g⟩) (λl c=>?_)
     · show q∈pgs h.J (lB (VF p) h.H ⟨p,n,size⟩)↔_
       rw[D.mem_iff,v5,u];exact Or.comm
     rcases ec.1 c with rfl|c
     · exact .inr λq G=>(u q).1 (by simpa using G)
     exact .inl c
   nums:=Gm a.nums hn
   osr:=pi (f:=λo:aW=>o.Addr) (y:=⟨h.k,16*p,size,t⟩) a.osr U
   onu:=λo i=>by
     rcases ec.1 i with rfl|i
     · have:=a.nums
       unfold cv at this;rw[C0]at this;exact⟨by show 1<=h.k;omega,by show h.k<=h.k+1 - 1;omega,ht⟩
     have:=a.onu o i;exact⟨this.1,by show o.Id<=h.k+1 - 1;omega,this.2.2⟩
   oid:=by
     show((lB (QM (16*p)) h.K ⟨h.k,16*p,size,t⟩).map (·.Id)).Nodup;rw[(C.map _).nodup_iff,OB];refine List.nodup_cons.2 ⟨λT=>?_,a.oid⟩;obtain⟨o,i,e⟩:=O8.1 T;have:=(a.onu o i).2.1;simp only at e;omega
   oow:=λo A=>by
     rcases ec.1 A with rfl|A
     · exact .inr ⟨_,ec.2 (.inl rfl),rfl,rfl⟩
     rcases a.oow o A with d|⟨l,c,d⟩
     · exact .inl d
     exact .inr ⟨l,ec.2 (.inr c),d⟩
   nd:=Z.nodup_iff.2 (List.nodup_cons.2 ⟨F,a.nd⟩)
   mem:=λb=>by
     rw[Z.mem_iff,List.mem_cons,a.mem b];show _↔q9 h.J (lB (VF p) h.H ⟨p,n,size⟩) b;unfold q9;constructor
     · rintro(rfl|d|⟨l,c,e⟩)
       · exact .inr ⟨_,ec.2 (.inl rfl),rfl⟩
       · exact .inl d
       exact .inr ⟨l,ec.2 (.inr c),e⟩
     rintro(d|⟨l,c,e⟩)
     · exact .inr (.inl d)
     rcases ec.1 c with rfl|c
     · exact .inl e
     exact .inr (.inr ⟨l,c,e⟩)}
structure JK(h h':ac):Prop where
 job:h'.a5=h.a5
 msh:h'.a2=h.a2
 sp:∀s∈h.J,ib h s.S=true->∃s'∈h'.J,s'.S=s.S/\∀u,meshable s u=true->meshable s' u=true
 ent:∀q:Nat,(nth (tbl h').M q).o≠0->((nth (tbl h).M q).o≠0/\(nth (tbl h').M q).j=(nth (tbl h).M q).j)\/∀u:Nat,(nth (tbl h').M u).o≠0->(nth (tbl h').M u).j=(nth (tbl h').M q).j->u=q
theorem JK.refl(h:ac):JK h h:=⟨rfl,rfl,ψ,ω⟩
variable{h':ac}
theorem JK.pg(k:JK h h')(p:Int):ib h' p=ib h p:=by grind [JK.job,JK.msh,ib]
theorem JK.trans{h1 h2:ac}(a:JK h h1)(b:JK h1 h2):JK h h2:=by
 refine⟨b.job.trans a.job,b.msh.trans a.msh,λs e f=>?_,λq c=>?_⟩
 ·grind [JK.sp,JK.pg]
 rcases b.ent q c with⟨d,g⟩|d
 all_goals grind [JK.ent]
theorem qW.keep(c:0<=p)(d:(nth (tbl h').M p.toNat).o≠0)(e:qW (tbl h) p)(k:JK h h'):qW (tbl h') p:=λq f g=>by
 rcases k.ent p.toNat d with⟨n,i⟩|a
 ·rcases k.ent q f with⟨j,l⟩|b
  ·exact e q j (by rw[<-l,g,i])
  grind
 grind
theorem bm.mapped(a:bm h E)(b:s∈h.J):0<=s.S/\s.S<(tbl h).M.length/\(nth (tbl h).M s.S.toNat).o≠0:=by
 have c:=(aO (a.L.sok s b)).1;have d:=a.pg.bnd _ (fx (la:=h.H) b);refine⟨c,d,(a.pg.own s.S.toNat ω).2 ?_⟩
 grind [fx]
theorem JI.keep(g:JI h)(j:bm h' E)(k:JK h h'):JI h':=by
 have d:h.a2=true->∃a∈h'.J,∃b∈h'.J,a.S=h.a5.d.b0/\b.S=h.a5.d.b2/\meshable a b=true:=λc=>by grind [JI.sp,JK.sp,lw,ib]
 refine⟨λc=>?_,λc=>?_,λc=>?_,λc=>?_⟩
 ·rw[k.msh]at c;rw[k.job];exact g.ph c
 ·grind [JK.msh,JK.job]
 ·rw[k.msh]at c
  obtain⟨a,l,b,n,o,p,i⟩:=d c;obtain⟨e,q,f⟩:=j.mapped l;rw[k.job];rw[o]at e f;exact(g.sk c).keep e f k
 rw[k.msh]at c;obtain⟨a,l,b,n,o,p,i⟩:=d c;obtain⟨e,q,f⟩:=j.mapped n;rw[k.job];rw[p]at e f;exact(g.sm c).keep e f k
theorem JK.less(h1:h'.a5=h.a5)(h2:h'.a2=h.a2)(a:h'.J=h.J)(b:∀q:Nat,(nth (tbl h').M q).o≠0->nth (tbl h').M q=nth (tbl h).M q):JK h h':=
 ⟨h1,h2,ψ,ψ⟩
theorem JK.eq(h1:h'.a5=h.a5)(h2:h'.a2=h.a2)(a:h'.J=h.J)(b:tbl h'=tbl h):JK h h':=.less h1 h2 a ψ
def JK.clrS{h:ac}{E:List Int}{a:Int}{i:Nat}(f:bm h E)(c:i<h.J.length)(d:gZ (nth h.J i) a):JK h (clrS h i a):=by
 refine⟨rfl,rfl,λs g _=>?_,λq k=>.inl ⟨k,rfl⟩⟩;obtain⟨j,l,rfl⟩:=bw g;by_cases e:j=i
 ·subst e
  have b:=f.L.sok _ (ax c);exact⟨_,kx _ c,rfl,λu n=>GW b (y4 b ⟨d.1,d.2.1⟩) n⟩
 exact⟨_,lP _ l e,rfl,λ_ z=>z⟩
theorem JK.giveP{h:ac}{E:List Int}{i:Nat}(a:bm h E)(b:i<h.J.length)(c:ib h (nth h.J i).S=false):JK h (giveP h i):=by
 obtain⟨d,e,-⟩:=a.mapped (ax b);refine⟨rfl,rfl,λs f g=>?_,λq k=>.inl ?_⟩
 ·obtain⟨j,l,rfl⟩:=bw f
  exact⟨_,gX.2 ψ,rfl,λ_ z=>z⟩
 have n:=DT a.ker (p:=(nth h.J i).S) ⟨d,e⟩ q;change (nth (cQ h.G (nth h.J i).S).F.Q.M q).o≠0 at k;show(nth h.G.F.Q.M q).o≠0/\(nth (cQ h.G (nth h.J i).S).F.Q.M q).j=(nth h.G.F.Q.M q).j
 grind
def JK.freeS{h:ac}{E:List Int}{a:Int}{i:Nat}(c:bm h (a::E))(b:i<h.J.length)(d:gZ (nth h.J i) a):JK h (freeS h i a):=by
 have g:=c.give b d;have f:=JK.clrS c b d;unfold Ab.freeS;split
 ·rename_i e
  have j:nth (Ab.clrS h i a).J i=nj (nth h.J i) (eG (nth h.J i) a):=by unfold Ab.clrS;simp only[cT,true_and];rw[CJ b]
  exact f.trans (JK.giveP (h:=Ab.clrS h i a) g (by unfold Ab.clrS;simp only[C3];exact b) (by rw[j];exact e.2))
 exact f
theorem JK.freeA{h:ac}{E:List Int}{a:Int}(b:bm h (a::E)):JK h (freeA h a):=by
 obtain⟨c,d,-⟩:=b.at (b.hin a ψ);exact JK.freeS b c d
def JK.recyc{h:ac}{E:List Int}{a:Int}{t:Nat}(b:bm h (a::E)):JK h (recyc t h a):=by
 unfold Ab.recyc;split
 ·exact JK.eq rfl rfl rfl rfl
 exact JK.freeA b
theorem JK.recycs{t:Nat}{E:List Int} : ∀{az:List Int}{h:ac},bm h (az++E)->t<h.R.length->JK h (recycs t h az)
 | [],h,_,_=>JK.refl h
 | a::az,h,b,c=>(JK.recyc (t:=t) b).trans (JK.recycs (az:=az) (h:=Ab.recyc t h a) (b.recyc c) (by grind [wb]))
def JK.freeAs{E:List Int} : ∀{az:List Int}{h:ac},bm h (az++E)->JK h (freeAs h az)
 | [],h,_=>JK.refl h
 | a::az,h,b=>(JK.freeA b).trans (JK.freeAs (az:=az) (h:=Ab.freeA h a) b.freeA)
theorem JK.flushN{t:Nat}{h:ac}(c:bm h [])(d:t<h.R.length):∀{k:Nat},k<=4->JK h (flushN t h k).1
 | 0,_=>JK.refl h
 | k+1,e=>by
  obtain⟨h1,f,-⟩:=lA c d (k:=k) ω;have a:t<(Ab.flushN t h k).1.R.length:=ω
  have b:k<(nth (Ab.flushN t h k).1.R t).W.length:=by grind [ee,bm.cach,ax]
  exact JK.trans (h1:=Ab.spilt (Ab.flushN t h k).1 t k) ((JK.flushN c d (k:=k) ω).trans (JK.eq rfl rfl rfl rfl)) (JK.freeAs (h1.spilt a b))
def HY(a:bm h E){k:Nat}(b:k<h.H.length):0<=(nth h.H k).S/\(nth h.H k).S+((nth h.H k).a0.toNat:Nat)<=(tbl h).M.length:=by
 have c:=bf (a.L.lok _ (ax b));have d:=a.pg.bnd _ (io (sp:=h.J) (ax b) (en.2 ⟨(nth h.H k).a0.toNat - 1,ω,rfl⟩));omega
theorem JK.freeL{h:ac}{E:List Int}{i k:Nat}(a:bm h E)(b:k<h.H.length):JK h (freeL h i k):=by
 obtain⟨c,d⟩:=HY a b;refine JK.less rfl rfl rfl λq e=>?_
 have f:=qC a.ker c (nth h.H k).a0.toNat d q;change (nth (dJ h.G (nth h.H k).S (nth h.H k).a0.toNat).F.Q.M q).o≠0 at e;show nth (dJ h.G (nth h.H k).S (nth h.H k).a0.toNat).F.Q.M q=nth h.G.F.Q.M q
 grind
theorem JK.freeOb{h:ac}{t i:Nat}(b:bm h [])(c:i<h.K.length)(d:t<h.R.length):JK h (freeOb h t i).1:=by
 unfold Ab.freeOb;split
 ·rename_i a
  obtain⟨l,e,h1,-⟩:=(eS b (ax c)).1 a
  grind [JK.freeL,wU]
 rename_i a;split
 ·exact JK.refl h
 have h1:=b.inQuar c a;exact JK.trans (h1:=Ab.inQuar h i) (JK.eq rfl rfl rfl rfl) (JK.recycs (E:=[]) ψ d)
theorem JK.take{k:Int}(a:ib h (nth h.J i).S=false):JK h {h with c1:=sd,J:=h.J.set i (uO (nth h.J i) k)}:=by
 refine⟨rfl,rfl,λs d b=>?_,λq c=>.inl ⟨c,rfl⟩⟩
 grind [bw,lP]
theorem H7{t:aM}{q:Nat}(h:(nth t.M q).o≠0):q<t.M.length:=by
 by_cases e:q<t.M.length
 ·exact e
 exfalso;apply h;unfold nth;rw[List.getD_eq_getElem?_getD,I4 ω]
 rfl
theorem JK.addS{h:ac}{k:af}{b:List aC}{p c:Int}(s:Bw h.G p (k,true)):JK h (addS h k b p c):=by
 obtain⟨f,g,i,j,l⟩:=s.yes rfl;have a:k.F.Q.M.length=h.G.F.Q.M.length:=s.len;refine⟨rfl,rfl,λz d _=>⟨z,ec.2 (.inr d),rfl,λ_ y=>y⟩,λq e=>?_⟩;change (nth k.F.Q.M q).o≠0 at e;show((nth h.G.F.Q.M q).o≠0/\(nth k.F.Q.M q).j=(nth h.G.F.Q.M q).j)\/∀u:Nat,(nth k.F.Q.M u).o≠0->(nth k.F.Q.M u).j=(nth k.F.Q.M q).j->u=q
 grind [H7]
theorem JK.addL{h:ac}{k:af}{d:List aC}{p size t:Int}{n:Nat}(s:iV h.G p n (k,n)):JK h (addL h k d p n size t):=by
 have a:k.F.Q.M.length=h.G.F.Q.M.length:=s.len;refine⟨rfl,rfl,λz f _=>⟨z,f,rfl,λ_ y=>y⟩,λq g=>?_⟩;change (nth k.F.Q.M q).o≠0 at g;show((nth h.G.F.Q.M q).o≠0/\(nth k.F.Q.M q).j=(nth h.G.F.Q.M q).j)\/∀u:Nat,(nth k.F.Q.M u).o≠0->(nth k.F.Q.M u).j=(nth k.F.Q.M q).j->u=q
 by_cases e:p<=q/\(q:Int)<p+n
 ·exact .inr λu c b=>(s.new q e.1 e.2).2 u (by rw[<-a];exact H7 c) c b
 have i:=s.out q e
 grind
theorem yV(h:ac):∀{n:Nat},n<=h.J.length->∀s∈kz h n,(aZ h s.S).length=1
 | 0,_,s,a=>by cases a
 | n+1,b,s,a=>by
  unfold kz at a;split at a
  ·rename_i e
   rcases v5.1 a with a|a
   ·exact yV h ω s a
   grind [vh]
  exact yV h ω s a
theorem bm.sole(b:bm h E)(c:s∈h.J)(h1:(aZ h s.S).length=1):qW (tbl h) s.S:=λq a d=>by
 obtain⟨g,i,e⟩:=b.mapped c;have f:s.S=((s.S.toNat:Nat):Int):=ω
 rw[f,gH (by show s.S.toNat<(tbl h).M.length;omega) e]at h1;obtain⟨z,j⟩:=List.length_eq_one_iff.1 h1;have k:(s.S.toNat:Int)∈pagesOn (tbl h) (nth (tbl h).M s.S.toNat).j:=fZ.2 ω;have l:(q:Int)∈pagesOn (tbl h) (nth (tbl h).M s.S.toNat).j:=fZ.2 ⟨H7 a,a,d⟩
 grind
def P1(hi:bm h [])(l:h.a2=false):bm (started h).1 []/\JI (started h).1:=by
 have F:=hi.nums;unfold cv at F;rw[C0]at F;have L:=(me (bI h).length (show 0<=h.c1/\h.c1<=1073741823 by omega) ((bI h).length - 1)).2;have n:=rJ (bI h) (show 0<=h.c1/\h.c1<=1073741823 by omega);have c:cv {h with c1:=(shuf (bI h).length h.c1).2} = true:=by
  unfold cv;rw[C0];unfold shuf;simp only;omega
 cases o:lG (bI h) h.c1 with
 | nil=>
  have f:Ab.started h=({h with c1:=(shuf (bI h).length h.c1).2},false):=by unfold Ab.started;rw[o]
  rw[f];exact⟨{hi with nums:=c},⟨λe=>by simp[l]at e,λe=>by simp[l]at e,λe=>by simp[l]at e,λe=>by simp[l]at e⟩⟩
 | cons q Q=>
  obtain⟨R,S,g⟩:=n q (by rw[o];exact O3 ..);have f:Ab.started h=({h with c1:=(shuf (bI h).length h.c1).2,a2:=true,a5:=Ae (eQ (nth (bI h) q.A.toNat) (nth (bI h) q.B.toNat))},true):=by unfold Ab.started;rw[o]
  rw[f];have d:∀s∈bI h,s∈h.J/\qW (tbl h) s.S:=λs M=>by
   have G:=List.mem_of_mem_take M;have H:=un h (z5 _) s G;exact⟨H,hi.sole H (yV h (z5 _) s G)⟩
  have j:=d _ (ax (xs:=bI h) (i:=q.A.toNat) ω);have k:=d _ (ax (xs:=bI h) (i:=q.B.toNat) ω);generalize nth (bI h) q.A.toNat=a at g j |-;generalize nth (bI h) q.B.toNat=b at g k |-;obtain⟨N,T,U⟩:=u9 g;have p:(eQ a b).b0=a.S/\(eQ a b).b2=b.S\/(eQ a b).b0=b.S/\(eQ a b).b2=a.S:=by
   unfold eQ;split
   ·exact .inr ⟨rfl,rfl⟩
   exact .inl ⟨rfl,rfl⟩
  have r:kN (Ae (eQ a b))=true:=gV.2 ⟨N,by show(0:Int)<=0;omega,by show(0:Int)<=5;omega,by show(0:Int)<=0;omega,by show(0:Int)<=(((eQ a b).U.length:Nat):Int);omega⟩;have t:∃x∈h.J,∃y∈h.J,x.S=(eQ a b).b0/\y.S=(eQ a b).b2/\meshable x y=true/\qW (tbl h) x.S/\qW (tbl h) y.S:=by
   rcases p with⟨u,w⟩|⟨u,w⟩
   ·exact⟨a,j.1,b,k.1,u.symm,w.symm,g,j.2,k.2⟩
   exact⟨b,k.1,a,j.1,u.symm,w.symm,by rw[lw];exact g,k.2,j.2⟩
  obtain⟨x,J,y,K,C,D,E,O,P⟩:=t;exact⟨{hi with nums:=c,job:=λ_=>⟨r,⟨x,J,C⟩,⟨y,K,D⟩⟩,noj:=λe=>by cases e},⟨λ_=>⟨by show(0:Int)<=0;omega,by show(0:Int)<=3;omega⟩,λ_=>⟨x,J,y,K,C,D,E⟩,λ_=>by show qW (tbl h) (eQ a b).b0;rw[<-C];exact O,λ_=>by show qW (tbl h) (eQ a b).b2;rw[<-D];exact P⟩⟩
def ed(m:aI)(f:Nat):aI:=⟨m.T.set f ((nth m.T f).drop 1),m.g.set (nth (nth m.T f) 0).To.toNat (nth m.g (nth (nth m.T f) 0).To.toNat++[(nth (nth m.T f) 0).Addr])⟩
def jP(m:aI)(t:Nat):aI:=⟨m.T,m.g.set t []⟩
def gz(m:aI)(f:Nat)(p:aX):aI:=⟨m.T.set f (nth m.T f++[p]),m.g⟩
theorem dH{m:aI} : bG m=true↔(1<=m.T.length/\m.T.length<=4/\m.g.length=m.T.length)/\(∀i,i<m.T.length->(∀p∈nth m.T i,0<=p.To/\p.To<=(m.T.length:Int) - 1/\0<=p.Addr)/\∀a∈nth m.g i,0<=a)/\bQ m m.T.length<=30:=by grind [cD,bG,jd,rT,VJ]
theorem sO(m:aI)(f t:Nat)(x:List aX)(y:List Int)(a:f<m.T.length)(b:t<m.g.length):∀n:Nat,bQ ⟨m.T.set f x,m.g.set t y⟩ n=bQ m n+(if f<n then(x.length:Int) - ((nth m.T f).length:Nat) else 0)+(if t<n then(y.length:Int) - ((nth m.g t).length:Nat) else 0)
 | 0=>by simp[bQ]
 | n+1=>by
  have c:=sO m f t x y a b n
  grind [cT,bQ]
theorem Qg[Inhabited α]{xs:List α}(h:i<xs.length):xs.set i (nth xs i)=xs:=by
 rw[<-C4.1 (ar h) |>.2]
 simp_all
theorem LP{m:aI}(h:bG m=true)(a:f<m.T.length)(b:0<(nth m.T f).length):bG (ed m f)=true:=by
 obtain⟨⟨e,g,j⟩,c,k⟩:=dH.1 h;obtain⟨d,l⟩:=c f a;have n:=d _ (ax b);have o:(nth (nth m.T f) 0).To.toNat<m.g.length:=ω
 refine dH.2 ⟨⟨?_,?_,?_⟩,λi p=>?_,?_⟩
 ·grind [ed]
 ·grind [ed]
 ·grind [ed]
 ·grind [cT,ed]
 grind [sO,ed]
theorem VR{m:aI}(h:bG m=true)(a:t<m.g.length):bG (jP m t)=true:=by
 obtain⟨⟨b,c,e⟩,f,g⟩:=dH.1 h;refine dH.2 ⟨⟨b,c,?_⟩,λi j=>?_,?_⟩
 ·grind [jP]
 ·grind [cT,jP]
 have d:=sO m t t (nth m.T t) [] ω a m.T.length;rw[Qg ω]at d;show bQ ⟨m.T,m.g.set t []⟩ m.T.length<=30
 grind
theorem qA{m:aI}(h:bG m=true)(b:Int):(aY m).count b=(m.T.flatMap λl=>l.map (·.Addr)).count b+(m.g.flatMap λx=>x).count b:=by grind [oe,aY]
theorem bm.mailed{c:List Int}{m:aI}(d:bm h E)(e:bG m=true)(f:m.T.length=h.e.T.length)(i:∀b,c.count b+(aY m).count b=E.count b+(aY h.e).count b)(j:∀a,a∈c\/a∈aY m->kM h.J a (-1)):bm {h with e:=m} c:=by
 have g:(E++holders h).Perm (c++holders {h with e:=m}):=by grind [holders,cM]
 exact {d with
   mail:=e
   nc:=d.nc.trans f.symm
   hfl:=(ψ)
   hin:=(ψ)
   nd:=g.nodup_iff.1 d.nd
   mem:=λb=>by grind [bm.mem]}
theorem NY{c:List Int}{m:aI}(e:bm h E)(d:∀b,c.count b+(aY m).count b=E.count b+(aY h.e).count b):∀a,a∈c\/a∈aY m->kM h.J a (-1):=λa f=>by
 have g:=d a
 grind [bm.hin,bm.hfl]
theorem bm.deliv(c:bm h E)(d:f<h.e.T.length)(a:0<(nth h.e.T f).length):bm {h with e:=ed h.e f} E:=by
 have e:=LP c.mail d a;obtain⟨⟨j,k,n⟩,g,o⟩:=dH.1 c.mail;have i:=(g f d).1 _ (ax a);have q:∀b,E.count b+(aY (ed h.e f)).count b=E.count b+(aY h.e).count b:=λb=>by
  rw[qA e,qA c.mail];have r:=kE (λl:List aX=>l.map (·.Addr)) b h.e.T f ((nth h.e.T f).drop 1) d;have t:=kE (λx:List Int=>x) b h.e.g (nth (nth h.e.T f) 0).To.toNat (nth h.e.g (nth (nth h.e.T f) 0).To.toNat++[(nth (nth h.e.T f) 0).Addr]) ω;have u:(nth h.e.T f).map (·.Addr)=(nth (nth h.e.T f) 0).Addr::((nth h.e.T f).drop 1).map (·.Addr):=by
   generalize nth h.e.T f=l at a
   match l,a with
   | p::l,_=>rfl
  grind [ed]
 grind [bm.mailed,NY,ed]
theorem bm.coll(a:bm h E)(e:t<h.e.g.length):bm {h with e:=jP h.e t} (nth h.e.g t++E):=by
 have c:=VR a.mail e;have d:∀b,(nth h.e.g t++E).count b+(aY (jP h.e t)).count b=E.count b+(aY h.e).count b:=λb=>by grind [qA,bm.mail,kE,jP]
 exact a.mailed c rfl d (NY a d)
theorem bm.send{p:aX}(c:bm h (p.Addr::E))(d:f<h.e.T.length)(a:bG (gz h.e f p)=true):bm {h with e:=gz h.e f p} E:=by
 have e:∀b,E.count b+(aY (gz h.e f p)).count b=(p.Addr::E).count b+(aY h.e).count b:=λb=>by
  rw[qA a,qA c.mail];have g:=kE (λl:List aX=>l.map (·.Addr)) b h.e.T f (nth h.e.T f++[p]) d
  grind [gz]
 grind [bm.mailed,NY,gz]
def rd(now:Int):List aJ->Nat
 | []=>0
 | x::xs=>if x.b7<now - 100 then rd now xs+1 else 0
def aged(h:ac)(n:Int):ac:={h with b1:=h.b1+n,a1:=⟨h.a1.c0,h.a1.q.drop (rd (h.b1+n) h.a1.q)⟩}
def ni(h:ac)(n:Int):List Int:=(h.a1.q.take (rd (h.b1+n) h.a1.q)).map (·.Addr)
def tick(h:ac)(n:Int):ac:=freeAs (aged h n) (ni h n)
def sJ(x:aJ)(xs:List aJ):∀n,quarCells (x::xs) (n+1)=csz x.Z+quarCells xs n
 | 0=>by simp only[quarCells];show 0+csz x.Z=csz x.Z+0;omega
 | n+1=>by
  rw[kq,sJ x xs n,kq];show csz x.Z+quarCells xs n+csz (nth xs n).Z=_;omega
theorem XH(k:Int):0<=csz k:=by grind [csz]
theorem Q0:∀(l:List aJ)(k:Nat),qc (l.drop k)<=qc l
 | [],k=>by simp
 | x::xs,0=>I9 _
 | x::xs,k+1=>by
  have a:=Q0 xs k;have b:=XH x.Z;have c:qc (x::xs)=csz x.Z+qc xs:=sJ x xs xs.length
  grind
theorem bm.aged{h:ac}{E:List Int}{n:Int}(a:bm h E)(t:0<=n)(u:h.b1+n<=1000000):bm (aged h n) (ni h n++E):=by
 obtain⟨i,j,k,o,p,q⟩:=jv.1 a.quar;have c:=a.nums;unfold cv at c;rw[C0]at c;have e:=List.drop_sublist (rd (h.b1+n) h.a1.q) h.a1.q;have g:(E++holders h).Perm ((ni h n++E)++holders (Ab.aged h n)):=by
  refine List.perm_iff_count.2 λb=>?_
  have r:=O1 (λl:List aJ=>(l.map (·.Addr)).count b) (List.take_append_drop (rd (h.b1+n) h.a1.q) h.a1.q);simp only[CB,SB]at r;simp only[holders,cM,Ab.aged,ni,SB];omega
 exact {a with
   nums:=by unfold cv;rw[C0];simp only[Ab.aged];omega
   quar:=jv.2 ⟨λy d=>i y (e.subset d),j.sublist e,k.sublist (e.map _),o,p,Int.le_trans (Q0 _ _) q⟩
   snc:=λy d=>by
     have:=a.snc y (e.subset d);show y.b7<=h.b1+n;omega
   hqu:=λy d=>a.hqu y (e.subset d)
   hin:=λb f=>by
     rcases v5.1 f with f|f
     · obtain⟨y,d,rfl⟩:=O8.1 f
       exact(a.hqu y ψ).any
     exact a.hin b f
   nd:=g.nodup_iff.1 a.nd
   mem:=λb=>by rw[<-g.mem_iff];exact a.mem b}
theorem bm.tick{h:ac}{n:Int}(a:bm h [])(b:0<=n)(c:h.b1+n<=1000000):bm (tick h n) []/\JK h (tick h n):=by
 have h1:=a.aged b c;exact⟨bm.freeAs h1,JK.trans (h1:=Ab.aged h n) (JK.eq rfl rfl rfl rfl) (JK.freeAs h1)⟩
def collect(h:ac)(t:Nat):ac:=recycs t {h with e:=jP h.e t} (nth h.e.g t)
theorem bm.collect{h:ac}{t:Nat}(b:bm h [])(a:t<h.R.length):bm (collect h t) []/\JK h (collect h t):=by
 have h1:=b.coll (t:=t) (by grind [dH,bm.mail,bm.nc]);exact⟨bm.recycs h1 a,JK.trans (h1:={h with e:=jP h.e t}) (JK.eq rfl rfl rfl rfl) (JK.recycs h1 a)⟩
def GF(h:ac)(t i:Nat):ac:={h with G:=fj h.G (nth h.K i).Addr (csz (aU (nth h.K i).y)).toNat,K:=dele h.K i,e:=gz h.e t ⟨(nth h.K i).w,(nth h.K i).Addr⟩}
def freeT(h:ac)(t i:Nat):ac × Int:=
 if aU (nth h.K i).y<0 then(freeL h i (wy h (nth h.K i).Addr),0)
 else if(ay (tbl h) ((nth h.K i).Addr / 16)).o=1 then(h,5)
 else if(nth h.K i).w=t then(Q7 h t i,0)
 else if bG (gz h.e t ⟨(nth h.K i).w,(nth h.K i).Addr⟩)=true then(GF h t i,0) else(h,5)
theorem yn(e:(nth h.K i).w=t):freeT h t i=freeOb h t i:=by grind [freeT,freeOb]
theorem bm.freeT{h:ac}{t i:Nat}(a:bm h [])(b:i<h.K.length)(c:t<h.R.length):bm (freeT h t i).1 []/\JK h (freeT h t i).1:=by
 by_cases e:(nth h.K i).w=t
 ·grind [yn,bm.freeOb,JK.freeOb]
 have d:=a.freeOb b c;have f:=JK.freeOb a b c;unfold Ab.freeOb at d f;unfold Ab.freeT;split
 ·grind
 rename_i g;rw[CI g]at d f;split
 ·grind
 split
 ·rename_i j
  obtain⟨⟨s,l,n,o⟩,u⟩:=(eS a (ax b)).2 g;have q:=a.dropO b (kM.any ⟨s,l,n,.inr o⟩);have r:=q.cells (k:=fj h.G (nth h.K i).Addr (csz (aU (nth h.K i).y)).toNat) (M0 a.ker _ _) rfl;exact⟨bm.send (p:=⟨(nth h.K i).w,(nth h.K i).Addr⟩) r (by grind [bm.nc]) j,JK.eq rfl rfl rfl rfl⟩
 grind [JK.refl]
def ja(k:af)(a v:Int):af:=setCell k (fQ k a) (a % 16) v
variable{a:Int}
def BO(h:aH k=true){v:Int}(b:(ay k.F.Q (a / 16)).o≠0)(c:0<=v/\v<=999):aH (ja k a v)=true:=by
 obtain⟨d,e,-⟩:=ly h b;exact vO h (f:=fQ k a) d e c
def bm.store{v:Int}(b:bm h [])(c:(ay h.G.F.Q (a / 16)).o≠0)(d:0<=v/\v<=999):bm {h with G:=ja h.G a v} []/\JK h {h with G:=ja h.G a v}:=
 ⟨b.cells (BO b.ker c d) rfl,JK.eq rfl rfl rfl rfl⟩
theorem Qa{k:Int} : ∀{l s s2 b:List Int}(n:Nat),(∀x∈s2,x∈s)->xI k s l=some b->∃c,xI k s2 (l.take n)=some c/\∀x∈c,x∈b
 | [],s,s2,b,n,h,e=>by grind [xI]
 | a::l,s,s2,b,0,h,e=>⟨s2,rfl,λx d=>(tZ (λ_ y=>y) e).1 x (h x d)⟩
 | a::l,s,s2,b,n+1,h,e=>by
  simp only[List.take_succ_cons,xI]at e |-;split at e
  ·rename_i g
   rw[CJ (show good k s2 a from⟨g.1,g.2.1,g.2.2.1,λx=>g.2.2.2 (h a x)⟩)];exact Qa (l:=l) (s:=s++[a]) (s2:=s2++[a]) n ψ e
  cases e
theorem M4:∀{a:List (List Int)}{k:Nat}{s s2:List Int}(i n:Nat),(∀x∈s2,x∈s)->(iZ k s a).isSome=true->(iZ k s2 (a.set i ((nth a i).take n))).isSome=true
 | [],_,_,_,_,_,_,_=>rfl
 | l::a,k,s,s2,i,n,h,e=>by
  simp only[iZ,gI]at e;split at e
  ·rename_i g
   cases b:xI k s l with
   | none=>grind
   | some j=>
    rw[b]at e;cases i with
    | zero=>
     obtain⟨c,d,f⟩:=Qa n h b
     grind [I3,yG,iZ,gI,nth]
    | succ i=>
     obtain⟨o,c,d,f⟩:=tZ h b;simp only[List.set_cons_succ,iZ,gI];rw[CJ g,d];exact M4 i n f e
  cases e
theorem P7{c:aB}(h:bE c=true)(k:Nat):bE (xM c k)=true:=by grind [M4,bE,xM]
def ov(b:Int):Nat->List Int
 | 0=>[]
 | j+1=>if bo b (j:Nat)=true then ov b j else ov b j++[((j:Nat):Int)]
theorem yx{b:Int} : ∀{n:Nat}{z:Int},z∈ov b n->0<=z/\z<n/\bo b z=false
 | 0,_,h=>by cases h
 | n+1,z,h=>by
  unfold ov at h;split at h
  ·have:=yx h;grind
  rename_i e;rcases v5.1 h with h|h
  ·have:=yx h;grind
  grind
theorem u7(b:Int):∀n,(ov b n).length<=n
 | 0=>z5 _
 | n+1=>by have:=u7 b n;grind [ov]
def rv(k b:Int):List Int:=if R9 k b=true then ov b (slots k).toNat else []
def iS(h:ac)(i:Nat):List Int:=rv (nth h.J i).Z (eH h i)
theorem wv{k b z:Int}(h:z∈rv k b):0<=z/\z<slots k/\bo b z=false:=by
 unfold rv at h;split at h
 ·have:=yx h;grind
 cases h
theorem Er(k b:Int):(rv k b).length<=16:=by grind [iv,u7,rv,R9]
def q7(h:ac)(i:Nat):Int:=nth (iS h i) (Ke h.c1 ((iS h i).length:Nat)).toNat
def slotT(h:ac)(i:Nat):ac:={h with c1:=EA h.c1,J:=h.J.set i (uO (nth h.J i) (q7 h i))}
def ta(h:ac)(i:Nat):Int:=16*(nth h.J i).S+q7 h i*csz (nth h.J i).Z
def yB(a:0<(iS h i).length):q7 h i∈iS h i:=by
 have:=tw h.c1 (n:=((iS h i).length:Nat)) ω;exact ax ω
def bm.slotT{h:ac}{E:List Int}{i:Nat}(a:bm h E)(b:i<h.J.length)(e:0<(iS h i).length):bm (slotT h i) (ta h i::E)/\kM (slotT h i).J (ta h i) (nth h.J i).Z:=by
 obtain⟨c,d,f⟩:=wv (yB e);exact⟨a.take b ⟨c,d⟩ f (JO _),(kM.setS a.L b ⟨c,d⟩ _ _).2 (.inr ⟨rfl,.inr rfl⟩)⟩
def sF(h:ac)(c:Int)(i:Nat):Bool:=decide ((nth h.J i).Z=c)&&(!ib h (nth h.J i).S&&decide (0<(iS h i).length))
def qG(h:ac)(c:Int):Option Nat:=(List.range h.J.length).find? (sF h c)
def sC(h:ac)(c:Int):ac:=addS h (dY h.G (aD h.b 1).2.1).1 (aD h.b 1).1 (aD h.b 1).2.1 c
def rp(h:ac):Nat:=mh (Kf (aD h.b 1).2.1) h.J
def mW(h:ac)(i:Nat):ac × Int:=if(iS h i).length=0 then(h,-1) else(slotT h i,ta h i)
def f7(h:ac)(t c:Nat):ac × Int:=
 if 0<(nth (nth h.R t).W c).length then({h with R:=h.R.set t (xM (nth h.R t) c)},nth (nth (nth h.R t).W c) ((nth (nth h.R t).W c).length - 1))
 else match qG h c with
 | some i=>(slotT h i,ta h i)
 | none=>if(aD h.b 1).2.2=false then(h,-1)
  else if(dY h.G (aD h.b 1).2.1).2=false then({h with G:=(dY h.G (aD h.b 1).2.1).1},-1)
  else mW (sC h c) (rp h)
theorem Qv[Inhabited α](p:α->Bool)(xs:List α)(y:α):mh p xs<(lB p xs y).length/\nth (lB p xs y) (mh p xs)=y:=by
 have a:=Xg p xs;have b:(xs.take (mh p xs)).length=mh p xs:=ψ
 refine⟨by grind [List.Perm.length_eq,n6,List.length_cons],bB ?_⟩
 grind [lB]
theorem bm.tEq{h:ac}{E:List Int}(a:bm h E){k:af}(c:aH k=true)(b:tEq (tbl h) k.F.Q):bm {h with G:=k} E/\JK h {h with G:=k}:=
 ⟨a.step (j:=h.a5) (m:=h.a2) c b.1 (a.pg.tEq b) a.job a.noj,⟨rfl,rfl,ψ,λq d=>.inl ⟨(b.2 q).1.1 d,(b.2 q).2⟩⟩⟩
structure XG(h:ac)(c:Int)(r:ac × Int):Prop where
 no:r.2<0->bm r.1 []
 yes:0<=r.2->bm r.1 [r.2]/\kM r.1.J r.2 c
 jk:JK h r.1
 nx:r.1.k=h.k
 cl:r.1.R.length=h.R.length
def kM.nn(b:bm h E){c:Int}(d:kM h.J a c):0<=a:=(kM.bd b d).1
theorem XG.slot{c:Int}(b:bm h' [])(d:i<h'.J.length)(e:0<(iS h' i).length)(l:(nth h'.J i).Z=c)(f:JK h h')(a:ib h' (nth h'.J i).S=false)(h1:h'.k=h.k)(h2:h'.R.length=h.R.length):XG h c (slotT h' i,ta h' i):=by
 obtain⟨g,j⟩:=b.slotT d e;have k:=kM.nn g j;exact⟨ω,ψ,f.trans (JK.take a),h1,h2⟩
theorem uk{c:Nat}(a:bm h [])(l:t<h.R.length)(J:c<=3)(r:h.G.Calls<=90000):XG h c (f7 h t c):=by
 have f:=a.cach _ (ax l);have u:=tQ f;unfold f7;split
 ·rename_i w
  obtain⟨d,b⟩:=a.pop l ω w (P7 f c);have A:=kM.nn a b;exact⟨ω,λ_=>⟨d,b⟩,JK.eq rfl rfl rfl rfl,rfl,C3 ..⟩
 split
 ·rename_i i n
  have K:=List.find?_some n;have L:=List.mem_range.1 (List.mem_of_find?_eq_some n)
  grind [XG.slot,JK.refl,sF]
 split
 ·exact⟨λ_=>a,ω,JK.refl h,rfl,rfl⟩
 rename_i B;have g:(aD h.b 1).2.2=true:=by simpa using B
 obtain⟨C,D,E,o⟩:=lM a (I9 1) g;have s:=Bw.of (p:=(aD h.b 1).2.1) a.ker ω ⟨C,by have:(aD h.b 1).2.1+1<=(h.G.F.Q.M.length:Nat):=D;omega⟩ (E _ ω ω);split
 ·rename_i k
  rw[s.no k];obtain⟨d,b⟩:=a.tEq (qv a.ker ω) (tEq.refl _);exact⟨λ_=>d,ω,b,rfl,rfl⟩
 rename_i k;have F:(dY h.G (aD h.b 1).2.1).2=true:=by simpa using k
 have q:Bw h.G (aD h.b 1).2.1 ((dY h.G (aD h.b 1).2.1).1,true):=ψ
 have d:=a.addS (c:=c) ω g q;have b:JK h (sC h c):=JK.addS q;obtain⟨G,H⟩:=Qv (Kf (aD h.b 1).2.1) h.J ⟨(aD h.b 1).2.1,c,0⟩;unfold mW;split
 ·exact⟨λ_=>d,ω,b,rfl,rfl⟩
 refine XG.slot (h':=sC h c) (i:=rp h) d G ω (by show(nth (lB (Kf (aD h.b 1).2.1) h.J ⟨(aD h.b 1).2.1,c,0⟩) (rp h)).Z=_;grind [rp]) b ?_ rfl rfl;show ib (sC h c) (nth (lB (Kf (aD h.b 1).2.1) h.J ⟨(aD h.b 1).2.1,c,0⟩) (rp h)).S=false;unfold rp;rw[H,b.pg];rw[<-IA];intro j;unfold ib at j;simp only[I0,IC,C0]at j;obtain⟨-,⟨y,M,N⟩,⟨z,O,P⟩⟩:=a.job j.1;rcases j.2 with e|e
 ·exact o _ (I9 _) ω (by grind [fx])
 exact o _ (I9 _) ω (by grind [fx])
def nB(size:Int):Nat:=((size+15) / 16).toNat
def k6(h:ac)(size:Int):af × Nat:=bL h.G (aD h.b (nB size:Nat)).2.1 (nB size)
def vK(h:ac)(t size:Int):ac × Int × Int:=
 if(aD h.b (nB size:Nat)).2.2=false then(h,-1,4)
 else if(k6 h size).2=nB size then(addL h (k6 h size).1 (aD h.b (nB size:Nat)).1 (aD h.b (nB size:Nat)).2.1 (nB size:Nat) size t,16*(aD h.b (nB size:Nat)).2.1,0)
 else({h with G:=dJ (k6 h size).1 (aD h.b (nB size:Nat)).2.1 (k6 h size).2},-1,4)
def wc(xs:List aW):Nat->Int
 | 0=>0
 | i+1=>wc xs i+(nth xs i).y
def qI(h:ac):Int:=wc h.K h.K.length
def fA(h:ac)(t size:Int):ac × Int × Int:=
 if 1000000<=h.k\/90000<h.G.Calls then(h,-1,5)
 else if ¬(0<=t/\t<=h.R.length - 1) then(h,-1,1)
 else if ¬(1<=size/\size<=1000) then(h,-1,2)
 else if h.c2<qI h+size then(h,-1,3)
 else if 0<=aU size then(if(f7 h t.toNat (aU size).toNat).2<0 then((f7 h t.toNat (aU size).toNat).1,-1,4) else(addO (f7 h t.toNat (aU size).toNat).1 (f7 h t.toNat (aU size).toNat).2 size t,(f7 h t.toNat (aU size).toNat).2,0))
 else vK h t size
variable{size:Int}
theorem RD{t:Int}(a:bm h [])(l:9<=size/\size<=1000)(o:h.k<1000000)(f:h.G.Calls<=90000)(q:0<=t/\t<=h.R.length - 1):bm (vK h t size).1 []/\JK h (vK h t size).1:=by
 have r:(nB size:Int)=(size+15) / 16:=by unfold nB;omega
 unfold vK;split
 ·grind [JK.refl]
 rename_i g;have b:(aD h.b (nB size:Nat)).2.2=true:=by simpa using g
 obtain⟨c,d,e,u⟩:=lM a ω b;have s:=iV.of (p:=(aD h.b (nB size:Nat)).2.1) (n:=nB size) a.ker ω ⟨c,d⟩ e (nB size) (z5 _);split
 ·rename_i i
  have w:iV h.G (aD h.b (nB size:Nat)).2.1 (nB size) ((k6 h size).1,nB size):=by
   have:((k6 h size).1,nB size)=k6 h size:=by rw[<-i]
   rw[this];exact s
  grind [bm.addL,JK.addL]
 obtain⟨j,k⟩:=s.undo a.ker ⟨c,d⟩ e;exact a.tEq j k
theorem Tp{t:Int}(a:bm h []):bm (fA h t size).1 []/\JK h (fA h t size).1:=by
 unfold fA;split
 ·grind [JK.refl]
 rename_i b;rw[not_or]at b;split
 ·grind [JK.refl]
 rename_i i;split
 ·grind [JK.refl]
 rename_i j;split
 ·grind [JK.refl]
 split
 ·rename_i k
  have d:aU size<=3:=by grind [aU]
  have s:=uk (t:=t.toNat) (c:=(aU size).toNat) a ω ω ω;generalize f7 h t.toNat (aU size).toNat=r at s;split
  ·grind [XG.no,XG.jk]
  rename_i e;obtain⟨f,g⟩:=s.yes ω;refine⟨f.addO (.inl ?_) (by rw[s.nx];omega) (by rw[s.cl];omega),s.jk.trans (JK.eq rfl rfl rfl rfl)⟩;obtain⟨z,l,n,o⟩:=g
  grind
 grind [RD,aU]
def rC{β:Type}[Inhabited α]{f:α->β}{xs:List α}{y:α}(a:i<xs.length)(e:f y=f (nth xs i)):(xs.set i y).map f=xs.map f:=by
 rw[CC];refine List.ext_getElem (by simp) λj b c=>?_
 rw[List.getElem_set];split
 ·rename_i g;subst g
  rw[List.getElem_map,e,bB (z4 a)]
 rfl
theorem sv{α β:Type}[Inhabited α](f:α->List β):∀(xs:List α)(i:Nat)(y:α),i<xs.length->(f y).Sublist (f (nth xs i))->((xs.set i y).flatMap f).Sublist (xs.flatMap f)
 | [],_,_,h,_=>absurd h (Nat.not_lt_zero _)
 | x::xs,0,y,_,a=>by
  rw[List.set_cons_zero,ID,ID];exact List.Sublist.append a ψ
 | x::xs,i+1,y,h,a=>by
  rw[List.set_cons_succ,ID,ID];exact List.Sublist.append ψ (sv f xs i y (by simpa using h) a)
def zK(k:af)(a:Int):Nat->af
 | 0=>k
 | m+1=>ja (zK k a m) (a+m) 0
theorem y5(k:af)(a:Int):∀m,(zK k a m).F.Q=k.F.Q/\(zK k a m).Calls=k.Calls/\(zK k a m).a=k.a
 | 0=>⟨rfl,rfl,rfl⟩
 | m+1=>y5 k a m
theorem X2{k:af}(h:aH k=true){a:Int} : ∀{m:Nat},(∀j:Nat,j<m->(ay k.F.Q ((a+j) / 16)).o≠0)->aH (zK k a m)=true
 | 0,_=>h
 | m+1,b=>BO (X2 h ψ) (by grind [y5]) ω
theorem Ni(f:bm h E){o:List aC}(w:p+n<=h.G.F.Q.M.length)(G:sp.Sublist h.J)(H:∀l∈la,∀q∈lpgs l l.a0.toNat,∃t∈h.H,q∈lpgs t t.a0.toNat)(J:0<=p)(y:∀q,q∈pgs sp la↔q∈pgs h.J h.H/\¬(p<=q/\q<p+n))(K:∀q,RH o q↔RH h.b q\/(p<=q/\q<p+n)) :
  Pg (dJ h.G p n).F.Q o sp la:=by
 have b:=(ip h.G p n).1;have d:=qC f.ker J n w;have g:∀q:Nat,(q:Int)∈pgs sp la->nth (dJ h.G p n).F.Q.M q=nth (tbl h).M q:=λq c=>by rw[d,CI ((y q).1 c).2];rfl
 have a:∀q:Nat,(nth (dJ h.G p n).F.Q.M q).o≠0↔(nth (tbl h).M q).o≠0/\¬(p<=q/\(q:Int)<p+n):=λq=>by
  rw[d];by_cases e:p<=q/\(q:Int)<p+n
  ·grind
  rw[CI e];exact⟨λx=>⟨x,e⟩,λx=>x.1⟩
 refine⟨λl i q c r D A j=>?_,λq c=>?_,λq c=>?_,λq c=>?_,λs i u N M O=>?_⟩
 ·have k:=(a r).1 A
  rw[b]at D;rw[g q (io i c),d,CI k.2]at j;obtain⟨t,B,C⟩:=H l i _ c;exact f.pg.one t B q C r D k.1 j
 ·rw[b];exact f.pg.bnd q ((y q).1 c).1
 ·rw[b]at c
  rw[a,y,f.pg.own q c]
 ·rw[b]at c
  rw[a,K,f.pg.fre q c]
  grind
 have F:∀s∈sp,0<=s.S:=λs i=>(aO (f.L.sok s (G.subset i))).1
 grind [fx,Pg.mesh,bm.pg]
def trimL(l:a8)(size:Int):a8:=⟨l.S,(size+15) / 16,size⟩
def dE(l:a8)(size:Int):Nat:=(l.a0 - (size+15) / 16).toNat
def bm.trimL{h:ac}{E:List Int}{i k:Nat}{size:Int}(t:bm h E)(T:i<h.K.length)(H:k<h.H.length)(Y:(nth h.K i).Addr=16*(nth h.H k).S)(N:9<=size/\size<=(nth h.H k).y) :
  ∃o,(dE (nth h.H k) size=0->o=h.b)/\(0<dE (nth h.H k) size->cr (fT h) h.b ⟨(nth h.H k).S+(size+15) / 16,(dE (nth h.H k) size:Nat)⟩ = some o)/\
   bm {h with G:=dJ h.G ((nth h.H k).S+(size+15) / 16) (dE (nth h.H k) size),H:=h.H.set k (trimL (nth h.H k) size),K:=h.K.set i {nth h.K i with y:=size},b:=o} E:=by
 have U:=t.L;have C:=U.lok _ (ax H);have hf:=bf C;unfold cq at C;rw[C0]at C;obtain⟨b1,b2⟩:=HY t H;have O:=U.dis;have G:=λj n=>U.one j k n H
 have y:=(ax H:nth h.H k∈h.H)
 have d:∀z∈h.H.set k (Ab.trimL (nth h.H k) size),z=Ab.trimL (nth h.H k) size\/∃j,j<h.H.length/\j≠k/\nth h.H j=z:=λz N=>jW N
 have p:Ab.trimL (nth h.H k) size∈h.H.set k (Ab.trimL (nth h.H k) size):=kx _ H;have u:∀j,j<h.H.length->j≠k->nth h.H j∈h.H.set k (Ab.trimL (nth h.H k) size):=λj n e=>lP _ n e
 have hpageM:(h.H.set k (Ab.trimL (nth h.H k) size)).map (·.S)=h.H.map (·.S):=rC H rfl;have w:(pgs h.J (h.H.set k (Ab.trimL (nth h.H k) size))).Sublist (pgs h.J h.H):=by
  unfold pgs;refine List.Sublist.append (List.Sublist.refl _) (sv _ _ _ _ H ?_);unfold lpgs;exact(List.range_sublist.2 (by simp only[Ab.trimL];omega)).map _
 obtain⟨l,V⟩ : ∃l,nth h.H k=l:=⟨_,rfl⟩
 rw[V]at C hf b1 b2 G y d p u hpageM w Y N |-;generalize hla:h.H.set k (Ab.trimL l size)=la at d p u hpageM w |-;have hn1:(1:Int)<=(size+15) / 16/\(size+15) / 16+(dE l size:Nat)=l.a0:=by unfold dE;omega
 have D:∀q,q∈lpgs l l.a0.toNat↔l.S<=q/\q<l.S+l.a0:=λq=>by
  rw[en];constructor
  ·rintro⟨j,n,rfl⟩;omega
  rintro⟨Z,q2⟩;exact⟨(q - l.S).toNat,ω,ω⟩
 have J:∀q,q∈lpgs (Ab.trimL l size) (Ab.trimL l size).a0.toNat↔l.S<=q/\q<l.S+(size+15) / 16:=λq=>by
  rw[en];simp only[Ab.trimL];constructor
  ·rintro⟨j,n,rfl⟩;omega
  rintro⟨Z,q2⟩;exact⟨(q - l.S).toNat,ω,ω⟩
 have hpe:l.S+(size+15) / 16+(dE l size:Nat)=l.S+l.a0:=ω
 have P:∀q,q∈pgs h.J la↔q∈pgs h.J h.H/\¬(l.S+(size+15) / 16<=q/\q<l.S+(size+15) / 16+(dE l size:Nat)):=λq=>by
  rw[ur,ur,hpe];constructor
  ·rintro(⟨s,W,rfl⟩|⟨z,c,B⟩)
   ·exact⟨.inl ⟨s,W,rfl⟩,λe=>O s W l y (s.S - l.S).toNat ω ω⟩
   rcases d z c with rfl|⟨j,n,hjk,rfl⟩
   ·have:=(J q).1 B
    exact⟨.inr ⟨l,y,(D q).2 ⟨ω,ω⟩⟩,ω⟩
   refine⟨.inr ⟨_,ax n,B⟩,λe=>?_⟩;obtain⟨m,hm,rfl⟩:=en.1 B;exact hjk (G j n m ((nth h.H j).S+(m:Int) - l.S).toNat hm ω ω)
  rintro⟨⟨s,W,rfl⟩|⟨z,c,B⟩,hne⟩
  ·exact .inl ⟨s,W,rfl⟩
  obtain⟨j,n,rfl⟩:=bw c;by_cases e:j=k
  ·subst e
   rw[V]at B;have:=(D q).1 B;exact .inr ⟨_,p,(J q).2 ⟨ω,ω⟩⟩
  exact .inr ⟨_,u j n e,B⟩
 have K:∃o,(dE l size=0->o=h.b)/\(0<dE l size->cr (fT h) h.b ⟨l.S+(size+15) / 16,(dE l size:Nat)⟩ = some o)/\bN (fT h) o=true/\∀q,RH o q↔RH h.b q\/(l.S+(size+15) / 16<=q/\q<l.S+(size+15) / 16+(dE l size:Nat)):=by
  by_cases e:dE l size=0
  ·refine⟨h.b,λ_=>rfl,λg=>absurd g ω,t.rng,λq=>⟨.inl,λg=>g.resolve_right ω⟩⟩
  obtain⟨o,o1,o2,o3⟩:=zC (r:=⟨l.S+(size+15) / 16,(dE l size:Nat)⟩) t.rng ⟨by simp only;omega,by simp only;omega,by show l.S+(size+15) / 16+(dE l size:Nat)<=(fT h:Int);have:((tbl h).M.length:Int)=(fT h:Int):=rfl;omega⟩ λq Z q2=>by
   simp only at Z q2;obtain⟨m,rfl⟩:=t5 (show 0<=q by omega);have Q:m<(tbl h).M.length:=ω
   exact(t.pg.fre m Q).1 ((t.pg.own m Q).2 (io y ((D _).2 ⟨ω,ω⟩)))
  exact⟨o,λg=>absurd g e,λ_=>o1,o2,o3⟩
 obtain⟨o,o0,o1,o2,o3⟩:=K;have R:=(ip h.G (l.S+(size+15) / 16) (dE l size)).1;have M:∀z∈h.K.set i {nth h.K i with y:=size},z = {nth h.K i with y:=size}\/∃j,j<h.K.length/\j≠i/\nth h.K j=z:=λz N=>jW N
 have F:(h.K.set i {nth h.K i with y:=size}).map (·.Addr)=h.K.map (·.Addr):=rC T rfl;have S:(h.K.set i {nth h.K i with y:=size}).map (·.Id)=h.K.map (·.Id):=rC T rfl;have hli:=(ax T:nth h.K i∈h.K)
 generalize h.K.set i {nth h.K i with y:=size} = ob at M F S |-;refine⟨o,o0,o1,{t with
   ker:=kK t.ker _ _
   rng:=by show bN (((dJ h.G (l.S+(size+15) / 16) (dE l size)).F.Q.M.length:Nat):Int) o=true;rw[R];exact o2
   lay:=?_
   srl:=?_
   pg:=Ni t (by have:((tbl h).M.length:Int)=(h.G.F.Q.M.length:Int):=rfl;omega) (List.Sublist.refl _) (λz c q B=>?_) ω P o3
   osr:=?_
   onu:=λz c=>?_
   oid:=by show(ob.map (·.Id)).Nodup;rw[S];exact t.oid
   oow:=λz c=>?_
   nd:=?_
   mem:=λb=>?_}⟩
 ·obtain⟨l1,l2,l3⟩:=gf t.lay
  unfold bD;simp only[I0,C0];refine⟨⟨l1,O7.2 λz c=>?_⟩,l3.sublist w⟩;rcases d z c with rfl|⟨j,n,-,rfl⟩
  ·exact O0 ⟨N.1,by show size<=1000;omega,rfl,by show 0<=l.S;omega,by show l.S<=32 - (size+15) / 16;omega⟩
  exact U.lok _ (ax n)
 ·have A:(h.H.map (·.S)).Pairwise (λa b=>a<b):=List.pairwise_map.2 t.srl
  rw[<-hpageM]at A;exact List.pairwise_map.1 A
 ·rcases d z c with rfl|⟨j,n,-,rfl⟩
  ·have:=(J q).1 B
   exact⟨l,y,(D q).2 ⟨ω,ω⟩⟩
  exact⟨_,ax n,B⟩
 ·have A:(h.K.map (·.Addr)).Pairwise (λa b=>a<b):=List.pairwise_map.2 t.osr
  rw[<-F]at A;exact List.pairwise_map.1 A
 ·rcases M z c with rfl|⟨j,n,-,rfl⟩
  ·exact t.onu (nth h.K i) hli
  exact t.onu _ (ax n)
 ·rcases M z c with rfl|⟨j,n,hji,rfl⟩
  ·exact .inr ⟨_,p,Y,rfl⟩
  rcases t.oow _ (ax n) with A|⟨l',hl',e1,X⟩
  ·exact .inl A
  obtain⟨m,hm,rfl⟩:=bw hl';by_cases e:m=k
  ·subst e
   rw[V]at e1;exact absurd (i6 (f:=(·.Addr)) (iu t.osr) n T (e1.trans Y.symm)) hji
  exact .inr ⟨_,u m hm e,e1,X⟩
 ·have hh:holders {h with G:=dJ h.G (l.S+(size+15) / 16) (dE l size),H:=la,K:=ob,b:=o} = holders h:=by
   show((ob.map (·.Addr)++cM h)++h.a1.q.map (·.Addr))++aY h.e=_;rw[F];rfl
  rw[hh];exact t.nd
 have hh:holders {h with G:=dJ h.G (l.S+(size+15) / 16) (dE l size),H:=la,K:=ob,b:=o} = holders h:=by
  show((ob.map (·.Addr)++cM h)++h.a1.q.map (·.Addr))++aY h.e=_;rw[F];rfl
 rw[hh,t.mem b];show q9 h.J h.H b↔q9 h.J la b;unfold q9;constructor
 ·rintro(A|⟨z,c,e⟩)
  ·exact .inl A
  obtain⟨j,n,rfl⟩:=bw c;by_cases X:j=k
  ·subst X
   rw[V]at e;exact .inr ⟨_,p,e⟩
  exact .inr ⟨_,u j n X,e⟩
 rintro(A|⟨z,c,e⟩)
 ·exact .inl A
 rcases d z c with rfl|⟨j,n,-,rfl⟩
 ·exact .inr ⟨l,y,e⟩
 exact .inr ⟨_,ax n,e⟩
def sA(h:ac)(k:Nat)(size:Int):af:=zK h.G (16*(nth h.H k).S+size) (16*((size+15) / 16) - size).toNat
def zn(h:ac)(k:Nat)(size:Int):List aC:=if 0<dE (nth h.H k) size then(cr (fT h) h.b ⟨(nth h.H k).S+(size+15) / 16,(dE (nth h.H k) size:Nat)⟩).getD h.b else h.b
def trimH(h:ac)(i k:Nat)(size:Int):ac:={h with G:=dJ (sA h k size) ((nth h.H k).S+(size+15) / 16) (dE (nth h.H k) size),H:=h.H.set k (trimL (nth h.H k) size),K:=h.K.set i {nth h.K i with y:=size},b:=zn h k size}
theorem oN(b:bm h E){k:Nat}(c:k<h.H.length)(g:16*(nth h.H k).S<=a/\a<16*(nth h.H k).S+16*(nth h.H k).a0):(ay h.G.F.Q (a / 16)).o≠0:=by
 obtain⟨i,j⟩:=HY b c;have l:=bf (b.L.lok _ (ax c));have d:(a / 16)∈pgs h.J h.H:=io (ax c) (en.2 ⟨(a / 16 - (nth h.H k).S).toNat,ω,ω⟩);have e:=b.pg.bnd _ d;have f:=(b.pg.own (a / 16).toNat ω).2 ψ;unfold ay;rw[CJ ⟨ω,e⟩];exact f
theorem DP(a:bm h E){k:Nat}(b:k<h.H.length)(d:9<=size/\size<=(nth h.H k).y):∀{m:Nat},m<=(16*((size+15) / 16) - size).toNat->aH (zK h.G (16*(nth h.H k).S+size) m)=true:=fun {m} hm=>by
 have c:=a.L.lok _ (ax b)
 grind [X2,bm.ker,oN,cq]
theorem bm.trimH{h:ac}{i k:Nat}{size:Int}(b:bm h [])(n:i<h.K.length)(c:k<h.H.length)(r:(nth h.K i).Addr=16*(nth h.H k).S)(e:9<=size/\size<=(nth h.H k).y):bm (trimH h i k size) []/\JK h (trimH h i k size):=by
 have f:=DP b c e (z5 _);have g:=(y5 h.G (16*(nth h.H k).S+size) (16*((size+15) / 16) - size).toNat).1;have t:=b.cells f g;obtain⟨o,u,w,j⟩:=t.trimL (i:=i) (k:=k) (size:=size) n c r e;simp only at u w j;have y:fT {h with G:=zK h.G (16*(nth h.H k).S+size) (16*((size+15) / 16) - size).toNat} = fT h:=by grind [fT]
 have A:zn h k size=o:=by grind [zn]
 have B:Ab.trimH h i k size = {h with G:=dJ (sA h k size) ((nth h.H k).S+(size+15) / 16) (dE (nth h.H k) size),H:=h.H.set k (Ab.trimL (nth h.H k) size),K:=h.K.set i {nth h.K i with y:=size},b:=o}:=by unfold Ab.trimH;rw[A]
 refine⟨by rw[B];exact j,JK.less rfl rfl rfl λq C=>?_⟩;have a:=b.L.lok _ (ax c);unfold cq at a;rw[C0]at a;obtain⟨D,E⟩:=HY b c;have d:(sA h k size).F.Q=h.G.F.Q:=g;have l:=qC (k:=sA h k size) f (p:=(nth h.H k).S+(size+15) / 16) ω (dE (nth h.H k) size) (by rw[d];have:((tbl h).M.length:Int)=(h.G.F.Q.M.length:Int):=rfl;unfold dE;omega) q;change (nth (dJ (sA h k size) ((nth h.H k).S+(size+15) / 16) (dE (nth h.H k) size)).F.Q.M q).o≠0 at C;show nth (dJ (sA h k size) ((nth h.H k).S+(size+15) / 16) (dE (nth h.H k) size)).F.Q.M q=nth h.G.F.Q.M q
 grind
theorem ND(e:1<=t/\t<=4):bG (fp t)=true:=by
 have f:∀n,n<=t->bQ (fp t) n=0:=λn=>by
  induction n with
  | zero=>intro _;rfl
  | succ n g=>
   intro h;have b:nth (fp t).T n=[]:=fX ω;have c:nth (fp t).g n=[]:=fX ω
   grind [bQ]
 have d:(fp t).T.length=t:=O6 ..;refine dH.2 ⟨⟨ω,ω,by simp[fp]⟩,λi a=>?_,ψ⟩;rw[d]at a;have b:nth (fp t).T i=[]:=fX a;have c:nth (fp t).g i=[]:=fX a
 grind
theorem zJ(t:Nat):aY (fp t)=[]:=by
 unfold aY;split
 ·simp[fp]
 rfl
def wt(k:af)(t:Nat)(sd ck lim:Int):ac:=⟨k,[⟨0,(k.F.Q.M.length:Nat)⟩],[],[],[],List.replicate t gg,fp t,⟨16,[]⟩,sd,ck,lim,1,false,⟨⟨0,0,[]⟩,0,0⟩⟩
def M2:bE gg=true:=by decide
theorem bm.fresh{lim ck:Int}(w:aH k=true)(A:∀q,q<k.F.Q.M.length->(nth k.F.Q.M q).o=0)(C:1<=t/\t<=4)(f:0<=lim/\lim<=1000)(g:0<=sd/\sd<=1073741823)(b:0<=ck/\ck<=1000000):bm (wt k t sd ck lim) []:=by
 obtain⟨F,G,H⟩:=bz.1 (aF.1 w).2.2.1;have hca:cM (wt k t sd ck lim)=[]:=by
  unfold cM;refine List.flatMap_eq_nil_iff.2 λc b=>?_
  rw[(List.mem_replicate.1 b).2]
  rfl
 have J:holders (wt k t sd ck lim)=[]:=by
  unfold holders;rw[hca];show(([]++[])++[])++aY (fp t)=[]
  grind [zJ]
 have D:∀a,¬q9 (wt k t sd ck lim).J (wt k t sd ck lim).H a:=λa=>by
  rintro(⟨s,g,-⟩|⟨l,f,-⟩)
  ·cases g
  cases f
 exact {
   ker:=w
   rng:=ij.2 ⟨⟨List.pairwise_singleton ..,λy h=>by rw[z3.1 h];grind⟩,λy h=>by
       rw[z3.1 h];refine⟨I9 _,ψ,?_⟩;show(0:Int)+(k.F.Q.M.length:Nat)<=(k.F.Q.M.length:Nat);omega,by show(1:Int)<=(k.F.Q.M.length:Nat);omega,by show((k.F.Q.M.length:Nat):Int)<=32;omega⟩
   lay:=by show bD [] []=true;decide
   srs:=List.Pairwise.nil
   srl:=List.Pairwise.nil
   pg:=⟨λl f=>(by cases f),λp d=>(by cases d),λp d=>⟨λe=>absurd (A p d) e,λe=>by cases e⟩,λp d=>⟨λe=>absurd (A p d) e,λe=>absurd ⟨_,z3.2 rfl,ψ,by
       show(p:Int)<0+(k.F.Q.M.length:Nat);have E:p<k.F.Q.M.length:=d;omega⟩ e⟩,λs g=>by cases g⟩
   mail:=ND C
   nc:=by show(List.replicate t gg).length=(List.replicate t _).length;simp
   quar:=by show hB ⟨16,[]⟩ = true;decide
   snc:=λx i=>by cases i
   cach:=λc b=>by rw[(List.mem_replicate.1 b).2];exact M2
   nums:=by grind [cv,wt]
   osr:=List.Pairwise.nil
   onu:=λo n=>by cases n
   oid:=List.nodup_nil
   oow:=λo n=>by cases n
   hca:=λc b j B a r=>by
     rw[(List.mem_replicate.1 b).2]at B r;have u:j<4:=B;have:nth gg.W j=[]:=fX u
     grind
   hqu:=λx i=>by cases i
   hfl:=λa r=>by
     have:aY (fp t)=[]:=zJ t;change a∈aY (fp t) at r
     grind
   hin:=(ψ)
   nd:=ψ
   mem:=(ψ)
   job:=λe=>by cases e
   noj:=λ_=>by show xL ⟨⟨0,0,[]⟩,0,0⟩ = true;decide}
theorem JI.no(a:h.a2=false):JI h:=⟨ψ,ψ,ψ,ψ⟩
def qf{p:Nat}{a:List Int}(d:1<=p/\p<=32)(e:1<=f/\f<=32)(b:a.length<=40/\∀x∈a,0<=x):aH (bJ p f a)=true:=by
 obtain⟨-,g,h,i,c⟩:=aF.1 (w5 d e);exact aF.2 ⟨λj k=>b.2 _ (ax k),g,h,i,c.1,c.2.1,b.1⟩
theorem Lz{p:Nat}{lim:Int}{a:List Int}(b:1<=p/\p<=32)(c:1<=f/\f<=32)(d:1<=t/\t<=4)(g:0<=lim/\lim<=1000)(i:a.length<=40/\∀x∈a,0<=x):bm (uF p f t lim a) []:=by
 have h:=bm.fresh (k:=bJ p f a) (t:=t) (lim:=lim) (sd:=0) (ck:=0) (qf b c i) (λq j=>by grind [bJ,eK,nth]) d g ω ω;have e:(bJ p f a).F.Q.M.length=p:=by grind [bJ,eK]
 unfold wt at h;rw[e]at h;exact h
structure bF where
 b3:Int
 w:Int
 N:Int
 At:Int
 Value:Int
deriving DecidableEq,Inhabited
def bF.enc(_:eL)(x:bF):List C:=[I x.b3,I x.w,I x.N,I x.At,I x.Value]
def iG(id:Int)(o:aK):Bool:=decide (o.Id=id)
def oD(r:au)(id:Int):Int:=cy (iG id) r.K
def jt(r:au)(n:Int):au:=if 1<=n/\n<=1000 then {r with k:=r.k+1,K:=r.K++[⟨r.k,List.replicate n.toNat 0⟩]} else r
def kw(r:au)(id:Int):au:=if oD r id<0 then r else {r with K:=dele r.K (oD r id).toNat}
def dU(r:au)(id at_ v:Int):au:=if 0<=oD r id/\(0<=at_/\at_<=(nth r.K (oD r id).toNat).U.length - 1)/\0<=v/\v<=999 then {r with K:=r.K.set (oD r id).toNat ⟨(nth r.K (oD r id).toNat).Id,(nth r.K (oD r id).toNat).U.set at_.toNat v⟩} else r
def fy(r:au)(id n:Int):au:=if 0<=oD r id/\1<=n/\n<=(nth r.K (oD r id).toNat).U.length then {r with K:=r.K.set (oD r id).toNat ⟨(nth r.K (oD r id).toNat).Id,(nth r.K (oD r id).toNat).U.take n.toNat⟩} else r
structure sG(r:au)(m:Nat):Prop where
 len:r.K.length<=m
 cel:∀o∈r.K,o.U.length<=1000
 nx:0<=r.k/\r.k<=m+1
variable{m:Nat}{r:au}
theorem sG.more(h:sG r m)(a:m<=n):sG r n:=⟨by have:=h.len;omega,h.cel,h.nx.1,by have:=h.nx.2;omega⟩
def sG.sml(h:sG r m)(b:m<=1000):au.sml r:=⟨by have:=h.len;omega,λo a=>by have:=h.cel o a;show o.U.length<=1048576;omega⟩
theorem sG.alloc(h:sG r m)(n:Int):sG (jt r n) (m+1):=by
 unfold jt;split
 ·refine⟨by have:=h.len;grind,λo a=>?_,by have:=h.nx.1;simp only;omega,by have:=h.nx.2;simp only;omega⟩
  grind [sG.cel]
 grind [sG.more]
theorem sG.free(h:sG r m)(id:Int):sG (kw r id) m:=by
 unfold kw;split
 ·exact h
 have a:=gw r.K (oD r id).toNat;exact⟨C9 a.length_le h.len,λo b=>h.cel o (a.subset b),h.nx⟩
theorem sG.set{x:aK}(h:sG r m)(a:x.U.length<=1000):sG {r with K:=r.K.set i x} m:=
 ⟨by simp only[C3];exact h.len,λo b=>by grind [sG.cel],h.nx⟩
theorem eZ[Inhabited α](p:α->Bool)(xs:List α)(h:0<=cy p xs):(cy p xs).toNat<xs.length/\p (nth xs (cy p xs).toNat)=true/\cy p xs=((cy p xs).toNat:Nat):=by grind [td]
def sG.store(h:sG r m)(id a v:Int):sG (dU r id a v) m:=by
 unfold dU;split
 ·rename_i e
  refine h.set ?_;simp only[C3];exact h.cel (nth r.K (oD r id).toNat) (ax (eZ _ _ e.1).1)
 exact h
theorem sG.trim(h:sG r m)(id n:Int):sG (fy r id n) m:=by
 unfold fy;split
 ·rename_i e
  refine h.set ?_;have:=h.cel (nth r.K (oD r id).toNat) (ax (eZ _ _ e.1).1)
  grind
 exact h
def PO(id:Int)(o:aW):Bool:=decide (o.Id=id)
def nQ(h:ac)(id:Int):Int:=cy (PO id) h.K
def mZ(a:Int)(l:a8):Bool:=decide (l.S*16=a)
def sW(h:ac)(a:Int):Int:=cy (mZ a) h.H
def ow(h:ac)(a:bF):Prop:=0<=a.w/\a.w<=h.R.length - 1
instance (h:ac) (a:bF):Decidable (ow h a):=by unfold ow;infer_instance
def xG(w:aR)(a:bF)(i:Nat):aR × Int:=
 if w.Y.G.Calls=100000 then(w,6)
 else if ow w.Y a then(⟨(freeT w.Y a.w.toNat i).1,if(freeT w.Y a.w.toNat i).2=0 then kw w.c5 (nth w.Y.K i).Id else w.c5⟩,(freeT w.Y a.w.toNat i).2)
 else(w,1)
def tl(w:aR)(a:bF)(i:Nat):aR × Int:=
 if ¬(0<=a.At/\a.At<=(nth w.Y.K i).y - 1) then(w,90)
 else if(ay w.Y.G.F.Q (((nth w.Y.K i).Addr+a.At) / 16)).o=1 then(w,2)
 else if ¬(0<=a.Value/\a.Value<=999) then(w,3)
 else(⟨{w.Y with G:=ja w.Y.G ((nth w.Y.K i).Addr+a.At) a.Value},dU w.c5 (nth w.Y.K i).Id a.At a.Value⟩,0)
def je(h:ac)(i:Nat)(n:Int):Prop:=0<=sW h (nth h.K i).Addr/\9<=n/\n<=(nth h.H (sW h (nth h.K i).Addr).toNat).y
instance (h:ac) (i:Nat) (n:Int):Decidable (je h i n):=by unfold je;infer_instance
def wF(w:aR)(a:bF)(i:Nat):aR × Int:=
 if w.Y.G.Calls≠100000/\je w.Y i a.Value then(⟨trimH w.Y i (sW w.Y (nth w.Y.K i).Addr).toNat a.Value,fy w.c5 (nth w.Y.K i).Id a.Value⟩,0) else(w,90)
def og(w:aR)(a:bF)(i:Nat):aR × Int:=if a.b3=2 then xG w a i else if a.b3=3 then tl w a i else wF w a i
def iY(h:ac)(a:bF):ac × Int:=
 if a.b3=5 then(if ow h a/\0<(nth h.e.T a.w.toNat).length then({h with e:=ed h.e a.w.toNat},0) else(h,90))
 else if ¬(h.G.Calls≠100000/\ow h a) then(h,0)
 else if a.b3=6 then(collect h a.w.toNat,((nth h.e.g a.w.toNat).length:Nat))
 else((flushN a.w.toNat h 4).1,((flushN a.w.toNat h 4).2:Nat))
def uq(h:ac)(n:Int):ac × Int:=if h.G.Calls≠100000/\(0<=n/\n<=1000)/\h.b1+n<=1000000 then(tick h n,((ni h n).length:Nat)) else(h,0)
def qq(h:ac):Bool:=h.a2&&decide (h.G.Calls<=99000)
def kS(h:ac):Nat->ac × Nat
 | 0=>(h,0)
 | i+1=>if qq (kS h i).1=true then(mStep (kS h i).1,(kS h i).2+1) else kS h i
def uw(h:ac):ac × Int:=if h.a2=true then(h,90) else((started h).1,if(started h).2=true then 0 else 90)
def pk(w:aR)(a:bF):aR × Int:=
 if a.b3=1 then(⟨(fA w.Y a.w a.N).1,if(fA w.Y a.w a.N).2.2=0 then jt w.c5 a.N else w.c5⟩,(fA w.Y a.w a.N).2.2)
 else if a.b3=2\/a.b3=3\/a.b3=4 then(if nQ w.Y a.N<0 then(w,90) else og w a (nQ w.Y a.N).toNat)
 else if a.b3=5\/a.b3=6\/a.b3=7 then(⟨(iY w.Y a).1,w.c5⟩,(iY w.Y a).2)
 else if a.b3=8 then(⟨(uq w.Y a.N).1,w.c5⟩,(uq w.Y a.N).2)
 else if a.b3=9 then(⟨(uw w.Y).1,w.c5⟩,(uw w.Y).2)
 else if a.b3=10/\0<=a.N/\a.N<=50 then(⟨(kS w.Y a.N.toNat).1,w.c5⟩,((kS w.Y a.N.toNat).2:Nat))
 else(w,90)
structure qm(w:aR)(m:Nat):Prop where
 inv:bm w.Y []
 ji:JI w.Y
 ref:sG w.c5 m
variable{w:aR}
def qm.more(h:qm w m)(a:m<=n):qm w n:=⟨h.inv,h.ji,h.ref.more a⟩
theorem qm.jk(h:qm w m){g:ac}(a:bm g []/\JK w.Y g)(b:sG r m):qm ⟨g,r⟩ m:=⟨a.1,h.ji.keep a.1 a.2,b⟩
theorem kX(b:bm h E){o:aW}(i:o∈h.K){k:Int}(C:0<=k/\k<=o.y - 1):(ay h.G.F.Q ((o.Addr+k) / 16)).o≠0/\0<=o.Addr/\o.Addr+k<512:=by
 rcases b.oow o i with⟨s,f,p,q⟩|⟨l,g,D,F⟩
 ·have a:=b.L.sok s f
  have r:=aO a;obtain⟨t,u,w⟩:=b.mapped f;have c:=dm r.2.2;obtain⟨G,H,y,-⟩:=p;have d:o.y<=csz s.Z:=by
   have J:=rO (n:=o.y) ω;rw[q];have:o.y=1\/o.y=2\/o.y=3\/o.y=4\/o.y=5\/o.y=6\/o.y=7\/o.y=8:=ω
   rcases this with e|e|e|e|e|e|e|e<;>rw[e]<;>decide
  have A:(o.Addr+k) / 16=s.S:=by
   rcases c with e|e|e|e<;>rw[e]at y d<;>omega
  rw[A];refine⟨?_,ω,ω⟩;unfold ay;rw[CJ ⟨t,u⟩];exact w
 obtain⟨j,K,rfl⟩:=bw g;have B:=b.L.lok _ g
 grind [oN,cq]
theorem qm.obj(h:qm w m)(a:bF)(c:i<w.Y.K.length):qm (og w a i).1 m:=by
 unfold og;split
 ·grind [qm.jk,bm.freeT,qm.inv,sG.free,qm.ref,xG,ow]
 split
 ·unfold tl
  split
  ·exact h
  rename_i k;split
  ·exact h
  split
  ·exact h
  rename_i l;exact h.jk (h.inv.store (kX h.inv (ax c) ω).1 ω) (h.ref.store _ _ _)
 unfold wF;split
 ·rename_i e
  obtain⟨-,d,f⟩:=e;obtain⟨g,j,n⟩:=eZ _ _ d;have b:=of_decide_eq_true j;exact h.jk (h.inv.trimH c g (b.symm.trans (Int.mul_comm _ _)) f) (h.ref.trim _ _)
 exact h
theorem qm.thread(h:qm w m)(a:bF):qm ⟨(iY w.Y a).1,w.c5⟩ m:=by
 unfold iY;split
 ·split
  ·rename_i e
   obtain⟨b,c⟩:=e;unfold ow at b;exact h.jk (g:={w.Y with e:=ed w.Y.e a.w.toNat}) ⟨h.inv.deliv (by grind [bm.nc,qm.inv]) c,JK.eq rfl rfl rfl rfl⟩ h.ref
  exact h
 split
 ·exact h
 grind [qm.jk,bm.collect,qm.inv,qm.ref,lA,JK.flushN,ow]
theorem Dm{h:ac}(a:bm h [])(b:JI h):∀n,bm (kS h n).1 []/\JI (kS h n).1
 | 0=>⟨a,b⟩
 | n+1=>by
  obtain⟨c,d⟩:=Dm a b n
  grind [bm.mStep,kS,qq]
theorem qm.act(h:qm w m)(a:bF):qm (pk w a).1 (m+1):=by
 unfold pk;split
 ·have b:=Tp (t:=a.w) (size:=a.N) h.inv
  refine⟨b.1,h.ji.keep b.1 b.2,?_⟩;show sG (if _ then _ else _) (m+1);split
  ·exact h.ref.alloc _
  exact h.ref.more ω
 refine qm.more (m:=m) ?_ ω;split
 ·grind [qm.obj,eZ,nQ]
 split
 ·exact h.thread a
 split
 ·unfold uq
  split
  ·grind [qm.jk,bm.tick,qm.inv,qm.ref]
  exact h
 split
 ·unfold uw
  split
  ·exact h
  rename_i e;have b:=P1 h.inv (by simpa using e);exact⟨b.1,b.2,h.ref⟩
 split
 ·have b:=Dm h.inv h.ji a.N.toNat
  exact⟨b.1,b.2,h.ref⟩
 exact h
structure eU where
 a0:Nat
 V:Nat
 c4:Nat
 c2:Int
 a:List Int
deriving Inhabited
structure KB(c:eU):Prop where
 p:1<=c.a0/\c.a0<=32
 f:1<=c.V/\c.V<=32
 t:1<=c.c4/\c.c4<=4
 l:0<=c.c2/\c.c2<=1000
 r:c.a.length<=40/\∀x∈c.a,0<=x
def world0(c:eU):aR:=⟨uF c.a0 c.V c.c4 c.c2 c.a,{k:=1,K:=[]}⟩
def AI(c:eU)(acts:List bF):Nat->aR × List Int
 | 0=>(world0 c,[])
 | i+1=>((pk (AI c acts i).1 (nth acts i)).1,(AI c acts i).2++[(pk (AI c acts i).1 (nth acts i)).2])
def R8{c:eU}(h:KB c):qm (world0 c) 0:=
 ⟨Lz h.p h.f h.t h.l h.r,JI.no rfl,⟨z5 _,λo a=>(by cases a),by show(0:Int)<=1;omega,by show(1:Int)<=((0:Nat):Int)+1;omega⟩⟩
def Dp{c:eU}(h:KB c)(acts:List bF):∀n,qm (AI c acts n).1 n
 | 0=>R8 h
 | n+1=>(Dp h acts n).act _
open Go.RowKit
set_option maxRecDepth 20000
set_option maxHeartbeats 4000000
def Wi{xs:List Int}{x:Int}(h:d9 xs.length (λj=>decide (nth xs j≠x))=true):x∉xs:=λb=>by
 obtain⟨j,a⟩:=List.mem_iff_getElem?.1 b;have:=gv h (C4.1 a).1;rw[bB a]at this;simp at this
def M1(xs:List Int)(x:Int)(g:xs.length<=4611686018427387904):zzA 190 false [.val none (aE .O xs),.vI x] .one [B (decide (x∈xs))]:=by
 refine fO 18 [] Tryz.func190 rfl ?_
 refine σP ?_
 refine gn xs.length (λi=>[(0,bC (aE .O xs)),(1,fI x),(5,fN i)]) (λi=>d9 i (λj=>decide (nth xs j≠x))=true) rfl λi a=>?_
 obtain⟨a,b⟩:=a;by_cases c:i<xs.length
 ·have d:=ar c
  by_cases e:nth xs i=x
  ·refine σB ?_
   exact bx ((by symm;exact O0 (by rw[<-e];exact ax c)))
  refine σB ?_
  (exact dt (i+1) ⟨ω,cm b (O0 e)⟩)
 refine σE ?_
 obtain rfl:i=xs.length:=ω
 exact bx ((by symm;exact C1 (Wi b)))
theorem bK.more{M c:am}{w d:World}(h:bK M w d)(f:∀b o,M b o->c b o):bK c w d:=
 ⟨h.os,h.tape,h.output,h.size,λb a e=>h.blk b a ψ,λb o a e=>h.cel b o a ψ,λb o a e=>h.fro b o a ψ⟩
variable{rcs c:List C}
theorem aT.wk{P:Program}{sh:Bool}{u:List C}{A B:List MA}{k:Kd}(h:aT P f sh A (.ptr c::B) k rcs)(D:RB c u):aT P f sh A (.ptr u::B) k rcs:=by
 refine⟨h.has,λw S V i E F l G=>(h.run w S V i E F l G).mono λe w1 H=>?_⟩;obtain⟨v,J,K,X,L,S1,M,n,p,a,q,r,b,N,O,y⟩:=H;refine⟨v,J,K,X,L,S1,M,n,p,a,q,r,b,N,O,?_⟩;cases i with
 | nil=>exact y.elim
 | cons v0 i=>
  obtain⟨⟨Q,Y,R,T,U,⟨g,o,W,Z⟩,d⟩,t⟩:=y;refine⟨⟨Q,Y,R,T,U,⟨g,o,W,λj hj=>Z j (by grind [xC])⟩,HF D d⟩,t⟩
def aT.frame{P:Program}{sh:Bool}{c' r:List C}{A B:List MA}{k:Kd}(h:aT P f sh (.ptr c::A) (.ptr c'::B) k rcs)(hl:c'.length=c.length):aT P f sh (.ptr (c++r)::A) (.ptr (c'++r)::B) k rcs:=by
 refine⟨h.has,λw S V vs hS hV hVd hA=>?_⟩;cases vs with
 | nil=>exact hA.elim
 | cons v0 vs=>
 obtain⟨⟨X1,Y,hX1,hY,O,⟨g,q,rfl,u⟩,ff,hf1,J,hf3⟩,hA'⟩:=hA;have hlen:(c++r).length=c.length+r.length:=I5
 let V0:am:=piece g q ff 0 c.length
 let W:Nat->am:=Uo V0 (λi=>V (i+1))
 have hcX:∀o,q<=o->o<q+(c++r).length->X1 g o:=λo l a=>by
  have:=(u (o - q) ω).1
  rwa [show q+(o - q)=o by omega]at this
 have hV0:∀b o,V0 b o->V 0 b o:=λb o p=>by
  rcases p with⟨rfl,l,a⟩|⟨j,-,a,Q⟩
  ·exact hX1 _ _ (hcX o ω ω)
  exact hY _ _ (J j ω b o Q)
 have K:∀i b o,W i b o->V i b o:=λi b o p=>by
  cases i with
  | zero=>exact hV0 b o p
  | succ i=>exact p
 have hA2:Tt w S W (.ptr c::A) (.pointer (some ⟨g,q,none⟩)::vs):=by
  refine⟨?_,hA'⟩;have:=yU (lo:=0) (n:=c.length) (cs:=c++r) ω u hf1 J hf3 O;rw[show bT (c++r) 0 c.length=c by simp[bT]]at this;simp only[SD,Nat.add_zero]at this;exact this
 refine(h.run w S W _ hS (λi b o p=>hV i b o (K i b o p)) (λi i' D b o l a=>hVd i i' D b o (K i b o l) (K i' b o a)) hA2).mono λe w1 hv=>?_
 obtain⟨v,he,hk,X,V',S1,hX,E,hS1,hVd',hXV,hXS,hVS1,hh,hr,hm⟩:=hv;have H:∀b o,(∃i,W i b o)->∃i,V i b o:=λb o ⟨i,Z⟩=>⟨i,K i b o Z⟩
 let R:am:=λb o=>V 0 b o/\¬V0 b o
 have hRW:∀b o,R b o->¬∃i,W i b o:=λb o y ⟨i,Z⟩=>by
  cases i with
  | zero=>exact y.2 Z
  | succ i=>exact hVd 0 (i+1) ω b o y.1 Z
 have F:∀b o,R b o->b<w.heap.size:=λb o y=>(hV 0 b o y.1).1
 have t:∀b o,R b o->¬((∃i,W i b o)\/(b<w1.heap.size/\w.heap.size<=b)):=λb o y p=>by
  rcases p with p|p
  ·exact hRW b o y p
  have:=F b o y;omega
 have hRsame:b8 R w w1:=λb o y=>⟨hk.cel b o (F b o y) (hRW b o y),hk.fro b o (F b o y) (hRW b o y)⟩
 have hRS1:∀b o,R b o->¬S1 b o:=λb o y hs=>by
  rcases hS1 b o hs with⟨-,l⟩|l
  ·exact(hV 0 b o y.1).2 l
  exact t b o y l
 have hSsame:b8 S w w1:=λb o hb=>⟨hk.cel b o (hS b o hb) (λ⟨i,Z⟩=>(hV i b o (K i b o Z)).2 hb),hk.fro b o (hS b o hb) (λ⟨i,Z⟩=>(hV i b o (K i b o Z)).2 hb)⟩
 have hRc:∀j,c.length<=j->j<(c++r).length->R g (q+j):=λj l a=>by
  refine⟨hX1 _ _ (u j a).1,λp=>?_⟩;rcases p with⟨-,Q,h4⟩|⟨N,Q,h4,h5⟩
  ·omega
  exact O _ _ (u j a).1 (J N ω _ _ h5)
 have L:∀j,c.length<=j->j<(c++r).length->∀b o,ff j b o->R b o:=λj l a b o p=>by
  refine⟨hY _ _ (J j a b o p),λhp=>?_⟩;rcases hp with⟨rfl,Q,h4⟩|⟨N,Q,h4,h5⟩
  ·exact O _ _ (hcX o ω ω) (J j a _ _ p)
  exact hf3 j N a ω ω b o p h5
 let U:Nat->am:=Uo (λb o=>V' 0 b o\/R b o) (λi=>V' (i+1))
 have hU:∀i b o,U i b o->V' i b o\/(i=0/\R b o):=λi b o p=>by
  cases i with
  | zero=>exact p.imp id (λh=>⟨rfl,h⟩)
  | succ i=>exact .inl p
 refine⟨v,he,hk.more H,X,U,S1,λb o p=>(hX b o p).imp (H b o) id,λi b o p=>?_,λb o p=>(hS1 b o p).imp id (Or.imp (H b o) id),λi i' D b o l a=>?_,λi b o l a=>?_,hXS,λi b o l a=>?_,hh,hr,?_,hm.2⟩
 ·rcases hU i b o p with l|⟨-,l⟩
  ·exact(E i b o l).imp (H b o) id
  exact .inl ⟨0,l.1⟩
 ·rcases hU i b o l with l|⟨e1,l⟩
  ·rcases hU i' b o a with a|⟨e2,a⟩
   ·exact hVd' i i' D b o l a
   exact t b o a (E i b o l)
  rcases hU i' b o a with a|⟨e2,a⟩
  ·exact t b o l (E i' b o a)
  exact D ω
 ·rcases hU i b o a with a|⟨-,a⟩
  ·exact hXV i b o l a
  exact t b o a (hX b o l)
 ·rcases hU i b o l with l|⟨-,l⟩
  ·exact hVS1 i b o l a
  exact hRS1 b o l a
 obtain⟨Xa,Ya,ha1,ha2,ha3,⟨ga,oa,hea,ha4⟩,fa,ha5,ha6,ha7⟩:=(show tH w1 (λb o=>S b o\/S1 b o) (V' 0) (.ptr c') (.pointer (some ⟨g,q,none⟩)) from hm.1)
 obtain⟨rfl,rfl⟩ : g=ga/\q=oa:=by simpa using hea
 have G:(c'++r).length=c.length+r.length:=by rw[I5,hl]
 show tH w1 (λb o=>S b o\/S1 b o) (λb o=>V' 0 b o\/R b o) (.ptr (c'++r)) (.pointer (some ⟨g,q,none⟩));have faV:∀j,j<c.length->∀b o,fa j b o->V' 0 b o:=λj M b o p=>ha2 _ _ (ha6 j ω b o p)
 refine⟨λb o=>Xa b o\/(R b o/\∃j,c.length<=j/\j<(c++r).length/\b=g/\o=q+j),λb o=>Ya b o\/∃j,c.length<=j/\j<(c++r).length/\ff j b o,λb o p=>?_,λb o p=>?_,λb o l a=>?_,⟨g,q,rfl,λj M=>?_⟩,λj=>if j<c.length then fa j else ff j,λj d M=>?_,λj M b o p=>?_,λj N M hj' D b o l a=>?_⟩
 ·exact p.imp (ha1 b o) (·.1)
 ·rcases p with p|⟨j,l,a,Q⟩
  ·exact .inl (ha2 b o p)
  exact .inr (L j l a b o Q)
 ·rcases l with l|⟨l,j,j1,j2,rfl,rfl⟩
  ·rcases a with a|⟨j,j1,j2,j3⟩
   ·exact ha3 b o l a
   exact t b o (L j j1 j2 b o j3) (E 0 b o (ha1 b o l))
  rcases a with a|⟨N,j3,j4,j5⟩
  ·exact t _ _ l (E 0 _ _ (ha2 _ _ a))
  exact O _ _ (u j j2).1 (J N j4 _ _ j5)
 ·rw[G]at M
  by_cases hc:j<c.length
  ·have:=ha4 j ω
   exact⟨.inl this.1,this.2⟩
  have y:=hRc j ω ω;have hs:=hRsame _ _ y;have T:=u j ω;refine⟨.inr ⟨y,j,ω,ω,rfl,rfl⟩,?_,?_⟩
  ·rw[hs.1];exact T.2.1
  rw[hs.2];exact T.2.2
 ·dsimp only
  by_cases hc:j<c.length
  ·rw[CJ hc]
   rw[a9 ω]at M;exact ha5 j d M
  rw[CI hc];rw[t9 ω,hl]at M;have hj2:(c++r)[j]? = some d:=by rw[t9 ω];exact M
  have hjl:=(C4.1 hj2).1;have Q:=(hf1 j d hj2).keep hSsame (λb o p=>hRsame b o (L j ω hjl b o p));have T:=(hRsame _ _ (hRc j ω hjl)).1;have:cu w1 .box (.pointer (some ⟨g,q,none⟩)) j=cu w .box (.pointer (some ⟨g,q,none⟩)) j:=by
   simp only[cu];rw[T]
  rw[this];exact Q.mono (λ_ _ h=>.inl h) (λ_ _ h=>h)
 ·rw[G]at M
  split at p
  ·rename_i hc;exact .inl (ha6 j ω b o p)
  exact .inr ⟨j,ω,ω,p⟩
 rw[G]at M hj';split at l
 ·rename_i c1
  split at a
  ·exact ha7 j N ω ω D b o l a
  exact t b o (L N ω ω b o a) (E 0 b o (faV j c1 b o l))
 split at a
 ·rename_i c1;exact t b o (L j ω ω b o l) (E 0 b o (faV N c1 b o a))
 exact hf3 j N ω ω D b o l a
mutual
def Zf:∀c:C,fz (fz c)=fz c
 | .v x=>by simp[fz]
 | .s o rows=>by simp only[fz];rw[PS rows]
 | .x=>by simp[fz]
 | .z=>by simp[fz]
 | .m _=>by simp[fz]
 | .it _ _=>by simp[fz]
def PS:∀a:List (List C),fzR (fzR a)=fzR a
 | []=>rfl
 | r::a=>by simp only[fzR];rw[xc r,PS a]
def xc:∀cs:List C,cP (cP cs)=cP cs
 | []=>rfl
 | c::cs=>by simp only[cP];rw[Zf c,xc cs]
end
def rc(k:af)(a:aH k=true)(e:k.Calls≠100000):zzB 448 false [.ptr (af.enc .own k)] [.ptr (af.enc .own (dX k))] .one [B (!refd k)]:=by
 have b:=bk a;have c:=(aF.1 a).2.2.2.2;have d:=M1 k.a k.Calls (by have:=b.2;omega);refine fM 22 [] [(2,9,[11,12,13,14,15,16,17,18,19])] [(0,0)] Tryz.func448 rfl (λu q=>?_)
 repeat'(first|refine gP ?_|refine CM (d) ⟨⟨rfl,eI _⟩,⟨rfl,gm ω⟩,tV1⟩ ?_)
 refine CN rfl ?_ ?_
 ·rfl
 exact wB
def si(k:af)(p m:Int)(a:aH k=true)(j:k.Calls≠100000)(d:(ay k.F.Q p).o≠0)(l:m=1\/m=2):zzB 455 false [.ptr (af.enc .own k),.vI p,.vI m] [.ptr (af.enc .own (jR k p m).1),.vI p,.vI m] .one [B (jR k p m).2]:=by
 have n:=bk a;have b:=rc k a j;have g:=fU (dX k) p n.1.2;have c:=aP m 1 2;rw[O0 ω]at c;obtain⟨o,t,w,-⟩:=bU a d;have h:=ar (xs:=k.F.Q.M) (i:=p.toNat) ω;have r:¬(ay (dX k).F.Q p).o=0:=d;unfold jR;cases e:refd k<;>rw[e]at b
 ·rw[CI (by simp),yo]
  refine fM 31 [(448,[2])] [] [(0,0),(0,0),(0,0)] Tryz.func455 rfl (λu q=>?_)
  repeat'(first|refine gB ?_|refine CM (g) ⟨CU (dX k),⟨rfl,rfl⟩,tV1⟩ ?_|refine CQ o (aa h) ?_|refine CR rfl rfl (aa h) rfl (O2 rfl) rfl ?_)
  refine CN rfl ?_ ?_
  ·rfl
  exact wB
 rw[CJ rfl];refine fM 31 [(448,[2])] [] [(0,0),(0,0),(0,0)] Tryz.func455 rfl (λu q=>?_)
 repeat'(first|refine gB ?_|refine CM (g) ⟨CU (dX k),⟨rfl,rfl⟩,tV1⟩ ?_)
 refine CN rfl ?_ ?_
 ·rfl
 exact wB
def Rw.two{off k j d e b:Nat}{K:List C->Nat->Prop}{o f:eL}{rows rows2:List (List C)}{r a:List C}(h1:c[off]? = some (.s o rows))(h2:rows[i]? = some r)(g:r.length=k)(h:r[j]? = some (.s f rows2))(l:rows2[d]? = some a)(n:a.length=e)(p:K a b):Rw c off [(i,k,j),(d,e,b)] K:=
 Rw.mk (r:=a) (j:=b) (by simp[cx,h1,h2,g,h,l,n]) p
def FB(k:af)(a b c:Int)(h:aH k=true)(F:(ay k.F.Q a).o≠0)(G:(ay k.F.Q b).o≠0)(g:0<=c/\c<=15):zzB 456 false [.ptr (af.enc .own k),.vI a,.vI b,.val none (aE .O [c])] [.ptr (af.enc .own (x3 k a b c)),.vI a,.vI b,.val none (aE .O [c])] .one [B true]:=by
 have w:=bk h;have H:=fU k a w.1.2;have J:=fU k b w.1.2;have y:=aP c 0 15;rw[O0 g]at y;obtain⟨K,O,L,C,P⟩:=bU h F;obtain⟨M,Q,D,E,R⟩:=bU h G;have N:=(bi.1 (aF.1 h).2.1).2.2.1;have S:=row16 h (f:=ko k a) (by unfold ko;omega);have T:=row16 h (f:=ko k b) (by unfold ko;omega);have d:k.F.V.U[(ay k.F.Q a).j.toNat]? = some (nth k.F.V.U (ko k a)):=ar ω;have e:k.F.V.U[(ay k.F.Q b).j.toNat]? = some (nth k.F.V.U (ko k b)):=ar ω;have l:=ar (xs:=nth k.F.V.U (ko k a)) (i:=c.toNat) ω;have o:=ar (xs:=nth k.F.V.U (ko k b)) (i:=c.toNat) ω;have p:=ar (xs:=k.F.Q.M) (i:=a.toNat) ω;have r:=ar (xs:=k.F.Q.M) (i:=b.toNat) ω;rw[L]at C d;rw[D]at E e;have t:[c][0]? = some c:=rfl;refine fM 90 [] [(13,28,[61,62,63,64,65,66,67,68,69,70,71,72,73,74,75,76,77,78,79,80,81,82,83,84,85,86,87,88])] [(0,0),(0,0),(0,0),(0,0)] Tryz.func456 rfl (λu q=>?_)
 repeat'(first|refine gB ?_|refine CM (H) ⟨CU k,⟨rfl,rfl⟩,tV1⟩ ?_|refine CM (J) ⟨CU k,⟨rfl,rfl⟩,tV1⟩ ?_)
 refine lp0 1 (λn=>[(0,bS (af.enc .own k)),(1,fI a),(2,fI b),(3,bC (aE .O [c])),(9,fN n)]) λn U=>?_
 by_cases V:n<1
 ·obtain rfl:n=0:=ω
  repeat'(first|refine gE ?_|refine CQ qs (aa t) ?_)
  (exact dt 1 ω)
 obtain rfl:n=1:=ω
 repeat'(first|refine gE ?_|refine CQ K (aa p) ?_|refine CQ M (aa r) ?_)
 refine lp0 1 (λj=>[(0,bS (af.enc .own (QC k a b c j))),(3,bC (aE .O [c])),(10,fI ((nth k.F.Q.M a.toNat).j)),(11,fI ((nth k.F.Q.M b.toNat).j)),(12,fN j)]) λj W=>?_
 by_cases X:j<1
 ·obtain rfl:j=0:=ω
  repeat'(first|refine gE ?_|refine CQ qs (aa t) ?_|refine CQ C (aa d) ?_|refine CQ E (aa e) ?_|refine CQ g.1 (aa l) ?_|refine CQ g.1 (aa o) ?_|refine Rw.two rfl (aa d) rfl rfl (aa l) rfl ?_|refine Pu.two rfl rfl (aa e) rfl rfl rfl (aa o) rfl (z5 _) rfl ?_)
  (refine CP 1 ω ω ?_)
  rw[show QC k a b c 1=x3 k a b c from rfl];unfold x3;rw[zl,show ko k b=(nth k.F.Q.M b.toNat).j.toNat by unfold ko;rw[D]];exact wB
 obtain rfl:j=1:=ω
 refine σE ?_
 refine CN rfl ?_ ?_
 ·rfl
 exact wB
def Ny(k:af)(p o:Int)(a:aH k=true)(y:k.Calls≠100000)(g:(ay k.F.Q p).o≠0)(h:(ay k.F.Q o).o≠0)(C:p≠o):zzB 457 false [.ptr (af.enc .own k),.vI p,.vI o] [.ptr (af.enc .own (DJ k p o).1),.vI p,.vI o] .one [B (DJ k p o).2]:=by
 have b:=bk a;have c:=rc k a y;have j:=fU (dX k) p b.1.2;have l:=fU (dX k) o b.1.2;obtain⟨D,K,E,n,r⟩:=bU a g;obtain⟨F,L,M,N,O⟩:=bU a h;have G:=(bi.1 (aF.1 a).2.1).2.2.1;have d:=ar (xs:=k.F.Q.M) (i:=p.toNat) ω;have t:=ar (xs:=k.F.Q.M) (i:=o.toNat) ω;have H:¬(ay (dX k).F.Q p).o=0:=g;have J:¬(ay (dX k).F.Q o).o=0:=h;rw[E]at n r;have w:=wQ (Ar (dX k) p.toNat ⟨2,(nth k.F.Q.M o.toNat).j⟩) (nth k.F.Q.M p.toNat).j (M9 _ _ b.1.2) ⟨n,by show _<((k.F.V.U.length:Nat):Int);omega,r⟩;rw[Ko]at w;unfold DJ;cases e:refd k<;>rw[e]at c
 ·rw[CI (by simp)]
  refine fM 60 [(448,[2]),(450,[2,0])] [(4,274,[38,39,40,41,42,43,44,45,46,47,48,49,50,51,52,53,54,56,0,1,2,3,4,5,6,7,8,9,10,11,12,13,14,15,16,17,1000,1001,1002,1003,1004,1005,1006,18,19])] [(0,0),(0,0),(0,0)] Tryz.func457 rfl (λu q=>?_)
  repeat'(first|refine gB ?_|refine CM (j) ⟨CU (dX k),⟨rfl,rfl⟩,tV1⟩ ?_|refine CM (l) ⟨CU (dX k),⟨rfl,rfl⟩,tV1⟩ ?_|refine CQ D (aa d) ?_|refine CQ F (aa t) ?_|refine CR rfl rfl (aa d) rfl (O2 rfl) rfl ?_)
  refine CN rfl ?_ ?_
  ·rfl
  exact wB
 rw[CJ rfl];refine fM 60 [(448,[2]),(450,[2,0])] [(4,274,[38,39,40,41,42,43,44,45,46,47,48,49,50,51,52,53,54,56,0,1,2,3,4,5,6,7,8,9,10,11,12,13,14,15,16,17,1000,1001,1002,1003,1004,1005,1006,18,19])] [(0,0),(0,0),(0,0)] Tryz.func457 rfl (λu q=>?_)
 repeat'(first|refine gB ?_|refine CM (j) ⟨CU (dX k),⟨rfl,rfl⟩,tV1⟩ ?_|refine CM (l) ⟨CU (dX k),⟨rfl,rfl⟩,tV1⟩ ?_)
 refine CN rfl ?_ ?_
 ·rfl
 exact wB
def Fp(m:aL)(a:Int)(d:aL.sml m)(c:0<=a/\a<512):zzA 512 false [.val (some 3) (aL.enc .O m),.vI a] (.tup [some 2,none]) (aS.enc .own (ay m.Q (a / 16))++[I (a % 16)]):=by
 have e:=dC m.Q (a / 16) d.2;have b:a.tmod 16=a % 16:=fg c.1;refine fO 16 [] Tryz.func512 rfl ?_ (.inr ⟨tV1,tV1,tV1,tV1⟩)
 repeat'(first|refine gE ?_|refine CS (lQ c) ?_|refine CT qs ?_|refine CX b ?_)
 rfl
def Na(m:aL)(a v:Int)(o:dn m=true)(e:aL.sml m)(p:0<=a/\a<512)(q:0<=v/\v<=999)(r:(ay m.Q (a / 16)).o≠0->0<=(ay m.Q (a / 16)).j/\(ay m.Q (a / 16)).j<m.V.U.length/\(nth m.V.U (ay m.Q (a / 16)).j.toNat).length=16):zzA 494 false [.val (some 3) (aL.enc .O m),.vI a,.vI v] (.tup [some 3,none]) (aL.enc .own (iN m a v).1++[I (iN m a v).2]):=by
 have c:=sN m e;rw[o]at c;have g:=xg m e;have h:=Fp m a e p;have d:=aP v 0 999;rw[O0 q]at d;have b:=aL.enc_fr (iN m a v).1;unfold iN at b |-;by_cases j:(ay m.Q (a / 16)).o=0
 ·rw[CJ j]at b |-
  refine fO 47 [] Tryz.func494 rfl ?_ (.inr (a7 b ⟨tV1,tV1⟩))
  refine σB ?_
  rfl
 rw[CI j]at b |-;by_cases l:(ay m.Q (a / 16)).o=1
 ·rw[CJ l]at b |-
  refine fO 47 [] Tryz.func494 rfl ?_ (.inr (a7 b ⟨tV1,tV1⟩))
  refine σB ?_
  rfl
 rw[CI l]at b |-;obtain⟨t,u,w⟩:=r j;have k:=ar (xs:=m.V.U) (i:=(ay m.Q (a / 16)).j.toNat) ω;have n:=ar (xs:=nth m.V.U (ay m.Q (a / 16)).j.toNat) (i:=(a % 16).toNat) ω;simp only at b |-;rw[Ez]at b |-;refine fO 47 [] Tryz.func494 rfl ?_ (.inr (a7 b ⟨tV1,tV1⟩))
 repeat'(first|refine gB ?_|refine CQ t (aa k) ?_|refine CQ ω (aa n) ?_|refine Pu.two rfl rfl (aa k) rfl rfl rfl (aa n) rfl (z5 _) rfl ?_)
 rfl
def iK{j:bW} : jmay k j=true↔(aH k=true/\k.Calls≠100000)/\kN j=true/\(ay k.F.Q j.d.b0).o≠0/\(ay k.F.Q j.d.b2).o≠0/\(ay k.F.Q j.d.b0).j≠(ay k.F.Q j.d.b2).j:=by
 unfold jmay;simp only[I0,C0]
def o6{p:b9}(h:gF p=true):p.U.length<=16:=by
 unfold gF at h;simp only[I0]at h;have a:∀i,i<p.U.length->(i:Int)<=nth p.U i:=λi=>by
  induction i with
  | zero=>
   intro a;have:=gv h.1 a;unfold ro at this;rw[C0]at this;exact this.1
  | succ i b=>
   intro a;have c:=b ω;have:=gv h.1 a;unfold ro at this;rw[C0]at this;have d:=this.2.2.resolve_left ω;rw[Nat.add_sub_cancel]at d;omega
 by_cases e:p.U.length<=16
 ·exact e
 exfalso;have c:=a 16 ω;have:=gv h.1 (show 16<p.U.length by omega);unfold ro at this;rw[C0]at this;omega
def yS{j:bW}(h:kN j=true):bW.sml j:=by
 have:=o6 (gV.1 h).1;show j.d.U.length<=1048576;omega
def jc(h:aH k=true):dn k.F=true:=by
 unfold aH at h;simp only[I0]at h;exact h.1.2
def JU(k:af)(j:bW)(p:jmay k j=true)(g:j.b5=3):zzB 458 false [.ptr (af.enc .own k),.ptr (D3 j)] [.ptr (af.enc .own (jstep k j).1),.ptr (D3 (jstep k j).2)] (.tup []) []:=by
 obtain⟨⟨a,r⟩,t,c,d,w⟩:=iK.1 p;obtain⟨h,H,J,K,L⟩:=gV.1 t;have y:=bk a;obtain⟨M,N,O,B,P⟩:=bU a c;have l:=(bz.1 (aF.1 a).2.2.1).2.2;have C:=o6 h;have D:=(bi.1 (aF.1 a).2.1).2.2.1;unfold jstep;rw[CI ω,CI ω,CI ω,CJ g];by_cases n:0<j.k
 ·rw[CJ n]
  have o:=kV h (i:=(j.k - 1).toNat) ω;have E:=ar (xs:=j.d.U) (i:=(j.k - 1).toNat) ω;have F:0<=j.d.b0*16+nth j.d.U (j.k - 1).toNat/\j.d.b0*16+nth j.d.U (j.k - 1).toNat<512:=ω
  have G:(j.d.b0*16+nth j.d.U (j.k - 1).toNat) / 16=j.d.b0:=ω
  have b:=Na k.F (j.d.b0*16+nth j.d.U (j.k - 1).toNat) 0 (jc a) y.1 F ω (λ_=>by rw[G];exact⟨B,ω,row16 a (f:=ko k j.d.b0) (by unfold ko;omega)⟩);generalize (iN k.F (j.d.b0*16+nth j.d.U (j.k - 1).toNat) 0).1=m at b |-;generalize (iN k.F (j.d.b0*16+nth j.d.U (j.k - 1).toNat) 0).2=e at b;refine fM 59 [(455,[2,0,0])] [(2,283,[20,21,22,23,24,25,26,27,28,29,30,31,32,33,34,35,36,37,38,39,40,41,42,19,43,44,4,0,1,2,3,4,5,6,7,8,9,10,11,12,13,14,15,16,17,18,19,20,21,22,23,24,25,26,27,1025,28])] [(0,0),(1,0)] Tryz.func458 rfl (λu q=>?_) (.inr tV1)
  repeat'(first|refine gE ?_|refine CM (b) ⟨⟨rfl,aL.enc_fz k.F⟩,⟨rfl,rfl⟩,⟨rfl,rfl⟩,tV1⟩ ?_|refine CQ ω (aa E) ?_)
  exact kk
 rw[CI n];have b:=si k j.d.b2 2 a r d (.inr rfl);cases e:(jR k j.d.b2 2).2<;>rw[e]at b
 ·refine fM 59 [(455,[2,0,0])] [(2,283,[20,21,22,23,24,25,26,27,28,29,30,31,32,33,34,35,36,37,38,39,40,41,42,19,43,44,4,0,1,2,3,4,5,6,7,8,9,10,11,12,13,14,15,16,17,18,19,20,21,22,23,24,25,26,27,1025,28])] [(0,0),(1,0)] Tryz.func458 rfl (λu q=>?_) (.inr tV1)
  refine σE ?_
  refine CN rfl rfl ?_;rw[<-g];exact wC
 refine fM 59 [(455,[2,0,0])] [(2,283,[20,21,22,23,24,25,26,27,28,29,30,31,32,33,34,35,36,37,38,39,40,41,42,19,43,44,4,0,1,2,3,4,5,6,7,8,9,10,11,12,13,14,15,16,17,18,19,20,21,22,23,24,25,26,27,1025,28])] [(0,0),(1,0)] Tryz.func458 rfl (λu q=>?_) (.inr tV1)
 refine σE ?_
 exact kk
def HL(k:af)(j:bW)(g:jmay k j=true):zzB 374 false [.ptr (af.enc .own k),.ptr (D3 j)] [.ptr (af.enc .own (jstep k j).1),.ptr (D3 (jstep k j).2)] (.tup []) []:=by
 obtain⟨⟨h,p⟩,B,c,b,l⟩:=iK.1 g;obtain⟨r,F,G,H,J⟩:=gV.1 B;have n:j.d.b2≠j.d.b0:=λe=>l (by rw[e])
 have C:=o6 r;by_cases d:j.b5=0
 ·have a:=si k j.d.b2 1 h p b (.inl rfl)
  unfold jstep;rw[CJ d];cases e:(jR k j.d.b2 1).2<;>rw[e]at a
  ·refine fM 80 [(455,[2,0,0]),(456,[2,0,0,0]),(457,[2,0,0]),(458,[2,2])] [(7,7,[27,28,29,30,31,32,33]),(9,14,[38,39,40,41,42,43,44,45,46,47,48,49,50,51])] [(0,0),(1,0)] Tryz.func374 rfl (λu q=>?_) (.inr tV1)
   refine σB ?_
   exact kk
  refine fM 80 [(455,[2,0,0]),(456,[2,0,0,0]),(457,[2,0,0]),(458,[2,2])] [(7,7,[27,28,29,30,31,32,33]),(9,14,[38,39,40,41,42,43,44,45,46,47,48,49,50,51])] [(0,0),(1,0)] Tryz.func374 rfl (λu q=>?_) (.inr tV1)
  refine σB ?_
  exact kk
 by_cases o:j.b5=1
 ·unfold jstep
  rw[CI d,CJ o];by_cases t:j.k=j.d.U.length
  ·rw[CJ t]
   refine fM 80 [(455,[2,0,0]),(456,[2,0,0,0]),(457,[2,0,0]),(458,[2,2])] [(7,7,[27,28,29,30,31,32,33]),(9,14,[38,39,40,41,42,43,44,45,46,47,48,49,50,51])] [(0,0),(1,0)] Tryz.func374 rfl (λu q=>?_) (.inr tV1)
   refine σB ?_
   exact kk
  rw[CI t];have D:=ar (xs:=j.d.U) (i:=j.k.toNat) ω;have a:=FB k j.d.b2 j.d.b0 (nth j.d.U j.k.toNat) h b c (kV r ω);have E:=(iK.1 g).2.1;refine fM 80 [(455,[2,0,0]),(456,[2,0,0,0]),(457,[2,0,0]),(458,[2,2])] [(7,7,[27,28,29,30,31,32,33]),(9,14,[38,39,40,41,42,43,44,45,46,47,48,49,50,51])] [(0,0),(1,0)] Tryz.func374 rfl (λu q=>?_) (.inr tV1)
  repeat'(first|refine gB ?_|refine CO a (.inr ⟨rfl,Ci _,tV1⟩) ?_|refine CQ ω (aa D) ?_)
  exact kk
 by_cases w:j.b5=2
 ·have a:=Ny k j.d.b2 j.d.b0 h p b c n
  unfold jstep;rw[CI d,CI o,CJ w];cases e:(DJ k j.d.b2 j.d.b0).2<;>rw[e]at a
  ·refine fM 80 [(455,[2,0,0]),(456,[2,0,0,0]),(457,[2,0,0]),(458,[2,2])] [(7,7,[27,28,29,30,31,32,33]),(9,14,[38,39,40,41,42,43,44,45,46,47,48,49,50,51])] [(0,0),(1,0)] Tryz.func374 rfl (λu q=>?_) (.inr tV1)
   refine σB ?_
   exact kk
  refine fM 80 [(455,[2,0,0]),(456,[2,0,0,0]),(457,[2,0,0]),(458,[2,2])] [(7,7,[27,28,29,30,31,32,33]),(9,14,[38,39,40,41,42,43,44,45,46,47,48,49,50,51])] [(0,0),(1,0)] Tryz.func374 rfl (λu q=>?_) (.inr tV1)
  refine σB ?_
  exact kk
 by_cases y:j.b5=3
 ·have a:=JU k j g y
  refine fM 80 [(455,[2,0,0]),(456,[2,0,0,0]),(457,[2,0,0]),(458,[2,2])] [(7,7,[27,28,29,30,31,32,33]),(9,14,[38,39,40,41,42,43,44,45,46,47,48,49,50,51])] [(0,0),(1,0)] Tryz.func374 rfl (λu q=>?_) (.inr tV1)
  refine σB ?_
  exact kk
 unfold jstep;rw[CI d,CI o,CI w,CI y];refine fM 80 [(455,[2,0,0]),(456,[2,0,0,0]),(457,[2,0,0]),(458,[2,2])] [(7,7,[27,28,29,30,31,32,33]),(9,14,[38,39,40,41,42,43,44,45,46,47,48,49,50,51])] [(0,0),(1,0)] Tryz.func374 rfl (λu q=>?_) (.inr tV1)
 refine σB ?_
 exact kk
def Mi(k:af)(j:bW)(e:aH k=true)(i:kN j=true):zzA 373 false [.val (some 5) (af.enc .O k),.val (some 5) (bW.enc .O j)] .one [B (jmay k j)]:=by
 have c:=bk e;have b:cP (af.enc .O k)=af.enc .O k:=by rw[<-CU k,xc]
 have r:=(aF.1 e).2.2.2.2;have a:=oY k c;rw[e]at a;have d:=Du j (yS i);rw[i]at d;have l:=fU k j.d.b0 c.1.2;have n:=fU k j.d.b2 c.1.2;have t:=dC k.F.Q j.d.b0 c.1.2;have u:=dC k.F.Q j.d.b2 c.1.2;by_cases o:k.Calls=100000
 ·rw[C1 ω]at a
  rw[show jmay k j=false by rw[<-IA,iK];exact λh=>h.1.2 o];refine fO 44 [(3,16,[27,28,29,30,31,32,33,34,35,36,37,38,39,40,41,42])] Tryz.func373 rfl ?_
  refine σP ?_
  rfl
 rw[O0 ω]at a;by_cases p:(ay k.F.Q j.d.b0).o=0
 ·rw[show jmay k j=false by rw[<-IA,iK];exact λh=>h.2.2.1 p]
  refine fO 44 [(3,16,[27,28,29,30,31,32,33,34,35,36,37,38,39,40,41,42])] Tryz.func373 rfl ?_
  repeat'(first|refine gB ?_|refine CM (l) ⟨b,⟨rfl,rfl⟩,tV1⟩ ?_|refine CM (n) ⟨b,⟨rfl,rfl⟩,tV1⟩ ?_)
  rfl
 by_cases q:(ay k.F.Q j.d.b2).o=0
 ·rw[show jmay k j=false by rw[<-IA,iK];exact λh=>h.2.2.2.1 q]
  refine fO 44 [(3,16,[27,28,29,30,31,32,33,34,35,36,37,38,39,40,41,42])] Tryz.func373 rfl ?_
  repeat'(first|refine gB ?_|refine CM (l) ⟨b,⟨rfl,rfl⟩,tV1⟩ ?_|refine CM (n) ⟨b,⟨rfl,rfl⟩,tV1⟩ ?_)
  rfl
 refine fO 44 [(3,16,[27,28,29,30,31,32,33,34,35,36,37,38,39,40,41,42])] Tryz.func373 rfl ?_
 repeat'(first|refine gB ?_|refine CM (l) ⟨b,⟨rfl,rfl⟩,tV1⟩ ?_|refine CM (n) ⟨b,⟨rfl,rfl⟩,tV1⟩ ?_)
 exact bx (by
   unfold jmay;rw[e,i,O0 o];by_cases g:(ay k.F.Q j.d.b0).j=(ay k.F.Q j.d.b2).j
   · rw[C1 (λh=>h.2.2 g)];simp[g]
   rw[O0 ⟨p,q,g⟩];simp[g])
def Hz(j:bW):zzA 375 false [.val (some 5) (bW.enc .O j)] .one [B (over j)]:=by
 by_cases a:j.b5=4
 ·rw[show over j=true from O0 (.inl a)]
  refine fO 11 [] Tryz.func375 rfl ?_
  refine σB ?_
  rfl
 rw[show over j=decide (j.b5=5) from decide_eq_decide.2 ω];refine fO 11 [] Tryz.func375 rfl ?_
 refine σB ?_
 exact bx (by rw[z9];simp)
def Qf(x:ac):List C:=(bR x).set 21 .z
def K3{x:ac}(h:x.a5.d.U=[]):RB (Qf x) (bR x):=by
 unfold Qf bR;simp only[List.set,h,List.map_nil]
 repeat'(first|exact tV1|exact tz _|refine CK ?_ ?_|rfl)
def JD(h:ac)(j:bm h [])(k:h.a2=true):zzB 223 false [.ptr (bR h)] [.ptr (bR (mStep h))] .one [B (Mb h)]:=by
 obtain⟨l,-,-⟩:=j.job k;have b:=Mi h.G h.a5 j.ker l;have a:=Hz (iA h.G h.a5).2;unfold Mb mStep;cases e:jmay h.G h.a5 with
 | false=>
  rw[e]at b;have d:iA h.G h.a5=(h.G,h.a5):=by unfold iA;rw[e];rfl
  rw[d]at a |-;simp only at a |-;cases g:over h.a5<;>rw[g]at a
  ·refine fM 39 [(374,[3,5,5])] [(1,8,[4,5,6,7,8,9,10,11]),(2,6,[13,14,15,16,17,18])] [(0,0)] Tryz.func223 rfl (λu q=>?_)
   repeat'(first|refine gP ?_|refine CM (b) ⟨⟨rfl,CU h.G⟩,⟨rfl,rfl⟩,tV1⟩ ?_)
   refine CN rfl ?_ ?_
   ·exact bx (by rw[z9];simp)
   exact wC
  refine aT.wk (c:=Qf _) ?_ (K3 rfl);refine fM 39 [(374,[3,5,5])] [(1,8,[4,5,6,7,8,9,10,11]),(2,6,[13,14,15,16,17,18])] [(0,0)] Tryz.func223 rfl (λu q=>?_)
  repeat'(first|refine gP ?_|refine CM (b) ⟨⟨rfl,CU h.G⟩,⟨rfl,rfl⟩,tV1⟩ ?_)
  refine CN rfl ?_ ?_
  ·exact bx (by rw[z9];simp)
  exact wC
 | true=>
  rw[e]at b;have d:iA h.G h.a5=jstep h.G h.a5:=by unfold iA;rw[e];rfl
  have i:=HL h.G h.a5 e;rw[d]at a |-;generalize jstep h.G h.a5=r at i a |-;cases g:over r.2<;>rw[g]at a
  ·refine fM 39 [(374,[3,5,5])] [(1,8,[4,5,6,7,8,9,10,11]),(2,6,[13,14,15,16,17,18])] [(0,0)] Tryz.func223 rfl (λu q=>?_)
   repeat'(first|refine gP ?_|refine CM (b) ⟨⟨rfl,CU h.G⟩,⟨rfl,rfl⟩,tV1⟩ ?_)
   refine CN rfl ?_ ?_
   ·exact bx (by rw[z9];simp)
   exact wC
  refine aT.wk (c:=Qf _) ?_ (K3 rfl);refine fM 39 [(374,[3,5,5])] [(1,8,[4,5,6,7,8,9,10,11]),(2,6,[13,14,15,16,17,18])] [(0,0)] Tryz.func223 rfl (λu q=>?_)
  repeat'(first|refine gP ?_|refine CM (b) ⟨⟨rfl,CU h.G⟩,⟨rfl,rfl⟩,tV1⟩ ?_)
  refine CN rfl ?_ ?_
  ·exact bx (by rw[z9];simp)
  exact wC
def or64{z1 z2:Int}(h1:0<=z1/\z1<=65535)(h2:0<=z2/\z2<=65535):IntKind.i64.wrap ((BitVec.ofInt IntKind.i64.bits z1 ||| BitVec.ofInt IntKind.i64.bits z2).toNat:Nat)=bor z1 z2:=by
 rw[BitVec.toNat_or,uJ ω,uJ ω];have a:=Pt h1 h2;unfold bor at a |-;exact ia ω ω
def EM(h:ac)(i:Nat)(n:dl h.J)(d:Ak h)(a:∀s∈h.J,bq s=true)(y:i<h.J.length):zzA 443 false [.val (some 24) (ac.enc .O h),.vI (i:Nat)] .one [I (eH h i)]:=by
 have F:=n.1;have G:=ar y;have g:=oQ a y;have B:=aP ((i:Nat):Int) 0 ((h.J.length:Int) - 1);rw[O0 (show(0:Int)<=(i:Nat)/\((i:Nat):Int)<=(h.J.length:Int) - 1 by omega)]at B;have C:=jH h (nth h.J i).S d;have o:=gJ h (nth h.J i).S;have H:fT h<=1048576:=d.1;have c:eH h i=jD h.J (aZ h (nth h.J i).S) (nth h.J i).a6 (aZ h (nth h.J i).S).length:=rfl;obtain⟨ps,q⟩ : ∃ps,aZ h (nth h.J i).S=ps:=⟨_,rfl⟩
 obtain⟨b,r⟩ : ∃b,(nth h.J i).a6=b:=⟨_,rfl⟩
 rw[q]at C o c;rw[r]at c g;rw[c];have J:jD h.J ps b 0=b:=rfl;refine fO 63 [(4,7,[22,23,24,25,26,27,28]),(11,10,[43,44,45,46,47,48,49,50,51,52])] Tryz.func443 rfl ?_
 refine σP ?_
 refine lp0 ps.length (λu=>[(2,bS (ac.enc .O h)),(5,fI (jD h.J ps b u)),(6,bC (aE .own ps)),(7,fN u)]) λu M=>?_
 by_cases K:u<ps.length
 ·have l:=ar K
  have t:=nK a (ps:=ps) g u
  refine σE ?_
  refine lp0 h.J.length (λj=>[(2,bS (ac.enc .O h)),(5,fI (sP h.J (nth ps u) (jD h.J ps b u) j)),(6,bC (aE .own ps)),(7,fN u),(8,fN j)]) λj L=>?_
  by_cases D:j<h.J.length
  ·have E:=ar D
   have w:=AF a (p:=nth ps u) t j L;by_cases e:(nth h.J j).S=nth ps u
   ·have k:sP h.J (nth ps u) (jD h.J ps b u) (j+1)=bor (sP h.J (nth ps u) (jD h.J ps b u) j) (nth h.J j).a6:=CJ e
    repeat'(first|refine gB ?_|refine CS (or64 w (oQ a D)) ?_)
    (exact dt (j+1) ω)
   have k:sP h.J (nth ps u) (jD h.J ps b u) (j+1)=sP h.J (nth ps u) (jD h.J ps b u) j:=CI e
   refine σB ?_
   (exact dt (j+1) ω)
  obtain rfl:j=h.J.length:=ω
  refine σE ?_
  (exact dt (u+1) ω)
 obtain rfl:u=ps.length:=ω
 refine σE ?_
 rfl
def qo{xs:List aW}(h:∀o∈xs,0<=o.y/\o.y<=1000):∀k:Nat,k<=xs.length->0<=wc xs k/\wc xs k<=1000*k
 | 0,_=>⟨I9 _,I9 _⟩
 | k+1,a=>by
  have b:=qo h k ω;have c:=h _ (ax (xs:=xs) (i:=k) ω);simp only[wc];omega
def Ed(h:ac)(a:∀o∈h.K,0<=o.y/\o.y<=1000)(e:h.K.length<=1048576):zzA 205 false [.val (some 24) (ac.enc .O h)] .one [I (qI h)]:=by
 refine fO 21 [] Tryz.func205 rfl ?_
 refine σP ?_
 refine lp0 h.K.length (λk=>[(1,bS (ac.enc .O h)),(3,fI (wc h.K k)),(4,fN k)]) λk c=>?_
 have g:=qo a k c;by_cases b:k<h.K.length
 ·have d:=ar b
  have i:=a _ (ax b)
  refine σE ?_
  (exact dt (k+1) ω)
 obtain rfl:k=h.K.length:=ω
 refine σE ?_
 rfl
def D8(k b:Int)(h:b<=9223372036854775807):zzA 442 false [.vI (slots k),.vI b] .one (aE .own (rv k b)):=by
 have c:=vk k b;have p:0<=slots k/\slots k<=16:=by unfold slots;repeat' split<;>omega
 unfold rv;cases e:R9 k b<;>rw[e]at c
 ·rw[CI (by simp)]
  refine fO 27 [] Tryz.func442 rfl ?_ (.inr (bH _))
  refine σP ?_
  refine oA (λj:Nat=>[(0,fI (slots k)),(1,fI b),(5,bC (aE .own [])),(6,fN j)]) (λj=>j=0) (λj=>1 - j) (0) (rfl) λj g=>?_
  subst g
  repeat'(first|refine gE ?_|refine gS (λi=>?_) (λi=>?_)|fail)
  all_goals rfl
 rw[CJ rfl];refine fO 27 [] Tryz.func442 rfl ?_ (.inr (bH _))
 refine σP ?_
 refine lp0 ((slots k).toNat) (λj=>[(0,fI (slots k)),(1,fI b),(5,bC (aE .own (ov b j))),(6,fN j)]) λj g=>?_
 have l:=u7 b j;by_cases q:j<(slots k).toNat
 ·have d:=kC b (j:Nat) h
  have a:ov b (j+1)=if bo b (j:Nat)=true then ov b j else ov b j++[((j:Nat):Int)]:=rfl
  cases n:bo b (j:Nat)<;>rw[n]at d a
  ·rw[CI (by simp)]at a
   repeat'(first|refine gE ?_|refine Cb cN (λr o=>by rw[z3.1 o];rfl) (by simp[bu,f6]) kd (by simp only[I2];exact zc kd qs) rfl ?_)
   (refine CP (j+1) ω ω ?_)
   rw[a]
   repeat'(first|exact tV1|rfl|exact CK rfl (CK (O1 (C.s eL.own) (by simp[rI])) tV1)|refine CK ?_ ?_|(exact XK (by first|omega|(simp only;omega)|(simp;omega))))
  rw[CJ rfl]at a
  refine σE ?_
  (refine CP (j+1) ω ω ?_)
  rw[a];exact wB
 obtain rfl:j=(slots k).toNat:=ω
 refine σE ?_
 rfl
def GT(b i:Int):bor b (2 ^ i.toNat)=iT b i:=by
 unfold bor iT;have:((2 ^ i.toNat:Nat):Int)=(2:Int) ^ i.toNat:=Int.natCast_pow 2 i.toNat;rw[<-this,O4]
def FF(b i:Int)(d:0<=b/\b<=65535)(a:0<=i/\i<=15):zzA 445 false [.vI b,.vI i] .one [I (iT b i)]:=by
 have c:=uD b i;rw[O0 ω]at c;have e:IntKind.u64.wrap i=i:=by unfold IntKind.wrap;simp[IntKind.signed,IntKind.bits];omega
 have h:=(shl64 a).2;have g:=(or64 (z1:=b) (z2:=2 ^ i.toNat) d ω).trans (GT b i);refine fO 15 [] Tryz.func445 rfl ?_
 repeat'(first|refine gP ?_|refine CT ω ?_|refine CS e ?_|refine CS (shl64 a).1 ?_|refine CS g ?_)
 rfl
def TV(b:bq s=true){k:Int}(d:0<=k/\k<slots s.Z):0<=k*csz s.Z/\k*csz s.Z<=15:=by
 have a:=aO b;have c:=iv a.2.2;rcases dm a.2.2 with e|e|e|e<;>rw[e]at c |-<;>omega
def Fk(s:aA)(k:Int)(a:bq s=true)(d:0<=k/\k<slots s.Z):zzA 446 false [.val (some 3) (aA.enc .O s),.vI k] .one [I (16*s.S+k*csz s.Z)]:=by
 have e:=aO a;have i:=TV a d;have j:=iv e.2.2;have b:=iW s;rw[a]at b;have g:=qH s.Z;have c:=aP k 0 (slots s.Z - 1);rw[O0 ω]at c;have h:=eY s.Z;refine fO 26 [(3,8,[17,18,19,20,21,22,23,24])] Tryz.func446 rfl ?_
 refine σP ?_
 exact gm ω
def Jo(f:aQ)(g:f.a3.length<=1048576):zzA 447 false [.val (some 2) (aQ.enc .O f)] .one [I (cy (λu=>!u) f.a3)]:=by
 refine fO 18 [] Tryz.func447 rfl ?_
 refine σP ?_
 refine gn f.a3.length (λi=>[(1,bS (aQ.enc .O f)),(3,fN i)]) (λi=>∀(j:Nat)(z:Bool),j<i->f.a3[j]? = some z->(!z)=false) (λj z h=>ω) λi c=>?_
 obtain⟨c,b⟩:=c;by_cases d:i<f.a3.length
 ·have a:=ar d
  cases e:nth f.a3 i<;>rw[e]at a
  ·refine σE ?_
   exact gm (dO a rfl b).symm
  refine σE ?_
  (exact dt (i+1) ⟨ω,fH a rfl b⟩)
 refine σE ?_
 exact gm (gd ω b).symm
def VM(x:List aK):fz (.s .own (x.map (aK.enc .own)))=.s .O (x.map (aK.enc .O)):=(List.cons.inj (List.cons.inj (Cu ⟨0,x⟩)).2).1
def ge:∀a b:List C,cP (a++b)=cP a++cP b
 | [],_=>rfl
 | x::xs,b=>by show fz x::cP (xs++b)=fz x::(cP xs++cP b);rw[ge xs b]
def fV(r:au)(c:au.sml r):zzA 70 false [.val (some 2) (au.enc .O r)] .agg (au.enc .own r):=by
 have e:r.K.length<=1048576:=c.1;refine fO 36 [(5,272,[15,16,17,18,19,20,21,22,23,24,25,26,27,28,29,34,0,1,2,3,4,5,6,7,8,9,10,11,12,13,14,15,1000,1001,1002,1003,1004,1005,1006,1007,16,1000,1001,17,1000,1001,18,19,20])] Tryz.func70 rfl ?_ (.inr (Cr _))
 refine σP ?_
 refine lp0 r.K.length (λi=>[(1,bS (au.enc .O r)),(2,bS [I 0,.z]),(3,bS [I r.k,.s .own ((r.K.take i).map (aK.enc .own))]),(4,fN i)]) λi g=>?_
 by_cases b:i<r.K.length
 ·have d:=ar b
  have a:(nth r.K i).U.length<=1048576:=c.2 _ (ax b)
  repeat'(first|refine gE ?_|refine Ce (λ_=>rfl) (λ_=>rfl) a qs ?_|refine CW (λ_=>rfl) (λ_=>rfl) a qs ?_|refine Ap.sn (aN λ_=>rfl) rfl kd qs (gr b) ?_)
  (exact dt (i+1) ω)
 refine σE ?_
 obtain rfl:i=r.K.length:=ω
 rw[O9]
 rfl
def jI(r:au)(id:Int)(g:r.K.length<=1048576):zzA 361 false [.val (some 2) (au.enc .O r),.vI id] .one [I (oD r id)]:=by
 refine fO 22 [] Tryz.func361 rfl ?_
 refine σP ?_
 refine gn r.K.length (λi=>[(1,fI id),(2,bS (au.enc .O r)),(5,fN i)]) (λi=>∀(j:Nat)(z:aK),j<i->r.K[j]? = some z->iG id z=false) (λj z h=>ω) λi c=>?_
 obtain⟨c,b⟩:=c;by_cases d:i<r.K.length
 ·have a:=ar d
  by_cases e:(nth r.K i).Id=id
  ·refine σB ?_
   exact gm (dO a (O0 e) b).symm
  refine σB ?_
  (exact dt (i+1) ⟨ω,fH a (C1 e) b⟩)
 refine σE ?_
 exact gm (gd ω b).symm
def rh(r:au)(c:C)(h:Gg c):gl (au.enc .own r++[c]):=a7 (Cr _) ⟨h,tV1⟩
def EW(r:au)(n:Int)(m:Nat)(b:sG r m)(h:m<=1000)(c:1<=n/\n<=1000):zzA 86 false [.val (some 2) (au.enc .O r),.vI n] (.tup [some 2,none]) (au.enc .O (jt r n)++[I r.k]):=by
 have i:=b.sml h;have d:=b.len;have j:=b.nx;have k:=fV r i;have e:=aP n 1 1000;rw[O0 c]at e;have key:zzA 86 false [.val (some 2) (au.enc .O r),.vI n] (.tup [some 2,none]) (au.enc .own (jt r n)++[I r.k]):=by
  have a:=rh (jt r n) (I r.k) tV1;unfold jt at a |-;rw[CJ c]at a |-;have l:au.enc .own {r with k:=r.k+1,K:=r.K++[⟨r.k,List.replicate n.toNat 0⟩]} = [I (r.k+1),.s .own (r.K.map (aK.enc .own)++[[I r.k,.s .own (List.replicate n.toNat [I 0])]])]:=by
   simp[au.enc,aK.enc,rI]
  rw[l]at a |-;refine fO 30 [(4,263,[13,14,15,16,17,18,22,0,1,2,3,4,5,6,1000,1001,7,1000,1001,8,9,10]),(6,259,[27,28,29,0,1,2,3,1001,1002,4])] Tryz.func86 rfl ?_ (.inr a)
  repeat'(first|refine gP ?_|refine Mk.mk n.toNat ω ω ω (zc ω qs) rfl ?_|refine Ap.sn (aN λ_=>rfl) rfl kd qs rfl ?_)
  rfl
 have g:=key.fzR;rw[ge,Cu]at g;exact g
def Ju(r:au)(id:Int)(m:Nat)(d:sG r m)(k:m<=1000):zzA 209 true [.val (some 2) (au.enc .O r),.vI id] (.tup [some 2,none]) (au.enc .O (kw r id)++[B (!decide (oD r id<0))]):=by
 have g:=d.sml k;have h:=d.len;have i:=fV r g;have b:=jI r id g.1;by_cases e:oD r id<0
 ·have key:zzA 209 true [.val (some 2) (au.enc .O r),.vI id] (.tup [some 2,none]) (au.enc .own r++[B false]):=by
   refine fO 30 [(5,267,[16,17,18,19,20,22,23,24,25,26,28,0,1,2,3,4,6,7,8,9,10,5,1006,1007,1008,1009,1010,11,12,13]),(1048581,6,[1])] Tryz.func209 rfl ?_ (.inl rfl)
   refine σE ?_
   rfl
  have a:=key.fzR;rw[ge,Cu]at a;unfold kw;rw[CJ e,O0 e];exact a
 have n:kw r id = {r with K:=dele r.K (oD r id).toNat}:=by unfold kw;rw[CI e]
 obtain⟨t,u,w⟩:=eZ (iG id) r.K (by unfold oD at e;omega);obtain⟨j,c⟩:=t5 (show 0<=oD r id by omega);have o:j<r.K.length:=by unfold oD at c;omega
 have key:zzA 209 true [.val (some 2) (au.enc .O r),.vI id] (.tup [some 2,none]) ([I r.k,.s .own ((dele r.K j).map (aK.enc .O))]++[B true]):=by
  rw[c]at b;refine fO 30 [(5,267,[16,17,18,19,20,22,23,24,25,26,28,0,1,2,3,4,6,7,8,9,10,5,1006,1007,1008,1009,1010,11,12,13]),(1048581,6,[1])] Tryz.func209 rfl ?_ (.inl rfl)
  repeat'(first|refine gE ?_|refine MQ.mk rfl (VM r.K) rfl ?_|refine CZ j rfl (by rw[I2];omega) (aN λ_=>rfl) C8 ?_|refine Cf (j+1) ω (by rw[I2];omega) (aN λ_=>rfl) I8 ?_|refine CW (λ_=>rfl) (λ_=>rfl) (by rw[I3];omega) qs ?_|refine Ce (λ_=>rfl) (λ_=>rfl) (by rw[I3];omega) qs ?_|refine Ap.dele (λ_=>rfl) (λ_=>rfl) ω qs ?_)
  rfl
 have a:=key.fzR;have p:cP ([I r.k,.s .own ((dele r.K j).map (aK.enc .O))]++[B true])=au.enc .O (kw r id)++[B (!decide (oD r id<0))]:=by
  have:∀l:List aK,fzR (l.map (aK.enc .O))=l.map (aK.enc .O):=λl=>by
   induction l with
   | nil=>rfl
   | cons x xs q=>rw[OB,fzR,q,<-aK.enc_fz,xc]
  rw[n,c,C1 ω];simp[cP,fz,au.enc,this]
 rw[p]at a;exact a
def EL(r:au)(id a v:Int)(m:Nat)(o:sG r m)(D:m<=1000)(h:0<=oD r id)(c:0<=a/\a<=(nth r.K (oD r id).toNat).U.length - 1)(p:0<=v/\v<=999):zzA 211 false [.val (some 2) (au.enc .O r),.vI id,.vI a,.vI v] (.tup [some 2,none]) (au.enc .O (dU r id a v)++[B true]):=by
 have k:=o.sml D;have q:=o.len;have E:=fV r k;have t:=jI r id k.1;obtain⟨J,K,L⟩:=eZ (iG id) r.K h;obtain⟨j,l⟩:=t5 h;have d:j<r.K.length:=by unfold oD at l;omega
 have e:=ar d;have F:(nth r.K j).U.length<=1048576:=k.2 _ (ax d);obtain⟨b,g⟩:=t5 c.1;have G:dU r id a v = {r with K:=r.K.set j ⟨(nth r.K j).Id,(nth r.K j).U.set b v⟩}:=by
  unfold dU;rw[CJ ⟨h,c,p⟩,l,g];rfl
 rw[l]at t c;rw[g]at c |-;simp only[O4]at c;have u:=ar (xs:=(nth r.K j).U) (i:=b) ω;have w:=aP (b:Nat) 0 (((nth r.K j).U.length:Nat) - 1:Int);rw[O0 ω]at w;have y:=aP v 0 999;rw[O0 p]at y;have key:zzA 211 false [.val (some 2) (au.enc .O r),.vI id,.vI (b:Nat),.vI v] (.tup [some 2,none]) (au.enc .own (dU r id (b:Nat) v)++[B true]):=by
  have n:=rh (dU r id (b:Nat) v) (B true) tV1;rw[<-g,G]at n |-;have H:au.enc .own {r with K:=r.K.set j ⟨(nth r.K j).Id,(nth r.K j).U.set b v⟩} = [I r.k,.s .own ((r.K.map (aK.enc .own)).set j [I (nth r.K j).Id,.s .own (((nth r.K j).U.map (rI .own)).set b [I v])])]:=by
   simp[au.enc,aK.enc,rI,CC]
  rw[H]at n |-;rw[g];refine fO 48 [] Tryz.func211 rfl ?_ (.inr n)
  repeat'(first|refine gE ?_|with_reducible refine CQ ω (aa e) ?_|refine Pu.two rfl rfl (aa e) rfl rfl rfl (aa u) rfl (z5 _) rfl ?_)
  rfl
 have C:=key.fzR;rw[ge,Cu]at C;exact C
def JM(r:au)(id n:Int)(m:Nat)(l:sG r m)(u:m<=1000)(g:0<=oD r id)(c:1<=n/\n<=(nth r.K (oD r id).toNat).U.length):zzA 213 false [.val (some 2) (au.enc .O r),.vI id,.vI n] (.tup [some 2,none]) (au.enc .O (fy r id n)++[B true]):=by
 have h:=l.sml u;have o:=l.len;have w:=fV r h;have p:=jI r id h.1;obtain⟨E,F,G⟩:=eZ (iG id) r.K g;obtain⟨j,i⟩:=t5 g;have a:j<r.K.length:=by unfold oD at i;omega
 have d:=ar a;have y:(nth r.K j).U.length<=1048576:=h.2 _ (ax a);obtain⟨b,e⟩:=t5 (show 0<=n by omega);have C:fy r id n = {r with K:=r.K.set j ⟨(nth r.K j).Id,(nth r.K j).U.take b⟩}:=by
  unfold fy;rw[CJ ⟨g,c⟩,i,e];rfl
 rw[i]at p c;rw[e]at c |-;simp only[O4]at c;have q:=aP (b:Nat) 1 (((nth r.K j).U.length:Nat):Int);rw[O0 ω]at q;have key:zzA 213 false [.val (some 2) (au.enc .O r),.vI id,.vI (b:Nat)] (.tup [some 2,none]) (au.enc .own (fy r id (b:Nat))++[B true]):=by
  have k:=rh (fy r id (b:Nat)) (B true) tV1;rw[<-e,C]at k |-;have D:au.enc .own {r with K:=r.K.set j ⟨(nth r.K j).Id,(nth r.K j).U.take b⟩} = [I r.k,.s .own ((r.K.map (aK.enc .own)).set j [I (nth r.K j).Id,.s .own (((nth r.K j).U.take b).map (rI .O))])]:=by
   simp only[au.enc,CC]
   rfl
  rw[D]at k |-;rw[e];refine fO 46 [(5,270,[30,31,32,33,34,35,36,37,38,39,40,41,43,44,0,1,2,3,4,5,6,7,8,9,10,11,12,1000,1001,1002,13,14,15])] Tryz.func213 rfl ?_ (.inr k)
  repeat'(first|refine gE ?_|with_reducible refine CQ ω (aa d) ?_|refine CZ b rfl (by rw[I2];omega) (aN λ_=>rfl) C8 ?_|refine Ce (λ_=>rfl) (λ_=>rfl) (by rw[I3];omega) qs ?_|refine CW (λ_=>rfl) (λ_=>rfl) (by rw[I3];omega) qs ?_|refine CR rfl rfl (aa d) rfl (O2 rfl) rfl ?_)
  rfl
 have t:=key.fzR;rw[ge,Cu]at t;exact t
def HM(r:au)(id a v:Int)(m:Nat)(h:sG r m)(l:m<=1000)(u:0<=v/\v<=999):∃b:Bool,zzA 211 false [.val (some 2) (au.enc .O r),.vI id,.vI a,.vI v] (.tup [some 2,none]) (au.enc .O (dU r id a v)++[B b]):=by
 by_cases i:0<=oD r id
 ·by_cases d:0<=a/\a<=(nth r.K (oD r id).toNat).U.length - 1
  ·exact⟨true,EL r id a v m h l i d u⟩
  refine⟨false,?_⟩;have c:=h.sml l;have o:=h.len;have n:=fV r c;have k:=jI r id c.1;obtain⟨C,D,E⟩:=eZ (iG id) r.K i;obtain⟨j,p⟩:=t5 i;have e:j<r.K.length:=by unfold oD at p;omega
  have q:=ar e;have w:(nth r.K j).U.length<=1048576:=c.2 _ (ax e);have y:dU r id a v=r:=by unfold dU;rw[CI (λx=>d x.2.1)]
  rw[p]at k d;simp only[O4]at d;have t:=aP a 0 (((nth r.K j).U.length:Nat) - 1:Int);rw[C1 d]at t;rw[y];have key:zzA 211 false [.val (some 2) (au.enc .O r),.vI id,.vI a,.vI v] (.tup [some 2,none]) (au.enc .own r++[B false]):=by
   refine fO 48 [] Tryz.func211 rfl ?_ (.inr (rh r (B false) tV1))
   refine σE ?_
   rfl
  have g:=key.fzR;rw[ge,Cu]at g;exact g
 refine⟨false,?_⟩;have c:=h.sml l;have n:=fV r c;have k:=jI r id c.1;rw[show dU r id a v=r by unfold dU;rw[CI (λx=>i x.1)]];have key:zzA 211 false [.val (some 2) (au.enc .O r),.vI id,.vI a,.vI v] (.tup [some 2,none]) (au.enc .own r++[B false]):=by
  refine fO 48 [] Tryz.func211 rfl ?_ (.inr (rh r (B false) tV1))
  refine σE ?_
  rfl
 have g:=key.fzR;rw[ge,Cu]at g;exact g
def La(r:au)(id n:Int)(m:Nat)(g:sG r m)(k:m<=1000):∃b:Bool,zzA 213 false [.val (some 2) (au.enc .O r),.vI id,.vI n] (.tup [some 2,none]) (au.enc .O (fy r id n)++[B b]):=by
 by_cases h:0<=oD r id
 ·by_cases c:1<=n/\n<=(nth r.K (oD r id).toNat).U.length
  ·exact⟨true,JM r id n m g k h c⟩
  refine⟨false,?_⟩;have a:=g.sml k;have o:=g.len;have l:=fV r a;have i:=jI r id a.1;obtain⟨y,C,D⟩:=eZ (iG id) r.K h;obtain⟨j,p⟩:=t5 h;have d:j<r.K.length:=by unfold oD at p;omega
  have q:=ar d;have u:(nth r.K j).U.length<=1048576:=a.2 _ (ax d);have w:fy r id n=r:=by unfold fy;rw[CI (λx=>c x.2)]
  rw[p]at i c;simp only[O4]at c;have t:=aP n 1 (((nth r.K j).U.length:Nat):Int);rw[C1 c]at t;rw[w];have key:zzA 213 false [.val (some 2) (au.enc .O r),.vI id,.vI n] (.tup [some 2,none]) (au.enc .own r++[B false]):=by
   refine fO 46 [(5,270,[30,31,32,33,34,35,36,37,38,39,40,41,43,44,0,1,2,3,4,5,6,7,8,9,10,11,12,1000,1001,1002,13,14,15])] Tryz.func213 rfl ?_ (.inr (rh r (B false) tV1))
   refine σE ?_
   rfl
  have e:=key.fzR;rw[ge,Cu]at e;exact e
 refine⟨false,?_⟩;have a:=g.sml k;have l:=fV r a;have i:=jI r id a.1;rw[show fy r id n=r by unfold fy;rw[CI (λx=>h x.1)]];have key:zzA 213 false [.val (some 2) (au.enc .O r),.vI id,.vI n] (.tup [some 2,none]) (au.enc .own r++[B false]):=by
  refine fO 46 [(5,270,[30,31,32,33,34,35,36,37,38,39,40,41,43,44,0,1,2,3,4,5,6,7,8,9,10,11,12,1000,1001,1002,13,14,15])] Tryz.func213 rfl ?_ (.inr (rh r (B false) tV1))
  refine σE ?_
  rfl
 have e:=key.fzR;rw[ge,Cu]at e;exact e
set_option maxHeartbeats 2000000
def Rr(x:List Int)(e:jE x):zzA 56 false [.val none (aE .O x)] .one (aE .own x):=by
 refine fO 22 [] Tryz.func56 rfl ?_ (.inr (bH x));have g:x.length<=1048576:=e;have a:(x.map (rI .own)).length=(List.replicate x.length ([I 0]:List C)).length:=by simp
 repeat'(first|refine gP ?_|refine Mk.mk _ rfl rfl ω (zc g qs) rfl ?_)
 refine CV (ι:=Nat) (λi=>[(0,bC (aE .O x)),(3,bC [.s .own (kZ (x.map (rI .own)) (List.replicate x.length [I 0]) i)]),(4,fN i)]) (λi=>i<=x.length) (λi=>x.length - i) 0 ?_ (I1 _) λi h=>?_
 ·rw[fR]
  exact wA
 by_cases b:i<x.length
 ·obtain⟨y,d⟩ : ∃y,x[i]? = some y:=⟨_,z4 b⟩
  have c:=gQ a i kd;rw[Qs b]at c
  repeat'(first|refine gE ?_|with_reducible refine CH c ?_|refine CR rfl rfl c rfl (z5 _) rfl ?_|refine CP (i+1) ω ω ?_)
  repeat'(first|exact tV1|rfl|exact CK rfl (CK (O1 (C.s eL.own) (cH a (aa d))) tV1)|refine CK ?_ ?_)
 refine σE ?_
 rw[gN _ a kd]
 rfl
set_option maxHeartbeats 2000000
def RN(x:List Int)(left:Int)(b:0<=left)(h1:left<=1048576)(a:im x):zzA 54 false [.val none (aE .O x),.vI left] .one [I (Xj (szIntS x) left)]:=by
 refine fO 12 [] Tryz.func54 rfl ?_;have c:=a.1
 repeat'(first|refine gE ?_|refine gS (λh=>?_) (λh=>?_)|fail)
 all_goals exact gm (by unfold Xj szIntS;split<;>omega)
set_option maxHeartbeats 2000000
theorem n9(a b:List Int)(p:jE a):zzA 19 false [.val none (aE .O a),.val none (aE .O b)] .one [B (decide (a=b))]:=by
 refine fO 26 [(6,9,[17,18,19,20,21,22,23,24,25])] Tryz.func19 rfl ?_;have r:a.length<=1048576:=p
 repeat'(first|refine gP ?_|refine gS (λh=>?_) (λh=>?_)|fail)
 ·refine bx (C1 λe=>?_).symm
  subst e;omega
 have k:a.length=b.length:=ω
 (conv=>whnf)
 refine gn a.length (λi=>[(0,bC (aE .O a)),(1,bC (aE .O b)),(5,fN i)]) (λi=>∀j,j<i->a[j]? = b[j]?) (λj q=>ω) λi l=>?_
 obtain⟨l,c⟩:=l;by_cases g:i<a.length
 ·obtain⟨x,n⟩ : ∃x,a[i]? = some x:=⟨_,z4 g⟩
  obtain⟨y,o⟩ : ∃y,b[i]? = some y:=⟨_,z4 ω⟩
  repeat'(first|refine gE ?_|refine gS (λh=>?_) (λh=>?_)|fail)
  all_goals first
   |(show [B false]=[B (decide (a=b))]
     refine bx (C1 λe=>?_).symm;subst e
     simp_all)
   | ((conv=>whnf)
      refine CP (i+1) ⟨ω,λj q=>?_⟩ ω ?_
      · rcases Nat.lt_or_ge j i with d|d
        · exact c j d
        obtain rfl:j=i:=ω
        rw[n,o]
        simp_all
      exact wA)
 refine σE ?_
 refine bx (O0 ?_).symm;refine List.ext_getElem? λj=>?_
 rcases Nat.lt_or_ge j i with d|d
 ·exact c j d
 rw[I4 ω,I4 ω]
theorem vU(a b:List (List Int))(l:qp a):zzA 309 false [.val none (g9 .O a),.val none (g9 .O b)] .one [B (decide (a=b))]:=by
 refine fO 27 [(6,10,[17,18,19,20,21,22,23,24,25,26])] Tryz.func309 rfl ?_;have r:a.length<=1048576:=l.1
 repeat'(first|refine gP ?_|refine gS (λh=>?_) (λh=>?_)|fail)
 ·refine bx (C1 λe=>?_).symm
  subst e;omega
 have n:a.length=b.length:=ω
 (conv=>whnf)
 refine gn a.length (λi=>[(0,bC (g9 .O a)),(1,bC (g9 .O b)),(5,fN i)]) (λi=>∀j,j<i->a[j]? = b[j]?) (λj q=>ω) λi o=>?_
 obtain⟨o,c⟩:=o;by_cases g:i<a.length
 ·obtain⟨x,k⟩ : ∃x,a[i]? = some x:=⟨_,z4 g⟩
  obtain⟨y,p⟩ : ∃y,b[i]? = some y:=⟨_,z4 ω⟩
  repeat'(first|refine gE ?_|refine gS (λh=>?_) (λh=>?_)|refine CF (n9 x y (l.2 x (t4 k))) ?_)
  all_goals first
   |(show [B false]=[B (decide (a=b))]
     refine bx (C1 λe=>?_).symm;subst e
     simp_all)
   | ((conv=>whnf)
      refine CP (i+1) ⟨ω,λj q=>?_⟩ ω ?_
      · rcases Nat.lt_or_ge j i with d|d
        · exact c j d
        obtain rfl:j=i:=ω
        rw[k,p]
        simp_all
      exact wA)
 refine σE ?_
 refine bx (O0 ?_).symm;refine List.ext_getElem? λj=>?_
 rcases Nat.lt_or_ge j i with d|d
 ·exact c j d
 rw[I4 ω,I4 ω]
theorem NN(a b:List Bool)(p:xh a):zzA 482 false [.val none (lf .O a),.val none (lf .O b)] .one [B (decide (a=b))]:=by
 refine fO 26 [(6,9,[17,18,19,20,21,22,23,24,25])] Tryz.func482 rfl ?_;have r:a.length<=1048576:=p
 repeat'(first|refine gP ?_|refine gS (λh=>?_) (λh=>?_)|fail)
 ·refine bx (C1 λe=>?_).symm
  subst e;omega
 have k:a.length=b.length:=ω
 (conv=>whnf)
 refine gn a.length (λi=>[(0,bC (lf .O a)),(1,bC (lf .O b)),(5,fN i)]) (λi=>∀j,j<i->a[j]? = b[j]?) (λj q=>ω) λi l=>?_
 obtain⟨l,c⟩:=l;by_cases g:i<a.length
 ·obtain⟨x,n⟩ : ∃x,a[i]? = some x:=⟨_,z4 g⟩
  obtain⟨y,o⟩ : ∃y,b[i]? = some y:=⟨_,z4 ω⟩
  repeat'(first|refine gE ?_|refine gS (λh=>?_) (λh=>?_)|fail)
  all_goals first
   |(show [B false]=[B (decide (a=b))]
     refine bx (C1 λe=>?_).symm;subst e
     simp_all)
   | ((conv=>whnf)
      refine CP (i+1) ⟨ω,λj q=>?_⟩ ω ?_
      · rcases Nat.lt_or_ge j i with d|d
        · exact c j d
        obtain rfl:j=i:=ω
        rw[n,o]
        simp_all
      exact wA)
 refine σE ?_
 refine bx (O0 ?_).symm;refine List.ext_getElem? λj=>?_
 rcases Nat.lt_or_ge j i with d|d
 ·exact c j d
 rw[I4 ω,I4 ω]
theorem Mc(a b:aQ)(c:aQ.sml a):zzA 424 false [.val (some 2) (aQ.enc .O a),.val (some 2) (aQ.enc .O b)] .one [B (decide (a=b))]:=by
 obtain⟨d,g⟩:=c;refine fO 17 [] Tryz.func424 rfl ?_
 repeat'(first|refine gP ?_|refine gS (λh=>?_) (λh=>?_)|refine CF (vU a.U b.U d) ?_|refine CF (NN a.a3 b.a3 g) ?_)
 all_goals first|(show [B false]=[B (decide (a=b))];refine bx (C1 λe=>?_).symm;subst e;contradiction)|(show [B true]=[B (decide (a=b))];refine bx (O0 ?_).symm;cases a;cases b;simp_all)
theorem Pa(a b:aS)(c:aS.sml a):zzA 511 false [.val (some 2) (aS.enc .O a),.val (some 2) (aS.enc .O b)] .one [B (decide (a=b))]:=by
 refine fO 15 [] Tryz.func511 rfl ?_
 repeat'(first|refine gP ?_|refine gS (λh=>?_) (λh=>?_)|fail)
 all_goals first|(show [B false]=[B (decide (a=b))];refine bx (C1 λe=>?_).symm;subst e;contradiction)|(show [B true]=[B (decide (a=b))];refine bx (O0 ?_).symm;cases a;cases b;simp_all)
theorem LK(a b:List aS)(p:qY a):zzA 483 false [.val none (j7 .O a),.val none (j7 .O b)] .one [B (decide (a=b))]:=by
 refine fO 27 [(6,10,[17,18,19,20,21,22,23,24,25,26])] Tryz.func483 rfl ?_;have r:a.length<=1048576:=p.1
 repeat'(first|refine gP ?_|refine gS (λh=>?_) (λh=>?_)|fail)
 ·refine bx (C1 λe=>?_).symm
  subst e;omega
 have k:a.length=b.length:=ω
 (conv=>whnf)
 refine gn a.length (λi=>[(0,bC (j7 .O a)),(1,bC (j7 .O b)),(5,fN i)]) (λi=>∀j,j<i->a[j]? = b[j]?) (λj q=>ω) λi l=>?_
 obtain⟨l,c⟩:=l;by_cases g:i<a.length
 ·obtain⟨x,n⟩ : ∃x,a[i]? = some x:=⟨_,z4 g⟩
  obtain⟨y,o⟩ : ∃y,b[i]? = some y:=⟨_,z4 ω⟩
  repeat'(first|refine gE ?_|refine gS (λh=>?_) (λh=>?_)|refine CF (Pa x y tV1) ?_)
  all_goals first
   |(show [B false]=[B (decide (a=b))]
     refine bx (C1 λe=>?_).symm;subst e
     simp_all)
   | ((conv=>whnf)
      refine CP (i+1) ⟨ω,λj q=>?_⟩ ω ?_
      · rcases Nat.lt_or_ge j i with d|d
        · exact c j d
        obtain rfl:j=i:=ω
        rw[n,o]
        simp_all
      exact wA)
 refine σE ?_
 refine bx (O0 ?_).symm;refine List.ext_getElem? λj=>?_
 rcases Nat.lt_or_ge j i with d|d
 ·exact c j d
 rw[I4 ω,I4 ω]
theorem N8(a b:aM)(c:aM.sml a):zzA 425 false [.val (some 1) (aM.enc .O a),.val (some 1) (aM.enc .O b)] .one [B (decide (a=b))]:=by
 have d:=c;refine fO 11 [] Tryz.func425 rfl ?_
 repeat'(first|refine gP ?_|refine gS (λh=>?_) (λh=>?_)|refine CF (LK a.M b.M d) ?_)
 all_goals first|(show [B false]=[B (decide (a=b))];refine bx (C1 λe=>?_).symm;subst e;contradiction)|(show [B true]=[B (decide (a=b))];refine bx (O0 ?_).symm;cases a;cases b;simp_all)
theorem Hm(a b:aL)(c:aL.sml a):zzA 302 false [.val (some 3) (aL.enc .O a),.val (some 3) (aL.enc .O b)] .one [B (decide (a=b))]:=by
 obtain⟨d,g⟩:=c;refine fO 17 [] Tryz.func302 rfl ?_
 repeat'(first|refine gP ?_|refine gS (λh=>?_) (λh=>?_)|refine CF (Mc a.V b.V d) ?_|refine CF (N8 a.Q b.Q g) ?_)
 all_goals first|(show [B false]=[B (decide (a=b))];refine bx (C1 λe=>?_).symm;subst e;contradiction)|(show [B true]=[B (decide (a=b))];refine bx (O0 ?_).symm;cases a;cases b;simp_all)
theorem L1(a b:af)(c:af.sml a):zzA 141 false [.val (some 5) (af.enc .O a),.val (some 5) (af.enc .O b)] .one [B (decide (a=b))]:=by
 obtain⟨d,g⟩:=c;refine fO 22 [] Tryz.func141 rfl ?_
 repeat'(first|refine gP ?_|refine gS (λh=>?_) (λh=>?_)|refine CF (Hm a.F b.F d) ?_|refine CF (n9 a.a b.a g) ?_)
 all_goals first|(show [B false]=[B (decide (a=b))];refine bx (C1 λe=>?_).symm;subst e;contradiction)|(show [B true]=[B (decide (a=b))];refine bx (O0 ?_).symm;cases a;cases b;simp_all)
theorem MX(a b:aC)(c:aC.sml a):zzA 303 false [.val (some 2) (aC.enc .O a),.val (some 2) (aC.enc .O b)] .one [B (decide (a=b))]:=by
 refine fO 15 [] Tryz.func303 rfl ?_
 repeat'(first|refine gP ?_|refine gS (λh=>?_) (λh=>?_)|fail)
 all_goals first|(show [B false]=[B (decide (a=b))];refine bx (C1 λe=>?_).symm;subst e;contradiction)|(show [B true]=[B (decide (a=b))];refine bx (O0 ?_).symm;cases a;cases b;simp_all)
theorem Li(a b:List aC)(p:f9 a):zzA 142 false [.val none (bn .O a),.val none (bn .O b)] .one [B (decide (a=b))]:=by
 refine fO 27 [(6,10,[17,18,19,20,21,22,23,24,25,26])] Tryz.func142 rfl ?_;have r:a.length<=1048576:=p.1
 repeat'(first|refine gP ?_|refine gS (λh=>?_) (λh=>?_)|fail)
 ·refine bx (C1 λe=>?_).symm
  subst e;omega
 have k:a.length=b.length:=ω
 (conv=>whnf)
 refine gn a.length (λi=>[(0,bC (bn .O a)),(1,bC (bn .O b)),(5,fN i)]) (λi=>∀j,j<i->a[j]? = b[j]?) (λj q=>ω) λi l=>?_
 obtain⟨l,c⟩:=l;by_cases g:i<a.length
 ·obtain⟨x,n⟩ : ∃x,a[i]? = some x:=⟨_,z4 g⟩
  obtain⟨y,o⟩ : ∃y,b[i]? = some y:=⟨_,z4 ω⟩
  repeat'(first|refine gE ?_|refine gS (λh=>?_) (λh=>?_)|refine CF (MX x y tV1) ?_)
  all_goals first
   |(show [B false]=[B (decide (a=b))]
     refine bx (C1 λe=>?_).symm;subst e
     simp_all)
   | ((conv=>whnf)
      refine CP (i+1) ⟨ω,λj q=>?_⟩ ω ?_
      · rcases Nat.lt_or_ge j i with d|d
        · exact c j d
        obtain rfl:j=i:=ω
        rw[n,o]
        simp_all
      exact wA)
 refine σE ?_
 refine bx (O0 ?_).symm;refine List.ext_getElem? λj=>?_
 rcases Nat.lt_or_ge j i with d|d
 ·exact c j d
 rw[I4 ω,I4 ω]
theorem QP(a b:aA)(c:aA.sml a):zzA 304 false [.val (some 3) (aA.enc .O a),.val (some 3) (aA.enc .O b)] .one [B (decide (a=b))]:=by
 refine fO 20 [] Tryz.func304 rfl ?_
 repeat'(first|refine gP ?_|refine gS (λh=>?_) (λh=>?_)|fail)
 all_goals first|(show [B false]=[B (decide (a=b))];refine bx (C1 λe=>?_).symm;subst e;contradiction)|(show [B true]=[B (decide (a=b))];refine bx (O0 ?_).symm;cases a;cases b;simp_all)
theorem NH(a b:List aA)(p:dl a):zzA 143 false [.val none (bP .O a),.val none (bP .O b)] .one [B (decide (a=b))]:=by
 refine fO 27 [(6,10,[17,18,19,20,21,22,23,24,25,26])] Tryz.func143 rfl ?_;have r:a.length<=1048576:=p.1
 repeat'(first|refine gP ?_|refine gS (λh=>?_) (λh=>?_)|fail)
 ·refine bx (C1 λe=>?_).symm
  subst e;omega
 have k:a.length=b.length:=ω
 (conv=>whnf)
 refine gn a.length (λi=>[(0,bC (bP .O a)),(1,bC (bP .O b)),(5,fN i)]) (λi=>∀j,j<i->a[j]? = b[j]?) (λj q=>ω) λi l=>?_
 obtain⟨l,c⟩:=l;by_cases g:i<a.length
 ·obtain⟨x,n⟩ : ∃x,a[i]? = some x:=⟨_,z4 g⟩
  obtain⟨y,o⟩ : ∃y,b[i]? = some y:=⟨_,z4 ω⟩
  repeat'(first|refine gE ?_|refine gS (λh=>?_) (λh=>?_)|refine CF (QP x y tV1) ?_)
  all_goals first
   |(show [B false]=[B (decide (a=b))]
     refine bx (C1 λe=>?_).symm;subst e
     simp_all)
   | ((conv=>whnf)
      refine CP (i+1) ⟨ω,λj q=>?_⟩ ω ?_
      · rcases Nat.lt_or_ge j i with d|d
        · exact c j d
        obtain rfl:j=i:=ω
        rw[n,o]
        simp_all
      exact wA)
 refine σE ?_
 refine bx (O0 ?_).symm;refine List.ext_getElem? λj=>?_
 rcases Nat.lt_or_ge j i with d|d
 ·exact c j d
 rw[I4 ω,I4 ω]
theorem P0(a b:a8)(c:a8.sml a):zzA 305 false [.val (some 3) (a8.enc .O a),.val (some 3) (a8.enc .O b)] .one [B (decide (a=b))]:=by
 refine fO 20 [] Tryz.func305 rfl ?_
 repeat'(first|refine gP ?_|refine gS (λh=>?_) (λh=>?_)|fail)
 all_goals first|(show [B false]=[B (decide (a=b))];refine bx (C1 λe=>?_).symm;subst e;contradiction)|(show [B true]=[B (decide (a=b))];refine bx (O0 ?_).symm;cases a;cases b;simp_all)
theorem Ms(a b:List a8)(p:du a):zzA 144 false [.val none (bV .O a),.val none (bV .O b)] .one [B (decide (a=b))]:=by
 refine fO 27 [(6,10,[17,18,19,20,21,22,23,24,25,26])] Tryz.func144 rfl ?_;have r:a.length<=1048576:=p.1
 repeat'(first|refine gP ?_|refine gS (λh=>?_) (λh=>?_)|fail)
 ·refine bx (C1 λe=>?_).symm
  subst e;omega
 have k:a.length=b.length:=ω
 (conv=>whnf)
 refine gn a.length (λi=>[(0,bC (bV .O a)),(1,bC (bV .O b)),(5,fN i)]) (λi=>∀j,j<i->a[j]? = b[j]?) (λj q=>ω) λi l=>?_
 obtain⟨l,c⟩:=l;by_cases g:i<a.length
 ·obtain⟨x,n⟩ : ∃x,a[i]? = some x:=⟨_,z4 g⟩
  obtain⟨y,o⟩ : ∃y,b[i]? = some y:=⟨_,z4 ω⟩
  repeat'(first|refine gE ?_|refine gS (λh=>?_) (λh=>?_)|refine CF (P0 x y tV1) ?_)
  all_goals first
   |(show [B false]=[B (decide (a=b))]
     refine bx (C1 λe=>?_).symm;subst e
     simp_all)
   | ((conv=>whnf)
      refine CP (i+1) ⟨ω,λj q=>?_⟩ ω ?_
      · rcases Nat.lt_or_ge j i with d|d
        · exact c j d
        obtain rfl:j=i:=ω
        rw[n,o]
        simp_all
      exact wA)
 refine σE ?_
 refine bx (O0 ?_).symm;refine List.ext_getElem? λj=>?_
 rcases Nat.lt_or_ge j i with d|d
 ·exact c j d
 rw[I4 ω,I4 ω]
theorem Vd(a b:aW)(c:aW.sml a):zzA 306 false [.val (some 4) (aW.enc .O a),.val (some 4) (aW.enc .O b)] .one [B (decide (a=b))]:=by
 refine fO 25 [] Tryz.func306 rfl ?_
 repeat'(first|refine gP ?_|refine gS (λh=>?_) (λh=>?_)|fail)
 all_goals first|(show [B false]=[B (decide (a=b))];refine bx (C1 λe=>?_).symm;subst e;contradiction)|(show [B true]=[B (decide (a=b))];refine bx (O0 ?_).symm;cases a;cases b;simp_all)
theorem Re(a b:List aW)(p:xw a):zzA 145 false [.val none (iU .O a),.val none (iU .O b)] .one [B (decide (a=b))]:=by
 refine fO 27 [(6,10,[17,18,19,20,21,22,23,24,25,26])] Tryz.func145 rfl ?_;have r:a.length<=1048576:=p.1
 repeat'(first|refine gP ?_|refine gS (λh=>?_) (λh=>?_)|fail)
 ·refine bx (C1 λe=>?_).symm
  subst e;omega
 have k:a.length=b.length:=ω
 (conv=>whnf)
 refine gn a.length (λi=>[(0,bC (iU .O a)),(1,bC (iU .O b)),(5,fN i)]) (λi=>∀j,j<i->a[j]? = b[j]?) (λj q=>ω) λi l=>?_
 obtain⟨l,c⟩:=l;by_cases g:i<a.length
 ·obtain⟨x,n⟩ : ∃x,a[i]? = some x:=⟨_,z4 g⟩
  obtain⟨y,o⟩ : ∃y,b[i]? = some y:=⟨_,z4 ω⟩
  repeat'(first|refine gE ?_|refine gS (λh=>?_) (λh=>?_)|refine CF (Vd x y tV1) ?_)
  all_goals first
   |(show [B false]=[B (decide (a=b))]
     refine bx (C1 λe=>?_).symm;subst e
     simp_all)
   | ((conv=>whnf)
      refine CP (i+1) ⟨ω,λj q=>?_⟩ ω ?_
      · rcases Nat.lt_or_ge j i with d|d
        · exact c j d
        obtain rfl:j=i:=ω
        rw[n,o]
        simp_all
      exact wA)
 refine σE ?_
 refine bx (O0 ?_).symm;refine List.ext_getElem? λj=>?_
 rcases Nat.lt_or_ge j i with d|d
 ·exact c j d
 rw[I4 ω,I4 ω]
theorem Nd(a b:aB)(c:aB.sml a):zzA 307 false [.val (some 1) (aB.enc .O a),.val (some 1) (aB.enc .O b)] .one [B (decide (a=b))]:=by
 have d:=c;refine fO 11 [] Tryz.func307 rfl ?_
 repeat'(first|refine gP ?_|refine gS (λh=>?_) (λh=>?_)|refine CF (vU a.W b.W d) ?_)
 all_goals first|(show [B false]=[B (decide (a=b))];refine bx (C1 λe=>?_).symm;subst e;contradiction)|(show [B true]=[B (decide (a=b))];refine bx (O0 ?_).symm;cases a;cases b;simp_all)
theorem LL(a b:List aB)(l:rS a):zzA 146 false [.val none (hJ .O a),.val none (hJ .O b)] .one [B (decide (a=b))]:=by
 refine fO 27 [(6,10,[17,18,19,20,21,22,23,24,25,26])] Tryz.func146 rfl ?_;have r:a.length<=1048576:=l.1
 repeat'(first|refine gP ?_|refine gS (λh=>?_) (λh=>?_)|fail)
 ·refine bx (C1 λe=>?_).symm
  subst e;omega
 have n:a.length=b.length:=ω
 (conv=>whnf)
 refine gn a.length (λi=>[(0,bC (hJ .O a)),(1,bC (hJ .O b)),(5,fN i)]) (λi=>∀j,j<i->a[j]? = b[j]?) (λj q=>ω) λi o=>?_
 obtain⟨o,c⟩:=o;by_cases g:i<a.length
 ·obtain⟨x,k⟩ : ∃x,a[i]? = some x:=⟨_,z4 g⟩
  obtain⟨y,p⟩ : ∃y,b[i]? = some y:=⟨_,z4 ω⟩
  repeat'(first|refine gE ?_|refine gS (λh=>?_) (λh=>?_)|refine CF (Nd x y (l.2 x (t4 k))) ?_)
  all_goals first
   |(show [B false]=[B (decide (a=b))]
     refine bx (C1 λe=>?_).symm;subst e
     simp_all)
   | ((conv=>whnf)
      refine CP (i+1) ⟨ω,λj q=>?_⟩ ω ?_
      · rcases Nat.lt_or_ge j i with d|d
        · exact c j d
        obtain rfl:j=i:=ω
        rw[k,p]
        simp_all
      exact wA)
 refine σE ?_
 refine bx (O0 ?_).symm;refine List.ext_getElem? λj=>?_
 rcases Nat.lt_or_ge j i with d|d
 ·exact c j d
 rw[I4 ω,I4 ω]
theorem QV(a b:aX)(c:aX.sml a):zzA 484 false [.val (some 2) (aX.enc .O a),.val (some 2) (aX.enc .O b)] .one [B (decide (a=b))]:=by
 refine fO 15 [] Tryz.func484 rfl ?_
 repeat'(first|refine gP ?_|refine gS (λh=>?_) (λh=>?_)|fail)
 all_goals first|(show [B false]=[B (decide (a=b))];refine bx (C1 λe=>?_).symm;subst e;contradiction)|(show [B true]=[B (decide (a=b))];refine bx (O0 ?_).symm;cases a;cases b;simp_all)
theorem Pm(a b:List aX)(p:uo a):zzA 426 false [.val none (bg .O a),.val none (bg .O b)] .one [B (decide (a=b))]:=by
 refine fO 27 [(6,10,[17,18,19,20,21,22,23,24,25,26])] Tryz.func426 rfl ?_;have r:a.length<=1048576:=p.1
 repeat'(first|refine gP ?_|refine gS (λh=>?_) (λh=>?_)|fail)
 ·refine bx (C1 λe=>?_).symm
  subst e;omega
 have k:a.length=b.length:=ω
 (conv=>whnf)
 refine gn a.length (λi=>[(0,bC (bg .O a)),(1,bC (bg .O b)),(5,fN i)]) (λi=>∀j,j<i->a[j]? = b[j]?) (λj q=>ω) λi l=>?_
 obtain⟨l,c⟩:=l;by_cases g:i<a.length
 ·obtain⟨x,n⟩ : ∃x,a[i]? = some x:=⟨_,z4 g⟩
  obtain⟨y,o⟩ : ∃y,b[i]? = some y:=⟨_,z4 ω⟩
  repeat'(first|refine gE ?_|refine gS (λh=>?_) (λh=>?_)|refine CF (QV x y tV1) ?_)
  all_goals first
   |(show [B false]=[B (decide (a=b))]
     refine bx (C1 λe=>?_).symm;subst e
     simp_all)
   | ((conv=>whnf)
      refine CP (i+1) ⟨ω,λj q=>?_⟩ ω ?_
      · rcases Nat.lt_or_ge j i with d|d
        · exact c j d
        obtain rfl:j=i:=ω
        rw[n,o]
        simp_all
      exact wA)
 refine σE ?_
 refine bx (O0 ?_).symm;refine List.ext_getElem? λj=>?_
 rcases Nat.lt_or_ge j i with d|d
 ·exact c j d
 rw[I4 ω,I4 ω]
theorem Lw(a b:List (List aX))(l:qS a):zzA 308 false [.val none (iR .O a),.val none (iR .O b)] .one [B (decide (a=b))]:=by
 refine fO 27 [(6,10,[17,18,19,20,21,22,23,24,25,26])] Tryz.func308 rfl ?_;have r:a.length<=1048576:=l.1
 repeat'(first|refine gP ?_|refine gS (λh=>?_) (λh=>?_)|fail)
 ·refine bx (C1 λe=>?_).symm
  subst e;omega
 have n:a.length=b.length:=ω
 (conv=>whnf)
 refine gn a.length (λi=>[(0,bC (iR .O a)),(1,bC (iR .O b)),(5,fN i)]) (λi=>∀j,j<i->a[j]? = b[j]?) (λj q=>ω) λi o=>?_
 obtain⟨o,c⟩:=o;by_cases g:i<a.length
 ·obtain⟨x,k⟩ : ∃x,a[i]? = some x:=⟨_,z4 g⟩
  obtain⟨y,p⟩ : ∃y,b[i]? = some y:=⟨_,z4 ω⟩
  repeat'(first|refine gE ?_|refine gS (λh=>?_) (λh=>?_)|refine CF (Pm x y (l.2 x (t4 k))) ?_)
  all_goals first
   |(show [B false]=[B (decide (a=b))]
     refine bx (C1 λe=>?_).symm;subst e
     simp_all)
   | ((conv=>whnf)
      refine CP (i+1) ⟨ω,λj q=>?_⟩ ω ?_
      · rcases Nat.lt_or_ge j i with d|d
        · exact c j d
        obtain rfl:j=i:=ω
        rw[k,p]
        simp_all
      exact wA)
 refine σE ?_
 refine bx (O0 ?_).symm;refine List.ext_getElem? λj=>?_
 rcases Nat.lt_or_ge j i with d|d
 ·exact c j d
 rw[I4 ω,I4 ω]
theorem RU(a b:aI)(c:aI.sml a):zzA 147 false [.val (some 2) (aI.enc .O a),.val (some 2) (aI.enc .O b)] .one [B (decide (a=b))]:=by
 obtain⟨d,g⟩:=c;refine fO 17 [] Tryz.func147 rfl ?_
 repeat'(first|refine gP ?_|refine gS (λh=>?_) (λh=>?_)|refine CF (Lw a.T b.T d) ?_|refine CF (vU a.g b.g g) ?_)
 all_goals first|(show [B false]=[B (decide (a=b))];refine bx (C1 λe=>?_).symm;subst e;contradiction)|(show [B true]=[B (decide (a=b))];refine bx (O0 ?_).symm;cases a;cases b;simp_all)
theorem MZ(a b:aJ)(c:aJ.sml a):zzA 427 false [.val (some 3) (aJ.enc .O a),.val (some 3) (aJ.enc .O b)] .one [B (decide (a=b))]:=by
 refine fO 20 [] Tryz.func427 rfl ?_
 repeat'(first|refine gP ?_|refine gS (λh=>?_) (λh=>?_)|fail)
 all_goals first|(show [B false]=[B (decide (a=b))];refine bx (C1 λe=>?_).symm;subst e;contradiction)|(show [B true]=[B (decide (a=b))];refine bx (O0 ?_).symm;cases a;cases b;simp_all)
theorem KG(a b:List aJ)(p:iP a):zzA 310 false [.val none (bY .O a),.val none (bY .O b)] .one [B (decide (a=b))]:=by
 refine fO 27 [(6,10,[17,18,19,20,21,22,23,24,25,26])] Tryz.func310 rfl ?_;have r:a.length<=1048576:=p.1
 repeat'(first|refine gP ?_|refine gS (λh=>?_) (λh=>?_)|fail)
 ·refine bx (C1 λe=>?_).symm
  subst e;omega
 have k:a.length=b.length:=ω
 (conv=>whnf)
 refine gn a.length (λi=>[(0,bC (bY .O a)),(1,bC (bY .O b)),(5,fN i)]) (λi=>∀j,j<i->a[j]? = b[j]?) (λj q=>ω) λi l=>?_
 obtain⟨l,c⟩:=l;by_cases g:i<a.length
 ·obtain⟨x,n⟩ : ∃x,a[i]? = some x:=⟨_,z4 g⟩
  obtain⟨y,o⟩ : ∃y,b[i]? = some y:=⟨_,z4 ω⟩
  repeat'(first|refine gE ?_|refine gS (λh=>?_) (λh=>?_)|refine CF (MZ x y tV1) ?_)
  all_goals first
   |(show [B false]=[B (decide (a=b))]
     refine bx (C1 λe=>?_).symm;subst e
     simp_all)
   | ((conv=>whnf)
      refine CP (i+1) ⟨ω,λj q=>?_⟩ ω ?_
      · rcases Nat.lt_or_ge j i with d|d
        · exact c j d
        obtain rfl:j=i:=ω
        rw[n,o]
        simp_all
      exact wA)
 refine σE ?_
 refine bx (O0 ?_).symm;refine List.ext_getElem? λj=>?_
 rcases Nat.lt_or_ge j i with d|d
 ·exact c j d
 rw[I4 ω,I4 ω]
theorem R2(a b:bh)(c:bh.sml a):zzA 148 false [.val (some 2) (bh.enc .O a),.val (some 2) (bh.enc .O b)] .one [B (decide (a=b))]:=by
 have d:=c;refine fO 16 [] Tryz.func148 rfl ?_
 repeat'(first|refine gP ?_|refine gS (λh=>?_) (λh=>?_)|refine CF (KG a.q b.q d) ?_)
 all_goals first|(show [B false]=[B (decide (a=b))];refine bx (C1 λe=>?_).symm;subst e;contradiction)|(show [B true]=[B (decide (a=b))];refine bx (O0 ?_).symm;cases a;cases b;simp_all)
theorem Ru(a b:b9)(c:b9.sml a):zzA 311 false [.val (some 3) (b9.enc .O a),.val (some 3) (b9.enc .O b)] .one [B (decide (a=b))]:=by
 have d:=c;refine fO 21 [] Tryz.func311 rfl ?_
 repeat'(first|refine gP ?_|refine gS (λh=>?_) (λh=>?_)|refine CF (n9 a.U b.U d) ?_)
 all_goals first|(show [B false]=[B (decide (a=b))];refine bx (C1 λe=>?_).symm;subst e;contradiction)|(show [B true]=[B (decide (a=b))];refine bx (O0 ?_).symm;cases a;cases b;simp_all)
theorem TO(a b:bW)(c:bW.sml a):zzA 149 false [.val (some 5) (bW.enc .O a),.val (some 5) (bW.enc .O b)] .one [B (decide (a=b))]:=by
 have d:=c;refine fO 21 [] Tryz.func149 rfl ?_
 repeat'(first|refine gP ?_|refine gS (λh=>?_) (λh=>?_)|refine CF (Ru a.d b.d d) ?_)
 all_goals first|(show [B false]=[B (decide (a=b))];refine bx (C1 λe=>?_).symm;subst e;contradiction)|(show [B true]=[B (decide (a=b))];refine bx (O0 ?_).symm;cases a;cases b;simp_all)
theorem Rt(a b:ac)(c:ac.sml a):zzA 48 false [.val (some 24) (ac.enc .O a),.val (some 24) (ac.enc .O b)] .one [B (decide (a=b))]:=by
 obtain⟨d,g,i,j,k,l,n,o,p⟩:=c;refine fO 84 [] Tryz.func48 rfl ?_
 repeat'(first|refine gP ?_|refine gS (λh=>?_) (λh=>?_)|refine CF (L1 a.G b.G d) ?_|refine CF (Li a.b b.b g) ?_|refine CF (NH a.J b.J i) ?_|refine CF (Ms a.H b.H j) ?_|refine CF (Re a.K b.K k) ?_|refine CF (LL a.R b.R l) ?_|refine CF (RU a.e b.e n) ?_|refine CF (R2 a.a1 b.a1 o) ?_|refine CF (TO a.a5 b.a5 p) ?_)
 all_goals first|(show [B false]=[B (decide (a=b))];refine bx (C1 λe=>?_).symm;subst e;contradiction)|(show [B true]=[B (decide (a=b))];refine bx (O0 ?_).symm;cases a;cases b;simp_all)
def rg(m:aI):∀(n i:Nat),i<n->((nth m.T i).length:Int)+(nth m.g i).length<=bQ m n/\0<=bQ m n
 | 0,i,h=>absurd h (Nat.not_lt_zero i)
 | n+1,i,h=>by
  have a:0<=bQ m n:=by
   cases n with
   | zero=>exact I9 _
   | succ k=>exact(rg m (k+1) 0 ω).2
  simp only[bQ];by_cases e:i=n
  ·subst e;omega
  have:=(rg m n i ω).1;omega
structure jp(m:aI):Prop where
 b4:1<=m.T.length/\m.T.length<=4
 i4:m.g.length=m.T.length
 bl:∀i,i<m.T.length->(nth m.T i).length<=30
 il:∀i,i<m.T.length->(nth m.g i).length<=30
def jp.of{m:aI}(h:bG m=true):jp m:=by
 obtain⟨⟨b,c,d⟩,-,e⟩:=dH.1 h;exact⟨⟨b,c⟩,d,λi a=>by have:=(rg m m.T.length i a).1;omega,λi a=>by have:=(rg m m.T.length i a).1;omega⟩
def jp.sml{m:aI}(h:jp m):aI.sml m:=by
 have c:=h.b4;have d:=h.i4;refine⟨⟨ω,λl a=>?_⟩,⟨ω,λl a=>?_⟩⟩
 ·obtain⟨i,b,rfl⟩:=bw a
  have:=h.bl i b;exact⟨ω,λ_ _=>tV1⟩
 obtain⟨i,b,rfl⟩:=bw a;have:=h.il i ω;show(nth m.g i).length<=1048576;omega
def xY(m:aI)(k:Int)(a:aI.sml m):zzA 365 false [.val (some 2) (aI.enc .O m),.vI k] .one [B (bG m&&decide (0<=k/\k<=m.T.length - 1))]:=by
 have b:=pf m a;have c:m.T.length<=1048576:=a.1.1;cases e:bG m<;>rw[e]at b
 all_goals
  refine fO 15 [] Tryz.func365 rfl ?_
  repeat'(first|refine gP ?_|refine CF (aP k 0 (m.T.length - 1:Int)) ?_)
  all_goals rfl
def Rf{m:aI}(a:f<m.T.length):m.T[f]? = some (nth m.T f):=ar a
def yW(m:aI)(f:Nat)(p:aX):aI.enc .own (gz m f p)=[.s .own ((m.T.map (bg .own)).set f (bg .own (nth m.T f++[p]))),.s .own (m.g.map (aE .own))]:=by simp[aI.enc,gz,CC]
def G0{m:aI}(h:jp m)(c:f<m.T.length)(p:aX):aI.sml (gz m f p):=by
 have d:=h.b4;have b:=h.sml;refine⟨⟨by simp only[gz,C3];omega,λl a=>?_⟩,b.2⟩;rcases SC a with a|rfl
 ·exact b.1.2 l a
 have:=h.bl f c;exact⟨by simp;omega,λ_ _=>tV1⟩
def R1(m:aI)(f:Nat)(p:aX)(j:bG m=true)(g:f<m.T.length):zzA 357 false [.val (some 2) (aI.enc .O m),.vI (f:Nat),.val (some 2) (aX.enc .O p)] (.tup [some 2,none]) (aI.enc .own (if bG (gz m f p)=true then gz m f p else m)++[B (bG (gz m f p))]):=by
 have c:=jp.of j;have k:=c.sml;have q:=c.b4;have h:=xY m f k;rw[j,O0 ω]at h;have l:=ig m k;have b:=G0 c g p;have i:=pf (gz m f p) b;have n:=ig (gz m f p) b;have a:=Rf g;have o:=c.bl f g;have d:=Ct (gz m f p);rw[yW]at d;cases e:bG (gz m f p)<;>rw[e]at i
 ·rw[CI (by simp)]
  refine fO 35 [(4,267,[16,17,18,19,20,21,22,23,24,25,27,0,1,2,3,4,5,6,7,8,9,10,1000,1001,1002,11,12])] Tryz.func357 rfl ?_ (.inr (a7 (Cn _) ⟨tV1,tV1⟩))
  repeat'(first|refine gP ?_|refine CH (ce a) ?_|refine CL rfl (ce a) rfl ?_|refine Cg rfl rfl (aa a) rfl (O2 rfl) rfl rfl ?_|refine CR rfl rfl (ce a) rfl (O2 rfl) (show [C.s eL.own ((m.T.map (bg .own)).set f (bg .own (nth m.T f++[p]))),C.s .own (m.g.map (aE .own))]=_ from by simp only[List.set_cons_zero,List.set_set,O4];rfl) ?_|refine Cc (aN λ_=>rfl) rfl kd qs (dZ _ _ _) ?_|refine CM (i) ⟨⟨rfl,d⟩,tV1⟩ ?_)
  rfl
 rw[CJ rfl];refine fO 35 [(4,267,[16,17,18,19,20,21,22,23,24,25,27,0,1,2,3,4,5,6,7,8,9,10,1000,1001,1002,11,12])] Tryz.func357 rfl ?_ (.inr (a7 (Cn _) ⟨tV1,tV1⟩))
 repeat'(first|refine gP ?_|refine CH (ce a) ?_|refine CL rfl (ce a) rfl ?_|refine Cg rfl rfl (aa a) rfl (O2 rfl) rfl rfl ?_|refine CR rfl rfl (ce a) rfl (O2 rfl) (show [C.s eL.own ((m.T.map (bg .own)).set f (bg .own (nth m.T f++[p]))),C.s .own (m.g.map (aE .own))]=_ from by simp only[List.set_cons_zero,List.set_set,O4];rfl) ?_|refine Cc (aN λ_=>rfl) rfl kd qs (dZ _ _ _) ?_|refine CM (i) ⟨⟨rfl,d⟩,tV1⟩ ?_|refine CM (n) ⟨⟨rfl,d⟩,tV1⟩ ?_)
 rfl
def Nk(m:aI)(f:Int)(a:bG m=true)(d:¬(0<=f/\f<=m.T.length - 1)):zzA 214 false [.val (some 2) (aI.enc .O m),.vI f] (.tup [some 2,none]) (aI.enc .own m++[B false]):=by
 have e:=jp.of a;have b:=e.sml;have c:=xY m f b;rw[a,C1 d]at c;have g:=ig m b;refine fO 60 [(5,267,[31,32,33,34,35,36,37,38,39,40,42,0,1,2,3,4,5,6,7,8,9,10,1000,1001,1002,11,12]),(6,270,[43,44,45,46,47,48,49,50,51,52,53,54,55,57,0,1,2,3,4,5,6,7,8,9,10,11,12,13,1000,1001,1002,1003,14,15])] Tryz.func214 rfl ?_ (.inr (a7 (Cn _) ⟨tV1,tV1⟩))
 refine σP ?_
 rfl
def D4(m:aI)(f t:Nat)(a:(nth (nth m.T f) 0).To=t):aI.enc .own (ed m f)=[.s .own ((m.T.map (bg .own)).set f [.s .own (((nth m.T f).drop 1).map (aX.enc .O))]),.s .own ((m.g.map (aE .own)).set t (aE .own (nth m.g t++[(nth (nth m.T f) 0).Addr])))]:=by
 unfold aI.enc ed;simp only[CC,a,O4]
 rfl
def KK(m:aI)(f:Nat)(h:bG m=true)(i:f<m.T.length):zzA 214 false [.val (some 2) (aI.enc .O m),.vI (f:Nat)] (.tup [some 2,none]) (aI.enc .own (if 0<(nth m.T f).length then ed m f else m)++[B (decide (0<(nth m.T f).length))]):=by
 have d:=jp.of h;have u:=d.sml;have J:=d.b4;have D:=d.i4;have j:=xY m f u;rw[h,O0 ω]at j;have w:=ig m u;have a:=Rf i;have E:=d.bl f i;by_cases e:0<(nth m.T f).length
 ·rw[CJ e,O0 e]
  have g:=((dH.1 h).2.1 f i).1 _ (ax e);obtain⟨t,k⟩:=t5 g.1;have l:t<m.g.length:=ω
  have y:=ar e;have c:=ar l;have F:=d.il t ω;have n:=(jp.of (LP h i e)).sml;have G:=ig (ed m f) n;have o:=Ct (ed m f);rw[D4 m f t k]at o;have q:=a7 (b:=[B true]) (Cn (ed m f)) ⟨tV1,tV1⟩;generalize K:nth (nth m.T f) 0=p at *;obtain⟨L,H⟩:=p;simp only at k g o;subst k;refine fO 60 [(5,267,[31,32,33,34,35,36,37,38,39,40,42,0,1,2,3,4,5,6,7,8,9,10,1000,1001,1002,11,12]),(6,270,[43,44,45,46,47,48,49,50,51,52,53,54,55,57,0,1,2,3,4,5,6,7,8,9,10,11,12,13,1000,1001,1002,1003,14,15])] Tryz.func214 rfl ?_ (.inr q)
  repeat'(first|refine gB ?_|refine gS (λr=>?_) (λr=>?_)|refine CQ qs (aa y) ?_|refine CH (ce a) ?_|refine CH (ce c) ?_|refine CL rfl (ce a) rfl ?_|refine CL rfl (ce c) rfl ?_|refine Cg rfl rfl (aa c) rfl (O2 rfl) rfl rfl ?_|refine Cf 1 rfl (by rw[I2];omega) (aN λ_=>rfl) I8 ?_|refine Ce (λ_=>rfl) (λ_=>rfl) (by rw[O5];omega) qs ?_|refine CW (λ_=>rfl) (λ_=>rfl) (by rw[O5];omega) qs ?_|refine CR rfl rfl (aa a) rfl (O2 rfl) rfl ?_|refine CR rfl rfl (ce c) rfl (O2 rfl) (show [C.s eL.own ((m.T.map (bg .own)).set f [.s .own (((nth m.T f).drop 1).map (aX.enc .O))]),C.s .own ((m.g.map (aE .own)).set t (aE .own (nth m.g t++[H])))]=_ from by simp only[List.set_cons_zero,List.set_cons_succ,List.set_set,O4];rfl) ?_|refine Cc (aN λ_=>rfl) rfl kd qs (dZ _ _ _) ?_|refine CM (G) ⟨⟨rfl,o⟩,tV1⟩ ?_)
  rfl
 rw[CI e,C1 e];refine fO 60 [(5,267,[31,32,33,34,35,36,37,38,39,40,42,0,1,2,3,4,5,6,7,8,9,10,1000,1001,1002,11,12]),(6,270,[43,44,45,46,47,48,49,50,51,52,53,54,55,57,0,1,2,3,4,5,6,7,8,9,10,11,12,13,1000,1001,1002,1003,14,15])] Tryz.func214 rfl ?_ (.inr (a7 (Cn _) ⟨tV1,tV1⟩))
 repeat'(first|refine gB ?_|refine gS (λr=>?_) (λr=>?_)|fail)
 rfl
def Tq.set(rows:List (List C))(i:Nat){r r':List C}(h:TB r r'):Tq (.s .own (rows.set i r)) (.s .own (rows.set i r')):=by
 refine .own_ _ _ (by simp) (λj a b d f=>?_) (λj l a b c o d f n g=>?_)
 ·by_cases e:i=j
  ·subst e
   have k:i<rows.length:=by have:=(C4.1 d).1;simpa using this
   rw[I6 k]at d f;cases d;cases f;exact h.1
  rw[List.getElem?_set_ne e]at d f;rw[d]at f;cases f;rfl
 by_cases e:i=j
 ·subst e
  have k:i<rows.length:=by have:=(C4.1 d).1;simpa using this
  rw[I6 k]at d f;cases d;cases f;exact h.2 l c o n g
 rw[List.getElem?_set_ne e]at d f;rw[d]at f;cases f;rw[n]at g;cases g;exact .rfl_ _
def J6(m:aI)(t:Nat)(d:bG m=true)(h:t<m.T.length):zzA 366 false [.val (some 2) (aI.enc .O m),.vI (t:Nat)] (.tup [some 2,none]) (aI.enc .own (jP m t)++aE .own (nth m.g t)):=by
 have b:=jp.of d;have e:=b.sml;have o:=b.b4;have j:=b.i4;have g:=xY m t e;rw[d,O0 ω]at g;have k:=ig m e;have c:=ar (xs:=m.g) (i:=t) ω;have l:=b.il t h;have a:=a7 (Cn (jP m t)) (bH (nth m.g t));have n:aI.enc .own (jP m t)=[.s .own (m.T.map (bg .own)),.s .own ((m.g.map (aE .own)).set t [.s .own []])]:=by simp[aI.enc,jP,CC];rfl
 rw[n]at a |-;refine fO 28 [(5,263,[20,21,22,23,24,25,26,0,1,2,3,4,5,6,7,1000,8,9])] Tryz.func366 rfl ?_ (.inr a)
 repeat'((conv=>whnf);first|with_reducible (first|refine Lm ?_|refine Wm ω ?_|refine CH (aa c) ?_|refine Bn ?_|refine km.dk rfl ?_)|refine Bt ?_|refine Bu ?_|refine CG ?_|refine CF (g) ?_|refine CF (k) ?_|refine CL rfl (aa c) rfl ?_|refine CR rfl rfl (aa c) rfl (O2 rfl) rfl ?_|refine Ce (λ_=>rfl) (λ_=>rfl) ω qs ?_|refine CW (λ_=>rfl) (λ_=>rfl) ω qs ?_|refine CG ?_)
 exact .cons (.rfl_ _) (.cons (Tq.set _ _ (.cons .z_ .nil)) (.cons (.rfl_ _) .nil))
end Go.Proofs.YtjooeakgbamfnaaGreat.Ab
