/- What holds of a heap of which addresses are in hand: all that holds of a valid one, the holders and the addresses together. No condition. -/
import Derived.Test.YtecefhjnejfheaaGreatKqd
import Derived.Test.YtecefhjnejfheaaGreatKqe
import Derived.Deep.LoopGhost
import Derived.Deep.RegionLaw
import Derived.Lib.Walk
import Derived.Sort.WalkB12
import Derived.Lib.SliceRun
import Derived.Shelf.RegionOpenPlain
set_option linter.unusedVariables false
set_option linter.unusedSimpArgs false
set_option linter.constructorNameAsVariable false
namespace Go.Proofs.YtecefhjnejfheaaGreat.Ab
theorem vC{α:Type}[Inhabited α](R:Int->Int->Prop)(n:∀a b c,R a b->R b c->R a c)(f:α->Int)(xs:List α):(∀i,i<xs.length->i=0\/R (f (nth xs (i - 1))) (f (nth xs i)))↔xs.Pairwise (λa b=>R (f a) (f b)):=by
 constructor
 ·intro h
  have o:∀j i,i<j->j<xs.length->R (f (nth xs i)) (f (nth xs j)):=λj=>by
   induction j with
   | zero=>intro i d;omega
   | succ j p=>
    intro i d g;have k:=(h (j+1) g).resolve_left ω;rw[show j+1 - 1=j from rfl]at k;by_cases e:i=j
    ·subst e;exact k
    exact n _ _ _ (p i ω ω) k
  rw[List.pairwise_iff_getElem];intro i j d g l;have:=o j i l g
  rwa [bj (Z1 d),bj (Z1 g)]at this
 intro h i d;by_cases e:i=0
 ·exact .inl e
 right
 have:=List.pairwise_iff_getElem.1 h (i - 1) i ω d ω
 rwa [<-bj (Z1 (show i - 1<xs.length by omega)),<-bj (Z1 d)]at this
theorem zN{α:Type}[Inhabited α](f:α->Int)(xs:List α):(∀i,i<xs.length->∀o∈xs.take i,f o≠f (nth xs i))↔(xs.map f).Nodup:=by
 unfold List.Nodup;rw[List.pairwise_map,List.pairwise_iff_getElem];constructor
 ·intro h i j a b c
  have:=h j b xs[i] (List.mem_take_iff_getElem.2 ⟨i,ω,rfl⟩)
  rwa [bj (Z1 b)]at this
 intro h i a o d;obtain⟨j,b,rfl⟩:=List.mem_take_iff_getElem.1 d;rw[bj (Z1 a)];exact h j i ω a ω
def ew(s:ax)(a:Int):Prop:=16*s.Q<=a/\a<=16*s.Q+15/\(a - 16*s.Q) % csz s.a=0/\aQ s.b1 ((a - 16*s.Q) / csz s.a)=true
def jP(sp:List ax)(a c:Int):Prop:=∃s∈sp,ew s a/\(c<0\/s.a=c)
def Rl(la:List a7)(a z:Int):Prop:=∃l∈la,a=16*l.Q/\l.o=z
def MC(sp:List ax)(la:List a7)(o:bz):Prop:=(∃s∈sp,ew s o.Addr/\s.a=aJ o.o)\/Rl la o.Addr o.o
def Live(sp:List ax)(la:List a7)(a:Int):Prop:=jP sp a (-1)\/∃l∈la,a=16*l.Q
theorem m0{sp:List ax}{la:List a7}(f:qx sp la)(a:Int):(∃i,i<sp.length/\(16*(nth sp i).Q<=a/\a<=16*(nth sp i).Q+15)/\denotes sp la a=og i (nth sp i) a)\/((∀s∈sp,¬(16*s.Q<=a/\a<=16*s.Q+15))/\((∃i,i<la.length/\aY (nth la i) a=true/\denotes sp la a = ⟨3,i,0,a - 16*(nth la i).Q⟩)\/((∀l∈la,aY l a=false)/\denotes sp la a = ⟨0,0,0,0⟩))):=by
 cases c:sp.findIdx? (cu · a) with
 | some i=>
  obtain⟨b,d,-⟩:=Y5.1 c;rw[<-bj (Z1 b)]at d;exact .inl ⟨i,b,(fK (f.sok _ (am b))).1 d,by unfold denotes;rw[c]⟩
 | none=>
  have h:=List.findIdx?_eq_none_iff.1 c;refine .inr ⟨λs g j=>?_,?_⟩
  ·have:=h s g
   rw[(fK (f.sok _ g)).2 j]at this;cases this
  cases e:la.findIdx? (aY · a) with
  | some i=>
   obtain⟨b,d,-⟩:=Y5.1 e;rw[<-bj (Z1 b)]at d;exact .inl ⟨i,b,d,by unfold denotes;rw[c,e]⟩
  | none=>exact .inr ⟨List.findIdx?_eq_none_iff.1 e,by unfold denotes;rw[c,e]⟩
theorem KB{h:ab}(k:qx h.K h.M){a c:Int} : di h a c=true↔jP h.K a c:=by
 unfold di;simp only[I0,O5,C0];constructor
 ·rintro⟨⟨b,j⟩,d⟩
  rcases m0 k a with⟨i,g,l,f⟩|⟨-,⟨i,g,-,f⟩|⟨-,f⟩⟩
  ·rw[f]at b j d
   simp only[og]at b j d;refine⟨_,am g,⟨l.1,l.2,j,?_⟩,by simpa using d⟩;cases e:aQ (nth h.K i).b1 ((a - 16*(nth h.K i).Q) / csz (nth h.K i).a) with
   | true=>rfl
   | false=>rw[e]at b;simp at b
  ·rw[f]at b;simp at b
  rw[f]at b;simp at b
 rintro⟨s,n,⟨o,p,q,r⟩,d⟩
 obtain⟨i,g,rfl⟩:=aK n;rw[jz k g ⟨o,p⟩];simp only[og,q,r,if_true,true_and];simpa using d
theorem xl{sp:List ax}{la:List a7}(a:qx sp la){l:a7}(b:l∈la):(∀s∈sp,¬(16*s.Q<=16*l.Q/\16*l.Q<=16*s.Q+15))/\aY l (16*l.Q)=true/\∀i,i<la.length->aY (nth la i) (16*l.Q)=true->nth la i=l:=by
 have k:=aM (a.lok _ b);have f:=cK (a.lok _ b);refine⟨λs g n=>?_,?_,λi d e=>?_⟩
 ·exact a.dis s g l b 0 ω ω
 ·unfold aY;rw[a.lok _ b,O0 ω];rfl
 obtain⟨j,h,rfl⟩:=aK b;have o:=aM (a.lok _ (am d));have c:=a.lok _ (am d);unfold bC at c;rw[C0]at c;unfold aY at e;rw[I0,C0]at e;rw[a.one i j d h ((nth la j).Q - (nth la i).Q).toNat 0 ω ω ω]
theorem LR{h:ab}(f:qx h.K h.M){o:bz} : iF h o=true↔MC h.K h.M o:=by
 unfold iF;simp only[I0,O5,C0];constructor
 ·rintro⟨d,a⟩
  rcases m0 f o.Addr with⟨i,b,g,c⟩|⟨-,⟨i,b,-,c⟩|⟨-,c⟩⟩
  ·rw[c]at a d
   simp only[og]at a d;have j:aQ (nth h.K i).b1 ((o.Addr - 16*(nth h.K i).Q) / csz (nth h.K i).a)=true:=by
    cases e:aQ (nth h.K i).b1 ((o.Addr - 16*(nth h.K i).Q) / csz (nth h.K i).a) with
    | true=>rfl
    | false=>rw[e]at a;simp at a
   rw[j]at a;exact .inl ⟨_,am b,⟨g.1,g.2,d,j⟩,by simpa using a⟩
  ·rw[c]at a d
   simp only at a d;exact .inr ⟨_,am b,ω,by simpa using a⟩
  rw[c]at a;simp at a
 rintro(⟨s,j,⟨p,q,r,t⟩,u⟩|⟨l,k,w,y⟩)
 ·obtain⟨i,b,rfl⟩:=aK j
  rw[jz f b ⟨p,q⟩];simp only[og,r,t,if_true,true_and];simp[u]
 obtain⟨A,n,B⟩:=xl f k;rw[w];rcases m0 f (16*l.Q) with⟨i,b,g,c⟩|⟨-,⟨i,b,C,c⟩|⟨D,c⟩⟩
 ·exact absurd g (A _ (am b))
 ·rw[c]
  have:=B i b C;simp only[this,R2];exact⟨ω,.inr ⟨trivial,y⟩⟩
 rw[D l k]at n;cases n
theorem Lr{sp:List ax}{la:List a7}(d:qx sp la)(a:Int):a∈ix sp la↔Live sp la a:=by
 constructor
 ·intro h
  unfold ix lM at h;obtain⟨n,o,rfl⟩:=t4.1 h;have g:=(v4.1 o).2;unfold jT at g;simp only[I0,O5,C0]at g;obtain⟨j,f⟩:=g;rcases m0 d (n:Int) with⟨i,c,k,b⟩|⟨-,⟨i,c,-,b⟩|⟨-,b⟩⟩
  ·rw[b]at f j
   simp only[og]at f j;refine .inl ⟨_,am c,⟨k.1,k.2,j,?_⟩,.inl ω⟩;cases e:aQ (nth sp i).b1 (((n:Int) - 16*(nth sp i).Q) / csz (nth sp i).a) with
   | true=>rfl
   | false=>rw[e]at f;simp at f
  ·rw[b]at j
   simp only at j;exact .inr ⟨_,am c,ω⟩
  rw[b]at f;simp at f
 rintro(⟨s,r,⟨t,g,u,w⟩,-⟩|⟨l,p,rfl⟩)
 ·obtain⟨i,c,rfl⟩:=aK r
  have b:=jz d c ⟨t,g⟩;exact vE d (by rw[b];exact u) (.inl (by rw[b];simp only[og,w,if_true]))
 obtain⟨y,q,A⟩:=xl d p;rcases m0 d (16*l.Q) with⟨i,c,k,b⟩|⟨-,⟨i,c,B,b⟩|⟨o,b⟩⟩
 ·exact absurd k (y _ (am c))
 ·have:=A i c B
  exact vE d (by rw[b];simp only[this];omega) (.inr (by rw[b]))
 rw[o l p]at q;cases q
def RH(xs:List aA)(p:Int):Prop:=∃r∈xs,r.At<=p/\p<r.At+r.b0
theorem fC{pages:Int}{xs:List aA} : b8 pages xs=true↔pf xs/\(∀y∈xs,0<=y.At/\1<=y.b0/\y.At+y.b0<=pages)/\1<=pages/\pages<=32:=by
 constructor
 ·intro h
  obtain⟨a,b⟩:=Bl h;unfold b8 at h;simp only[I0,C0]at h;exact⟨a,b,h.2⟩
 rintro⟨a,b,d⟩
 unfold b8;simp only[I0,C0];refine⟨cz.2 λi c=>?_,d⟩;have f:=b _ (am c);unfold gg rangeIn;simp only[I0,C0];refine⟨ω,?_⟩;by_cases e:i=0
 ·exact .inl e
 right
 have:=List.pairwise_iff_getElem.1 a.1 (i - 1) i ω c ω
 rwa [<-bj (Z1 (show i - 1<xs.length by omega)),<-bj (Z1 c)]at this
theorem Eo{pages:Int}{xs:List aA}(h:b8 pages xs=true)(p:Int):xs.any (re p)=true↔RH xs p:=by
 obtain⟨-,c,d⟩:=fC.1 h;rw[V3];refine⟨λ⟨r,a,b⟩=>⟨r,a,?_⟩,λ⟨r,a,b⟩=>⟨r,a,?_⟩⟩
 ·have:=c r a
  unfold re at b;rw[eQ ω ω]at b;simpa using b
 have:=c r a;unfold re;rw[eQ ω ω];simpa using b
theorem vz(u:Int):∀(h:List aA)(r:aA)(out:List aA),pf h->1<=r.b0->(∀y∈h,ovl y r=false)->(∀z∈out,z.At+z.b0<r.At/\∀y∈h,z.At+z.b0<y.At)->pf out->(∀y∈r::(out++h),0<=y.At/\y.At+y.b0<=u)->∃o,jQ h r out false=some o/\pf o/\(∀y∈o,0<=y.At/\y.At+y.b0<=u)/\∀p,RH o p↔RH out p\/RH h p\/(r.At<=p/\p<r.At+r.b0)
 | [],r,out,_,A,_,k,l,f=>by
  refine⟨out++[r],by simp[jQ],⟨List.pairwise_append.2 ⟨l.1,List.pairwise_singleton ..,λa B b f=>by rw[I1.1 f];exact(k a B).1⟩,λy n=>?_⟩,λy n=>f y (by simp at n |-;grind),λp=>by unfold RH;simp[or_and_right,exists_or]⟩;rcases W2.1 n with n|n
  ·exact l.2 y n
  rw[I1.1 n];exact A
 | y::h,r,out,g,A,H,k,l,f=>by
  have K:=g.2 y (U1 ..);have q:=H y (U1 ..);have j:=g.head;have O:=f y (by simp);have P:=f r (by simp);have C:∀w∈h,¬(w.At<r.At+r.b0/\r.At<w.At+w.b0):=λw d=>by
   have:=H w (W4 _ d);unfold ovl at this;simpa using this
  have t:∀w∈h,1<=w.b0:=λw d=>g.2 w (W4 _ d)
  rw[J9,C8 (by rw[q];simp)];unfold ovl at q;rw[I4]at q;by_cases L:y.At+y.b0=r.At
  ·rw[C9 L]
   obtain⟨o,D,E,F,G⟩:=vz u h ⟨y.At,y.b0+r.b0⟩ out g.tail (by simp only;omega) (λw d=>by
     have a:=j w d;have b:=C w d;have c:=t w d;unfold ovl;rw[I4];simp only;omega) (λz i=>⟨(k z i).2 y (U1 ..),λw d=>(k z i).2 w (W4 _ d)⟩) l (λw d=>by
     rcases List.mem_cons.1 d with rfl|d
     · simp only;omega
     exact f w (by simp at d |-;grind))
   refine⟨o,D,E,F,λp=>?_⟩;rw[G];unfold RH;simp only[List.mem_cons,exists_eq_or_imp]
   grind
  rw[C8 L];by_cases M:r.At+r.b0=y.At
  ·rw[C9 M]
   obtain⟨o,D,E,F,G⟩:=vz u h ⟨r.At,r.b0+y.b0⟩ out g.tail (by simp only;omega) (λw d=>by
     have a:=j w d;have b:=C w d;have c:=t w d;unfold ovl;rw[I4];simp only;omega) (λz i=>⟨(k z i).1,λw d=>(k z i).2 w (W4 _ d)⟩) l (λw d=>by
     rcases List.mem_cons.1 d with rfl|d
     · simp only;omega
     exact f w (by simp at d |-;grind))
   refine⟨o,D,E,F,λp=>?_⟩;rw[G];unfold RH;simp only[List.mem_cons,exists_eq_or_imp]
   grind
  rw[C8 M];by_cases N:y.At > r.At
  ·have J:r.At+r.b0<y.At:=ω
   rw[C9 ⟨N,rfl⟩,p6 g.tail A λw d=>by have:=j w d;omega];refine⟨_,rfl,⟨?_,λw d=>?_⟩,λw d=>f w (by simp at d |-;grind),λp=>by unfold RH;simp[or_and_right,exists_or];grind⟩
   ·rw[Z4]
    refine List.pairwise_append.2 ⟨l.1,?_,λa B b f=>?_⟩
    ·show(r::y::h).Pairwise _
     refine List.pairwise_cons.2 ⟨λw d=>?_,g.1⟩;rcases List.mem_cons.1 d with rfl|d
     ·exact J
     have:=j w d;omega
    obtain⟨Q,R⟩:=k a B;have f:b∈r::y::h:=f;rcases List.mem_cons.1 f with rfl|f
    ·exact Q
    exact R b f
   simp only[W2,List.mem_cons,List.not_mem_nil,or_false]at d;rcases d with(d|rfl|rfl)|d
   ·exact l.2 w d
   ·exact A
   ·exact K
   exact t w d
  rw[C8 λe=>N e.1];obtain⟨o,D,E,F,G⟩:=vz u h r (out++[y]) g.tail A (λw d=>H w (W4 _ d)) (λz i=>by
    rcases W2.1 i with i|i
    · exact⟨(k z i).1,λw d=>(k z i).2 w (W4 _ d)⟩
    rw[I1.1 i];exact⟨ω,j⟩) ⟨List.pairwise_append.2 ⟨l.1,List.pairwise_singleton ..,λa B b f=>by rw[I1.1 f];exact(k a B).2 y (U1 ..)⟩,λw d=>by
    rcases W2.1 d with d|d
    · exact l.2 w d
    rw[I1.1 d];exact K⟩ (λw d=>f w (by simp at d |-;grind))
  refine⟨o,D,E,F,λp=>?_⟩;rw[G];unfold RH;simp[or_and_right,exists_or]
  grind
theorem uP{pages:Int}{xs:List aA}{r:aA}(h:b8 pages xs=true)(j:0<=r.At/\1<=r.b0/\r.At+r.b0<=pages)(c:∀p,r.At<=p->p<r.At+r.b0->¬RH xs p):∃o,dE pages xs r=some o/\b8 pages o=true/\∀p,RH o p↔RH xs p\/(r.At<=p/\p<r.At+r.b0):=by
 obtain⟨k,d,l⟩:=fC.1 h;have b:rangeIn pages r=true:=by unfold rangeIn;rw[C0];omega
 unfold dE;rw[C9 ⟨h,b⟩];obtain⟨o,n,f,g,q⟩:=vz pages xs r [] k j.2.1 (λy a=>by
   have:=d y a;unfold ovl;rw[I4];intro i;by_cases e:r.At<=y.At
   · exact c y.At e i.1 ⟨y,a,ω,ω⟩
   · exact c r.At ω ω ⟨y,a,ω,i.2⟩) (λz t=>by cases t) ⟨List.Pairwise.nil,λy a=>by cases a⟩ (λy a=>by
   rcases List.mem_cons.1 a with rfl|a
   · omega
   have:=d y (by simpa using a);omega)
 refine⟨o,n,fC.2 ⟨f,λy a=>⟨(g y a).1,f.2 y a,(g y a).2⟩,l⟩,λp=>?_⟩;rw[q];unfold RH;simp
structure Pg(t:aI)(fr:List aA)(sp:List ax)(la:List a7):Prop where
 one:∀l∈la,∀p:Nat,(p:Int)∈lpgs l l.a2.toNat->∀q:Nat,q<t.J.length->(nth t.J q).e≠0->(nth t.J q).j=(nth t.J p).j->q=p
 bnd:∀p∈pgs sp la,p<t.J.length
 own:∀p:Nat,p<t.J.length->((nth t.J p).e≠0↔(p:Int)∈pgs sp la)
 fre:∀p:Nat,p<t.J.length->((nth t.J p).e≠0↔¬RH fr p)
 mesh:∀s∈sp,∀u∈sp,s.Q≠u.Q->(nth t.J s.Q.toNat).j=(nth t.J u.Q.toNat).j->meshable s u=true
structure aZ(h:ab)(E:List Int):Prop where
 ker:a8 h.G=true
 rng:b8 (dC h) h.w=true
 lay:bm h.K h.M=true
 srs:h.K.Pairwise λa b=>a.Q<b.Q
 srl:h.M.Pairwise λa b=>a.Q<b.Q
 pg:Pg (tbl h) h.w h.K h.M
 mail:bI h.q=true
 nc:h.S.length=h.q.U.length
 quar:fE h.a9=true
 snc:∀x∈h.a9.a6,x.b7<=h.b3
 cach:∀c∈h.S,bp c=true
 nums:cn h=true
 osr:h.O.Pairwise λa b=>a.Addr<b.Addr
 onu:∀o∈h.O,1<=o.Id/\o.Id<=h.d - 1/\0<=o.a4/\o.a4<=h.S.length - 1
 oid:(h.O.map (·.Id)).Nodup
 oow:∀o∈h.O,MC h.K h.M o
 hca:∀c∈h.S,∀k:Nat,k<c.b.length->∀a∈nth c.b k,jP h.K a k
 hqu:∀x∈h.a9.a6,jP h.K x.Addr x.a
 hfl:∀a∈aF h.q,jP h.K a (-1)
 hin:∀a∈E,jP h.K a (-1)
 nd:(E++holders h).Nodup
 mem:∀a,a∈E++holders h↔Live h.K h.M a
 job:h.u=true->jH h.Z=true/\(∃s∈h.K,s.Q=h.Z.X.a3)/\∃s∈h.K,s.Q=h.Z.X.a1
 noj:h.u=false->ss h.Z=true
theorem aZ.L{h:ab}{E:List Int}(a:aZ h E):qx h.K h.M:=qx.of a.lay
theorem y7(t:aI)(f:Int):(pagesOn t f).Nodup:=by
 unfold pagesOn jI List.Nodup;rw[List.pairwise_map];exact(List.nodup_range.sublist List.filter_sublist).imp λh e=>h ω
theorem Pa{l:List Int}{a:Int}(b:l.Nodup)(d:a∈l)(c:∀x∈l,x=a):l.length=1:=by
 match l with
 | []=>cases d
 | [_]=>rfl
 | x::y::r=>
  exfalso;have e:=c x (by simp);have f:=c y (by simp);rw[e,f]at b;simp at b
theorem d7{sp:List ax}{la:List a7}{s:ax}(a:s∈sp):s.Q∈pgs sp la:=by
 unfold pgs;exact W2.2 (.inl (t4.2 ⟨s,a,rfl⟩))
theorem fQ{sp:List ax}{la:List a7}{l:a7}(a:l∈la){p:Int}(b:p∈lpgs l l.a2.toNat):p∈pgs sp la:=by
 unfold pgs;exact W2.2 (.inr (List.mem_flatMap.2 ⟨l,a,b⟩))
theorem Rn{h:ab}(n:bm h.K h.M=true)(P:b8 (dC h) h.w=true)(J:pages0 h=true)(t:nU h=true):Pg (tbl h) h.w h.K h.M:=by
 have Q:=qx.of n;obtain⟨R,y,K⟩:=r8 J;have S:∀p:Nat,p<dC h->((nth (tbl h).J p).e≠0↔¬RH h.w p):=λp a=>by
  have d:=J;unfold pages0 at d;simp only[I0]at d;have A:=dL d.2 a;unfold vn at A;rw[I0]at A;have L:=A.2;rw[<-Eo P];cases e:h.w.any (re (p:Int))<;>rw[e]at L<;>simpa using L
 refine⟨λl B p f q T C D=>?_,y,K,S,λs U u V E M=>?_⟩
 ·obtain⟨i,o,rfl⟩:=aK B
  obtain⟨k,w,F⟩:=dx.1 f;have a:p<dC h:=by have:=y _ (fQ (sp:=h.K) B f);omega
  have r:=(K p a).2 (fQ B f);have b:=R i o k w;rw[<-F,eC a r]at b;have N:(p:Int)∈pagesOn (tbl h) (nth (tbl h).J p).j:=dA.2 ⟨a,r,rfl⟩;have O:(q:Int)∈pagesOn (tbl h) (nth (tbl h).J p).j:=dA.2 ⟨T,C,D⟩;obtain⟨z,W⟩:=List.length_eq_one_iff.1 b;rw[W]at N O;simp only[I1]at N O;omega
 obtain⟨i,o,rfl⟩:=aK U;obtain⟨j,G,rfl⟩:=aK V;have c:∀k,k<h.K.length->ac (tbl h) (nth h.K k).Q=nth (tbl h).J (nth h.K k).Q.toNat:=λk w=>by
  have X:=aB (Q.sok _ (am w));have Y:=y _ (d7 (la:=h.M) (am w));rw[show(nth h.K k).Q=(((nth h.K k).Q.toNat:Nat):Int) by omega];exact xq ω
 unfold nU at t;rw[cz]at t;rcases Nat.lt_trichotomy i j with g|H|g
 ·have b:=dL (t j G) g
  unfold kZ at b;rw[c i o,c j G,O5,C0]at b;rw[gE];exact b.resolve_left λe=>e M.symm
 ·subst H;exact absurd rfl E
 have b:=dL (t i o) g;unfold kZ at b;rw[c i o,c j G,O5,C0]at b;exact b.resolve_left λe=>e M
theorem JQ(sp:List ax):cQ sp.length (xI sp)=true↔sp.Pairwise λa b=>a.Q<b.Q:=by
 rw[cz];refine Iff.trans ?_ (vC (λa b:Int=>a<b) (λa b c=>Int.lt_trans) (λs:ax=>s.Q) sp);unfold xI;simp only[C0]
theorem Jp(la:List a7):cQ la.length (xV la)=true↔la.Pairwise λa b=>a.Q<b.Q:=by
 rw[cz];refine Iff.trans ?_ (vC (λa b:Int=>a<b) (λa b c=>Int.lt_trans) (λs:a7=>s.Q) la);unfold xV;simp only[C0]
theorem Q5{h:ab}(r:bm h.K h.M=true)(D:b8 (dC h) h.w=true)(h1:h.K.Pairwise λa b=>a.Q<b.Q)(E:h.M.Pairwise λa b=>a.Q<b.Q)(c:Pg (tbl h) h.w h.K h.M):pages0 h=true/\nU h=true:=by
 have A:=qx.of r;constructor
 ·unfold pages0
  simp only[I0];refine⟨⟨⟨(JQ _).2 h1,cz.2 λi o=>?_⟩,W3.2 λp d=>O0 (c.bnd p d)⟩,cz.2 λp d=>?_⟩
  ·unfold tC
   rw[I0];refine⟨dL ((Jp _).2 E) o,cz.2 λk w=>?_⟩;have y:=am o;have L:=aM (A.lok _ y);obtain⟨p,d⟩ : ∃p:Nat,(nth h.M i).Q+(k:Nat)=(p:Nat):=⟨((nth h.M i).Q+k).toNat,ω⟩
   have g:(p:Int)∈lpgs (nth h.M i) (nth h.M i).a2.toNat:=dx.2 ⟨k,w,d.symm⟩;have l:p<dC h:=by have:=c.bnd _ (fQ (sp:=h.K) y g);exact Int.ofNat_lt.1 this
   have t:=(c.own p l).2 (fQ y g);unfold vK;rw[C0,d,eC l t];refine Pa (y7 ..) (dA.2 ⟨l,t,rfl⟩) λx C=>?_
   obtain⟨q,rfl⟩:=uG C;obtain⟨F,G,H⟩:=dA.1 C;rw[c.one _ y p g q F G H]
  unfold vn;rw[I0,C0];refine⟨c.own p d,?_⟩;have B:=c.fre p d;rw[<-Eo D]at B;cases e:h.w.any (re (p:Int))<;>rw[e]at B<;>simpa using B
 unfold nU;refine cz.2 λi o=>cz.2 λj M=>?_
 have n:j<h.K.length:=ω
 have u:∀k,k<h.K.length->ac (tbl h) (nth h.K k).Q=nth (tbl h).J (nth h.K k).Q.toNat:=λk w=>by
  have N:=aB (A.sok _ (am w));have J:=c.bnd _ (d7 (la:=h.M) (am w));rw[show(nth h.K k).Q=(((nth h.K k).Q.toNat:Nat):Int) by omega];exact xq (by unfold dC;unfold tbl at J;omega)
 unfold kZ;rw[u i o,u j n,O5,C0];by_cases e:(nth (tbl h).J (nth h.K i).Q.toNat).j=(nth (tbl h).J (nth h.K j).Q.toNat).j
 ·refine .inr (c.mesh _ (am o) _ (am n) (λK=>?_) e)
  have:=cG (f:=(·.Q)) A.nd o n K;omega
 exact .inl e
theorem Ly{h:ab}(n:cn h=true)(q:qx h.K h.M):eX h=true↔(h.O.Pairwise λa b=>a.Addr<b.Addr)/\(∀o∈h.O,1<=o.Id/\o.Id<=h.d - 1/\0<=o.a4/\o.a4<=h.S.length - 1)/\(h.O.map (·.Id)).Nodup/\∀o∈h.O,MC h.K h.M o:=by
 unfold cn at n;rw[C0]at n;refine Iff.trans ?_ (and_congr (vC (λa b:Int=>a<b) (λa b c=>Int.lt_trans) (λo:bz=>o.Addr) h.O) (and_congr Iff.rfl (and_congr (zN (λo:bz=>o.Id) h.O) Iff.rfl)));unfold eX;rw[eQ ω ω,cz];have p:∀i,i<h.O.length->(objAt (h.d - 1) h i=true↔(i=0\/(nth h.O (i - 1)).Addr<(nth h.O i).Addr)/\(1<=(nth h.O i).Id/\(nth h.O i).Id<=h.d - 1/\0<=(nth h.O i).a4/\(nth h.O i).a4<=h.S.length - 1)/\(∀o∈h.O.take i,o.Id≠(nth h.O i).Id)/\MC h.K h.M (nth h.O i)):=λi d=>by
  unfold objAt gJ;rw[I0,I0,C0,LR q,Bool.not_eq_true',List.any_eq_false];simp only[jU,C0];constructor
  ·rintro⟨⟨⟨e,f⟩,g⟩,j⟩;exact⟨e,f,g,j⟩
  rintro⟨e,f,g,j⟩;exact⟨⟨⟨e,f⟩,g⟩,j⟩
 constructor
 ·intro r
  have k:=λi d=>(p i d).1 (r i d)
  refine⟨λi d=>(k i d).1,λo l=>?_,λi d=>(k i d).2.2.1,λo l=>?_⟩
  ·obtain⟨i,d,rfl⟩:=aK l;exact(k i d).2.1
  obtain⟨i,d,rfl⟩:=aK l;exact(k i d).2.2.2
 rintro⟨e,f,g,j⟩ i d
 exact(p i d).2 ⟨e i d,f _ (am d),g i d,j _ (am d)⟩
theorem Fg{h:ab}(b:qx h.K h.M):gF h=true↔(∀c∈h.S,∀k:Nat,k<c.b.length->∀a∈nth c.b k,jP h.K a k)/\(∀x∈h.a9.a6,jP h.K x.Addr x.a)/\∀a∈aF h.q,jP h.K a (-1):=by
 rw[jO];simp only[W3,eO,cz,sD,gW,jw,KB b,and_assoc]
theorem GQ{p:Int}{h:ab} : 0<=fH h p↔∃s∈h.K,s.Q=p:=by
 unfold fH;rw[show(0<=dJ (jX p) h.K)↔(decide (dJ (jX p) h.K≥0)=true) by simp,kN,V3];simp[jX]
theorem aZ.to{h:ab}(b:aZ h []):dM h=true:=by
 have d:=b.L;obtain⟨g,j⟩:=Q5 b.lay b.rng b.srs b.srl b.pg;have e:=(Ly b.nums d).2 ⟨b.osr,b.onu,b.oid,b.oow⟩;have f:=(Fg d).2 ⟨b.hca,b.hqu,b.hfl⟩;unfold dM lV;simp only[I0];refine⟨⟨⟨⟨⟨⟨⟨⟨⟨⟨b.ker,b.rng⟩,b.lay⟩,g⟩,by rw[zO b.lay g];exact j⟩,?_⟩,?_⟩,W3.2 b.cach⟩,b.nums⟩,e,?_⟩,?_⟩
 ·unfold dt
  rw[b.mail,b.quar,O0 b.nc];rfl
 ·unfold lG
  exact W3.2 λx k=>O0 (b.snc x k)
 ·unfold iL
  have i:(holders h).Nodup:=by simpa using b.nd
  have c:∀a,a∈holders h↔a∈ix h.K h.M:=λa=>by rw[Lr d,<-b.mem a];simp
  have l:(holders h).Perm (ix h.K h.M):=(List.perm_ext_iff_of_nodup i (oq ..)).2 c;rw[f,O0 i,O0 l.length_eq];rfl
 unfold u9;cases c:h.u with
 | true=>
  obtain⟨n,o,p⟩:=b.job c;rw[C9 rfl,n,O0 (GQ.2 o),O0 (GQ.2 p)];rfl
 | false=>rw[C8 (by simp)];exact b.noj c
def dele{α:Type}(xs:List α)(i:Nat):List α:=xs.take i++xs.drop (i+1)
theorem f6{α:Type}(xs:List α)(i:Nat):(dele xs i).Sublist xs:=by
 unfold dele;rw[<-List.eraseIdx_eq_take_drop_succ];exact List.eraseIdx_sublist ..
theorem Af{α:Type}[Inhabited α]{xs:List α}{i:Nat}(a:i<xs.length):xs.Perm (nth xs i::dele xs i):=by
 have:xs=xs.take i++nth xs i::xs.drop (i+1):=by rw[<-jF a,List.take_append_drop]
 conv=>lhs;rw[this]
 exact List.perm_middle
theorem iC{α:Type}[Inhabited α](f:α->List Int)(a:Int):∀(xs:List α)(i:Nat)(y:α),i<xs.length->((xs.set i y).flatMap f).count a+(f (nth xs i)).count a=(xs.flatMap f).count a+(f y).count a
 | [],i,_,h=>by cases h
 | x::xs,0,y,_=>by
  show((y::xs).flatMap f).count a+(f x).count a=((x::xs).flatMap f).count a+(f y).count a;rw[V5,V5,C5,C5];omega
 | x::xs,i+1,y,h=>by
  have:=iC f a xs i y (by simpa using h);show((x::xs.set i y).flatMap f).count a+(f (nth xs i)).count a=((x::xs).flatMap f).count a+(f y).count a;rw[V5,V5,C5,C5];omega
theorem kQ(a:List (List Int)):a.flatten=a.flatMap λx=>x:=by
 induction a with
 | nil=>rfl
 | cons x xs b=>rw[List.flatten_cons,V5,b]
theorem jP.any{sp:List ax}{a c:Int}(h:jP sp a c):jP sp a (-1):=by
 obtain⟨s,b,d,-⟩:=h;exact⟨s,b,d,.inl (by decide)⟩
theorem aZ.cells{h:ab}{E:List Int}(a:aZ h E){k:ah}(c:a8 k=true)(b:k.F.R=h.G.F.R):aZ {h with G:=k} E:=
 {a with
   ker:=c
   rng:=by show b8 ((k.F.R.J.length:Nat):Int) h.w=true;rw[b];exact a.rng
   pg:=by show Pg k.F.R h.w h.K h.M;rw[b];exact a.pg}
theorem aZ.dropO{h:ab}{E:List Int}{i:Nat}(b:aZ h E)(g:i<h.O.length)(j:jP h.K (nth h.O i).Addr (-1)):aZ {h with O:=dele h.O i} ((nth h.O i).Addr::E):=by
 have f:(E++holders h).Perm (((nth h.O i).Addr::E)++holders {h with O:=dele h.O i}):=by
  have k:=(Af g).map (·.Addr);refine List.perm_iff_count.2 λa=>?_
  have l:=k.count_eq a;simp only[z5,List.count_cons]at l;simp only[holders,cy,C5,List.cons_append,List.count_cons];omega
 have c:(dele h.O i).Sublist h.O:=f6 ..;exact {b with
   osr:=b.osr.sublist c
   onu:=λo d=>b.onu o (c.subset d)
   oid:=b.oid.sublist (c.map _)
   oow:=λo d=>b.oow o (c.subset d)
   hin:=λa e=>by
     rcases List.mem_cons.1 e with rfl|e
     · exact j
     exact b.hin a e
   nd:=f.nodup_iff.1 b.nd
   mem:=λa=>by rw[<-f.mem_iff];exact b.mem a}
def n9(c:aD)(k:Nat)(a:Int):aD:=⟨c.b.set k (nth c.b k++[a])⟩
theorem aZ.put{h:ab}{E:List Int}{a:Int}{t k:Nat}(g:aZ h (a::E))(l:t<h.S.length)(q:k<(nth h.S t).b.length)(r:jP h.K a k)(u:bp (n9 (nth h.S t) k a)=true):aZ {h with S:=h.S.set t (n9 (nth h.S t) k a)} E:=by
 have n:(a::E++holders h).Perm (E++holders {h with S:=h.S.set t (n9 (nth h.S t) k a)}):=by
  refine List.perm_iff_count.2 λb=>?_
  have w:=iC (λc:aD=>c.b.flatten) b h.S t (n9 (nth h.S t) k a) l;have p:=iC (λx:List Int=>x) b (nth h.S t).b k (nth (nth h.S t).b k++[a]) q;rw[<-kQ,<-kQ]at p;simp only[C5,List.count_singleton]at p;simp only[n9]at w;simp only[holders,cy,n9,C5,List.cons_append,List.count_cons];omega
 exact {g with
   nc:=by show(h.S.set ..).length=_;rw[O1];exact g.nc
   cach:=λc d=>by
     rcases T5 d with d|rfl
     · exact g.cach c d
     exact u
   onu:=by show ∀o∈h.O,1<=o.Id/\o.Id<=h.d - 1/\0<=o.a4/\o.a4<=(h.S.set t _).length - 1;rw[O1];exact g.onu
   hca:=λc d j i b f=>by
     rcases T5 d with d|rfl
     · exact g.hca c d j i b f
     simp only[n9,O1]at i;simp only[n9,bB]at f;by_cases e:k=j
     · subst e
       rw[C9 ⟨rfl,i⟩]at f;rcases W2.1 f with f|f
       · exact g.hca _ (am l) _ i b f
       rw[I1.1 f];exact r
     rw[C8 λx=>e x.1]at f;exact g.hca _ (am l) _ i b f
   hin:=λb f=>g.hin b (W4 _ f)
   nd:=n.nodup_iff.1 g.nd
   mem:=λb=>by rw[<-n.mem_iff];exact g.mem b}
theorem aZ.toQuar{h:ab}{E:List Int}{x:aO}{q:bR}{out:List aO}(d:aZ h (x.Addr::E))(i:fE q=true)(f:h.a9.a6++[x]=out++q.a6)(j:x.b7<=h.b3)(k:jP h.K x.Addr x.a):aZ {h with a9:=q} (out.map (·.Addr)++E):=by
 have c:∀y∈out++q.a6,y.b7<=h.b3/\jP h.K y.Addr y.a:=λy a=>by
  rw[<-f]at a;rcases W2.1 a with a|a
  ·exact⟨d.snc y a,d.hqu y a⟩
  rw[I1.1 a];exact⟨j,k⟩
 have g:(x.Addr::E++holders h).Perm ((out.map (·.Addr)++E)++holders {h with a9:=q}):=by
  refine List.perm_iff_count.2 λb=>?_
  have n:=W0 (λl:List aO=>(l.map (·.Addr)).count b) f;simp only[t5,C5,z5,List.map_nil,List.count_singleton]at n;simp only[holders,cy,C5,List.cons_append,List.count_cons];omega
 exact {d with
   quar:=i
   snc:=λy a=>(c y (W2.2 (.inr a))).1
   hqu:=λy a=>(c y (W2.2 (.inr a))).2
   hin:=λb e=>by
     rcases W2.1 e with e|e
     · obtain⟨y,a,rfl⟩:=t4.1 e
       exact(c y (W2.2 (.inl a))).2.any
     exact d.hin b (W4 _ e)
   nd:=g.nodup_iff.1 d.nd
   mem:=λb=>by rw[<-g.mem_iff];exact d.mem b}
def yO(b i:Int):Int:=((BitVec.ofInt IntKind.i64.bits b &&& ~~~BitVec.ofInt IntKind.i64.bits (2 ^ i.toNat)).toNat:Nat)
def mE(s:ax)(i:Int):ax:={s with b1:=yO s.b1 i}
theorem dO(b i:Int):aQ b i=true↔0<=b/\0<=i/\i<=15/\b.toNat.testBit i.toNat=true:=by
 unfold aQ;rw[C0];refine and_congr_right λa=>and_congr_right λc=>and_congr_right λ_=>?_
 obtain⟨n,rfl⟩:=U2 a;rw[Nat.testBit_eq_decide_div_mod_eq,C0,R2]
 norm_cast
theorem D3{b i:Int}(f:0<=b/\b<=65535)(a:0<=i/\i<=15)(j:Nat):(yO b i).toNat.testBit j=(b.toNat.testBit j&&decide (i.toNat≠j)):=by
 have g:(2:Int) ^ i.toNat<=32768/\0<=(2:Int) ^ i.toNat:=by
  obtain⟨n,rfl⟩:=U2 a.1;rw[R2];have:(2:Nat) ^ n<=2 ^ 15:=Nat.pow_le_pow_right (by decide) ω;have c:((2 ^ n:Nat):Int)=(2:Int) ^ n:=Int.natCast_pow 2 n;rw[<-c];exact⟨Int.ofNat_le.2 this,Int.natCast_nonneg _⟩
 unfold yO;rw[R2,BitVec.testBit_toNat,BitVec.getLsbD_and,BitVec.getLsbD_not,<-BitVec.testBit_toNat,<-BitVec.testBit_toNat,nj ω,nj ω];rw[show((2:Int) ^ i.toNat).toNat=2 ^ i.toNat by rw[show(2:Int) ^ i.toNat=((2 ^ i.toNat:Nat):Int) by norm_cast,R2],Nat.testBit_two_pow];by_cases d:j<64
 ·rw[show decide (j<IntKind.i64.bits)=true from O0 d,Bool.true_and]
  congr 1
  by_cases e:i.toNat=j
  ·rw[O0 e,T0 (λx=>x e)];rfl
  rw[T0 e,O0 e];rfl
 rw[Nat.testBit_lt_two_pow (x:=b.toNat) (i:=j) (T3 (show b.toNat<2 ^ 16 by omega) (Nat.pow_le_pow_right (by decide) ω))]
 rfl
theorem AD{b i:Int}(a:0<=b/\b<=65535):0<=yO b i/\yO b i<=b:=by
 unfold yO;refine⟨ω,?_⟩;rw[BitVec.toNat_and,nj ω];have:=Nat.and_le_left (n:=b.toNat) (m:=(~~~BitVec.ofInt IntKind.i64.bits (2 ^ i.toNat)).toNat);omega
theorem Ey{b i:Int}(a:0<=b/\b<=65535)(h:0<=i/\i<=15)(j:Int):aQ (yO b i) j=true↔aQ b j=true/\j≠i:=by
 rw[dO,dO,D3 a h,I0,C0];have:=AD (i:=i) a;constructor
 ·rintro⟨k,c,d,f,g⟩;exact⟨⟨a.1,c,d,f⟩,λe=>g (by rw[e])⟩
 rintro⟨⟨k,c,d,f⟩,g⟩;exact⟨this.1,c,d,f,λe=>g ω⟩
theorem eI{s:ax}(h:bg s=true):0<=s.b1/\s.b1<=65535:=by
 unfold bg at h;simp only[C0]at h;have:=Fy s.a;omega
theorem Hu{s:ax}(h:bg s=true)(i:Int):bg (mE s i)=true:=by
 have b:=eI h;have a:=AD (i:=i) b;unfold bg at h;rw[C0]at h;obtain⟨c,d,e,f,j,g⟩:=h;exact O0 ⟨c,d,e,f,a.1,Int.le_trans a.2 g⟩
theorem t6{s u:ax}(a:bg s=true){i:Int}(b:0<=i/\i<=15)(h:meshable s u=true):meshable (mE s i) u=true:=by
 unfold meshable at h |-;simp only[I0,C0]at h |-;obtain⟨⟨c,d⟩,e,f,g⟩:=h;refine⟨⟨Hu c i,d⟩,e,f,?_⟩;refine Nat.eq_of_testBit_eq λj=>?_
 have:=W0 (λn=>Nat.testBit n j) g;simp only[Nat.testBit_and,Nat.zero_testBit,mE,D3 (eI a) b]at this |-;cases k:s.b1.toNat.testBit j<;>cases l:u.b1.toNat.testBit j<;>rw[k,l]at this<;>simp_all
def d3(s:ax)(a:Int):Int:=(a - 16*s.Q) / csz s.a
theorem pu{s:ax}(h:bg s=true){a:Int}(c:16*s.Q<=a/\a<=16*s.Q+15):0<=d3 s a/\d3 s a<=15:=by
 have b:=aB h;unfold d3;rcases bE ⟨b.2.2.1,b.2.2.2⟩ with e|e|e|e<;>rw[e]<;>omega
theorem wQ{s:ax}(h:bg s=true){a b:Int}(d:(a - 16*s.Q) % csz s.a=0)(f:(b - 16*s.Q) % csz s.a=0)(e:d3 s a=d3 s b):a=b:=by
 have c:=aB h;unfold d3 at e;rcases bE ⟨c.2.2.1,c.2.2.2⟩ with z|z|z|z<;>rw[z]at d f e<;>omega
theorem zg{s:ax}(h:bg s=true){a:Int}(k:ew s a)(b:Int):ew (mE s (d3 s a)) b↔ew s b/\b≠a:=by
 obtain⟨l,n,o,p⟩:=k;have d:=pu h ⟨l,n⟩;unfold ew;simp only[mE];rw[Ey (eI h) d];constructor
 ·rintro⟨f,g,c,i,j⟩
  exact⟨⟨f,g,c,i⟩,λe=>j (by rw[e];rfl)⟩
 rintro⟨⟨f,g,c,i⟩,j⟩
 exact⟨f,g,c,i,λe=>j (wQ h c o e)⟩
theorem dN{α:Type}[Inhabited α]{xs:List α}{i:Nat}{y z:α}(h:z∈xs.set i y):z=y\/∃j,j<xs.length/\j≠i/\nth xs j=z:=by
 obtain⟨j,a,rfl⟩:=List.mem_iff_getElem.1 h;rw[List.getElem_set];by_cases e:i=j
 ·subst e;simp
 rw[C8 e];rw[O1]at a;exact .inr ⟨j,a,λx=>e x.symm,bj (Z1 a)⟩
theorem jJ{α:Type}[Inhabited α]{xs:List α}{i j:Nat}(y:α)(a:j<xs.length)(e:j≠i):nth xs j∈xs.set i y:=by
 have:nth (xs.set i y) j=nth xs j:=by rw[bB,C8 λx=>e x.1.symm]
 rw[<-this];exact am (by rw[O1];exact a)
theorem iG{α:Type}{xs:List α}{i:Nat}(y:α)(a:i<xs.length):y∈xs.set i y:=by
 refine List.mem_iff_getElem.2 ⟨i,by rw[O1];exact a,by simp⟩
theorem Mb{sp:List ax}{i:Nat}(k:Int)(a:i<sp.length):(sp.set i (mE (nth sp i) k)).map (·.Q)=sp.map (·.Q):=by
 rw[I5];refine List.ext_getElem (by simp) λj b c=>?_
 rw[List.getElem_set];split
 ·rename_i e;subst e
  rw[List.getElem_map];show(nth sp i).Q=_;rw[bj (Z1 a)]
 rfl
theorem jP.set{sp:List ax}{la:List a7}(q:qx sp la){i:Nat}(k:i<sp.length){a:Int}(l:ew (nth sp i) a)(b c:Int):jP (sp.set i (mE (nth sp i) (d3 (nth sp i) a))) b c↔jP sp b c/\b≠a:=by
 have g:=q.sok _ (am k);constructor
 ·rintro⟨s,o,d,h⟩
  rcases dN o with rfl|⟨j,n,r,rfl⟩
  ·have:=(zg g l b).1 d
   exact⟨⟨_,am k,this.1,h⟩,this.2⟩
  refine⟨⟨_,am n,d,h⟩,λe=>?_⟩;subst e;have:=cG (f:=(·.Q)) q.nd k n (by have t:=l.1;have u:=l.2.1;have w:=d.1;have y:=d.2.1;omega);omega
 rintro⟨⟨s,o,d,h⟩,p⟩
 obtain⟨j,n,rfl⟩:=aK o;by_cases e:j=i
 ·subst e
  exact⟨_,iG _ k,(zg g l b).2 ⟨d,p⟩,h⟩
 exact⟨_,jJ _ n e,d,h⟩
theorem aZ.give{h:ab}{E:List Int}{a:Int}{i:Nat}(d:aZ h (a::E))(J:i<h.K.length)(K:ew (nth h.K i) a):aZ {h with K:=h.K.set i (mE (nth h.K i) (d3 (nth h.K i) a))} E:=by
 have G:=d.L;have Q:=G.sok _ (am J);have M:=pu Q ⟨K.1,K.2.1⟩;have f:=λb c=>jP.set G J K b c
 have A:=Mb (d3 (nth h.K i) a) J;generalize R:h.K.set i (mE (nth h.K i) (d3 (nth h.K i) a))=sp at f A;have q:pgs sp h.M=pgs h.K h.M:=by unfold pgs;rw[A]
 have B:=d.nd;rw[List.cons_append]at B;obtain⟨S,B⟩:=List.nodup_cons.1 B;have r:∀b,b∈E++holders h->b≠a:=λb g e=>S (by rw[<-e];exact g)
 have C:∀b,b∈holders h->b≠a:=λb g=>r b (W2.2 (.inr g))
 have T:∀l∈h.M,16*l.Q≠a:=λl O e=>(xl G O).1 _ (am J) (by have a1:=K.1;have a2:=K.2.1;omega)
 have t:∀s∈sp,∃u∈h.K,u.Q=s.Q/\(s=u\/s=mE u (d3 (nth h.K i) a)):=λs p=>by
  rw[<-R]at p;rcases dN p with rfl|⟨j,hj,hji,rfl⟩
  ·exact⟨_,am J,rfl,.inr rfl⟩
  exact⟨_,am hj,rfl,.inl rfl⟩
 have N:∀u∈h.K,∃s∈sp,s.Q=u.Q:=λu y=>by
  have:u.Q∈sp.map (·.Q):=by rw[A];exact t4.2 ⟨u,y,rfl⟩
  obtain⟨s,p,e⟩:=t4.1 this;exact⟨s,p,e⟩
 exact {d with
   lay:=by
     obtain⟨l1,l2,l3⟩:=dh d.lay;unfold bm;simp only[I0,C0];refine⟨⟨W3.2 λs p=>?_,l2⟩,by rw[q];exact l3⟩;obtain⟨u,y,-,rfl|rfl⟩:=t s p
     · exact G.sok _ y
     exact Hu (G.sok _ y) _
   srs:=by
     have n:(h.K.map (·.Q)).Pairwise (λa b=>a<b):=List.pairwise_map.2 d.srs;rw[<-A]at n;exact List.pairwise_map.1 n
   pg:=⟨d.pg.one,by rw[q];exact d.pg.bnd,by rw[q];exact d.pg.own,d.pg.fre,λs p u y r hf=>by
     obtain⟨U,D,Z,V⟩:=t s p;obtain⟨P,F,eu,W⟩:=t u y;have n:=d.pg.mesh U D P F (by rw[Z,eu];exact r) (by rw[Z,eu];exact hf);have w:meshable s P=true:=by
       rcases V with rfl|rfl
       · exact n
       exact t6 (G.sok _ D) M n
     rcases W with rfl|rfl
     · exact w
     rw[gE]at w |-;exact t6 (G.sok _ F) M w⟩
   oow:=λo ho=>by
     have X:o.Addr≠a:=C _ (by unfold holders;simp only[W2];exact .inl (.inl (.inl (t4.2 ⟨o,ho,rfl⟩))));rcases d.oow o ho with⟨s,p,n,w⟩|n
     · obtain⟨u,y,Y,H⟩:=(f o.Addr (aJ o.o)).2 ⟨⟨s,p,n,.inr w⟩,X⟩
       refine .inl ⟨u,y,Y,?_⟩;rcases H with H|H
       · have:=aB (G.sok _ p);omega
       exact H
     exact .inr n
   hca:=λc hc k hk b g=>(f b k).2 ⟨d.hca c hc k hk b g,C b (by
     unfold holders cy;simp only[W2];exact .inl (.inl (.inr (List.mem_flatMap.2 ⟨c,hc,List.mem_flatten.2 ⟨_,am hk,g⟩⟩))))⟩
   hqu:=λx hx=>(f _ _).2 ⟨d.hqu x hx,C _ (by unfold holders;simp only[W2];exact .inl (.inr (t4.2 ⟨x,hx,rfl⟩)))⟩
   hfl:=λb g=>(f _ _).2 ⟨d.hfl b g,C _ (by unfold holders;simp only[W2];exact .inr g)⟩
   hin:=λb g=>(f _ _).2 ⟨d.hin b (W4 _ g),r b (W2.2 (.inl g))⟩
   nd:=B
   mem:=λb=>by
     show b∈E++holders h↔Live sp h.M b;have n:=d.mem b;rw[List.cons_append,List.mem_cons]at n;unfold Live at n |-;rw[f];constructor
     · intro g
       rcases n.1 (.inr g) with w|w
       · exact .inl ⟨w,r b g⟩
       exact .inr w
     rintro(⟨w,h3⟩|⟨l,O,rfl⟩)
     · exact(n.2 (.inl w)).resolve_left h3
     exact(n.2 (.inr ⟨l,O,rfl⟩)).resolve_left (T l O)
   job:=λhm=>by
     obtain⟨j1,⟨s,p,e1⟩,⟨u,y,e2⟩⟩:=d.job hm;obtain⟨U,D,Y⟩:=N s p;obtain⟨P,F,H⟩:=N u y;exact⟨j1,⟨U,D,Y.trans e1⟩,⟨P,F,H.trans e2⟩⟩}
def unmN(k:ah)(p:Int):Nat->ah
 | 0=>k
 | n+1=>dR (unmN k p n) (p+n)
theorem iB{k:ah}(h:a8 k=true)(p:Int):∀n,a8 (unmN k p n)=true
 | 0=>h
 | n+1=>wR _ (iB h p n)
theorem fx(k:ah)(p:Int):∀n,(unmN k p n).F.R.J.length=k.F.R.J.length/\(unmN k p n).Calls=k.Calls/\(unmN k p n).y=k.y
 | 0=>⟨rfl,rfl,rfl⟩
 | n+1=>by
  obtain⟨a,b,c⟩:=fx k p n;obtain⟨d,e,f⟩:=lz (unmN k p n) (p+n);exact⟨d.trans a,e.trans b,f.trans c⟩
theorem qN{k:ah}(h:a8 k=true){p:Int}(d:0<=p/\p<k.F.R.J.length)(q:Nat):nth (dR k p).F.R.J q=if(q:Int)=p then⟨0,0⟩ else nth k.F.R.J q:=by
 have g:ac k.F.R p=nth k.F.R.J p.toNat:=by unfold ac;rw[C9 d]
 unfold dR;split
 ·rename_i a
  split
  ·rename_i i
   rw[g]at a;have b:=(bv.1 (aE.1 h).2.2.1).1 p.toNat ω;unfold kj at b;rw[C0]at b;have c:=b.2.2.1 a;rw[show q=p.toNat by omega];generalize nth k.F.R.J p.toNat=e at a c;obtain⟨m,f⟩:=e;simp only at a c;rw[a,c]
  rfl
 rw[(mA _ _).1];simp only[pT,bB];by_cases e:(q:Int)=p
 ·rw[C9 ⟨ω,ω⟩,C9 e]
 rw[C8 λx=>e ω,C8 e]
theorem mB{k:ah}(h:a8 k=true){p:Int}(b:0<=p):∀n:Nat,p+n<=k.F.R.J.length->∀q:Nat,nth (unmN k p n).F.R.J q=if p<=q/\(q:Int)<p+n then⟨0,0⟩ else nth k.F.R.J q
 | 0,_,q=>by rw[C8 ω];rfl
 | n+1,f,q=>by
  have c:=mB h b n ω q;have d:=qN (iB h p n) (p:=p+n) ⟨ω,by rw[(fx k p n).1];omega⟩ q;show nth (dR (unmN k p n) (p+n)).F.R.J q=_;rw[d,c];by_cases e:(q:Int)=p+n
  ·rw[C9 e,C9 ⟨ω,ω⟩]
  rw[C8 e];by_cases a:p<=q/\(q:Int)<p+n
  ·rw[C9 a,C9 ⟨ω,ω⟩]
  rw[C8 a,C8 ω]
theorem DJ{α β:Type}(f:α->List β){xs c:List α}(h:xs.Sublist c):(xs.flatMap f).Sublist (c.flatMap f):=by
 induction h with
 | slnil=>exact List.Sublist.refl _
 | cons a _ b=>rw[V5];exact b.trans (List.sublist_append_right ..)
 | cons_cons a _ b=>rw[V5,V5];exact List.Sublist.append (List.Sublist.refl _) b
theorem wO{h:ab}{E:List Int}(c:aZ h E){sp:List ax}{la:List a7}{p:Int}{n:Nat}(Y:1<=n)(w:sp.Sublist h.K)(D:la.Sublist h.M)(j:∀q:Int,p<=q->q<p+n->q∈pgs h.K h.M)(K:0<=p)(F:∀q,q∈pgs sp la↔q∈pgs h.K h.M/\¬(p<=q/\q<p+n)) :
  ∃o,dE (dC h) h.w ⟨p,n⟩ = some o/\a8 (unmN h.G p n)=true/\b8 ((unmN h.G p n).F.R.J.length:Nat) o=true/\bm sp la=true/\Pg (unmN h.G p n).F.R o sp la:=by
 have t:=c.pg.bnd _ (j (p+n - 1) ω ω);have a:=(fx h.G p n).1;have y:p+n<=h.G.F.R.J.length:=by unfold tbl at t;omega
 have g:=mB c.ker K n y;obtain⟨o,Q,R,S⟩:=uP (r:=⟨p,n⟩) c.rng ⟨K,by simp only;omega,y⟩ λq M N=>by
  simp only at M N;obtain⟨m,rfl⟩:=U2 (show 0<=q by omega);have A:m<(tbl h).J.length:=by unfold tbl;omega
  exact(c.pg.fre m A).1 ((c.pg.own m A).2 (j _ M N))
 refine⟨o,Q,iB c.ker p n,by rw[a];exact R,?_,?_⟩
 ·obtain⟨T,U,V⟩:=dh c.lay
  unfold bm;simp only[I0,C0];exact⟨⟨W3.2 λs d=>W3.1 T s (w.subset d),W3.2 λl d=>W3.1 U l (D.subset d)⟩,V.sublist ((w.map _).append (DJ _ D))⟩
 have i:∀q:Nat,(q:Int)∈pgs sp la->nth (unmN h.G p n).F.R.J q=nth (tbl h).J q:=λq f=>by rw[g,C8 ((F q).1 f).2];rfl
 have b:∀q:Nat,(nth (unmN h.G p n).F.R.J q).e≠0↔(nth (tbl h).J q).e≠0/\¬(p<=q/\(q:Int)<p+n):=λq=>by
  rw[g];by_cases e:p<=q/\(q:Int)<p+n
  ·rw[C9 e];exact⟨λx=>absurd rfl x,λx=>absurd e x.2⟩
  rw[C8 e];exact⟨λx=>⟨x,e⟩,λx=>x.1⟩
 refine⟨λl d q f r O G B=>?_,λq f=>?_,λq f=>?_,λq f=>?_,λs d u H J P=>?_⟩
 ·have C:=(b r).1 G
  rw[a]at O;rw[i q (fQ d f),g,C8 C.2]at B;exact c.pg.one l (D.subset d) q f r O C.1 B
 ·rw[a];exact c.pg.bnd q ((F q).1 f).1
 ·rw[a]at f
  rw[b,F,c.pg.own q f]
 ·rw[a]at f
  rw[b,S,c.pg.fre q f];simp only
  grind
 have k:∀s∈sp,0<=s.Q:=λs d=>(aB (c.L.sok s (w.subset d))).1
 have W:=i s.Q.toNat (by rw[Int.toNat_of_nonneg (k s d)];exact d7 d);have X:=i u.Q.toNat (by rw[Int.toNat_of_nonneg (k u H)];exact d7 H);rw[W,X]at P;exact c.pg.mesh s (w.subset d) u (w.subset H) J P
theorem cT{α:Type}[Inhabited α]{xs:List α}{k:Nat}{z:α} : z∈dele xs k↔∃j,j<xs.length/\j≠k/\nth xs j=z:=by
 unfold dele;rw[W2];constructor
 ·rintro(h|h)
  ·obtain⟨j,a,rfl⟩:=List.mem_take_iff_getElem.1 h
   exact⟨j,ω,ω,bj (Z1 ω)⟩
  obtain⟨j,a,rfl⟩:=List.mem_drop_iff_getElem.1 h;exact⟨k+1+j,ω,ω,bj (Z1 ω)⟩
 rintro⟨j,a,b,rfl⟩
 rw[bj (Z1 a)];by_cases e:j<k
 ·exact .inl (List.mem_take_iff_getElem.2 ⟨j,ω,rfl⟩)
 refine .inr (List.mem_drop_iff_getElem.2 ⟨j - (k+1),ω,?_⟩)
 congr 1;omega
theorem pD{sp:List ax}{la:List a7}{q:Int} : q∈pgs sp la↔(∃s∈sp,s.Q=q)\/∃l∈la,q∈lpgs l l.a2.toNat:=by
 unfold pgs;simp only[W2,t4,List.mem_flatMap]
theorem vt{s:ax}(h:s.b1=0)(a:Int):¬ew s a:=by
 rintro⟨-,-,-,b⟩
 rw[dO,h]at b;simp at b
theorem aZ.giveSpan{h:ab}{E:List Int}{i:Nat}(g:aZ h E)(B:i<h.K.length)(y:(nth h.K i).b1=0)(W:h.u=true->(nth h.K i).Q≠h.Z.X.a3/\(nth h.K i).Q≠h.Z.X.a1) :
  ∃o,dE (dC h) h.w ⟨(nth h.K i).Q,1⟩ = some o/\aZ {h with G:=dR h.G (nth h.K i).Q,K:=dele h.K i,w:=o} E:=by
 have F:=g.L;have G:=aB (F.sok _ (am B));have A:∀q,q∈pgs (dele h.K i) h.M↔q∈pgs h.K h.M/\¬((nth h.K i).Q<=q/\q<(nth h.K i).Q+(1:Nat)):=λq=>by
  rw[pD,pD];constructor
  ·rintro(⟨s,r,rfl⟩|⟨l,C,D⟩)
   ·obtain⟨j,d,H,rfl⟩:=cT.1 r
    refine⟨.inl ⟨_,am d,rfl⟩,λe=>H (cG (f:=(·.Q)) F.nd d B ω)⟩
   refine⟨.inr ⟨l,C,D⟩,λe=>?_⟩;obtain⟨k,J,rfl⟩:=dx.1 D;exact F.dis _ (am B) l C k J ω
  rintro⟨⟨s,r,rfl⟩|⟨l,C,D⟩,K⟩
  ·obtain⟨j,d,rfl⟩:=aK r
   refine .inl ⟨_,cT.2 ⟨j,d,λe=>K (by subst e;omega),rfl⟩,rfl⟩
  exact .inr ⟨l,C,D⟩
 obtain⟨o,X,Q,R,Y,S⟩:=wO g (sp:=dele h.K i) (la:=h.M) (p:=(nth h.K i).Q) (n:=1) (X2 _) (f6 ..) (List.Sublist.refl _) (λq q1 q2=>by rw[show q=(nth h.K i).Q by omega];exact d7 (am B)) G.1 A;have M:unmN h.G (nth h.K i).Q 1=dR h.G (nth h.K i).Q:=by show dR h.G ((nth h.K i).Q+((0:Nat):Int))=_;rw[show(nth h.K i).Q+((0:Nat):Int)=(nth h.K i).Q by omega]
 rw[M]at Q R S;have t:∀b c,jP (dele h.K i) b c↔jP h.K b c:=λb c=>by
  constructor
  ·rintro⟨s,r,w⟩;exact⟨s,(f6 ..).subset r,w⟩
  rintro⟨s,r,w,N⟩
  obtain⟨j,d,rfl⟩:=aK r;exact⟨_,cT.2 ⟨j,d,λe=>vt y b (by rw[<-e];exact w),rfl⟩,w,N⟩
 refine⟨o,X,{g with
   ker:=Q
   rng:=R
   lay:=Y
   srs:=g.srs.sublist (f6 ..)
   pg:=S
   oow:=λZ ho=>?_
   hca:=λc G k J b y=>(t b k).2 (g.hca c G k J b y)
   hqu:=λx hx=>(t _ _).2 (g.hqu x hx)
   hfl:=λb y=>(t _ _).2 (g.hfl b y)
   hin:=λb y=>(t _ _).2 (g.hin b y)
   mem:=λb=>(g.mem b).trans ?_
   job:=λT=>?_}⟩
 ·rcases g.oow Z ho with⟨s,r,w,N⟩|w
  ·obtain⟨j,d,rfl⟩:=aK r
   exact .inl ⟨_,cT.2 ⟨j,d,λe=>vt y _ (by rw[<-e];exact w),rfl⟩,w,N⟩
  exact .inr w
 ·unfold Live;rw[t]
 obtain⟨j1,⟨s,r,U⟩,⟨u,M,V⟩⟩:=g.job T;obtain⟨n1,n2⟩:=W T;obtain⟨a,O,rfl⟩:=aK r;obtain⟨b,P,rfl⟩:=aK M;exact⟨j1,⟨_,cT.2 ⟨a,O,λe=>n1 (by rw[<-e];exact U),rfl⟩,U⟩,⟨_,cT.2 ⟨b,P,λe=>n2 (by rw[<-e];exact V),rfl⟩,V⟩⟩
theorem aZ.dropL{h:ab}{E:List Int}{i k:Nat}(d:aZ h E)(S:i<h.O.length)(y:k<h.M.length)(G:(nth h.O i).Addr=16*(nth h.M k).Q) :
  ∃o,dE (dC h) h.w ⟨(nth h.M k).Q,(nth h.M k).a2⟩ = some o/\aZ {h with G:=unmN h.G (nth h.M k).Q (nth h.M k).a2.toNat,M:=dele h.M k,w:=o,O:=dele h.O i} E:=by
 have A:=d.L;have T:=aM (A.lok _ (am y));have C:∀q,q∈pgs h.K (dele h.M k)↔q∈pgs h.K h.M/\¬((nth h.M k).Q<=q/\q<(nth h.M k).Q+((nth h.M k).a2.toNat:Nat)):=λq=>by
  rw[pD,pD];constructor
  ·rintro(⟨s,B,rfl⟩|⟨l,f,D⟩)
   ·refine⟨.inl ⟨s,B,rfl⟩,λe=>A.dis s B _ (am y) (s.Q - (nth h.M k).Q).toNat ω ω⟩
   obtain⟨j,c,t,rfl⟩:=cT.1 f;refine⟨.inr ⟨_,am c,D⟩,λe=>?_⟩;obtain⟨m,N,rfl⟩:=dx.1 D;exact t (A.one j k c y m ((nth h.M j).Q+(m:Int) - (nth h.M k).Q).toNat N ω ω)
  rintro⟨⟨s,B,rfl⟩|⟨l,f,D⟩,g⟩
  ·exact .inl ⟨s,B,rfl⟩
  obtain⟨j,c,rfl⟩:=aK f;refine .inr ⟨_,cT.2 ⟨j,c,λe=>g ?_,rfl⟩,D⟩;subst e;obtain⟨m,N,rfl⟩:=dx.1 D;omega
 obtain⟨o,O,U,V,W,X⟩:=wO d (sp:=h.K) (la:=dele h.M k) (p:=(nth h.M k).Q) (n:=(nth h.M k).a2.toNat) ω (List.Sublist.refl _) (f6 ..) (λq q1 q2=>fQ (am y) (dx.2 ⟨(q - (nth h.M k).Q).toNat,ω,ω⟩)) T.2.2.1 C;rw[Int.toNat_of_nonneg ω]at O;have P:(E++holders h).Perm ((nth h.O i).Addr::(E++holders {h with O:=dele h.O i})):=by
  have Y:=(Af S).map (·.Addr);refine List.perm_iff_count.2 λa=>?_
  have r:=Y.count_eq a;simp only[z5,List.count_cons]at r;simp only[holders,cy,C5,List.count_cons];omega
 have u:=P.nodup_iff.1 d.nd;obtain⟨K,u⟩:=List.nodup_cons.1 u;have w:∀b,(b=(nth h.O i).Addr\/b∈E++holders {h with O:=dele h.O i})↔Live h.K h.M b:=λb=>by rw[<-d.mem b,P.mem_iff,List.mem_cons]
 have g:∀b,b∈E++holders {h with O:=dele h.O i}->b≠(nth h.O i).Addr:=λb H e=>K (by rw[<-e];exact H)
 refine⟨o,O,{d with
   ker:=U
   rng:=V
   lay:=W
   srl:=d.srl.sublist (f6 ..)
   pg:=X
   osr:=d.osr.sublist (f6 ..)
   onu:=λF J=>d.onu F ((f6 ..).subset J)
   oid:=d.oid.sublist ((f6 ..).map _)
   oow:=λF J=>?_
   nd:=u
   mem:=λb=>?_}⟩
 ·rcases d.oow F ((f6 ..).subset J) with r|⟨l,f,Q,Z⟩
  ·exact .inl r
  obtain⟨j,c,rfl⟩:=aK f;refine .inr ⟨_,cT.2 ⟨j,c,λe=>?_,rfl⟩,Q,Z⟩;subst e;refine g F.Addr (W2.2 (.inr ?_)) (by rw[G];exact Q);unfold holders;simp only[W2];exact .inl (.inl (.inl (t4.2 ⟨F,J,rfl⟩)))
 constructor
 ·intro H
  rcases(w b).1 (.inr H) with r|⟨l,f,rfl⟩
  ·exact .inl r
  obtain⟨j,c,rfl⟩:=aK f;exact .inr ⟨_,cT.2 ⟨j,c,λe=>g _ H (by rw[G,e]),rfl⟩,rfl⟩
 rintro(r|⟨l,f,rfl⟩)
 ·refine((w b).2 (.inl r)).resolve_left λe=>?_
  obtain⟨s,B,⟨M,R,-⟩,-⟩:=r;exact(xl A (am y)).1 s B (by rw[e,G]at M R;exact⟨M,R⟩)
 obtain⟨j,c,t,rfl⟩:=cT.1 f;refine((w _).2 (.inr ⟨_,am c,rfl⟩)).resolve_left λe=>t ?_
 have M:=aM (A.lok _ (am c));rw[G]at e;exact A.one j k c y 0 0 ω ω ω
def fT(h:ab)(p:Int):Bool:=h.u&&(decide (p=h.Z.X.a3) || decide (p=h.Z.X.a1))
def giveP(h:ab)(i:Nat):ab:={h with G:=dR h.G (nth h.K i).Q,K:=dele h.K i,w:=(dE (dC h) h.w ⟨(nth h.K i).Q,1⟩).getD h.w}
def clrS(h:ab)(i:Nat)(a:Int):ab:={h with K:=h.K.set i (mE (nth h.K i) (d3 (nth h.K i) a))}
def freeS(h:ab)(i:Nat)(a:Int):ab:=if(mE (nth h.K i) (d3 (nth h.K i) a)).b1=0/\fT h (nth h.K i).Q=false then giveP (clrS h i a) i else clrS h i a
def tO(h:ab)(a:Int):Nat:=(fH h (a / 16)).toNat
def freeA(h:ab)(a:Int):ab:=freeS h (tO h a) a
def cput(c:aD)(k a:Int):Option aD:=if bp c=true/\0<=k/\k<=3/\bp (n9 c k.toNat a)=true then some (n9 c k.toNat a) else none
def recyc(t:Nat)(h:ab)(a:Int):ab:=match cput (nth h.S t) (nth h.K (tO h a)).a a with
 | some c=>{h with S:=h.S.set t c}
 | none=>freeA h a
theorem aZ.at{h:ab}{E:List Int}{a:Int}(e:aZ h E)(f:jP h.K a (-1)):tO h a<h.K.length/\ew (nth h.K (tO h a)) a/\fH h (a / 16)=(tO h a:Nat):=by
 obtain⟨s,g,c,-⟩:=f;obtain⟨i,d,rfl⟩:=aK g;have j:(nth h.K i).Q=a / 16:=by have l:=c.1;have n:=c.2.1;omega
 have b:=pH e.L d;rw[j]at b;have k:tO h a=i:=by unfold tO;rw[b];rfl
 rw[k];exact⟨d,c,b⟩
theorem xH{h:ab}{p:Int}(e:fT h p=false)(a:h.u=true):p≠h.Z.X.a3/\p≠h.Z.X.a1:=by
 unfold fT at e;rw[a]at e;simpa using e
theorem aZ.freeS{h:ab}{E:List Int}{a:Int}{i:Nat}(f:aZ h (a::E))(b:i<h.K.length)(g:ew (nth h.K i) a):aZ (freeS h i a) E:=by
 have c:=f.give b g;unfold Ab.freeS;split
 ·rename_i e
  have d:nth (clrS h i a).K i=mE (nth h.K i) (d3 (nth h.K i) a):=by unfold clrS;simp only[bB,true_and];rw[C9 b]
  obtain⟨o,j,k⟩:=aZ.giveSpan (h:=clrS h i a) c (i:=i) (by unfold clrS;simp only[O1];exact b) (by rw[d];exact e.1) (λl=>by rw[d];exact xH e.2 l);unfold giveP;rw[j];exact k
 exact c
theorem aZ.freeA{h:ab}{E:List Int}{a:Int}(b:aZ h (a::E)):aZ (freeA h a) E:=by
 obtain⟨c,d,-⟩:=b.at (b.hin a (U1 ..));exact b.freeS c d
theorem pn{c:aD}(h:bp c=true):c.b.length=4:=by
 unfold bp at h;simp only[I0,C0]at h;exact h.1
theorem aZ.recyc{h:ab}{E:List Int}{a:Int}{t:Nat}(b:aZ h (a::E))(f:t<h.S.length):aZ (recyc t h a) E:=by
 obtain⟨g,i,-⟩:=b.at (b.hin a (U1 ..));unfold Ab.recyc;split
 ·rename_i c d
  unfold cput at d;split at d
  ·rename_i e
   cases d;obtain⟨j,l,n,k⟩:=e;exact b.put f (by rw[pn j];omega) ⟨_,am g,i,.inr ω⟩ k
  cases d
 exact b.freeA
theorem vM(h:ab)(i:Nat)(a:Int):(freeS h i a).S=h.S/\(freeS h i a).O=h.O/\(freeS h i a).G.Calls=h.G.Calls/\(freeS h i a).q=h.q/\(freeS h i a).Z=h.Z/\(freeS h i a).b3=h.b3/\(freeS h i a).a9=h.a9/\(freeS h i a).G.y=h.G.y:=by
 unfold freeS;split
 ·obtain⟨-,b,c⟩:=lz (clrS h i a).G (nth (clrS h i a).K i).Q
  exact⟨rfl,rfl,b,rfl,rfl,rfl,rfl,c⟩
 exact⟨rfl,rfl,rfl,rfl,rfl,rfl,rfl,rfl⟩
theorem nI(t:Nat)(h:ab)(a:Int):(recyc t h a).S.length=h.S.length/\(recyc t h a).O=h.O/\(recyc t h a).G.Calls=h.G.Calls/\(recyc t h a).q=h.q/\(recyc t h a).Z=h.Z/\(recyc t h a).b3=h.b3/\(recyc t h a).a9=h.a9/\(recyc t h a).G.y=h.G.y:=by
 unfold recyc;split
 ·exact⟨O1 ..,rfl,rfl,rfl,rfl,rfl,rfl,rfl⟩
 obtain⟨b,c⟩:=vM h (tO h a) a;exact⟨W0 _ b,c⟩
def recycs(t:Nat)(h:ab)(az:List Int):ab:=az.foldl (recyc t) h
theorem gm(t:Nat):∀(az:List Int)(h:ab),(recycs t h az).S.length=h.S.length/\(recycs t h az).O=h.O/\(recycs t h az).G.Calls=h.G.Calls/\(recycs t h az).q=h.q/\(recycs t h az).Z=h.Z/\(recycs t h az).b3=h.b3/\(recycs t h az).a9=h.a9/\(recycs t h az).G.y=h.G.y
 | [],h=>⟨rfl,rfl,rfl,rfl,rfl,rfl,rfl,rfl⟩
 | a::az,h=>by
  obtain⟨b,c,d,e,f,g,i,j⟩:=gm t az (recyc t h a);obtain⟨k,l,n,o,p,q,r,u⟩:=nI t h a;exact⟨b.trans k,c.trans l,d.trans n,e.trans o,f.trans p,g.trans q,i.trans r,j.trans u⟩
theorem aZ.recycs{t:Nat}{E:List Int} : ∀{az:List Int}{h:ab},aZ h (az++E)->t<h.S.length->aZ (recycs t h az) E
 | [],h,b,_=>b
 | a::az,h,b,c=>aZ.recycs (az:=az) (h:=Ab.recyc t h a) (b.recyc c) (by rw[(nI t h a).1];exact c)
def qc(l:List aO):Int:=quarCells l l.length
def oe(room:Int):List aO->Nat
 | []=>0
 | x::xs=>if room<qc (x::xs) then oe room xs+1 else 0
def HK(q:bR)(x:aO):bR:=⟨q.c1,(q.a6++[x]).drop (oe q.c1 (q.a6++[x]))⟩
def yb(q:bR)(x:aO):List aO:=(q.a6++[x]).take (oe q.c1 (q.a6++[x]))
theorem BV(room:Int):∀l,oe room l<=l.length
 | []=>X2 _
 | x::xs=>by unfold oe;split;(have:=BV room xs;simp only[List.length_cons];omega);omega
theorem B5{room:Int}(a:0<=room):∀l:List aO,qc (l.drop (oe room l))<=room
 | []=>a
 | x::xs=>by
  unfold oe;split
  ·exact B5 a xs
  rename_i h;show qc (x::xs)<=room;omega
theorem zf{room:Int} : ∀{l:List aO}{k:Nat},k<oe room l->room<qc (l.drop k)
 | [],k,h=>by cases h
 | x::xs,0,h=>by
  unfold oe at h;split at h
  ·assumption
  omega
 | x::xs,k+1,h=>by
  unfold oe at h;split at h
  ·exact zf (l:=xs) ω
  omega
theorem jM{q:bR} : fE q=true↔(∀x∈q.a6,0<=x.a/\x.a<=3/\0<=x.Addr/\0<=x.b7)/\(q.a6.Pairwise λa b=>a.b7<=b.b7)/\(q.a6.map (·.Addr)).Nodup/\0<=q.c1/\q.c1<=500/\qc q.a6<=q.c1:=by
 refine Iff.trans ?_ (and_congr Iff.rfl (and_congr (vC (λa b:Int=>a<=b) (λa b c=>Int.le_trans) (λs:aO=>s.b7) q.a6) (and_congr (zN (λs:aO=>s.Addr) q.a6) Iff.rfl)));unfold fE qc;simp only[I0,C0,cz,kv,Bool.not_eq_true',List.any_eq_false,eD];constructor
 ·rintro⟨e,f⟩
  refine⟨λx l=>?_,λi d=>(e i d).1.2.2.2.2,λi d=>(e i d).2,f⟩;obtain⟨i,d,rfl⟩:=aK l;obtain⟨⟨g,h,j,k,-⟩,-⟩:=e i d;exact⟨g,h,j,k⟩
 rintro⟨e,f,n,o⟩
 refine⟨λi d=>?_,o⟩;obtain⟨g,h,j,k⟩:=e _ (am d);exact⟨⟨g,h,j,k,f i d⟩,n i d⟩
theorem Nb{q:bR}{x:aO}(h:fE q=true)(i:0<=x.a/\x.a<=3/\0<=x.Addr/\0<=x.b7)(j:∀y∈q.a6,y.b7<=x.b7)(k:∀y∈q.a6,y.Addr≠x.Addr):fE (HK q x)=true:=by
 obtain⟨l,n,o,g,p,r⟩:=jM.1 h;have c:(HK q x).a6.Sublist (q.a6++[x]):=List.drop_sublist ..;refine jM.2 ⟨λy d=>?_,List.Pairwise.sublist c ?_,List.Nodup.sublist (c.map _) ?_,g,p,B5 g _⟩
 ·rcases W2.1 (c.subset d) with d|d
  ·exact l y d
  rw[I1.1 d];exact i
 ·exact List.pairwise_append.2 ⟨n,List.pairwise_singleton ..,λa f b e=>by rw[I1.1 e];exact j a f⟩
 rw[t5];refine List.nodup_append.2 ⟨o,by simp,λa f b e=>?_⟩;obtain⟨y,d,rfl⟩:=t4.1 f;simp only[z5,List.map_nil,I1]at e;rw[e];exact k y d
def lf(r:List Int)(o:Nat):Nat->List Int
 | 0=>r
 | n+1=>(lf r o n).set (o+n) 0
def cN(k:ah)(a:Int):Nat:=(ac k.F.R (a / 16)).j.toNat
def eP(k:ah)(a:Int)(n:Nat):ah:={k with F:=⟨⟨k.F.W.T.set (cN k a) (lf (nth k.F.W.T (cN k a)) (a % 16).toNat n),k.F.W.a5⟩,k.F.R⟩}
theorem mr(r:List Int)(o:Nat):∀n,(lf r o n).length=r.length
 | 0=>rfl
 | n+1=>by unfold lf;rw[O1,mr r o n]
theorem zd{r:List Int}{o:Nat} : ∀{n:Nat}{v:Int},v∈lf r o n->v∈r\/v=0
 | 0,v,h=>.inl h
 | n+1,v,h=>by
  rcases T5 h with h|h
  ·exact zd h
  exact .inr h
theorem Da{k:ah}(h:a8 k=true)(a:Int)(n:Nat):a8 (eP k a n)=true:=by
 obtain⟨g,i,l,o,p⟩:=aE.1 h;obtain⟨q,r,t,f⟩:=aX.1 i;refine aE.2 ⟨g,aX.2 ⟨?_,?_,?_,λj c=>?_⟩,l,o,p⟩
 ·simp only[eP,O1];exact q
 ·simp only[eP,O1];exact r
 ·simp only[eP,O1];exact t
 simp only[eP,O1]at c |-;simp only[bB];split
 ·rename_i e
  have b:=f j c;unfold gM at b |-;simp only[I0,C0,W3]at b |-;rw[e.1]at *;refine⟨by rw[mr];exact b.1,λv d=>?_⟩;rcases zd d with d|rfl
  ·exact b.2 v d
  unfold iy;simp
 exact f j c
def yz(h:ab)(a:Int):Nat:=(h.M.findIdx? λl=>decide (l.Q*16=a)).getD 0
def freeL(h:ab)(i k:Nat):ab:={h with G:=unmN h.G (nth h.M k).Q (nth h.M k).a2.toNat,M:=dele h.M k,w:=(dE (dC h) h.w ⟨(nth h.M k).Q,(nth h.M k).a2⟩).getD h.w,O:=dele h.O i}
def lh(h:ab)(o:bz):aO:=⟨o.Addr,aJ o.o,h.b3⟩
def inQuar(h:ab)(i:Nat):ab:={h with G:=eP h.G (nth h.O i).Addr (csz (aJ (nth h.O i).o)).toNat,O:=dele h.O i,a9:=HK h.a9 (lh h (nth h.O i))}
def EH(h:ab)(t i:Nat):ab:=recycs t (inQuar h i) ((yb h.a9 (lh h (nth h.O i))).map (·.Addr))
def freeOb(h:ab)(t i:Nat):ab × Int:=
 if aJ (nth h.O i).o<0 then(freeL h i (yz h (nth h.O i).Addr),0)
 else if(ac (tbl h) ((nth h.O i).Addr / 16)).e=1 then(h,5)
 else(EH h t i,0)
theorem v8{h:ab}{l:a7}(d:l∈h.M){a:Int}(e:a=16*l.Q):yz h a<h.M.length/\a=16*(nth h.M (yz h a)).Q/\(∀j,j<yz h a->(nth h.M j).Q*16≠a)/\h.M.findIdx? (λl=>decide (l.Q*16=a))=some (yz h a):=by
 cases b:h.M.findIdx? λl=>decide (l.Q*16=a) with
 | none=>
  have:=List.findIdx?_eq_none_iff.1 b l d;rw[I4]at this;omega
 | some k=>
  obtain⟨c,f,g⟩:=Y5.1 b;have i:yz h a=k:=by unfold yz;rw[b];rfl
  rw[i];rw[<-bj (Z1 c),C0]at f;refine⟨c,ω,λj n=>?_,rfl⟩;have:=g j n;rw[<-bj (Z1 (show j<h.M.length by omega))]at this;simpa using this
theorem dK{h:ab}{E:List Int}(a:aZ h E){o:bz}(g:o∈h.O):(aJ o.o<0->Rl h.M o.Addr o.o)/\(¬aJ o.o<0->(∃s∈h.K,ew s o.Addr/\s.a=aJ o.o)/\aJ o.o<=3):=by
 rcases a.oow o g with⟨s,d,b,c⟩|⟨l,f,b,c⟩
 ·have i:=aB (a.L.sok s d)
  exact⟨λe=>ω,λ_=>⟨⟨s,d,b,c⟩,ω⟩⟩
 have j:=cK (a.L.lok l f);refine⟨λ_=>⟨l,f,b,c⟩,λe=>absurd ?_ e⟩;unfold aJ;rw[C8 ω,C8 ω,C8 ω,C8 ω,C8 ω]
 decide
theorem aZ.inQuar{h:ab}{i:Nat}(a:aZ h [])(j:i<h.O.length)(r:¬aJ (nth h.O i).o<0):aZ (inQuar h i) ((yb h.a9 (lh h (nth h.O i))).map (·.Addr)):=by
 obtain⟨⟨s,l,n,t⟩,u⟩:=(dK a (am j)).2 r;have b:jP h.K (nth h.O i).Addr (aJ (nth h.O i).o):=⟨s,l,n,.inr t⟩
 have d:=a.nums;unfold cn at d;rw[C0]at d;have w:=aB (a.L.sok s l);have o:=a.dropO j b.any;have A:=o.cells (k:=eP h.G (nth h.O i).Addr (csz (aJ (nth h.O i).o)).toNat) (Da a.ker _ _) rfl;have f:∀y∈h.a9.a6,y.Addr≠(nth h.O i).Addr:=λy g e=>by
  have c:=o.nd;rw[List.cons_append,List.nil_append]at c;refine(List.nodup_cons.1 c).1 ?_;rw[<-e];unfold holders;simp only[W2];exact .inl (.inr (t4.2 ⟨y,g,rfl⟩))
 have p:=aZ.toQuar (x:=lh h (nth h.O i)) (q:=HK h.a9 (lh h (nth h.O i))) (out:=yb h.a9 (lh h (nth h.O i))) A (Nb a.quar ⟨by show 0<=aJ _;omega,u,by show 0<=(nth h.O i).Addr;have:=n.1;omega,d.2.2.1⟩ (λy g=>a.snc y g) f) (by unfold yb HK;simp only[List.take_append_drop]) (T4 _) b;rw[List.append_nil]at p;exact p
theorem aZ.freeOb{h:ab}{t i:Nat}(a:aZ h [])(b:i<h.O.length)(e:t<h.S.length):aZ (freeOb h t i).1 []:=by
 unfold Ab.freeOb;split
 ·rename_i c
  obtain⟨l,f,d,-⟩:=(dK a (am b)).1 c;obtain⟨g,j,-⟩:=v8 f d;obtain⟨o,k,n⟩:=a.dropL b g j;unfold Ab.freeL;rw[k];exact n
 rename_i c;split
 ·exact a
 have d:=a.inQuar b c;refine aZ.recycs (E:=[]) ?_ e;rw[List.append_nil];exact d
theorem Hx:∀{H L:List Int},H.Nodup->(∀x∈H,x∈L)->H.length<=L.length
 | [],L,_,_=>U0 _
 | y::H,L,f,b=>by
  have c:y∈L:=b y (U1 ..);have a:=List.nodup_cons.1 f;have:=Hx (L:=L.erase y) a.2 λz d=>(List.mem_erase_of_ne (λe:z=y=>a.1 (by rw[<-e];exact d))).2 (b z (W4 _ d))
  rw[List.length_erase_of_mem c]at this;have g:=List.length_pos_of_mem c;simp only[List.length_cons];omega
theorem vJ{H:List Int}{n:Nat}(c:H.Nodup)(a:∀x∈H,0<=x/\x<n):H.length<=n:=by
 have:=Hx (L:=(List.range n).map λ(i:Nat)=>(i:Int)) c λx b=>t4.2 ⟨x.toNat,List.mem_range.2 (by have:=a x b;omega),by have:=a x b;omega⟩
 simpa using this
theorem dd{α:Type}{f:α->Int}{xs:List α}(h:xs.Pairwise λa b=>f a<f b):(xs.map f).Nodup:=by
 unfold List.Nodup;rw[List.pairwise_map];exact h.imp λh e=>ω
theorem Ki:∀(b:List (List Int))(k:Nat)(s:List Int),(gk k s b).isSome=true->∀l∈b,l.length<=8
 | [],_,_,_,l,a=>by cases a
 | x::b,k,s,h,l,a=>by
  simp only[gk]at h;cases e:eM k s x with
  | none=>rw[e]at h;cases h
  | some d=>
   rw[e]at h;rcases List.mem_cons.1 a with rfl|a
   ·unfold eM at e
    split at e
    ·rename_i c;exact c.1
    cases e
   exact Ki b (k+1) d h l a
theorem eS{c:aD}(h:bp c=true):c.b.length=4/\∀l∈c.b,l.length<=8:=by
 have a:=h;unfold bp at h;simp only[I0,C0]at h;exact⟨h.1,Ki _ _ _ h.2⟩
structure Pn(h:ab):Prop where
 cells:h.G.F.W.T.length<=32
 row:∀r∈h.G.F.W.T,r.length=16
 used:h.G.F.W.a5.length<=32
 ents:h.G.F.R.J.length<=32
 ref:h.G.y.length<=40
 free:h.w.length<=32
 spans:h.K.length<=32
 larges:h.M.length<=32
 objs:h.O.length<=512
 caches:h.S.length<=4
 lists:∀c∈h.S,c.b.length=4/\∀l∈c.b,l.length<=8
 quar:h.a9.a6.length<=512
theorem jP.bd{h:ab}{E:List Int}(b:aZ h E){a c:Int}(d:jP h.K a c):0<=a/\a<512:=by
 obtain⟨s,e,⟨f,g,-⟩,-⟩:=d;have i:=aB (b.L.sok s e);omega
theorem aZ.lens{h:ab}{E:List Int}(d:aZ h E):Pn h:=by
 obtain⟨O,t,u,P,Q,R,w⟩:=aE.1 d.ker;obtain⟨S,A,T,B⟩:=aX.1 t;obtain⟨U,V,C⟩:=bv.1 u;obtain⟨p,D,W⟩:=fC.1 d.rng;obtain⟨X,Y,F,Z⟩:=jM.1 d.quar;have q:=d.mail;unfold bI at q;simp only[I0,C0]at q;have G:=d.nc;refine⟨A,λr g=>?_,ω,C,w,?_,?_,?_,?_,ω,λc J=>eS (d.cach c J),?_⟩
 ·obtain⟨j,K,rfl⟩:=aK g
  have:=B j K;unfold gM at this;simp only[I0,C0]at this;exact this.1
 ·have:=vJ (H:=h.w.map (·.At)) (n:=32) (dd (p.1.imp_of_mem fun {a b} ha hb h=>by have:=p.2 a ha;omega)) λx f=>by
   obtain⟨r,g,rfl⟩:=t4.1 f;have:=D r g;omega
  simpa using this
 ·have:=vJ (H:=h.K.map (·.Q)) (n:=32) d.L.nd λx f=>by
   obtain⟨s,i,rfl⟩:=t4.1 f;have:=aB (d.L.sok s i);omega
  simpa using this
 ·have:=vJ (H:=h.M.map (·.Q)) (n:=32) (dd d.srl) λx f=>by
   obtain⟨l,k,rfl⟩:=t4.1 f;have:=aM (d.L.lok l k);omega
  simpa using this
 ·have:=vJ (H:=h.O.map (·.Addr)) (n:=512) (dd d.osr) λx f=>by
   obtain⟨o,M,rfl⟩:=t4.1 f;rcases d.oow o M with⟨s,i,⟨k1,k2,-⟩,-⟩|⟨l,k,e,-⟩
   ·have:=aB (d.L.sok s i);omega
   have:=aM (d.L.lok l k);omega
  simpa using this
 have:=vJ (H:=h.a9.a6.map (·.Addr)) (n:=512) F λx f=>by
  obtain⟨y,N,rfl⟩:=t4.1 f;exact(d.hqu y N).bd d
 simpa using this
theorem Pn.sml{h:ab}(a:Pn h)(d:a8 h.G=true)(e:aL.sml h.q)(f:cM.sml h.Z):ab.sml h:=
 ⟨bP d,⟨by have:=a.free;omega,λ_ _=>trivial⟩,⟨by have:=a.spans;omega,λ_ _=>trivial⟩,⟨by have:=a.larges;omega,λ_ _=>trivial⟩,⟨by have:=a.objs;omega,λ_ _=>trivial⟩,⟨by have:=a.caches;omega,λc b=>⟨by have:=(a.lists c b).1;omega,λl g=>by have:=(a.lists c b).2 l g;show l.length<=1048576;omega⟩⟩,e,⟨by have:=a.quar;omega,λ_ _=>trivial⟩,f⟩
def ma(a:Int)(o:bz):Bool:=decide (o.Addr=a)
def oW(h:ab)(a:Int):Nat:=(dJ (ma a) h.O).toNat
theorem aZ.objAt{h:ab}{E:List Int}(k:aZ h E){o:bz}(l:o∈h.O):oW h o.Addr<h.O.length/\nth h.O (oW h o.Addr)=o/\dJ (ma o.Addr) h.O=(oW h o.Addr:Nat):=by
 obtain⟨i,a,rfl⟩:=aK l;have d:dJ (ma (nth h.O i).Addr) h.O=(i:Nat):=dX (ao a) (by unfold ma;simp) λj z p g=>by
  have b:=bj g;have c:=(C2.1 g).1;subst b;unfold ma;refine T0 λe=>?_
  have:=cG (f:=(·.Addr)) (dd k.osr) c a e;omega
 have n:oW h (nth h.O i).Addr=i:=by unfold oW;rw[d];rfl
 rw[n];exact⟨a,rfl,d⟩
theorem ug(k:ah)(p:Int)(n:Nat):(unmN k p n).Calls=k.Calls/\(unmN k p n).y=k.y:=(fx k p n).2
open Go.RowKit
set_option maxRecDepth 20000
set_option maxHeartbeats 4000000
theorem KF(y:aA)(a:List aA):dq [] (y::a)=dq [y] a:=by rw[dq];rfl
theorem Dc{α:Type}[Inhabited α]{xs:List α}(h:xs≠[]):xs.getLast? = some (nth xs (xs.length - 1)):=by
 have a:0<xs.length:=List.length_pos_iff.2 h;rw[List.getLast?_eq_getElem?,ao ω]
theorem LH{α:Type}{xs:List α}(h:xs≠[])(v:α):xs.dropLast++[v]=xs.set (xs.length - 1) v:=by
 have b:0<xs.length:=List.length_pos_iff.2 h;refine List.ext_getElem (by simp;omega) λi a c=>?_
 rw[List.getElem_set];by_cases e:xs.length - 1=i
 ·subst e
  rw[C9 rfl,List.getElem_append_right (by simp)];simp
 rw[C8 e,List.getElem_append_left (by simp at a |-;omega),List.getElem_dropLast]
theorem LW{out:List aA}{y:aA}{a:List aA}(h:out≠[])(e:(nth out (out.length - 1)).At+(nth out (out.length - 1)).b0=y.At):dq out (y::a)=dq (out.set (out.length - 1) ⟨(nth out (out.length - 1)).At,(nth out (out.length - 1)).b0+y.b0⟩) a:=by
 rw[dq,Dc h];simp only;rw[C9 e,LH h]
theorem ND{out:List aA}{y:aA}{a:List aA}(h:out≠[])(e:¬(nth out (out.length - 1)).At+(nth out (out.length - 1)).b0=y.At):dq out (y::a)=dq (out++[y]) a:=by
 rw[dq,Dc h];simp only;rw[C8 e]
theorem r7(xs:List aA)(B:xs.length<=4194304)(o:∀y∈xs,0<=y.At/\1<=y.b0/\y.At+y.b0<=1048576):ar Tryz.prog 584 false [.val none (bQ .V xs)] .one (bQ .own (dq [] xs)):=by
 refine fO 63 [(6,21,[15,16,17,18,19,20,21,22,23,24,25,26,27,28,29,30,31,32,33,34,35]),(7,15,[38,39,40,41,42,43,44,45,46,47,48,49,50,51,52])] Tryz.func584 rfl ?_ (.inr (oT _))
 repeat'(first|refine gO ?_|fail)
 (conv=>whnf)
 refine CF (ι:=Nat × List aA) (λq=>[(0,.H .one (bQ .V xs)),(3,.H .one (bQ .own q.2)),(4,.H .one [I ((q.1:Nat):Int)])]) (λq=>q.1<=xs.length/\dq q.2 (xs.drop q.1)=dq [] xs/\q.2.length<=q.1/\∀y∈q.2,0<=y.At/\1<=y.b0/\y.At+y.b0<=1048576) (λq=>xs.length - q.1) ((0,[])) ?_ (⟨U0 _,rfl,X2 _,λy g=>by cases g⟩) λq p=>?_
 ·exact wB
 obtain⟨i,out⟩:=q;obtain⟨t,b,j,c⟩:=p;simp only at t b j c |-;by_cases k:i<xs.length
 ·have l:=ao k
  have g:=o _ (am k);rw[jF k]at b;by_cases h:out=[]
  ·subst h
   rw[KF]at b;have D:([]:List aA).length=0:=rfl
   repeat'(first|refine gD ?_|(conv=>whnf);first|with_reducible refine CD (aa l) ?_|refine Ln.mk (show List.length _=0 from rfl) ?_|refine Ap.sm (λr u=>by cases u) rfl (by simp) (by decide) rfl ?_)
   ((conv=>whnf)
    refine CE (i+1,[nth xs i]) ⟨(by simp only;omega),b,(by simp),(λy a=>by rw[I1.1 a];exact g)⟩ (by simp only;omega) ?_
    (repeat'(first|exact trivial|rfl|exact CL rfl (CL (W0 (C.s dI.own) (by simp[aA.enc])) trivial)|refine CL ?_ ?_)))
  have n:0<out.length:=List.length_pos_iff.2 h;have d:out[((out.length:Int) - 1).toNat]? = some (nth out (out.length - 1)):=by
   rw[show((out.length:Int) - 1).toNat=out.length - 1 by omega];exact ao ω
  have w:=c _ (am (xs:=out) (i:=out.length - 1) ω);by_cases e:(nth out (out.length - 1)).At+(nth out (out.length - 1)).b0=(nth xs i).At
  ·rw[LW h e]at b
   repeat'(first|refine gA ?_|(conv=>whnf);first|with_reducible refine CD (aa l) ?_|refine CN ω (aa d) ?_|refine CJ rfl (aa d) rfl ?_|refine CP rfl rfl (aa d) rfl (C1 rfl) rfl ?_)
   ((conv=>whnf)
    refine CE (i+1,out.set (out.length - 1) ⟨(nth out (out.length - 1)).At,(nth out (out.length - 1)).b0+(nth xs i).b0⟩) ⟨(by simp only;omega),b,(by simp only;rw[O1];omega),(λy a=>?_)⟩ (by simp only;omega) ?_)
   ·rcases T5 a with a|rfl
    ·exact c y a
    simp only;omega
   (repeat'(first|exact trivial|rfl|exact CL rfl (CL (W0 (C.s dI.own) (by rw[show((out.length:Int) - 1).toNat=out.length - 1 by omega,I5];rfl)) trivial)|refine CL ?_ ?_))
  rw[ND h e]at b
  repeat'(first|refine gA ?_|(conv=>whnf);first|with_reducible refine CD (aa l) ?_|refine CN ω (aa d) ?_|refine CJ rfl (aa d) rfl ?_|refine Ap.sm (aT λ_=>rfl) rfl (by simp;omega) (by decide) rfl ?_)
  ((conv=>whnf)
   refine CE (i+1,out++[nth xs i]) ⟨(by simp only;omega),b,(by simp;omega),(λy a=>?_)⟩ (by simp only;omega) ?_)
  ·rcases W2.1 a with a|a
   ·exact c y a
   rw[I1.1 a];exact g
  (repeat'(first|exact trivial|rfl|exact CL rfl (CL (W0 (C.s dI.own) (by simp[aA.enc])) trivial)|refine CL ?_ ?_))
 obtain rfl:i=xs.length:=ω
 rw[List.drop_length]at b
 repeat'(first|refine gD ?_|fail)
 rw[<-b];rfl
theorem zD(r y:aA)(a:List aA)(put:Bool):mq r (y::a) put=if ovl y r then none else if !put&&decide (y.At > r.At) then(mq r a true).map λt=>r::y::t else(mq r a put).map λt=>y::t:=by rw[mq]
theorem lW(pages:Int)(xs:List aA)(r:aA)(H:0<=pages/\pages<=1048576)(J:jg xs):ar Tryz.prog 568 false [.val none [I pages],.val none (bQ .V xs),.val (some 2) (aA.enc .V r)] (.tup [none,none]) (FZ xs (dE pages xs r)):=by
 have w:=J.1;have n:=mc pages xs H J;have E:=wW pages r H;cases o:b8 pages xs<;>rw[o]at n
 ·rw[show dE pages xs r=none by unfold dE;rw[C8 (by rw[o];simp)]]
  refine fO 82 [] Tryz.func568 rfl ?_ (.inr (tg _ _))
  repeat'(first|refine gO ?_|(conv=>whnf);first|refine C7 (n) ?_|refine CS (λ_=>rfl) (λ_=>rfl) w (by decide) ?_)
  rfl
 cases k:rangeIn pages r<;>rw[k]at E
 ·rw[show dE pages xs r=none by unfold dE;rw[C8 (by rw[k];simp)]]
  refine fO 82 [] Tryz.func568 rfl ?_ (.inr (tg _ _))
  repeat'(first|refine gO ?_|(conv=>whnf);first|refine C7 (n) ?_|refine C7 (E) ?_|refine CS (λ_=>rfl) (λ_=>rfl) w (by decide) ?_)
  rfl
 obtain⟨K,L⟩:=Bl o;have p:0<=r.At/\1<=r.b0/\r.At+r.b0<=pages:=by
  unfold rangeIn at k;rw[C0]at k;omega
 rw[show dE pages xs r=(mq r xs false).map (dq []) by unfold dE;rw[C9 ⟨o,k⟩,zR (pages:=pages) K p.2.1 λz M=>by simp at M]];refine fO 82 [] Tryz.func568 rfl ?_ (.inr (tg _ _))
 repeat'(first|refine gO ?_|(conv=>whnf);first|refine C7 (n) ?_|refine C7 (E) ?_|refine CS (λ_=>rfl) (λ_=>rfl) w (by decide) ?_)
 (conv=>whnf)
 refine CF (ι:=Nat × List aA × Bool) (λq=>[(1,.H .one (bQ .V xs)),(5,.H .box (aA.enc .V r)),(8,.H .one (bQ .own xs)),(9,.H .one (bQ .own q.2.1)),(10,.H .one [B (q.2.2)]),(11,.H .one [I ((q.1:Nat):Int)])]) (λq=>q.1<=xs.length/\(mq r (xs.drop q.1) q.2.2).map (q.2.1++·)=mq r xs false/\q.2.1.length<=q.1+q.2.2.toNat/\(∀y∈q.2.1,0<=y.At/\1<=y.b0/\y.At+y.b0<=1048576)) (λq=>xs.length - q.1) ((0,[],false)) ?_ (⟨U0 _,by simp,by simp,by simp⟩) λq g=>?_
 ·exact wB
 obtain⟨i,out,put⟩:=q;obtain⟨N,b,d,e⟩:=g;simp only at N b d e |-;have l:0<=r.At/\1<=r.b0/\r.At+r.b0<=1048576:=ω
 by_cases F:i<xs.length
 ·have u:=ao F
  have O:=L _ (am F);have h:0<=(nth xs i).At/\1<=(nth xs i).b0/\(nth xs i).At+(nth xs i).b0<=1048576:=ω
  rw[jF F]at b;by_cases j:ovl (nth xs i) r=true
  ·rw[<-b]
   rw[zD,C9 j];unfold ovl at j;rw[C0]at j
   repeat'(first|refine gD ?_|(conv=>whnf);first|with_reducible (first|refine CD (aa u) ?_|refine Bf.D (λg=>?_) (λg=>?_)))
   rfl
  rw[zD,C8 j]at b;unfold ovl at j;rw[C0]at j;cases put with
  | false=>
   have d:out.length<=i:=by simpa using d
   by_cases P:(nth xs i).At > r.At
   ·rw[C9 (by simp;omega),Option.map_map]at b
    repeat'(first|refine gD ?_|(conv=>whnf);first|with_reducible (first|refine CD (aa u) ?_|refine Bf.D (λg=>?_) (λg=>?_))|refine Ap.sm (aT λ_=>rfl) rfl (by simp;omega) (by decide) rfl ?_|refine Ap.sm (λr p=>by simp at p;rcases p with⟨a,_,rfl⟩|rfl<;>rfl) rfl (by simp;omega) (by decide) rfl ?_)
    ((conv=>whnf)
     refine CE (i+1,out++[r,nth xs i],true) ⟨(by simp only;omega),(by rw[<-b];congr 1;funext t;simp),(by simp;omega),(λy c=>?_)⟩ (by simp only;omega) ?_)
    ·rcases W2.1 c with c|c
     ·exact e y c
     rcases List.mem_cons.1 c with rfl|c
     ·exact l
     rw[I1.1 c];exact h
    (repeat'(first|exact trivial|rfl|exact CL rfl (CL (W0 (C.s dI.own) (by simp[aA.enc])) trivial)|refine CL ?_ ?_))
   rw[C8 (by simp;omega),Option.map_map]at b
   repeat'(first|refine gD ?_|(conv=>whnf);first|with_reducible (first|refine CD (aa u) ?_|refine Bf.D (λg=>?_) (λg=>?_))|refine Ap.sm (aT λ_=>rfl) rfl (by simp;omega) (by decide) rfl ?_)
   ((conv=>whnf)
    refine CE (i+1,out++[nth xs i],false) ⟨(by simp only;omega),(by rw[<-b];congr 1;funext t;simp),(by simp;omega),(λy c=>?_)⟩ (by simp only;omega) ?_)
   ·rcases W2.1 c with c|c
    ·exact e y c
    rw[I1.1 c];exact h
   (repeat'(first|exact trivial|rfl|exact CL rfl (CL (W0 (C.s dI.own) (by simp[aA.enc])) trivial)|refine CL ?_ ?_))
  | true=>
   have d:out.length<=i+1:=d;rw[C8 (by simp),Option.map_map]at b;by_cases Q:(nth xs i).At<r.At+r.b0
   all_goals
    repeat'(first|refine gD ?_|(conv=>whnf);first|with_reducible (first|refine CD (aa u) ?_|refine Bf.D (λg=>?_) (λg=>?_))|refine Ap.sm (aT λ_=>rfl) rfl (by simp;omega) (by decide) rfl ?_)
    ((conv=>whnf)
     refine CE (i+1,out++[nth xs i],true) ⟨(by simp only;omega),(by rw[<-b];congr 1;funext t;simp),(by simp;omega),(λy c=>?_)⟩ (by simp only;omega) ?_)
    ·rcases W2.1 c with c|c
     ·exact e y c
     rw[I1.1 c];exact h
    (repeat'(first|exact trivial|rfl|exact CL rfl (CL (W0 (C.s dI.own) (by simp[aA.enc])) trivial)|refine CL ?_ ?_))
 obtain rfl:i=xs.length:=ω
 rw[List.drop_length]at b;cases put with
 | false=>
  have d:out.length<=xs.length:=by simpa using d
  rw[<-b];have G:=r7 (out++[r]) (by simp;omega) (λy c=>by
    rcases W2.1 c with c|c
    · exact e y c
    rw[I1.1 c];exact l)
  repeat'(first|refine gD ?_|(conv=>whnf);first|refine Ap.sm (aT λ_=>rfl) rfl (by simp;omega) (by decide) (show(out++[r]).map (aA.enc .own)=_ by simp[aA.enc]) ?_|refine CH (G) ⟨⟨rfl,eA _⟩,trivial⟩ ?_)
  rfl
 | true=>
  have d:out.length<=xs.length+1:=d;rw[<-b];have G:=r7 out ω e
  repeat'(first|refine gD ?_|(conv=>whnf);first|refine CH (G) ⟨⟨rfl,eA _⟩,trivial⟩ ?_)
  simp[mq,FZ]
  rfl
theorem shl64{i:Int}(d:0<=i/\i<=15):IntKind.i64.wrap (1*2 ^ min i.toNat IntKind.i64.bits)=2 ^ i.toNat/\0<=(2:Int) ^ i.toNat/\(2:Int) ^ i.toNat<=32768:=by
 have a:min i.toNat IntKind.i64.bits=i.toNat:=Nat.min_eq_left (show i.toNat<=64 by omega);have b:(0:Int)<=2 ^ i.toNat/\(2:Int) ^ i.toNat<=32768:=by
  have:(2:Nat) ^ i.toNat<=2 ^ 15:=Nat.pow_le_pow_right (by decide) ω;have c:((2 ^ i.toNat:Nat):Int)=(2:Int) ^ i.toNat:=Int.natCast_pow 2 i.toNat;rw[<-c];exact⟨Int.natCast_nonneg _,Int.ofNat_le.2 this⟩
 rw[a,Int.one_mul];exact⟨eQ ω ω,b⟩
theorem clr64{b i:Int}(a:0<=b/\b<=65535):IntKind.i64.wrap ((BitVec.ofInt IntKind.i64.bits b &&& ~~~BitVec.ofInt IntKind.i64.bits (2 ^ i.toNat)).toNat:Nat)=yO b i:=by
 have:=AD (i:=i) a;unfold yO at this |-;exact eQ ω ω
theorem uk(b i:Int)(c:0<=b/\b<=65535)(d:0<=i/\i<=15):ar Tryz.prog 579 false [.val none [I b],.val none [I i]] .one [I (yO b i)]:=by
 have a:=pK b i;rw[O0 ω]at a;have e:IntKind.u64.wrap i=i:=by unfold IntKind.wrap;simp[IntKind.signed,IntKind.bits];omega
 refine fO 15 [] Tryz.func579 rfl ?_
 repeat'(first|refine gO ?_|(conv=>whnf);first|refine CB ?_|refine C7 (a) ?_|refine CO ω ?_|refine CM e ?_|refine CM (shl64 d).1 ?_|refine CM (clr64 c) ?_)
 rfl
theorem Ns{s:ax}{k:Int}(a:aQ s.b1 k=true):0<=k/\k<=15:=by
 have:=(dO _ _).1 a;omega
theorem yG(s:ax)(k:Int)(a:bg s=true)(b:aQ s.b1 k=true):ar Tryz.prog 553 false [.val (some 3) (ax.enc .V s),.val none [I k]] (.tup [some 3,none]) (ax.enc .own (mE s k)++[B true]):=by
 have e:=eI a;have g:=Ns b;have c:=fA s;have d:=g9 s.b1 k ω;rw[a]at c;rw[b]at d;refine fO 23 [] Tryz.func553 rfl ?_ (.inr (bf (ax.enc_fr _) ⟨trivial,trivial⟩))
 repeat'(first|refine gO ?_|(conv=>whnf);first|refine CB ?_|refine C7 (c) ?_|refine C7 (d) ?_|refine C7 (uk s.b1 k e g) ?_)
 rfl
theorem xm(c:aD)(k:Int)(b:aD.sml c):ar Tryz.prog 480 false [.val (some 1) (aD.enc .V c),.val none [I k]] .one [B (bp c&&decide (0<=k/\k<=3))]:=by
 have a:=mS c b;cases e:bp c<;>rw[e]at a
 all_goals
  refine fO 11 [] Tryz.func480 rfl ?_
  repeat'(first|refine gO ?_|(conv=>whnf);first|refine CB ?_|refine C7 (a) ?_|refine C7 (aH k 0 3) ?_)
  all_goals rfl
theorem tR{c:aD}{k:Nat}(a:k<c.b.length):c.b[k]? = some (nth c.b k):=ao a
theorem Kl{c:aD}(h:bp c=true)(k:Nat)(a:Int):aD.sml (n9 c k a):=by
 obtain⟨f,d⟩:=eS h;refine⟨by simp only[n9,O1];omega,λl b=>?_⟩;rcases T5 b with b|rfl
 ·have:=d l b;show l.length<=1048576;omega
 show(nth c.b k++[a]).length<=1048576;by_cases e:k<c.b.length
 ·have:=d _ (am e);simp;omega
 have:nth c.b k=[]:=by unfold nth;rw[O2,I2 ω];rfl
 rw[this];simp
theorem KU(c:aD)(k:Nat)(a:Int):aD.enc .own (n9 c k a)=[.s .own ((c.b.map (aG .own)).set k (aG .own (nth c.b k++[a])))]:=by simp[aD.enc,n9,I5]
theorem gq{α:Type}{f:α->List C}{xs:List α}{k:Nat}{y:α}{r:List C}(h:xs[k]? = some y):((xs.map f).set k r)[k]? = some r:=by
 rw[O3 (by rw[Z0];exact(C2.1 h).1)]
theorem iK{α β:Type}(f:α->β)(xs:List α)(y:α):(xs++[y]).map f=xs.map f++[f y]:=by simp
def GR(c:aD)(k a:Int):List C:=aD.enc .own ((cput c k a).getD c)++[B (cput c k a).isSome]
theorem Ky(c:aD)(k a:Int):gV (GR c k a):=bf (aD.enc_fr _) ⟨trivial,trivial⟩
theorem y3(c:aD)(k:Nat)(a:Int)(h:bp c=true)(B:k<=3):ar Tryz.prog 583 false [.val (some 1) (aD.enc .V c),.val none [I (k:Nat)],.val none [I a]] (.tup [some 1,none]) (GR c k a):=by
 obtain⟨D,q⟩:=eS h;have r:aD.sml c:=⟨ω,λl u=>by have:=q l u;show l.length<=1048576;omega⟩
 have n:=xm c k r;rw[h,O0 ω]at n;have t:=iS c r;have d:=Kl h k a;have o:=mS (n9 c k a) d;have w:=iS (n9 c k a) d;have b:=tR (c:=c) (k:=k) ω;have y:=q _ (am (xs:=c.b) (i:=k) ω);have j:=aD.enc_fz (n9 c k a);rw[KU]at j;have g:=Ky c k a;unfold GR at g |-;cases e:bp (n9 c k a)<;>rw[e]at o
 ·have p:cput c k a=none:=by unfold cput;rw[C8 λx=>by have:=x.2.2.2;rw[R2,e]at this;cases this]
  rw[p]at g |-;refine fO 35 [(4,267,[16,17,18,19,20,21,22,23,24,25,27,0,1,2,3,4,5,6,7,8,9,10,1000,1001,1002,11,12])] Tryz.func583 rfl ?_ (.inr g)
  repeat'(first|refine gO ?_|(conv=>whnf);first|with_reducible refine CD (aa b) ?_|refine CB ?_|refine CD (gq b) ?_|refine CJ rfl (gq b) rfl ?_|refine C7 (n) ?_|refine C7 (t) ?_|refine Lq.one rfl rfl (aa b) rfl (C1 rfl) rfl rfl ?_|refine CJ rfl (aa b) rfl ?_|refine CP rfl rfl (gq b) rfl (C1 rfl) (show [C.s dI.own ((c.b.map (aG .own)).set k (aG .own (nth c.b k++[a])))]=_ from by simp only[List.set_cons_zero,List.set_set,R2];rfl) ?_|refine Ap.sm (aT λ_=>rfl) rfl (by simp;omega) (by decide) (iK _ _ _) ?_|refine CH (o) ⟨⟨rfl,j⟩,trivial⟩ ?_)
  rfl
 have p:cput c k a=some (n9 c k a):=by unfold cput;rw[C9 ⟨h,ω,ω,by rw[R2];exact e⟩,R2]
 rw[p]at g |-;refine fO 35 [(4,267,[16,17,18,19,20,21,22,23,24,25,27,0,1,2,3,4,5,6,7,8,9,10,1000,1001,1002,11,12])] Tryz.func583 rfl ?_ (.inr g)
 repeat'(first|refine gO ?_|(conv=>whnf);first|with_reducible refine CD (aa b) ?_|refine CB ?_|refine CD (gq b) ?_|refine CJ rfl (gq b) rfl ?_|refine C7 (n) ?_|refine C7 (t) ?_|refine Lq.one rfl rfl (aa b) rfl (C1 rfl) rfl rfl ?_|refine CJ rfl (aa b) rfl ?_|refine CP rfl rfl (gq b) rfl (C1 rfl) (show [C.s dI.own ((c.b.map (aG .own)).set k (aG .own (nth c.b k++[a])))]=_ from by simp only[List.set_cons_zero,List.set_set,R2];rfl) ?_|refine Ap.sm (aT λ_=>rfl) rfl (by simp;omega) (by decide) (iK _ _ _) ?_|refine CH (o) ⟨⟨rfl,j⟩,trivial⟩ ?_|refine CH (w) ⟨⟨rfl,j⟩,trivial⟩ ?_)
 rfl
def bx(x:ab):List C:=[.s .own (x.G.F.W.T.map (aG .own)),.s .own (x.G.F.W.a5.map (rB .own)),.s .own (x.G.F.R.J.map (bi.enc .own)),I x.G.Calls,.s .own (x.G.y.map (rI .own)),.s .own (x.w.map (aA.enc .own)),.s .own (x.K.map (ax.enc .own)),.s .own (x.M.map (a7.enc .own)),.s .own (x.O.map (bz.enc .own)),.s .own (x.S.map (aD.enc .own)),.s .own (x.q.U.map (dm .own)),.s .own (x.q.a0.map (aG .own)),I x.a9.c1,.s .own (x.a9.a6.map (aO.enc .own)),I x.c0,I x.b3,I x.c3,I x.d,B x.u,I x.Z.X.a3,I x.Z.X.a1,.s .V (x.Z.X.T.map (rI .V)),I x.Z.b2,I x.Z.d]
theorem bG(x:ab):ef (bx x)=ab.enc .V x:=by simp[ef,bx,ab.enc,aD.enc_fz,bi.enc_fz,a7.enc_fz,bz.enc_fz,aA.enc_fz,ax.enc_fz,aO.enc_fz,rB,qH,rI,dZ,<-cr,v5]
def xu(x:cM):List C:=[I x.X.a3,I x.X.a1,.s .V (x.X.T.map (rI .V)),I x.b2,I x.d]
theorem Pu.two{g a:List C}{off i k j h l c:Nat}{cs:List C}{K:List C->Prop}{o d:dI}{rows rows2:List (List C)}{r f:List C}(h1:g[off]? = some (.s o rows))(u:o.mine=true)(n:rows[i]? = some r)(w:r.length=k)(p:r[j]? = some (.s d rows2))(y:d.mine=true)(q:rows2[h]? = some f)(A:f.length=l)(E:c+cs.length<=l)(B:a=g.set off (.s o (rows.set i (r.set j (.s d (rows2.set h (splice f c cs)))))))(D:K a):Pu g off [(i,k,j),(h,l,c)] cs K:=by
 have t:o≠.V:=λe=>by subst e;cases u
 have b:d≠.V:=λe=>by subst e;cases y
 refine Pu.mk (r:=f) (j:=c) (by simp[cb,h1,n,w,p,q,A]) (by simp[ki,h1,n,t,p,q,b]) ω (by rw[B];simp[fR,h1,n,p,q]) D
theorem DW(x:List ax):fz (.s .own (x.map (ax.enc .own)))=.s .V (x.map (ax.enc .V)):=(List.cons.inj (wS x)).1
theorem zB(x:List a7):fz (.s .own (x.map (a7.enc .own)))=.s .V (x.map (a7.enc .V)):=(List.cons.inj (Em x)).1
theorem B7(x:List bz):fz (.s .own (x.map (bz.enc .own)))=.s .V (x.map (bz.enc .V)):=(List.cons.inj (J8 x)).1
theorem Ap.dele{α:Type}{e:α->List C}{xs:List α}{i sz by_:Nat}{K:List (List C)->Prop}(a:∀y,(e y).length=sz)(b:∀y,aW (e y)=true)(h:xs.length<=1048576)(c:by_<=1000)(d:K ((Ab.dele xs i).map e)):Ap true ((xs.take i).map e) ((xs.drop (i+1)).map e) sz by_ K:=by
 have f:(xs.take i).length+(xs.drop (i+1)).length<=2097152:=by rw[R1,C3];omega
 refine CT (aT a) (aT a) (λ_ r g=>by obtain⟨y,-,rfl⟩:=t4.1 g;exact b y) (by rw[Z0,Z0];omega) (by rw[Z0,Z0];exact R4 (Nat.mul_le_mul f c) (by decide)) ?_ d;unfold Ab.dele;rw[t5]
theorem HD(h:ab)(p:Int)(a:aI.sml h.G.F.R):ar Tryz.prog 488 false [.ptr (ab.enc .V h),.val none [I p]] .one [I (ac h.G.F.R p).e]:=by
 refine fO 13 [] Tryz.func488 rfl ?_
 repeat'(first|refine gO ?_|(conv=>whnf);first|refine CB ?_|refine C7 (dl h.G.F.R p a) ?_)
 rfl
def P3(h:ab):List C:=(bx h).drop 5
theorem Q4(h:ab)(k:ah):bx {h with G:=k} = ah.enc .own k++P3 h:=rfl
theorem BG(h:ab):P3 h=[.s .own (h.w.map (aA.enc .own)),.s .own (h.K.map (ax.enc .own)),.s .own (h.M.map (a7.enc .own)),.s .own (h.O.map (bz.enc .own)),.s .own (h.S.map (aD.enc .own)),.s .own (h.q.U.map (dm .own)),.s .own (h.q.a0.map (aG .own)),I h.a9.c1,.s .own (h.a9.a6.map (aO.enc .own)),I h.c0,I h.b3,I h.c3,I h.d,B h.u,I h.Z.X.a3,I h.Z.X.a1,.s .V (h.Z.X.T.map (rI .V)),I h.Z.b2,I h.Z.d]:=rfl
theorem HE(h:ab)(f:Int)(a:aI.sml h.G.F.R)(b:0<=f/\f<h.G.F.W.T.length/\f<h.G.F.W.a5.length) :
  aS Tryz.prog 489 false [.ptr (bx h),.val none [I f]] [.ptr (bx {h with G:=gP h.G f}),.val none [I f]] (.tup []) []:=by
 have c:=ao (xs:=h.G.F.W.T) (i:=f.toNat) ω;have d:=ao (xs:=h.G.F.W.a5) (i:=f.toNat) ω;rw[Q4 h (gP h.G f)];by_cases e:(pagesOn h.G.F.R f).length=0
 ·rw[yV e,BG]
  refine fM 30 [] [(2,8,[21,22,23,24,25,26,27,28])] [(0,0),(0,0)] Tryz.func489 rfl (λu q=>?_) (.inr trivial)
  repeat'(first|refine gA ?_|(conv=>whnf);first|with_reducible (first|refine CN b.1 (aa d) ?_|refine CN b.1 (aa c) ?_)|refine CB ?_|refine CH (gB h.G.F.R f a) ⟨⟨rfl,CZ h.G.F.R⟩,⟨rfl,rfl⟩,trivial⟩ ?_|refine CP rfl rfl (aa c) rfl (C1 rfl) rfl ?_|refine CP rfl rfl (aa d) rfl (C1 rfl) rfl ?_|refine Mk.mk 16 rfl rfl (by decide) (by decide) rfl ?_)
  refine CG rfl rfl ?_;exact wB
 rw[BZ e];show aS _ _ _ [.ptr (bx h),_] [.ptr (bx h),_] _ _;refine fM 30 [] [(2,8,[21,22,23,24,25,26,27,28])] [(0,0),(0,0)] Tryz.func489 rfl (λu q=>?_) (.inr trivial)
 repeat'(first|refine gA ?_|(conv=>whnf);first|refine CB ?_|refine CH (gB h.G.F.R f a) ⟨⟨rfl,CZ h.G.F.R⟩,⟨rfl,rfl⟩,trivial⟩ ?_)
 refine CG rfl rfl ?_;exact wB
theorem ni(h:ab)(p:Int)(b:a8 h.G=true) :
  aS Tryz.prog 388 false [.ptr (bx h),.val none [I p]] [.ptr (bx {h with G:=dR h.G p}),.val none [I p]] .one [B (decide ((ac h.G.F.R p).e≠0))]:=by
 have k:=bP b;have c:=HD h p k.1.2;by_cases a:(ac h.G.F.R p).e=0
 ·rw[show dR h.G p=h.G by unfold dR;rw[C9 a]]
  refine fM 32 [(489,[2,0])] [] [(0,0),(0,0)] Tryz.func388 rfl (λu q=>?_)
  repeat'(first|refine gA ?_|(conv=>whnf);first|refine CB ?_|refine CH (c) ⟨bG h,⟨rfl,rfl⟩,trivial⟩ ?_)
  refine CG rfl ?_ ?_
  ·exact W0 (λz=>[B z]) ((by simp[a]))
  exact wB
 obtain⟨l,r,n,d,o⟩:=ce b a;have j:=(aX.1 (aE.1 b).2.1).2.2.1;rw[show dR h.G p=gP (pT h.G p) (ac h.G.F.R p).j by unfold dR;rw[C8 a]];have e:=HE {h with G:=pT h.G p} (ac h.G.F.R p).j (Ma b) ⟨d,by simp only[pT];omega,by simp only[pT];omega⟩;rw[Q4 h (pT h.G p),Mi,BG]at e;have g:=ao (xs:=h.G.F.R.J) (i:=p.toNat) ω;rw[n]at c e a |-;refine fM 32 [(489,[2,0])] [] [(0,0),(0,0)] Tryz.func388 rfl (λu q=>?_)
 repeat'(first|refine gA ?_|(conv=>whnf);first|with_reducible refine CN l (aa g) ?_|refine CB ?_|refine CH (c) ⟨bG h,⟨rfl,rfl⟩,trivial⟩ ?_|refine CP rfl rfl (aa g) rfl (C1 rfl) rfl ?_|refine CJ rfl (aa g) rfl ?_|refine CK (e) (.inl rfl) ?_)
 refine CG rfl ?_ ?_
 ·exact W0 (λz=>[B z]) ((by simp[a]))
 exact wB
theorem uq(h:ab)(p:Int):ar Tryz.prog 381 false [.ptr (ab.enc .V h),.val none [I p]] .one [B (fT h p)]:=by
 cases e:h.u
 all_goals
  have b:ab.enc .V h=(ab.enc .V h).set 18 (B h.u):=rfl;rw[e]at b;rw[b];refine fO 29 [] Tryz.func381 rfl ?_
  repeat'(first|refine gO ?_|(conv=>whnf);first|with_reducible (first|refine Bf.D (λa=>?_) (λa=>?_)|refine Bf.E (λa=>?_) (λa=>?_)|refine Bf.N (λa=>?_) (λa=>?_))|refine CB ?_)
  all_goals exact W0 (λz=>[B z]) ((by unfold fT;rw[e];first|(simp[*];done)|(simp[*];rw[O4];simp)))
theorem gX(h:ab):ar Tryz.prog 386 false [.ptr (ab.enc .V h)] .one [I (dC h:Nat)]:=by
 refine fO 11 [] Tryz.func386 rfl ?_
 repeat'(first|refine gO ?_|(conv=>whnf);first|refine CB ?_)
 rfl
theorem qA(h:ab)(a:Int)(k:h.O.length<=1048576):ar Tryz.prog 558 false [.val (some 24) (ab.enc .V h),.val none [I a]] .one [I (dJ (ma a) h.O)]:=by
 refine fO 22 [] Tryz.func558 rfl ?_
 repeat'(first|refine gO ?_|(conv=>whnf);first|refine CB ?_)
 (conv=>whnf)
 refine CF (ι:=Nat) (λi=>[(1,.H .one [I (a)]),(2,.H .box (ab.enc .V h)),(5,.H .one [I ((i:Nat):Int)])]) (λi=>i<=h.O.length/\∀(j:Nat)(z:bz),j<i->h.O[j]? = some z->ma a z=false) (λi=>h.O.length - i) (0) ?_ (⟨U0 _,λj z l=>ω⟩) λi d=>?_
 ·exact wB
 obtain⟨d,c⟩:=d;by_cases g:i<h.O.length
 ·have b:=ao g
  by_cases e:(nth h.O i).Addr=a
  ·repeat'(first|refine gA ?_|(conv=>whnf);first|with_reducible refine CD (aa b) ?_|refine CB ?_)
   exact W0 (λz=>[I z]) (dX b (by unfold ma;simp[e]) c).symm
  repeat'(first|refine gA ?_|(conv=>whnf);first|with_reducible refine CD (aa b) ?_|refine CB ?_)
  ((conv=>whnf);refine CE (i+1) ⟨ω,d8 b (by unfold ma;simp[e]) c⟩ ω ?_;(exact wB))
 repeat'(first|refine gD ?_|(conv=>whnf);first|refine CB ?_)
 exact W0 (λz=>[I z]) (gv ω c).symm
theorem mN(h:ab)(i:Nat)(b:i<h.O.length)(a:h.O.length<=1048576):aS Tryz.prog 562 false [.ptr (bx h),.val none [I (i:Nat)]] [.ptr (bx {h with O:=dele h.O i}),.val none [I (i:Nat)]] (.tup []) []:=by
 refine fM 23 [] [(0,273,[4,5,6,7,8,9,10,11,13,14,15,16,17,18,19,21,22,0,1,2,3,4,5,6,7,9,10,11,12,13,14,15,8,1000,1009,1010,1011,1012,1013,1014,1015,16,1000,17,18,19]),(1048576,0,[8])] [(0,0),(0,0)] Tryz.func562 rfl (λu q=>?_) (.inr trivial)
 repeat'(first|refine gO ?_|(conv=>whnf);first|refine CB ?_|refine FH.mk rfl (B7 h.O) rfl ?_|refine CX i rfl (by rw[Z0];omega) (aT λ_=>rfl) Y3 ?_|refine Sl.suf (i+1) rfl (by rw[Z0];omega) (aT λ_=>rfl) Z3 ?_|refine CV (λ_=>rfl) (λ_=>rfl) (by rw[R1];omega) (by decide) ?_|refine Ap.dele (λ_=>rfl) (λ_=>rfl) a (by decide) ?_|refine CS (λ_=>rfl) (λ_=>rfl) (by rw[R1];omega) (by decide) ?_|refine CB ?_)
 refine CG rfl rfl ?_;exact wB
theorem Ar(h:ab)(E:List Int)(i:Nat)(b:aZ h E)(e:i<h.K.length):aS Tryz.prog 554 false [.ptr (bx h),.val none [I (i:Nat)]] [.ptr (bx (giveP h i)),.val none [I (i:Nat)]] (.tup []) []:=by
 have a:=b.lens;have g:=a.spans;have c:=ao e;have j:=ni {h with K:=dele h.K i} (nth h.K i).Q b.ker;have d:=gX {h with G:=dR h.G (nth h.K i).Q,K:=dele h.K i};rw[show dC {h with G:=dR h.G (nth h.K i).Q,K:=dele h.K i} = dC h from(lz _ _).1]at d;have k:dC h<=32:=a.ents;have l:=lW (dC h:Nat) h.w ⟨(nth h.K i).Q,1⟩ ⟨ω,ω⟩ ⟨by have:=a.free;omega,λ_ _=>trivial⟩;refine fM 52 [(388,[2,0])] [(1,273,[13,14,15,16,17,18,19,20,22,23,24,25,26,27,28,30,31,0,1,2,3,4,5,6,7,9,10,11,12,13,14,15,8,1000,1009,1010,1011,1012,1013,1014,1015,16,1000,17,18,19]),(1048577,0,[6]),(3,270,[38,39,40,41,42,43,44,45,47,37,48,49,50,51,0,1,2,3,4,5,6,7,8,1000,1001,1002,1003,1004,1005,1006,9,10,11,12,13,14,15,1012])] [(0,0),(0,0)] Tryz.func554 rfl (λu q=>?_) (.inr trivial)
 repeat'(first|refine gO ?_|(conv=>whnf);first|with_reducible refine CD (aa c) ?_|refine CB ?_|refine FH.mk rfl (DW h.K) rfl ?_|refine CX i rfl (by rw[Z0];omega) (aT λ_=>rfl) Y3 ?_|refine Sl.suf (i+1) rfl (by rw[Z0];omega) (aT λ_=>rfl) Z3 ?_|refine CV (λ_=>rfl) (λ_=>rfl) (by rw[R1];omega) (by decide) ?_|refine Ap.dele (λ_=>rfl) (λ_=>rfl) ω (by decide) ?_|refine CS (λ_=>rfl) (λ_=>rfl) (by rw[R1];omega) (by decide) ?_|refine CJ rfl (aa c) rfl ?_|refine CB ?_|refine CK (j) (.inl rfl) ?_|refine CH (d) ⟨bG _,trivial⟩ ?_|refine CH (l) ⟨⟨rfl,rfl⟩,⟨rfl,eA h.w⟩,⟨rfl,rfl⟩,trivial⟩ ?_)
 refine CG rfl rfl ?_;exact wB
theorem xf(h:ab)(i:Nat)(a:Int):bx (clrS h i a)=(bx h).set 6 (.s .own ((h.K.map (ax.enc .own)).set i (ax.enc .own (mE (nth h.K i) (d3 (nth h.K i) a))))):=by
 simp[bx,clrS,I5]
theorem rh{α β:Type}{f:α->β}{xs:List α}{i:Nat}{y:β}(a:i<xs.length):((xs.map f).set i y)[i]? = some y:=by
 rw[O3 (by rw[Z0];exact a)]
theorem Jr{s:ax}(c:bg s=true){a:Int}(b:ew s a):iO s a=(d3 s a,0):=by
 unfold iO;rw[C9 ((fK c).2 ⟨b.1,b.2.1⟩),b.2.2.1];rfl
theorem mX(h:ab)(E:List Int)(a:Int)(c:aZ h (a::E)):aS Tryz.prog 511 false [.ptr (bx h),.val none [I a]] [.ptr (bx (freeA h a)),.val none [I a]] (.tup []) []:=by
 obtain⟨g,n,t⟩:=c.at (c.hin a (U1 ..));have d:=(c.hin a (U1 ..)).bd c;have B:=c.lens;have C:=B.spans;have e:=c.L.sok _ (am g);have k:=jG h (a / 16) ω;rw[t]at k;unfold freeA;generalize tO h a=i at g n k e;have b:=ao g;have o:=uw (nth h.K i) a ⟨ω,ω⟩;rw[Jr e n]at o;have w:=yG (nth h.K i) (d3 (nth h.K i) a) e n.2.2.2;have D:=c.give g n;have l:=uq (clrS h i a) (nth h.K i).Q;rw[show fT (clrS h i a) (nth h.K i).Q=fT h (nth h.K i).Q from rfl]at l;have p:=Ar (clrS h i a) E i D (by unfold clrS;simp only[O1];exact g);have r:=bG (clrS h i a);rw[xf]at p r;have j:((h.K.map (ax.enc .own)).set i (ax.enc .own (mE (nth h.K i) (d3 (nth h.K i) a))))[i]? = some (ax.enc .own (mE (nth h.K i) (d3 (nth h.K i) a))):=rh g;unfold freeS;by_cases y:(mE (nth h.K i) (d3 (nth h.K i) a)).b1=0
 ·cases F:fT h (nth h.K i).Q<;>rw[F]at l
  ·rw[C9 ⟨y,rfl⟩]
   refine fM 68 [(554,[2,0])] [(2,274,[26,27,28,29,30,31,32,33,34,35,36,37,38,39,25,40,41,42,0,1,2,3,4,5,6,7,8,9,10,11,12,13,14,15,16,17,18,1016])] [(0,0),(0,0)] Tryz.func511 rfl (λu q=>?_) (.inr trivial)
   repeat'(first|refine gA ?_|(conv=>whnf);first|with_reducible refine CM ((W0 _ (tdiv16 d.1)).trans (eQ ω ω)) ?_|refine CB ?_|refine CO (by decide) ?_|refine CH (k) ⟨⟨rfl,bG h⟩,⟨rfl,rfl⟩,trivial⟩ ?_|refine CD (aa b) ?_|refine CD j ?_|refine CJ rfl (aa b) rfl ?_|refine CJ rfl j rfl ?_|refine C7 (o) ?_|refine C7 (w) ?_|refine CB ?_|refine CP rfl rfl (aa b) rfl (C1 rfl) rfl ?_|refine CH (l) ⟨r,⟨rfl,rfl⟩,trivial⟩ ?_|refine CK (p) (.inl rfl) ?_)
   refine CG rfl rfl ?_;exact wB
  rw[C8 λx=>by cases x.2];rw[xf];refine fM 68 [(554,[2,0])] [(2,274,[26,27,28,29,30,31,32,33,34,35,36,37,38,39,25,40,41,42,0,1,2,3,4,5,6,7,8,9,10,11,12,13,14,15,16,17,18,1016])] [(0,0),(0,0)] Tryz.func511 rfl (λu q=>?_) (.inr trivial)
  repeat'(first|refine gA ?_|(conv=>whnf);first|with_reducible refine CM ((W0 _ (tdiv16 d.1)).trans (eQ ω ω)) ?_|refine CB ?_|refine CO (by decide) ?_|refine CH (k) ⟨⟨rfl,bG h⟩,⟨rfl,rfl⟩,trivial⟩ ?_|refine CD (aa b) ?_|refine CD j ?_|refine CJ rfl (aa b) rfl ?_|refine CJ rfl j rfl ?_|refine C7 (o) ?_|refine C7 (w) ?_|refine CB ?_|refine CP rfl rfl (aa b) rfl (C1 rfl) rfl ?_|refine CH (l) ⟨r,⟨rfl,rfl⟩,trivial⟩ ?_|refine CK (p) (.inl rfl) ?_)
  refine CG rfl rfl ?_;exact wB
 rw[C8 λx=>y x.1];rw[xf];refine fM 68 [(554,[2,0])] [(2,274,[26,27,28,29,30,31,32,33,34,35,36,37,38,39,25,40,41,42,0,1,2,3,4,5,6,7,8,9,10,11,12,13,14,15,16,17,18,1016])] [(0,0),(0,0)] Tryz.func511 rfl (λu q=>?_) (.inr trivial)
 repeat'(first|refine gA ?_|(conv=>whnf);first|with_reducible refine CM ((W0 _ (tdiv16 d.1)).trans (eQ ω ω)) ?_|refine CB ?_|refine CO (by decide) ?_|refine CH (k) ⟨⟨rfl,bG h⟩,⟨rfl,rfl⟩,trivial⟩ ?_|refine CD (aa b) ?_|refine CD j ?_|refine CJ rfl (aa b) rfl ?_|refine CJ rfl j rfl ?_|refine C7 (o) ?_|refine C7 (w) ?_|refine CB ?_|refine CP rfl rfl (aa b) rfl (C1 rfl) rfl ?_|refine CH (l) ⟨r,⟨rfl,rfl⟩,trivial⟩ ?_|refine CK (p) (.inl rfl) ?_)
 refine CG rfl rfl ?_;exact wB
theorem LX(h:ab)(t:Nat)(c:aD):bx {h with S:=h.S.set t c} = (bx h).set 9 (.s .own ((h.S.map (aD.enc .own)).set t (aD.enc .own c))):=by
 simp[bx,I5]
theorem nR(h:ab)(E:List Int)(t:Nat)(a:Int)(b:aZ h (a::E))(w:t<h.S.length):aS Tryz.prog 564 false [.ptr (bx h),.val none [I (t:Nat)],.val none [I a]] [.ptr (bx (recyc t h a)),.val none [I (t:Nat)],.val none [I a]] (.tup []) []:=by
 obtain⟨o,y,p⟩:=b.at (b.hin a (U1 ..));have g:=(b.hin a (U1 ..)).bd b;have B:=b.lens;have C:=B.spans;have j:=aB (b.L.sok _ (am o));have r:=b.cach _ (am w);have l:=jG h (a / 16) ω;rw[p]at l;have D:=mX h E a b;unfold recyc;generalize tO h a=i at o y l j;have n:=ao o;have k:=ao w;have d:=y3 (nth h.S t) (nth h.K i).a.toNat a r ω;rw[Int.toNat_of_nonneg j.2.2.1]at d;unfold GR at d;cases e:cput (nth h.S t) (nth h.K i).a a with
 | none=>
  rw[e]at d;refine fM 46 [(511,[2,0])] [(1,277,[16,17,18,19,20,21,22,23,24,25,26,27,28,29,30,31,32,15,33,34,7,0,1,2,3,4,5,6,7,8,9,10,11,12,13,14,15,16,17,18,19,20,21,1019,22]),(3,6,[36,37,38,39,40,41])] [(0,0),(0,0),(0,0)] Tryz.func564 rfl (λu q=>?_) (.inr trivial)
  repeat'(first|refine gO ?_|(conv=>whnf);first|with_reducible refine CM ((W0 _ (tdiv16 g.1)).trans (eQ ω ω)) ?_|refine CB ?_|refine CO (by decide) ?_|refine CH (l) ⟨⟨rfl,bG h⟩,⟨rfl,rfl⟩,trivial⟩ ?_|refine CD (aa n) ?_|refine CD (aa k) ?_|refine CJ rfl (aa n) rfl ?_|refine CJ rfl (aa k) rfl ?_|refine CH (d) ⟨⟨rfl,aD.enc_fz _⟩,⟨rfl,rfl⟩,⟨rfl,rfl⟩,trivial⟩ ?_|refine CB ?_|refine CK (D) (.inl rfl) ?_)
  refine CG rfl rfl ?_;exact wB
 | some c=>
  rw[e]at d;simp only;rw[LX];refine fM 46 [(511,[2,0])] [(1,277,[16,17,18,19,20,21,22,23,24,25,26,27,28,29,30,31,32,15,33,34,7,0,1,2,3,4,5,6,7,8,9,10,11,12,13,14,15,16,17,18,19,20,21,1019,22]),(3,6,[36,37,38,39,40,41])] [(0,0),(0,0),(0,0)] Tryz.func564 rfl (λu q=>?_) (.inr trivial)
  repeat'(first|refine gO ?_|(conv=>whnf);first|with_reducible refine CM ((W0 _ (tdiv16 g.1)).trans (eQ ω ω)) ?_|refine CB ?_|refine CO (by decide) ?_|refine CH (l) ⟨⟨rfl,bG h⟩,⟨rfl,rfl⟩,trivial⟩ ?_|refine CD (aa n) ?_|refine CD (aa k) ?_|refine CJ rfl (aa n) rfl ?_|refine CJ rfl (aa k) rfl ?_|refine CH (d) ⟨⟨rfl,aD.enc_fz _⟩,⟨rfl,rfl⟩,⟨rfl,rfl⟩,trivial⟩ ?_|refine CB ?_|refine CP rfl rfl (aa k) rfl (C1 rfl) rfl ?_)
  refine CG rfl rfl ?_;exact wB
theorem qg(h:ab)(i:Nat)(d:aZ h [])(o:i<h.O.length)(t:aJ (nth h.O i).o<0):aS Tryz.prog 560 false [.ptr (bx h),.val none [I (i:Nat)]] [.ptr (bx (freeL h i (yz h (nth h.O i).Addr))),.val none [I (i:Nat)]] (.tup []) []:=by
 obtain⟨l,w,y,-⟩:=(dK d (am o)).1 t;obtain⟨p,B,c,-⟩:=v8 w y;generalize yz h (nth h.O i).Addr=g at p B c;have a:=d.lens;have C:=a.larges;have D:=a.objs;have b:=ao o;have N:=aM (d.L.lok _ (am p));have E:dC h<=32:=a.ents;refine fM 89 [(388,[2,0]),(562,[2,0])] [(4,11,[23,24,25,26,27,28,29,30,31,32,33]),(8,7,[41,42,43,44,45,46,47]),(9,273,[50,51,52,53,54,55,56,57,58,59,60,62,49,63,64,65,66,0,1,2,3,4,5,6,7,8,9,10,11,1000,1001,1002,1003,1004,1005,1006,12,13,14,15,16,17,18,1015]),(10,273,[67,68,69,70,71,72,73,74,76,77,78,79,80,81,82,84,85,0,1,2,3,4,5,6,7,9,10,11,12,13,14,15,8,1000,1009,1010,1011,1012,1013,1014,1015,16,1000,17,18,19]),(1048586,0,[7])] [(0,0),(0,0)] Tryz.func560 rfl (λu q=>?_) (.inr trivial)
 repeat'(first|refine gO ?_|(conv=>whnf);first|refine CB ?_)
 (conv=>whnf)
 refine CF (ι:=Nat) (λk=>[(0,.H .box (bx h)),(1,.H .one [I ((i:Nat):Int)]),(4,.H .one [I ((k:Nat):Int)])]) (λk=>k<=g) (λk=>g - k) (0) ?_ (U0 _) λk O=>?_
 ·exact wB
 have j:=ao (xs:=h.M) (i:=k) ω;have F:=aM (d.L.lok _ (am (xs:=h.M) (i:=k) ω));have G:0<=(nth h.O i).Addr/\(nth h.O i).Addr<=512:=ω
 by_cases e:k=g
 ·subst e
  repeat'(first|refine gA ?_|(conv=>whnf);first|with_reducible refine CD (aa j) ?_|refine CB ?_|refine CJ rfl (aa j) rfl ?_|refine CJ rfl (aa b) rfl ?_|refine CD (aa b) ?_)
  (conv=>whnf)
  refine CF (ι:=Nat) (λn=>[(0,.H .box (bx {h with G:=unmN h.G (nth h.M k).Q n})),(1,.H .one [I ((i:Nat):Int)]),(4,.H .one [I ((k:Nat):Int)]),(5,.H .box (a7.enc .own (nth h.M k))),(6,.H .one [I ((n:Nat):Int)])]) (λn=>n<=(nth h.M k).a2.toNat) (λn=>(nth h.M k).a2.toNat - n) (0) ?_ (U0 _) λn P=>?_
  ·exact wB
  by_cases Q:n<(nth h.M k).a2.toNat
  ·have H:=ni {h with G:=unmN h.G (nth h.M k).Q n} ((nth h.M k).Q+n) (iB d.ker _ _)
   repeat'(first|refine gD ?_|(conv=>whnf);first|refine CB ?_|refine CK (H) (.inl rfl) ?_|refine CB ?_)
   ((conv=>whnf);refine CE (n+1) ω ω ?_;(exact wB))
  obtain rfl:n=(nth h.M k).a2.toNat:=ω
  have r:=gX {h with G:=unmN h.G (nth h.M k).Q (nth h.M k).a2.toNat};rw[show dC {h with G:=unmN h.G (nth h.M k).Q (nth h.M k).a2.toNat} = dC h from(fx _ _ _).1]at r;have J:=lW (dC h:Nat) h.w ⟨(nth h.M k).Q,(nth h.M k).a2⟩ ⟨ω,ω⟩ ⟨by have:=a.free;omega,λ_ _=>trivial⟩;have K:=mN {h with G:=unmN h.G (nth h.M k).Q (nth h.M k).a2.toNat,M:=dele h.M k,w:=(dE (dC h) h.w ⟨(nth h.M k).Q,(nth h.M k).a2⟩).getD h.w} i o (by show h.O.length<=_;omega)
  repeat'(first|refine gD ?_|(conv=>whnf);first|refine CB ?_|refine FH.mk rfl (zB h.M) rfl ?_|refine CX k rfl (by rw[Z0];omega) (aT λ_=>rfl) Y3 ?_|refine Sl.suf (k+1) rfl (by rw[Z0];omega) (aT λ_=>rfl) Z3 ?_|refine CV (λ_=>rfl) (λ_=>rfl) (by rw[R1];omega) (by decide) ?_|refine Ap.dele (λ_=>rfl) (λ_=>rfl) ω (by decide) ?_|refine CS (λ_=>rfl) (λ_=>rfl) (by rw[R1];omega) (by decide) ?_|refine CB ?_|refine CH (r) ⟨bG _,trivial⟩ ?_|refine CH (J) ⟨⟨rfl,rfl⟩,⟨rfl,eA h.w⟩,⟨rfl,rfl⟩,trivial⟩ ?_|refine CK (K) (.inl rfl) ?_)
  refine CG rfl rfl ?_;exact wB
 have M:=c k ω
 repeat'(first|refine gA ?_|(conv=>whnf);first|with_reducible refine CD (aa j) ?_|refine CB ?_|refine CJ rfl (aa j) rfl ?_|refine CJ rfl (aa b) rfl ?_|refine CD (aa b) ?_)
 ((conv=>whnf);refine CE (k+1) ω ω ?_;(exact wB))
def Qb(q:bR)(x:aO):List C:=bR.enc .own (HK q x)++cS .own (yb q x)
theorem NA(q:bR)(x:aO):gV (Qb q x):=bf (bR.enc_fr _) (ux _)
theorem AC(q:bR)(a:aO)(K:q.a6.length<=4096)(e:fE q=true)(r:0<=a.a/\a.a<=3/\0<=a.Addr/\0<=a.b7)(t:∀y∈q.a6,y.b7<=a.b7)(u:∀y∈q.a6,y.Addr≠a.Addr) :
  ar Tryz.prog 563 false [.val (some 2) (bR.enc .V q),.val (some 3) (aO.enc .V a)] (.tup [some 2,none]) (Qb q a):=by
 have b:bR.sml q:=⟨ω,λ_ _=>trivial⟩
 have w:=sg q b;have l:=oN q b;rw[e]at l;have n:=yZ a;rw[O0 r]at n;have o:=rn q a.Addr b;rw[show q.a6.any (eD a.Addr)=false by rw[List.any_eq_false];intro y B;unfold eD;simpa using u y B]at o;have C:=(jM.1 e).2.2.2;have g:=NA q a;have L:(aO.mk a.Addr a.a a.b7)=a:=rfl;have c:=BV q.c1 (q.a6++[a]);simp only[z3,List.length_singleton]at c;by_cases E:q.a6.length=0
 all_goals
  try have h:(nth q.a6 (q.a6.length - 1)).b7<=a.b7:=t _ (am ω)
  try have j:=ao (xs:=q.a6) (i:=q.a6.length - 1) ω
  try have d:q.a6[((q.a6.length:Int) - 1).toNat]? = some (nth q.a6 (q.a6.length - 1)):=by rw[show((q.a6.length:Int) - 1).toNat=q.a6.length - 1 by omega];exact j
  refine fO 74 [(3,27,[15,16,17,18,19,20,21,22,23,24,25,26,27,28,29,30,31,32,33,34,35,36,37,38,39,40,41]),(7,6,[52,53,54,55,56,57]),(9,268,[61,62,63,64,65,66,67,69,70,71,72,73,0,1,2,3,4,5,6,8,9,10,11,12,7,1008,1009,1010,1011,1012,13,14])] Tryz.func563 rfl ?_ (.inr g)
  repeat'(first|refine gD ?_|(conv=>whnf);first|with_reducible refine Bf.D (λe=>?_) (λe=>?_)|refine CB ?_|refine C7 (w) ?_|refine C7 (l) ?_|refine C7 (n) ?_|refine C7 (o) ?_|refine CN ω (aa d) ?_|refine Ap.sm (aT λ_=>rfl) rfl (by simp;omega) (by decide) (iK (aO.enc .own) q.a6 a) ?_)
  (conv=>whnf)
  refine Lp.fz 8 (ι:=Nat) (λk=>[(2,.H .box (bR.enc .V q)),(4,.H .box [I 0,.z]),(8,.H .one (cS .V (q.a6++[a]))),(9,.H .one [I (k:Nat)])]) (λk=>k<=oe q.c1 (q.a6++[a])) (λk=>oe q.c1 (q.a6++[a]) - k) 0 ?_ (U0 _) λk M=>?_
  ·(repeat'(first|exact trivial|rfl|exact CL rfl (show LF (ef (cS .own (q.a6++[a]))) (cS .V (q.a6++[a])) by rw[Dg];exact mH _)|refine CL ?_ ?_))
  have N:(q.a6++[a]).length=q.a6.length+1:=by simp
  have F:((q.a6++[a]).drop k).length<=5000:=by rw[C3];omega
  have G:((q.a6++[a]).take k).length<=5000:=by rw[R1];omega
  have p:=uR ((q.a6++[a]).drop k) ⟨ω,λ_ _=>trivial⟩;by_cases H:k<oe q.c1 (q.a6++[a])
  ·have J:q.c1<quarCells ((q.a6++[a]).drop k) ((q.a6++[a]).drop k).length:=zf H
   repeat'(first|refine gD ?_|(conv=>whnf);first|refine CB ?_|refine Sl.suf k rfl (by rw[Z0];omega) (aT λ_=>rfl) Z3 ?_|refine C7 (p) ?_|refine CB ?_)
   ((conv=>whnf);refine CE (k+1) ω ω ?_;(exact wB))
  obtain rfl:k=oe q.c1 (q.a6++[a]):=ω
  have J:quarCells ((q.a6++[a]).drop (oe q.c1 (q.a6++[a]))) ((q.a6++[a]).drop (oe q.c1 (q.a6++[a]))).length<=q.c1:=B5 C.1 _
  repeat'(first|refine gD ?_|(conv=>whnf);first|refine CB ?_|refine Sl.suf (oe q.c1 (q.a6++[a])) rfl (by rw[Z0];omega) (aT λ_=>rfl) Z3 ?_|refine CX (oe q.c1 (q.a6++[a])) rfl (by rw[Z0];omega) (aT λ_=>rfl) Y3 ?_|refine C7 (p) ?_|refine CB ?_|refine CV (λ_=>rfl) (λ_=>rfl) ω (by decide) ?_|refine CS (λ_=>rfl) (λ_=>rfl) ω (by decide) ?_)
  rfl
theorem qp{z:Int}(h:0<=z/\z<512):IntKind.i64.wrap (z.tdiv 16)=z / 16:=(W0 _ (tdiv16 h.1)).trans (eQ ω ω)
theorem tJ{h:ab}{E:List Int}(a:aZ h E){o:bz}(b:o∈h.O):0<=o.Addr/\o.Addr<512:=by
 rcases a.oow o b with⟨s,c,⟨f,g,-⟩,-⟩|⟨l,d,e,-⟩
 ·have:=aB (a.L.sok s c);omega
 have:=aM (a.L.lok l d);omega
theorem KJ{k:Int}(h:0<=k/\k<=3):1<=csz k/\csz k<=8:=by
 rcases bE h with e|e|e|e<;>rw[e]<;>decide
structure QQ(h:ab)(o:bz):Prop where
 cl:0<=aJ o.o/\aJ o.o<=3
 fr:0<=(ac h.G.F.R (o.Addr / 16)).j/\(ac h.G.F.R (o.Addr / 16)).j<h.G.F.W.T.length
 fit:o.Addr % 16+csz (aJ o.o)<=16
 row:(nth h.G.F.W.T (cN h.G o.Addr)).length=16
theorem QQ.of{h:ab}{E:List Int}(b:aZ h E){o:bz}(l:o∈h.O)(q:¬aJ o.o<0):QQ h o:=by
 obtain⟨⟨s,d,f,r⟩,B⟩:=(dK b l).2 q;have t:=aB (b.L.sok s d);have u:=tJ b l;have n:s.Q=o.Addr / 16:=by have C:=f.1;have D:=f.2.1;omega
 have c:(o.Addr / 16).toNat<(tbl h).J.length:=by have:=b.pg.bnd _ (d7 (la:=h.M) d);omega
 have a:(((o.Addr / 16).toNat:Nat):Int)=o.Addr / 16:=ω
 have p:=(b.pg.own _ c).2 (by rw[a,<-n];exact d7 d);have g:(ac h.G.F.R (o.Addr / 16)).e≠0:=by rw[<-a];unfold tbl at p c;rw[eZ c];exact p
 obtain⟨-,-,-,i,w⟩:=ce b.ker g;have y:=(aX.1 (aE.1 b.ker).2.1).2.2.1;have j:cN h.G o.Addr<h.G.F.W.T.length:=by unfold cN;omega
 refine⟨ω,⟨i,ω⟩,?_,b.lens.row _ (am j)⟩;have A:=f.2.2.1;rw[n,<-r]at *;rcases bE (k:=s.a) ⟨ω,ω⟩ with e|e|e|e<;>rw[e]at A |-<;>omega
theorem Hd(h:ab)(a:Int)(b:cN h.G a<h.G.F.W.T.length):({h with G:=eP h.G a 0} : ab)=h:=by
 have e:h.G.F.W.T.set (cN h.G a) (nth h.G.F.W.T (cN h.G a))=h.G.F.W.T:=by
  refine List.ext_getElem? λi=>?_
  rw[U3];split
  ·rename_i e
   subst e;exact(ao b).symm
  rfl
 unfold eP lf;rw[e]
theorem E9(h:ab)(a:Int)(k:Nat)(v:Int)(_:0<=a):bx {h with G:=eP h.G a (k+1)} = (bx {h with G:=eP h.G a k}).set 0 (.s .own (((eP h.G a k).F.W.T.map (aG .own)).set (ac h.G.F.R (a / 16)).j.toNat ((aG .own (lf (nth h.G.F.W.T (cN h.G a)) (a % 16).toNat k)).set 0 (.s .own (((lf (nth h.G.F.W.T (cN h.G a)) (a % 16).toNat k).map (rI .own)).set (a % 16+k).toNat (splice (rI .own v) 0 [I 0])))))):=by
 have e:(a % 16+k).toNat=(a % 16).toNat+k:=ω
 rw[e];simp[bx,eP,I5,lf,aG,splice,cN]
 rfl
theorem BS(t:Nat)(h:ab)(xs:List aO)(k:Nat)(a:k<xs.length):recycs t h ((xs.take (k+1)).map (·.Addr))=recyc t (recycs t h ((xs.take k).map (·.Addr))) (nth xs k).Addr:=by
 unfold recycs;rw[Y4,ao a];simp
theorem FY(h:ab)(o:bz)(t:Nat)(a:aZ h [])(P:o∈h.O)(ht:o.a4=t)(hlc:h.S.length<=4):aS Tryz.prog 527 false [.ptr (bx h),.val none [I (t:Nat)],.val none [I o.Addr]] [.ptr (bx (freeOb h t (oW h o.Addr)).1),.val none [I (t:Nat)],.val none [I o.Addr]] .one [I (freeOb h t (oW h o.Addr)).2]:=by
 obtain⟨l,B,C⟩:=a.objAt P;have b:=tJ a P;have hon:=a.onu o P;have d:=a.lens;have hno:=d.objs;have E:t<h.S.length:=ω
 have M:=aH (t:Nat) 0 (h.S.length - 1:Int);rw[O0 ω]at M;have F:=qA h o.Addr ω;rw[C]at F;generalize oW h o.Addr=i at l B F;subst B;have r:=ao l;have Q:=kG (nth h.O i).o;unfold freeOb;have R:=bP a.ker;have Z:=dl h.G.F.R ((nth h.O i).Addr / 16) R.1.2;by_cases w:aJ (nth h.O i).o<0
 ·rw[C9 w]
  have c3:=qg h i a l w;refine fM 148 [(560,[2,0]),(562,[2,0]),(564,[2,0,0]),(559,[2,0])] [(15,269,[68,69,70,71,72,73,74,75,77,67,78,79,11,0,1,2,3,4,5,6,7,13,8,1000,1001,1002,1003,1004,1013,9,10,11,12,14,1012,15]),(22,15,[92,93,94,95,96,97,98,99,100,101,102,103,104,105,106]),(25,271,[116,117,118,119,120,121,122,123,124,125,127,115,128,129,14,0,1,2,3,4,5,6,7,8,9,15,10,1000,1001,1002,1003,1015,11,12,13,14,16,1014,17])] [(0,0),(0,0),(0,0)] Tryz.func527 rfl (λu q=>?_)
  repeat'(first|refine gD ?_|(conv=>whnf);first|with_reducible refine Bf.D (λn=>?_) (λn=>?_)|refine CB ?_|refine C7 (M) ?_|refine CH (F) ⟨⟨rfl,bG h⟩,⟨rfl,rfl⟩,trivial⟩ ?_|refine CD (aa r) ?_|refine CJ rfl (aa r) rfl ?_|refine C7 (Q) ?_|refine CK (c3) (.inl rfl) ?_)
  refine CG rfl rfl ?_;exact wB
 rw[C8 w];obtain⟨S,s2,s3,s4⟩:=QQ.of a (am l) w;by_cases N:(ac (tbl h) ((nth h.O i).Addr / 16)).e=1
 ·rw[C9 N]
  unfold tbl at N;refine fM 148 [(560,[2,0]),(562,[2,0]),(564,[2,0,0]),(559,[2,0])] [(15,269,[68,69,70,71,72,73,74,75,77,67,78,79,11,0,1,2,3,4,5,6,7,13,8,1000,1001,1002,1003,1004,1013,9,10,11,12,14,1012,15]),(22,15,[92,93,94,95,96,97,98,99,100,101,102,103,104,105,106]),(25,271,[116,117,118,119,120,121,122,123,124,125,127,115,128,129,14,0,1,2,3,4,5,6,7,8,9,15,10,1000,1001,1002,1003,1015,11,12,13,14,16,1014,17])] [(0,0),(0,0),(0,0)] Tryz.func527 rfl (λu q=>?_)
  repeat'(first|refine gA ?_|(conv=>whnf);first|with_reducible refine Bf.D (λn=>?_) (λn=>?_)|refine CB ?_|refine CO (by decide) ?_|refine CM (qp b) ?_|refine C7 (M) ?_|refine CH (F) ⟨⟨rfl,bG h⟩,⟨rfl,rfl⟩,trivial⟩ ?_|refine CD (aa r) ?_|refine CJ rfl (aa r) rfl ?_|refine C7 (Q) ?_|refine CH (Z) ⟨⟨rfl,CZ _⟩,⟨rfl,rfl⟩,trivial⟩ ?_)
  refine CG rfl rfl ?_;exact wB
 rw[C8 N];unfold tbl at N;have G:cN h.G (nth h.O i).Addr<h.G.F.W.T.length:=by unfold cN;omega
 have hcz:=KJ S;have g:=a.inQuar l w;have H:=de (aJ (nth h.O i).o);refine fM 148 [(560,[2,0]),(562,[2,0]),(564,[2,0,0]),(559,[2,0])] [(15,269,[68,69,70,71,72,73,74,75,77,67,78,79,11,0,1,2,3,4,5,6,7,13,8,1000,1001,1002,1003,1004,1013,9,10,11,12,14,1012,15]),(22,15,[92,93,94,95,96,97,98,99,100,101,102,103,104,105,106]),(25,271,[116,117,118,119,120,121,122,123,124,125,127,115,128,129,14,0,1,2,3,4,5,6,7,8,9,15,10,1000,1001,1002,1003,1015,11,12,13,14,16,1014,17])] [(0,0),(0,0),(0,0)] Tryz.func527 rfl (λu q=>?_)
 repeat'(first|refine gA ?_|(conv=>whnf);first|with_reducible refine Bf.D (λn=>?_) (λn=>?_)|refine CB ?_|refine CO (by decide) ?_|refine CM (qp b) ?_|refine C7 (M) ?_|refine CH (F) ⟨⟨rfl,bG h⟩,⟨rfl,rfl⟩,trivial⟩ ?_|refine CD (aa r) ?_|refine CJ rfl (aa r) rfl ?_|refine C7 (Q) ?_|refine CH (Z) ⟨⟨rfl,CZ _⟩,⟨rfl,rfl⟩,trivial⟩ ?_)
 rw[show bx h=bx {h with G:=eP h.G (nth h.O i).Addr 0} by rw[Hd h _ G]]
 (conv=>whnf)
 refine CF (ι:=Nat) (λk=>[(0,.H .box (bx {h with G:=eP h.G (nth h.O i).Addr k})),(1,.H .one [I ((t:Nat):Int)]),(2,.H .one [I ((nth h.O i).Addr)]),(7,.H .one [I ((i:Nat):Int)]),(8,.H .box (bz.enc .own (nth h.O i))),(9,.H .one [I (aJ (nth h.O i).o)]),(10,.H .box (bi.enc .own (ac h.G.F.R ((nth h.O i).Addr / 16)))),(13,.H .one [I ((k:Nat):Int)])]) (λk=>k<=(csz (aJ (nth h.O i).o)).toNat) (λk=>(csz (aJ (nth h.O i).o)).toNat - k) (0) ?_ (U0 _) λk hk=>?_
 ·exact wB
 have hmod:IntKind.i64.wrap 0=0:=rfl;have T:(nth h.O i).Addr.tmod 16=(nth h.O i).Addr % 16:=gw b.1;have p:(eP h.G (nth h.O i).Addr k).F.W.T[(ac h.G.F.R ((nth h.O i).Addr / 16)).j.toNat]? = some (lf (nth h.G.F.W.T (cN h.G (nth h.O i).Addr)) ((nth h.O i).Addr % 16).toNat k):=O3 G;by_cases O:k<(csz (aJ (nth h.O i).o)).toNat
 ·have J:=ao (xs:=lf (nth h.G.F.W.T (cN h.G (nth h.O i).Addr)) ((nth h.O i).Addr % 16).toNat k) (i:=((nth h.O i).Addr % 16+k).toNat) (by rw[mr,s4];omega)
  repeat'(first|refine gD ?_|(conv=>whnf);first|refine CB ?_|refine CO (by decide) ?_|refine CU T ?_|refine C7 (H) ?_|refine CN s2.1 (aa p) ?_|refine CJ rfl (aa p) rfl ?_|refine CN ω (aa J) ?_|refine Pu.two rfl rfl (aa p) rfl rfl rfl (aa J) rfl (X2 _) (E9 h _ k _ b.1) ?_)
  ((conv=>whnf);refine CE (k+1) ω ω ?_;(exact wB))
 obtain rfl:k=(csz (aJ (nth h.O i).o)).toNat:=ω
 have c5:=mN {h with G:=eP h.G (nth h.O i).Addr (csz (aJ (nth h.O i).o)).toNat} i l (by show h.O.length<=_;omega);have j:=a.nums;unfold cn at j;rw[C0]at j;have K:=(a.dropO l (jP.any (c:=aJ (nth h.O i).o) (by obtain⟨⟨s,hs,k1,k2⟩,-⟩:=(dK a (am l)).2 w;exact⟨s,hs,k1,.inr k2⟩))).nd;rw[List.cons_append,List.nil_append]at K;have c6:=AC h.a9 (lh h (nth h.O i)) (by have:=d.quar;omega) a.quar ⟨S.1,S.2,b.1,j.2.2.1⟩ (λy U=>a.snc y U) (λy U e=>(List.nodup_cons.1 K).1 (by rw[show(nth h.O i).Addr=y.Addr from e.symm];unfold holders;simp only[W2];exact .inl (.inr (t4.2 ⟨y,U,rfl⟩))));unfold Qb at c6;have V:(yb h.a9 (lh h (nth h.O i))).length<=513:=by have:=d.quar;unfold yb;rw[R1,z3];simp only[List.length_singleton];omega
 repeat'(first|refine gA ?_|(conv=>whnf);first|with_reducible refine Bf.D (λn=>?_) (λn=>?_)|refine CB ?_|refine C7 (H) ?_|refine CK (c5) (.inl rfl) ?_|refine CH (c6) ⟨⟨rfl,bR.enc_fz h.a9⟩,⟨rfl,rfl⟩,trivial⟩ ?_|refine CB ?_)
 have W:EH h t i=recycs t (inQuar h i) ((yb h.a9 (lh h (nth h.O i))).map (·.Addr)):=rfl;simp only;rw[W];have hqn:(inQuar h i).S.length=h.S.length:=rfl;generalize yb h.a9 (lh h (nth h.O i))=out at g V
 (conv=>whnf)
 refine CF (ι:=Nat) (λk=>[(0,.H .box (bx (recycs t (inQuar h i) ((out.take k).map (·.Addr))))),(1,.H .one [I ((t:Nat):Int)]),(15,.H .one (cS .own out)),(16,.H .one [I ((k:Nat):Int)])]) (λk=>k<=out.length) (λk=>out.length - k) (0) ?_ (U0 _) λk hk=>?_
 ·exact wB
 by_cases O:k<out.length
 ·have L:=ao O
  have X:out.map (·.Addr)=(out.take k).map (·.Addr)++(nth out k).Addr::(out.drop (k+1)).map (·.Addr):=by
   conv=>lhs;rw[<-List.take_append_drop k out,jF O]
   simp
  have Y:aZ (recycs t (inQuar h i) ((out.take k).map (·.Addr))) ((nth out k).Addr::(out.drop (k+1)).map (·.Addr)):=aZ.recycs (by rw[<-X];exact g) E;have c7:=nR _ _ t _ Y (by rw[(gm t _ _).1];exact E)
  repeat'(first|refine gD ?_|(conv=>whnf);first|refine CB ?_|refine CD (aa L) ?_|refine CJ rfl (aa L) rfl ?_|refine CK (c7) (.inl rfl) ?_)
  ((conv=>whnf);refine CE (k+1) ω ω ?_)
  rw[BS t _ out k O];exact wB
 obtain rfl:k=out.length:=ω
 rw[U4]
 repeat'(first|refine gD ?_|(conv=>whnf);first|refine CB ?_)
 refine CG rfl rfl ?_;exact wB
set_option maxRecDepth 100000
theorem eJ(c:C):N0 c c:=(mH [c]).1
theorem o7{c a:C}(h:a=c):N0 c a:=by subst h;exact eJ _
def JC(c:aD)(k:Nat):aD:=⟨c.b.set k []⟩
theorem N4(c:aD)(k:Nat):aD.enc .own (JC c k)=[.s .own ((c.b.map (aG .own)).set k (aG .own []))]:=by simp[aD.enc,JC,I5]
theorem LV(xs:List Int):([]:List Int).map (rI .V)=(xs.map (rI .V)).drop xs.length:=by rw[List.drop_eq_nil_of_le (by rw[Z0];omega)];rfl
theorem Mo(xs:List Int):xs.map (rI .V)=(xs.map (rI .V)).take xs.length:=by rw[Z5 (by rw[Z0];omega)]
def Rc(c:aD)(k:Nat):List C:=aD.enc .own (JC c k)++aG .own (nth c.b k)
theorem Qm(c:aD)(k:Nat):gV (Rc c k):=bf (aD.enc_fr _) (bM _)
theorem vi(c:aD)(k:Nat)(d:bp c=true)(p:k<=3):ar Tryz.prog 510 false [.val (some 1) (aD.enc .V c),.val none [I (k:Nat)],.val none [I 8]] (.tup [some 1,none]) (Rc c k):=by
 obtain⟨q,e⟩:=eS d;have g:aD.sml c:=⟨ω,λl j=>by have:=e l j;show l.length<=1048576;omega⟩
 have h:=xm c k g;rw[d,O0 ω]at h;have n:=iS c g;have a:=tR (c:=c) (k:=k) ω;have o:=e _ (am (xs:=c.b) (i:=k) ω);have b:=Qm c k;unfold Rc at b |-;rw[N4]at b |-;refine fO 52 [(5,268,[29,30,31,32,33,34,35,36,37,38,39,41,0,1,2,3,4,5,6,7,8,9,10,11,1000,1001,1002,12,13]),(6,265,[42,43,44,45,46,47,48,49,50,0,1,2,3,4,5,6,7,8,9,1000,10,11])] Tryz.func510 rfl ?_ (.inr b)
 repeat'(first|refine gO ?_|(conv=>whnf);first|with_reducible refine CD (aa a) ?_|refine CB ?_|refine CJ rfl (aa a) rfl ?_|refine C7 (h) ?_|refine C7 (n) ?_|refine CU (z:=((nth c.b k).length:Int)) (by simp;omega) ?_|refine Sl.suf (nth c.b k).length rfl (by rw[Z0];omega) (aT λ_=>rfl) (LV _) ?_|refine CX (nth c.b k).length rfl (by rw[Z0];omega) (aT λ_=>rfl) (Mo _) ?_|refine CB ?_|refine CV (λ_=>rfl) (λ_=>rfl) (by simp) (by decide) ?_|refine CS (λ_=>rfl) (λ_=>rfl) (by simp) (by decide) ?_|refine CV (λ_=>rfl) (λ_=>rfl) ω (by decide) ?_|refine CS (λ_=>rfl) (λ_=>rfl) ω (by decide) ?_|refine CP rfl rfl (aa a) rfl (C1 rfl) rfl ?_)
 rfl
theorem pb{k:Int} : ∀{l s s2 c:List Int},(∀x∈s2,x∈s)->rg k s l=some c->(∀x∈s,x∈c)/\∃d,rg k s2 l=some d/\∀x∈d,x∈c
 | [],s,s2,c,h,e=>by
  simp only[rg,X0]at e |-;subst e;exact⟨λ_ h=>h,s2,rfl,h⟩
 | a::l,s,s2,c,h,e=>by
  simp only[rg]at e |-;split at e
  ·rename_i g
   rw[C9 (show good k s2 a from⟨g.1,g.2.1,g.2.2.1,λx=>g.2.2.2 (h a x)⟩)];obtain⟨f,i⟩:=pb (l:=l) (s:=s++[a]) (s2:=s2++[a]) (λx b=>by
     rcases W2.1 b with b|b
     · exact W2.2 (.inl (h x b))
     exact W2.2 (.inr b)) e
   exact⟨λx b=>f x (W2.2 (.inl b)),i⟩
  cases e
theorem sO:∀{a:List (List Int)}{k:Nat}{s s2:List Int},(∀x∈s2,x∈s)->(gk k s a).isSome=true->(gk k s2 a).isSome=true
 | [],_,_,_,_,_=>rfl
 | l::a,k,s,s2,h,e=>by
  simp only[gk,eM]at e |-;split at e
  ·rename_i g
   rw[C9 g];cases b:rg k s l with
   | none=>rw[b]at e;cases e
   | some i=>
    rw[b]at e;obtain⟨-,c,d,f⟩:=pb h b;rw[d];exact sO f e
  cases e
theorem EQ:∀{a:List (List Int)}{k:Nat}{s s2:List Int}(i:Nat),(∀x∈s2,x∈s)->(gk k s a).isSome=true->(gk k s2 (a.set i [])).isSome=true
 | [],_,_,_,_,_,_=>rfl
 | l::a,k,s,s2,i,h,e=>by
  simp only[gk,eM]at e;split at e
  ·rename_i g
   cases b:rg k s l with
   | none=>rw[b]at e;cases e
   | some o=>
    rw[b]at e;obtain⟨c,d,f,j⟩:=pb h b;cases i with
    | zero=>
     simp only[List.set_cons_zero,gk,eM];rw[C9 ⟨by simp,g.2⟩];exact sO (λx n=>c x (h x n)) e
    | succ i=>
     simp only[List.set_cons_succ,gk,eM];rw[C9 g,f];exact EQ i j e
  cases e
theorem PB{c:aD}(h:bp c=true)(k:Nat):bp (JC c k)=true:=by
 unfold bp at h |-;simp only[I0,C0]at h |-;exact⟨by simp only[JC,O1];exact h.1,EQ k (λ_ h=>h) h.2⟩
def spilt(h:ab)(t k:Nat):ab:={h with S:=h.S.set t (JC (nth h.S t) k)}
theorem aZ.spilt{h:ab}{E:List Int}{t k:Nat}(f:aZ h E)(i:t<h.S.length)(n:k<(nth h.S t).b.length):aZ (spilt h t k) (nth (nth h.S t).b k++E):=by
 have p:(E++holders h).Perm (nth (nth h.S t).b k++E++holders (Ab.spilt h t k)):=by
  refine List.perm_iff_count.2 λb=>?_
  have r:=iC (λc:aD=>c.b.flatten) b h.S t (JC (nth h.S t) k) i;have q:=iC (λx:List Int=>x) b (nth h.S t).b k [] n;rw[<-kQ,<-kQ]at q;simp only[List.count_nil]at q;simp only[JC]at r;simp only[holders,cy,Ab.spilt,JC,C5];omega
 have g:∀c∈(Ab.spilt h t k).S,c∈h.S\/c=JC (nth h.S t) k:=λc u=>T5 u
 exact {f with
   nc:=by show(h.S.set ..).length=_;rw[O1];exact f.nc
   cach:=λc a=>by
     rcases g c a with a|rfl
     · exact f.cach c a
     exact PB (f.cach _ (am i)) k
   onu:=by show ∀o∈h.O,1<=o.Id/\o.Id<=h.d - 1/\0<=o.a4/\o.a4<=(h.S.set t _).length - 1;rw[O1];exact f.onu
   hca:=λc a j l b d=>by
     rcases g c a with a|rfl
     · exact f.hca c a j l b d
     simp only[JC,O1]at l;simp only[JC,bB]at d;by_cases e:k=j
     · subst e
       rw[C9 ⟨rfl,l⟩]at d;cases d
     rw[C8 λx=>e x.1]at d;exact f.hca _ (am i) _ l b d
   hin:=λb d=>by
     rcases W2.1 d with d|d
     · exact(f.hca _ (am i) k n b d).any
     exact f.hin b d
   nd:=p.nodup_iff.1 f.nd
   mem:=λb=>by rw[<-p.mem_iff];exact f.mem b}
def freeAs(h:ab)(az:List Int):ab:=az.foldl freeA h
theorem iv:∀(az:List Int)(h:ab),(freeAs h az).S=h.S/\(freeAs h az).O=h.O/\(freeAs h az).G.Calls=h.G.Calls/\(freeAs h az).q=h.q/\(freeAs h az).Z=h.Z/\(freeAs h az).b3=h.b3/\(freeAs h az).a9=h.a9/\(freeAs h az).G.y=h.G.y
 | [],h=>⟨rfl,rfl,rfl,rfl,rfl,rfl,rfl,rfl⟩
 | a::az,h=>by
  obtain⟨b,c,d,e,f,g,i,j⟩:=iv az (freeA h a);obtain⟨k,l,n,o,p,q,r,t⟩:=vM h (tO h a) a;exact⟨b.trans k,c.trans l,d.trans n,e.trans o,f.trans p,g.trans q,i.trans r,j.trans t⟩
theorem aZ.freeAs{E:List Int} : ∀{az:List Int}{h:ab},aZ h (az++E)->aZ (freeAs h az) E
 | [],_,b=>b
 | a::az,h,b=>aZ.freeAs (az:=az) (h:=Ab.freeA h a) b.freeA
theorem uK(h:ab)(az:List Int)(k:Nat)(a:k<az.length):freeAs h (az.take (k+1))=freeA (freeAs h (az.take k)) (nth az k):=by
 rw[Y4,ao a];simp[freeAs]
def flushN(t:Nat)(h:ab):Nat->ab × Nat
 | 0=>(h,0)
 | k+1=>(freeAs (spilt (flushN t h k).1 t k) (nth (nth (flushN t h k).1.S t).b k),(flushN t h k).2+(nth (nth (flushN t h k).1.S t).b k).length)
theorem je{t:Nat}{h:ab}(c:aZ h [])(e:t<h.S.length):∀{k:Nat},k<=4->aZ (flushN t h k).1 []/\(flushN t h k).1.S.length=h.S.length/\(flushN t h k).1.G.Calls=h.G.Calls/\(flushN t h k).1.O=h.O/\(flushN t h k).1.q=h.q/\(flushN t h k).1.Z=h.Z/\(flushN t h k).2<=8*k
 | 0,_=>⟨c,rfl,rfl,rfl,rfl,rfl,U0 _⟩
 | k+1,y=>by
  obtain⟨d,f,g,i,j,l,A⟩:=je c e (k:=k) ω;have a:t<(flushN t h k).1.S.length:=ω
  obtain⟨B,n⟩:=eS (d.cach _ (am a));have b:k<(nth (flushN t h k).1.S t).b.length:=ω
  have o:=d.spilt a b;have C:=n _ (am b);obtain⟨p,q,r,u,w,-⟩:=iv (nth (nth (flushN t h k).1.S t).b k) (Ab.spilt (flushN t h k).1 t k);refine⟨aZ.freeAs o,?_,r.trans g,q.trans i,u.trans j,w.trans l,?_⟩
  ·show(Ab.freeAs _ _).S.length=_
   rw[p];simp only[Ab.spilt,O1];exact f
  simp only[flushN];omega
theorem E7{h:ab}{t k:Nat}(d:aZ h [])(e:t<h.S.length)(j:k<4):t<(flushN t h k).1.S.length/\bp (nth (flushN t h k).1.S t)=true/\k<(nth (flushN t h k).1.S t).b.length/\(nth (nth (flushN t h k).1.S t).b k).length<=8/\(flushN t h k).2<=8*k:=by
 obtain⟨f,l,-,-,-,-,g⟩:=je d e (k:=k) ω;have a:t<(flushN t h k).1.S.length:=ω
 have c:=f.cach _ (am a);obtain⟨n,i⟩:=eS c;have b:k<(nth (flushN t h k).1.S t).b.length:=ω
 exact⟨a,c,b,i _ (am b),g⟩
theorem JZ{h:ab}{t k j:Nat}(a:aZ h [])(b:t<h.S.length)(d:k<4)(e:j<(nth (nth (flushN t h k).1.S t).b k).length):aZ (freeAs (spilt (flushN t h k).1 t k) ((nth (nth (flushN t h k).1.S t).b k).take j)) (nth (nth (nth (flushN t h k).1.S t).b k) j::(nth (nth (flushN t h k).1.S t).b k).drop (j+1)):=by
 obtain⟨f,g⟩:=E7 a b d;have c:=((je a b (k:=k) ω).1).spilt f g.2.1;rw[List.append_nil]at c;refine aZ.freeAs ?_;rw[<-jF e,List.take_append_drop];exact c
theorem y8(h:ab)(t:Nat)(i:aZ h [])(l:t<h.S.length):aS Tryz.prog 433 false [.ptr (bx h),.val none [I (t:Nat)]] [.ptr (bx (flushN t h 4).1),.val none [I (t:Nat)]] .one [I ((flushN t h 4).2:Nat)]:=by
 refine fM 48 [(511,[2,0])] [(6,6,[26,27,28,29,30,31])] [(0,0),(0,0)] Tryz.func433 rfl (λu q=>?_)
 repeat'(first|refine gO ?_|fail)
 (conv=>whnf)
 refine CF (ι:=Nat) (λk=>[(0,.H .box (bx (flushN t h k).1)),(1,.H .one [I ((t:Nat):Int)]),(5,.H .one [I (((flushN t h k).2:Nat):Int)]),(6,.H .one [I ((k:Nat):Int)])]) (λk=>k<=4) (λk=>4 - k) (0) ?_ (U0 _) λk D=>?_
 ·repeat'(first|exact trivial|rfl |exact o7 a|exact eJ _|refine CL ?_ ?_|(exact E4 (by first|omega|(simp only;omega)|(simp;omega))))
 by_cases n:k<4
 ·obtain⟨o,p,E,F,G⟩:=E7 i l n
  have r:=vi (nth (flushN t h k).1.S t) k p ω;have c:=λj=>JZ i l n (j:=j)
  have e:=ao o;have w:(flushN t h (k+1)).1=freeAs (spilt (flushN t h k).1 t k) (nth (nth (flushN t h k).1.S t).b k):=rfl;have y:(flushN t h (k+1)).2=(flushN t h k).2+(nth (nth (flushN t h k).1.S t).b k).length:=rfl;have a:C.s dI.own ((spilt (flushN t h k).1 t k).S.map (aD.enc .own))=C.s dI.own (((flushN t h k).1.S.map (aD.enc .own)).set t (aD.enc .own (JC (nth (flushN t h k).1.S t) k))):=by simp[spilt,I5]
  repeat'(first|refine gD ?_|(conv=>whnf);first|refine CD (aa e) ?_|refine CJ rfl (aa e) rfl ?_|refine CH (r) ⟨⟨rfl,aD.enc_fz _⟩,⟨rfl,rfl⟩,⟨rfl,rfl⟩,trivial⟩ ?_|refine CB ?_|refine CP rfl rfl (aa e) rfl (C1 rfl) rfl ?_)
  generalize (flushN t h k).1=d at *;generalize (flushN t h k).2=m at *
  (conv=>whnf)
  refine CF (ι:=Nat) (λj=>[(0,.H .box (bx (freeAs (spilt d t k) ((nth (nth d.S t).b k).take j)))),(1,.H .one [I ((t:Nat):Int)]),(5,.H .one [I (((m+j):Nat):Int)]),(6,.H .one [I ((k:Nat):Int)]),(8,.H .one (aG .own (nth (nth d.S t).b k))),(9,.H .one [I ((j:Nat):Int)])]) (λj=>j<=(nth (nth d.S t).b k).length) (λj=>(nth (nth d.S t).b k).length - j) (0) ?_ (U0 _) λj H=>?_
  ·repeat'(first|exact trivial|rfl |exact o7 a|exact eJ _|refine CL ?_ ?_|(exact E4 (by first|omega|(simp only;omega)|(simp;omega))))
  by_cases g:j<(nth (nth d.S t).b k).length
  ·have b:=ao g
   have B:=mX _ _ _ (c j g)
   repeat'(first|refine gD ?_|(conv=>whnf);first|refine CD (aa b) ?_|refine CJ rfl (aa b) rfl ?_|refine CK (B) (.inl rfl) ?_)
   ((conv=>whnf);refine CE (j+1) ω ω ?_)
   rw[uK _ _ _ g];exact wC
  obtain rfl:j=(nth (nth d.S t).b k).length:=ω
  rw[U4]
  repeat'(first|refine gD ?_|fail)
  ((conv=>whnf);refine CE (k+1) ω ω ?_)
  rw[w,y];exact wC
 obtain rfl:k=4:=ω
 repeat'(first|refine gD ?_|fail)
 refine CG rfl rfl ?_;exact wC
def H4(s:Int):Int:=(1103515245*s+12345) % 1073741824
theorem FV(s:Int):0<=H4 s/\H4 s<=1073741823:=by unfold H4;omega
theorem yi(s:Int)(b:0<=s/\s<=1073741823):ar Tryz.prog 540 false [.val none [I s]] .one [I (H4 s)]:=by
 have a:=aH s 0 1073741823;rw[O0 b]at a;refine fO 10 [] Tryz.func540 rfl ?_
 repeat'(first|refine gO ?_|(conv=>whnf);first|refine CB ?_|refine CU (z:=H4 s) (gw ω) ?_|refine C7 (a) ?_|refine CO (by decide) ?_)
 rfl
def KD(s n:Int):Int:=H4 s / 1024 % n
theorem xE(s:Int){n:Int}(h:1<=n):0<=KD s n/\KD s n<n:=⟨Int.emod_nonneg _ ω,Int.emod_lt_of_pos _ ω⟩
theorem ul(s n:Int)(b:0<=s/\s<=1073741823)(c:1<=n/\n<=1000):ar Tryz.prog 483 false [.val none [I s],.val none [I n]] (.tup [none,none]) [I (KD s n),I (H4 s)]:=by
 have d:=aH s 0 1073741823;have e:=aH n 1 1000;rw[O0 b]at d;rw[O0 c]at e;have g:=FV s;have i:=xE s c.1;have a:(H4 s).tdiv 1024=H4 s / 1024:=Int.tdiv_eq_ediv_of_nonneg g.1;have h:((H4 s).tdiv 1024).tmod n=KD s n:=by rw[a];exact gw ω
 refine fO 23 [] Tryz.func483 rfl ?_ (.inr ⟨trivial,trivial,trivial⟩)
 repeat'(first|refine gO ?_|(conv=>whnf);first|refine CB ?_|refine C7 (d) ?_|refine C7 (e) ?_|refine C7 (yi s b) ?_|refine CO (by decide) ?_|refine CO ω ?_|refine CU h ?_|refine CM (eQ (by rw[a];omega) (by rw[a];omega)) ?_)
 rfl
def rP(n:Nat):List Int:=(List.range n).map λ(i:Nat)=>(i:Int)
theorem Fx(n:Nat):rP (n+1)=rP n++[(n:Int)]:=by unfold rP;rw[List.range_succ,t5];rfl
theorem zT(n:Nat):(rP n).length=n:=by simp[rP]
def xB(xs:List Int)(i k:Nat):List Int:=(xs.set i (nth xs k)).set k (nth xs i)
theorem Jx(xs:List Int)(i k:Nat):(xB xs i k).length=xs.length:=by simp[xB]
def gU(n:Nat)(s:Int):Nat->List Int × Int
 | 0=>(rP n,s)
 | j+1=>(xB (gU n s j).1 (n - 1 - j) (KD (gU n s j).2 ((n - 1 - j:Nat)+1:Int)).toNat,H4 (gU n s j).2)
theorem mG(n:Nat){s:Int}(a:0<=s/\s<=1073741823):∀j,(gU n s j).1.length=n/\0<=(gU n s j).2/\(gU n s j).2<=1073741823
 | 0=>⟨zT n,a⟩
 | j+1=>⟨by simp only[gU,Jx];exact(mG n a j).1,FV _⟩
def shuf(n:Nat)(s:Int):List Int × Int:=gU n s (n - 1)
theorem Kr(xs:List Int)(i k:Nat):(xB xs i k).map (rI .own)=((xs.map (rI .own)).set i (rI .own (nth xs k))).set k (rI .own (nth xs i)):=by simp[xB,I5]
theorem Jh{xs:List Int}{i k:Nat}(v:Int)(a:k<xs.length):((xs.map (rI .own)).set i (rI .own v))[k]? = some (rI .own (nth (xs.set i v) k)):=by
 rw[<-I5];exact aa (ao (by rw[O1];exact a))
theorem xZ(n:Nat)(s:Int)(d:0<=s/\s<=1073741823)(w:n<=64):ar Tryz.prog 425 false [.val none [I s],.val none [I (n:Nat)]] (.tup [none,none]) (aG .own (shuf n s).1++[I (shuf n s).2]):=by
 have e:=aH s 0 1073741823;have g:=aH (n:Nat) 0 64;rw[O0 d]at e;rw[O0 ω]at g;refine fO 63 [] Tryz.func425 rfl ?_ (.inr (bf (bM _) ⟨trivial,trivial⟩))
 repeat'(first|refine gO ?_|(conv=>whnf);first|refine CB ?_|refine C7 (e) ?_|refine C7 (g) ?_)
 (conv=>whnf)
 refine CF (ι:=Nat) (λk=>[(0,.H .one [I (s)]),(1,.H .one [I ((n:Nat):Int)]),(6,.H .one (aG .own (rP k))),(7,.H .one [I ((k:Nat):Int)])]) (λk=>k<=n) (λk=>n - k) (0) ?_ (U0 _) λk y=>?_
 ·exact wB
 have h:=zT k;by_cases B:k<n
 ·repeat'(first|refine gD ?_|(conv=>whnf);first|refine CB ?_|refine Ap.sm (aT λ_=>rfl) rfl (by simp;omega) (by decide) (iK (rI .own) (rP k) (k:Int)) ?_)
  ((conv=>whnf);refine CE (k+1) ω ω ?_)
  rw[Fx];exact wB
 obtain rfl:k=n:=ω
 repeat'(first|refine gD ?_|(conv=>whnf);first|refine CB ?_)
 (conv=>whnf)
 refine CF (ι:=Nat) (λj=>[(0,.H .one [I ((gU k s j).2)]),(6,.H .one (aG .own (gU k s j).1)),(8,.H .one [I (((k:Int) - 1 - j))])]) (λj=>(j<=k - 1/\j<=k)) (λj=>k - j) (0) ?_ (⟨U0 _,U0 _⟩) λj C=>?_
 ·exact wB
 obtain⟨D,l,o⟩:=mG k d j;by_cases E:j<k - 1
 ·have q:(k:Int) - 1 - j=((k - 1 - j:Nat):Int):=ω
  have r:=xE (gU k s j).2 (n:=((k - 1 - j:Nat)+1:Int)) ω;have t:=ul (gU k s j).2 ((k - 1 - j:Nat)+1:Int) ⟨l,o⟩ ω;have u:gU k s (j+1)=(xB (gU k s j).1 (k - 1 - j) (KD (gU k s j).2 ((k - 1 - j:Nat)+1:Int)).toNat,H4 (gU k s j).2):=rfl;rw[q];generalize gU k s j=p at *;obtain⟨xs,z⟩:=p;simp only at *;generalize k - 1 - j=i at *;have a:=ao (xs:=xs) (i:=i) ω;have b:=ao (xs:=xs) (i:=(KD z (i+1)).toNat) ω;have c:=Jh (xs:=xs) (i:=i) (k:=(KD z (i+1)).toNat) (nth xs (KD z (i+1)).toNat) ω
  repeat'(first|refine gD ?_|(conv=>whnf);first|refine CB ?_|refine C7 (t) ?_|refine CN ω (aa b) ?_|refine CD (aa a) ?_|refine CJ rfl (aa a) rfl ?_|refine CJ rfl (aa b) rfl ?_|refine CP rfl rfl (aa a) rfl (C1 rfl) rfl ?_|refine CN ω c ?_|refine CP rfl rfl c rfl (C1 rfl) rfl ?_)
  ((conv=>whnf);refine CE (j+1) ω ω ?_)
  rw[u];simp only[aG,Kr];exact wB
 obtain rfl:j=k - 1:=ω
 repeat'(first|refine gD ?_|(conv=>whnf);first|refine CB ?_)
 rfl
def Al(b:Int):Nat->Nat
 | 0=>0
 | n+1=>Al b n+(if aQ b (n:Nat)=true then 1 else 0)
theorem AJ(b:Int):∀n,Al b n<=n
 | 0=>X2 _
 | n+1=>by have:=AJ b n;simp only[Al];split<;>omega
theorem vk(b:Int)(d:b<=9223372036854775807):ar Tryz.prog 424 false [.val none [I b]] .one [I (Al b 16:Nat)]:=by
 refine fO 15 [] Tryz.func424 rfl ?_
 repeat'(first|refine gO ?_|fail)
 (conv=>whnf)
 refine CF (ι:=Nat) (λk=>[(0,.H .one [I (b)]),(3,.H .one [I ((Al b k:Nat):Int)]),(4,.H .one [I ((k:Nat):Int)])]) (λk=>k<=16) (λk=>16 - k) (0) ?_ (U0 _) λk g=>?_
 ·exact wB
 have h:=AJ b k;by_cases i:k<16
 ·have a:=g9 b (k:Nat) d
  have c:Al b (k+1)=Al b k+(if aQ b (k:Nat)=true then 1 else 0):=rfl;cases e:aQ b (k:Nat)<;>rw[e]at a c
  all_goals
   repeat'(first|refine gD ?_|(conv=>whnf);first|refine C7 (a) ?_)
   ((conv=>whnf);refine CE (k+1) ω ω ?_)
   rw[c];exact wB
 obtain rfl:k=16:=ω
 repeat'(first|refine gD ?_|fail)
 rfl
def zA(h:ab)(s:ax):Bool:=decide (0<Al s.b1 16)&&decide ((aN h s.Q).length=1)
def lK(h:ab):Nat->List ax
 | 0=>[]
 | n+1=>if zA h (nth h.K n)=true then lK h n++[nth h.K n] else lK h n
def mV(h:ab):List ax:=lK h h.K.length
theorem wH(h:ab):∀n,(lK h n).length<=n
 | 0=>X2 _
 | n+1=>by have:=wH h n;simp only[lK];split<;>simp<;>omega
theorem m6(h:ab):∀{n:Nat},n<=h.K.length->∀s∈lK h n,s∈h.K
 | 0,_,s,a=>by cases a
 | n+1,b,s,a=>by
  simp only[lK]at a;split at a
  ·rcases W2.1 a with a|a
   ·exact m6 h ω s a
   rw[I1.1 a];exact am ω
  exact m6 h ω s a
theorem xR(h:ab)(j:vo h)(q:h.K.length<=1000)(r:dC h<=1000)(l:∀s∈h.K,s.b1<=9223372036854775807):ar Tryz.prog 289 false [.val (some 24) (ab.enc .V h)] .one (bY .own (mV h)):=by
 refine fO 42 [(5,16,[13,14,15,16,17,18,19,20,21,22,23,24,25,26,27,28])] Tryz.func289 rfl ?_ (.inr (FX _))
 repeat'(first|refine gO ?_|fail)
 (conv=>whnf)
 refine CF (ι:=Nat) (λk=>[(1,.H .box (ab.enc .V h)),(3,.H .one (bY .own (lK h k))),(4,.H .one [I ((k:Nat):Int)])]) (λk=>k<=h.K.length) (λk=>h.K.length - k) (0) ?_ (U0 _) λk t=>?_
 ·exact wB
 have n:=wH h k;by_cases e:k<h.K.length
 ·have c:=ao e
  have d:=vk (nth h.K k).b1 (l _ (am e));have b:=ic h (nth h.K k).Q j;have o:=fX h (nth h.K k).Q;have p:=AJ (nth h.K k).b1 16;have a:lK h (k+1)=if zA h (nth h.K k)=true then lK h k++[nth h.K k] else lK h k:=rfl
  by_cases g:0<Al (nth h.K k).b1 16
  ·by_cases i:(aN h (nth h.K k).Q).length=1
   ·rw[C9 (by unfold zA;simp[g,i])]at a
    repeat'(first|refine gA ?_|(conv=>whnf);first|refine CD (aa c) ?_|refine C7 (d) ?_|refine CH (b) ⟨⟨rfl,rfl⟩,⟨rfl,rfl⟩,trivial⟩ ?_|refine C7 (b) ?_|refine CB ?_|refine Ap.sm (aT λ_=>rfl) rfl (by simp;omega) (by decide) (iK (ax.enc .own) (lK h k) (nth h.K k)) ?_)
    ((conv=>whnf);refine CE (k+1) ω ω ?_)
    rw[a];exact wB
   rw[C8 (by unfold zA;simp[i])]at a
   repeat'(first|refine gA ?_|(conv=>whnf);first|refine CD (aa c) ?_|refine C7 (d) ?_|refine C7 (b) ?_|refine CB ?_)
   ((conv=>whnf);refine CE (k+1) ω ω ?_)
   rw[a];exact wB
  rw[C8 (by unfold zA;simp[g])]at a
  repeat'(first|refine gD ?_|(conv=>whnf);first|refine CD (aa c) ?_|refine C7 (d) ?_|refine C7 (b) ?_|refine CB ?_)
  ((conv=>whnf);refine CE (k+1) ω ω ?_)
  rw[a];exact wB
 obtain rfl:k=h.K.length:=ω
 repeat'(first|refine gD ?_|fail)
 rfl
def tN(s:ax)(c:Nat):Bool:=aQ s.b1 (((c:Nat):Int) / csz s.a)
def sY(s:ax)(n:Nat):List Int:=((List.range n).filter (tN s)).map λ(i:Nat)=>(i:Int)
theorem Nf{s:ax}{n:Nat}(h:tN s n=true):sY s (n+1)=sY s n++[(n:Int)]:=by
 unfold sY;rw[List.range_succ,List.filter_append,t5];simp[h]
theorem Ql{s:ax}{n:Nat}(h:tN s n=false):sY s (n+1)=sY s n:=by
 unfold sY;rw[List.range_succ,List.filter_append,t5];simp[h]
theorem sw(s:ax)(n:Nat):(sY s n).length<=n:=by
 unfold sY;rw[Z0];exact R4 (List.length_filter_le _ _) (by simp)
theorem N8{s:ax}(a:bg s=true){c:Nat}(d:c<16):0<=((c:Nat):Int) / csz s.a/\((c:Nat):Int) / csz s.a<=15:=by
 have f:=aB a;have b:csz s.a=1\/csz s.a=2\/csz s.a=4\/csz s.a=8:=bE ω;rcases b with e|e|e|e<;>rw[e]<;>omega
theorem o8(s:ax)(a:bg s=true):ar Tryz.prog 426 false [.val (some 3) (ax.enc .V s)] .one (aG .own (sY s 16)):=by
 have b:=fA s;rw[a]at b;have g:=aB a;have n:=bE g.2.2;refine fO 27 [(5,7,[14,15,16,17,18,19,20])] Tryz.func426 rfl ?_ (.inr (bM _))
 repeat'(first|refine gO ?_|fail)
 (conv=>whnf)
 refine CF (ι:=Nat) (λi=>[(1,.H .box (ax.enc .V s)),(3,.H .one (aG .own (sY s i))),(4,.H .one [I ((i:Nat):Int)])]) (λi=>i<=16) (λi=>16 - i) (0) ?_ (U0 _) λi o=>?_
 ·exact wB
 have h:=sw s i;by_cases j:i<16
 ·have k:=N8 a j
  have d:IntKind.i64.wrap (((i:Nat):Int).tdiv (csz s.a))=((i:Nat):Int) / csz s.a:=by rw[lg ω];exact eQ ω ω
  have c:=g9 s.b1 (((i:Nat):Int) / csz s.a) (eB a).2;cases e:tN s i
  ·rw[show aQ s.b1 (((i:Nat):Int) / csz s.a)=false from e]at c
   repeat'(first|refine gD ?_|(conv=>whnf);first|refine C7 (b) ?_|refine C7 (de _) ?_|refine CO ω ?_|refine CM d ?_|refine C7 (c) ?_)
   ((conv=>whnf);refine CE (i+1) ω ω ?_)
   rw[Ql e];exact wB
  rw[show aQ s.b1 (((i:Nat):Int) / csz s.a)=true from e]at c
  repeat'(first|refine gD ?_|(conv=>whnf);first|refine C7 (b) ?_|refine C7 (de _) ?_|refine CO ω ?_|refine CM d ?_|refine C7 (c) ?_|refine CT cA (λr l=>by rw[I1.1 l];rfl) (by simp[aW,dP]) (by simp;omega) (by simp only[Z0];exact xY (by simp;omega) (by decide)) rfl ?_)
  ((conv=>whnf);refine CE (i+1) ω ω ?_)
  rw[Nf e]
  (repeat'(first|exact trivial|rfl|exact CL rfl (CL (W0 (C.s dI.own) (by simp[rI])) trivial)|refine CL ?_ ?_))
 obtain rfl:i=16:=ω
 repeat'(first|refine gD ?_|(conv=>whnf);first|refine C7 (b) ?_)
 rfl
structure ge where
 A:Int
 B:Int
deriving DecidableEq,Inhabited
def ge.enc(_:dI)(x:ge):List C:=[I x.A,I x.B]
def jt(o:dI)(x:List ge):List C:=[.s o (x.map (ge.enc o))]
theorem Gg(x:List ge):gV (jt .own x):=⟨⟨.inl λh=>(by cases h),bh _ _ λ_ _=>⟨trivial,trivial,trivial⟩⟩,trivial⟩
def NI(i:Int)(p:ge):Bool:=decide (p.A=i) || decide (p.B=i)
def df(a b:ax):cP:=if(sY a 16).length<(sY b 16).length then⟨b.Q,a.Q,sY a 16⟩ else⟨a.Q,b.Q,sY b 16⟩
theorem y5(a b:ax)(g:meshable a b=true)(h:bg a=true)(i:bg b=true):ar Tryz.prog 291 false [.val (some 3) (ax.enc .V a),.val (some 3) (ax.enc .V b)] (.tup [some 3,none]) (cP.enc .own (df a b)++[B true]):=by
 have c:=mg a b;rw[g]at c;have d:=o8 a h;have e:=o8 b i;have j:=sw a 16;have k:=sw b 16;unfold df;split
 ·refine fO 27 [(3,6,[11,12,13,14,15,16]),(5,6,[20,21,22,23,24,25])] Tryz.func291 rfl ?_ (.inr (bf (cP.enc_fr _) ⟨trivial,trivial⟩))
  repeat'(first|refine gD ?_|(conv=>whnf);first|refine C7 (c) ?_|refine C7 (d) ?_|refine C7 (e) ?_|refine CB ?_)
  rfl
 refine fO 27 [(3,6,[11,12,13,14,15,16]),(5,6,[20,21,22,23,24,25])] Tryz.func291 rfl ?_ (.inr (bf (cP.enc_fr _) ⟨trivial,trivial⟩))
 repeat'(first|refine gD ?_|(conv=>whnf);first|refine C7 (c) ?_|refine C7 (d) ?_|refine C7 (e) ?_|refine CB ?_)
 rfl
def t8(p:cP):cM:=⟨p,0,0⟩
theorem Dp(p:cP)(c:eH p=true)(a:cP.sml p):ar Tryz.prog 292 false [.val (some 3) (cP.enc .V p)] (.tup [some 5,none]) (cM.enc .own (t8 p)++[B true]):=by
 have b:=ur p a;rw[c]at b;have d:=sK (t8 p) a;refine fO 11 [] Tryz.func292 rfl ?_ (.inr (bf (cM.enc_fr _) ⟨trivial,trivial⟩))
 repeat'(first|refine gO ?_|(conv=>whnf);first|refine C7 (b) ?_|refine C7 (d) ?_)
 rfl
theorem tL(n:Nat){s:Int}(c:0<=s/\s<=1073741823):∀{j:Nat},j<=n - 1->∀x∈(gU n s j).1,0<=x/\x<n
 | 0,_,x,a=>by
  simp only[gU,rP,t4,List.mem_range]at a;obtain⟨i,d,rfl⟩:=a;omega
 | j+1,e,x,a=>by
  have f:=(mG n c j).1;have b:=tL n c (j:=j) ω;have g:=xE (gU n s j).2 (n:=((n - 1 - j:Nat)+1:Int)) ω;simp only[gU,xB]at a;rcases T5 a with a|rfl
  ·rcases T5 a with a|rfl
   ·exact b x a
   exact b _ (am ω)
  exact b _ (am ω)
def tkn(out:List ge)(a:Int):Bool:=out.any (NI a)
def stp(a:List ax)(p:List Int)(t i:Nat)(out:List ge):List ge:=
 if tkn out (nth p i)=false/\tkn out (nth p (p.length / 2+(i+t) % (p.length - p.length / 2)))=false/\meshable (nth a (nth p i).toNat) (nth a (nth p (p.length / 2+(i+t) % (p.length - p.length / 2))).toNat)=true then out++[⟨nth p i,nth p (p.length / 2+(i+t) % (p.length - p.length / 2))⟩] else out
def vf(a:List ax)(p:List Int)(t:Nat)(out:List ge):Nat->List ge
 | 0=>out
 | i+1=>stp a p t i (vf a p t out i)
def qU(a:List ax)(p:List Int):Nat->List ge
 | 0=>[]
 | t+1=>vf a p t (qU a p t) (p.length / 2)
theorem Pt(a:List ax)(p:List Int)(t i:Nat)(out:List ge):(stp a p t i out).length<=out.length+1:=by unfold stp;split<;>simp
theorem xG(a:List ax)(p:List Int)(t:Nat)(out:List ge):∀i,(vf a p t out i).length<=out.length+i
 | 0=>X2 _
 | i+1=>by have b:=xG a p t out i;have c:=Pt a p t i (vf a p t out i);simp only[vf];omega
theorem EO(a:List ax)(p:List Int):∀t,(qU a p t).length<=t*(p.length / 2)
 | 0=>U0 _
 | t+1=>by have b:=EO a p t;have c:=xG a p t (qU a p t) (p.length / 2);simp only[qU];rw[Nat.add_mul];omega
def lI(a:List ax)(s:Int):List ge:=qU a (shuf a.length s).1 3
def nQ(n:Nat)(out:List ge):List Bool:=(List.range n).map λ(i:Nat)=>tkn out (i:Nat)
theorem Hp{n:Nat}{out:List ge}{a:Int}(h:0<=a/\a<n):(nQ n out)[a.toNat]? = some (tkn out a):=by
 unfold nQ;rw[Z2,W5 ω];show some (tkn out ((a.toNat:Nat):Int))=_;rw[Int.toNat_of_nonneg h.1]
theorem M5{n:Nat}{out:List ge}{a b:Int}(f:0<=a/\a<n)(g:0<=b/\b<n):nQ n (out++[⟨a,b⟩])=((nQ n out).set a.toNat true).set b.toNat true:=by
 unfold nQ;apply List.ext_getElem?;intro i;by_cases c:i<n
 ·rw[Z2,W5 c]
  by_cases d:b.toNat=i
  ·subst d
   rw[O3 (by simp;omega)];simp only[V4,tkn,List.any_append,List.any_cons,List.any_nil,NI];rw[Int.toNat_of_nonneg g.1];simp
  rw[List.getElem?_set_ne d];by_cases e:a.toNat=i
  ·subst e
   rw[O3 (by simp;omega)];simp only[V4,tkn,List.any_append,List.any_cons,List.any_nil,NI];rw[Int.toNat_of_nonneg f.1];simp
  rw[List.getElem?_set_ne e,Z2,W5 c];simp only[V4,tkn,List.any_append,List.any_cons,List.any_nil,NI];rw[T0 ω,T0 ω];simp
 rw[I2 (by simp;omega),I2 (by simp;omega)]
theorem Pj(n:Nat):(nQ n []).map (rB .own)=List.replicate n [B false]:=by
 unfold nQ;rw[List.map_map];apply List.ext_getElem?;intro i;rw[Z2];by_cases a:i<n
 ·rw[W5 a,List.getElem?_replicate];simp[a];rfl
 rw[I2 (by simp;omega),List.getElem?_replicate];simp[a]
theorem Jl{xs:List Bool}{i k:Nat}(v:Bool)(a:k<xs.length):((xs.map (rB .own)).set i (rB .own v))[k]? = some (rB .own (nth (xs.set i v) k)):=by
 rw[<-I5];exact aa (ao (by rw[O1];exact a))
theorem ve(c:List ax)(s:Int)(u:0<=s/\s<=1073741823)(V:c.length<=16):ar Tryz.prog 290 false [.val none (bY .V c),.val none [I s],.val none [I 3]] (.tup [none,none]) (jt .own (lI c s)++[I (shuf c.length s).2]):=by
 have J:=aH s 0 1073741823;rw[O0 u]at J;have K:=aH 3 0 16;rw[O0 ω]at K;have Q:=xZ c.length s u ω;have D:=(mG c.length u (c.length - 1)).1;have e:=tL c.length u (X2 _);unfold lI;change (shuf c.length s).1.length=_ at D;change ∀x∈(shuf c.length s).1,_ at e
 have E:gV (jt .own (qU c (shuf c.length s).1 3)++[I (shuf c.length s).2]):=bf (Gg _) ⟨trivial,trivial⟩;generalize shuf c.length s=q at *;obtain⟨p,z⟩:=q;simp only at *;have F:((p.length:Nat):Int).tdiv 2=((p.length / 2:Nat):Int):=by rw[Int.tdiv_eq_ediv_of_nonneg ω];omega
 have g:C.s dI.own ((nQ c.length []).map (rB .own))=C.s dI.own (List.replicate c.length [B false]):=by rw[Pj]
 have h:∀i:Nat,i<p.length->0<=nth p i/\nth p i<c.length:=λi R=>e _ (am R)
 refine fO 110 [(15,21,[73,74,75,76,77,78,79,80,81,82,83,84,85,86,87,88,89,90,91,92,93])] Tryz.func290 rfl ?_ (.inr E)
 repeat'(first|refine gD ?_|(conv=>whnf);first|with_reducible refine CM ((W0 _ F).trans (eQ ω ω)) ?_|refine C7 (J) ?_|refine C7 (K) ?_|refine C7 (Q) ?_|refine CO (by decide) ?_|refine Mk.mk c.length rfl rfl ω (xY ω (by decide)) rfl ?_)
 (conv=>whnf)
 refine CF (ι:=Nat) (λt=>[(0,.H .one (bY .V c)),(2,.H .one [I (3)]),(8,.H .one (jt .own (qU c p t))),(9,.H .one (aG .own p)),(10,.H .one [I (z)]),(11,.H .one [I (((p.length / 2):Nat):Int)]),(12,.H .one (jY .own (nQ c.length (qU c p t)))),(13,.H .one [I ((t:Nat):Int)])]) (λt=>t<=3) (λt=>3 - t) (0) ?_ (U0 _) λt S=>?_
 ·repeat'(first|exact trivial|rfl |exact o7 g|refine CL ?_ ?_|(exact E4 (by first|omega|(simp only;omega)|(simp;omega))))
 have W:=EO c p t;have ol2:t*(p.length / 2)<=3*8:=Nat.mul_le_mul S ω;by_cases X:t<3
 ·repeat'(first|refine gD ?_|fail)
  (conv=>whnf)
  refine CF (ι:=Nat) (λj=>[(0,.H .one (bY .V c)),(2,.H .one [I (3)]),(8,.H .one (jt .own (vf c p t (qU c p t) j))),(9,.H .one (aG .own p)),(10,.H .one [I (z)]),(11,.H .one [I (((p.length / 2):Nat):Int)]),(12,.H .one (jY .own (nQ c.length (vf c p t (qU c p t) j)))),(13,.H .one [I ((t:Nat):Int)]),(14,.H .one [I ((j:Nat):Int)])]) (λj=>j<=p.length / 2) (λj=>p.length / 2 - j) (0) ?_ (U0 _) λj Y=>?_
  ·repeat'(first|exact trivial|rfl |exact o7 g|refine CL ?_ ?_|(exact E4 (by first|omega|(simp only;omega)|(simp;omega))))
  have Z:=xG c p t (qU c p t) j;by_cases lj:j<p.length / 2
  ·have L:(j+t) % (p.length - p.length / 2)<p.length - p.length / 2:=Nat.mod_lt _ ω
   have G:((j:Int)+t).tmod ((p.length:Int) - (p.length / 2:Nat))=(((j+t) % (p.length - p.length / 2):Nat):Int):=by
    rw[gw ω,Int.natCast_emod];congr 1;omega
   have d:vf c p t (qU c p t) (j+1)=stp c p t j (vf c p t (qU c p t) j):=rfl;unfold stp at d;generalize vf c p t (qU c p t) j=out at *;have l:p.length / 2+(j+t) % (p.length - p.length / 2)<p.length:=ω
   generalize hk:(j+t) % (p.length - p.length / 2)=k at *;have n:=ao (xs:=p) (i:=j) ω;have o:=ao (xs:=p) (i:=p.length / 2+k) l;have w:=h j ω;have r:=h _ l;generalize nth p j=a at *;generalize nth p (p.length / 2+k)=b at *;have y:=Hp (out:=out) w;have H:=Hp (out:=out) r;have T:=ao (xs:=c) (i:=a.toNat) ω;have U:=ao (xs:=c) (i:=b.toNat) ω;have M:=mg (nth c a.toNat) (nth c b.toNat);have ub2:=Jl (xs:=nQ c.length out) (i:=a.toNat) (k:=b.toNat) true (by simp[nQ];omega);cases N:tkn out a<;>cases O:tkn out b<;>cases P:meshable (nth c a.toNat) (nth c b.toNat)
   all_goals
    rw[N]at y;rw[O]at H;rw[P]at M;rw[N,O,P]at d;simp only[and_true,true_and,if_true,Bool.false_eq_true,Bool.true_eq_false,and_false,false_and,if_false]at d
    repeat'(first|refine gD ?_|(conv=>whnf);first|refine CU G ?_|refine CO ω ?_|refine CD (aa n) ?_|refine CN ω (aa o) ?_|refine CN w.1 (aa y) ?_|refine CN r.1 (aa H) ?_|refine CN w.1 (aa T) ?_|refine CN r.1 (aa U) ?_|refine CJ rfl (aa n) rfl ?_|refine CJ rfl (aa o) rfl ?_|refine CJ rfl (aa y) rfl ?_|refine CJ rfl (aa H) rfl ?_|refine C7 (M) ?_|refine CB ?_|refine CP rfl rfl (aa y) rfl (C1 rfl) rfl ?_|refine CN r.1 ub2 ?_|refine CP rfl rfl ub2 rfl (C1 rfl) rfl ?_|refine Ap.sm (aT λ_=>rfl) rfl (by simp;omega) (by decide) (iK (ge.enc .own) out ⟨a,b⟩) ?_)
    ((conv=>whnf);refine CE (j+1) ω ω ?_)
    rw[d]
    first|(rw[M5 w r];simp only[jY,I5])|skip
    exact wB
  obtain rfl:j=p.length / 2:=ω
  repeat'(first|refine gD ?_|fail)
  ((conv=>whnf);refine CE (t+1) ω ω ?_;(exact wB))
 obtain rfl:t=3:=ω
 repeat'(first|refine gD ?_|fail)
 rfl
theorem EV(x:List ge):ef (jt .own x)=jt .V x:=by simp[ef,jt,ge.enc,<-cr,v5]
theorem ar.fzR{P:Program}{f:Nat}{sh:Bool}{A:List RA}{k:Kd}{rcs:List C}(h:ar P f sh A k rcs):ar P f sh A k (ef rcs):=by
 obtain⟨c,d⟩:=h;refine⟨c,λw S g i j=>(d w S g i j).mono λe w1 l=>?_⟩;obtain⟨v,n,p,X,q,r,t,B,u,y⟩:=l;refine⟨v,n,p,NO,λb o=>q b o\/X b o,λ_ _ h=>h.elim,λb o a=>?_,λ_ _ h=>h.elim,by rw[cr,Z0];exact u,y.freeze⟩;rcases a with a|a
 ·exact t b o a
 exact .inr (r b o a)
structure NZ(ls:List ax)(q:ge):Prop where
 a:0<=q.A/\q.A<ls.length
 b:0<=q.B/\q.B<ls.length
 m:meshable (nth ls q.A.toNat) (nth ls q.B.toNat)=true
theorem H0{b:List ax}{p:List Int}(c:∀x∈p,0<=x/\x<b.length)(t:Nat){out:List ge}(d:∀q∈out,NZ b q):∀{i:Nat},i<=p.length / 2->∀q∈vf b p t out i,NZ b q
 | 0,_=>d
 | i+1,h=>λq a=>by
  have e:=H0 c t d (i:=i) ω;simp only[vf,stp]at a;split at a
  ·rename_i g
   rcases W2.1 a with a|a
   ·exact e q a
   obtain rfl:=I1.1 a;have f:(i+t) % (p.length - p.length / 2)<p.length - p.length / 2:=Nat.mod_lt _ ω;exact⟨c _ (am ω),c _ (am ω),g.2.2⟩
  exact e q a
theorem GP{a:List ax}{p:List Int}(b:∀x∈p,0<=x/\x<a.length):∀t,∀q∈qU a p t,NZ a q
 | 0=>λq c=>by cases c
 | t+1=>H0 b t (GP b t) (X2 _)
theorem nt(a:List ax){s:Int}(b:0<=s/\s<=1073741823):∀q∈lI a s,NZ a q:=GP (tL a.length b (X2 _)) 3
theorem Ni(s:ax)(n:Nat):(sY s n).Pairwise (· < ·):=by
 unfold sY;rw[List.pairwise_map];exact(List.pairwise_lt_range.sublist List.filter_sublist).imp λh=>ω
theorem PJ{s:ax}{n:Nat} : ∀z∈sY s n,0<=z/\z<n:=λz a=>by
 unfold sY at a;simp only[t4,v4,List.mem_range]at a;obtain⟨c,⟨b,-⟩,rfl⟩:=a;omega
theorem wo(s:ax):cQ (sY s 16).length (lY (sY s 16))=true:=by
 refine cz.2 λj a=>?_
 have c:=PJ _ (am a);unfold lY;refine O0 ⟨ω,ω,?_⟩;by_cases e:j=0
 ·exact .inl e
 refine .inr ?_;have b:=List.pairwise_iff_getElem.1 (Ni s 16) (j - 1) j ω a ω;rw[show nth (sY s 16) (j - 1)=(sY s 16)[j - 1] from bj (Z1 ω),show nth (sY s 16) j=(sY s 16)[j] from bj (Z1 a)];exact b
theorem tZ{a b:ax}(c:meshable a b=true):eH (df a b)=true/\bg a=true/\bg b=true:=by
 unfold meshable at c;simp only[I0,C0]at c;have d:=aB c.1.1;have e:=aB c.1.2;refine⟨?_,c.1⟩;unfold df eH;split
 ·simp only[I0,C0];exact⟨wo a,ω⟩
 simp only[I0,C0];exact⟨wo b,ω⟩
theorem Gc(a b:ax):cP.sml (df a b):=by
 have c:=sw a 16;have d:=sw b 16;unfold df cP.sml r6;split<;>simp only<;>omega
def bA(h:ab):List ax:=(mV h).take 16
def started(h:ab):ab × Bool:=match lI (bA h) h.c0 with
 | []=>({h with c0:=(shuf (bA h).length h.c0).2},false)
 | q::_=>({h with c0:=(shuf (bA h).length h.c0).2,u:=true,Z:=t8 (df (nth (bA h) q.A.toNat) (nth (bA h) q.B.toNat))},true)
theorem K8{h:ab}{E:List Int}(a:aZ h E):h.K.length<=32/\dC h<=32/\vo h/\∀s∈h.K,s.b1<=9223372036854775807:=by
 have b:=a.lens;refine⟨b.spans,b.ents,?_,λs c=>by have:=eI (a.L.sok s c);omega⟩;have:=(bP a.ker).1.2;exact this
theorem Fe(h:ab):(bA h).length<=16:=by unfold bA;rw[R1];omega
theorem Qh(x:List ge)(z:Int):ef (jt .own x++[I z])=jt .V x++[I z]:=by
 have h:=EV x;rw[cr]at h |-;rw[t5,h];simp[fz]
theorem Qa(h:ab):(bA h).map (ax.enc .V)=((mV h).map (ax.enc .V)).take 16:=Y3
theorem Gs(p:cP)(b:eH p=true)(c:cP.sml p):ar Tryz.prog 292 false [.val (some 3) (cP.enc .V p)] (.tup [some 5,none]) (xu (t8 p)++[B true]):=by
 have h:=(Dp p b c).fzR;have e:ef (cM.enc .own (t8 p)++[B true])=xu (t8 p)++[B true]:=by
  have a:=cM.enc_fz (t8 p);rw[cr]at a |-;rw[t5,a];simp[fz,cM.enc,xu]
 rwa [e]at h
theorem yh(h:ab)(w:aZ h []):aS Tryz.prog 130 false [.ptr (bx h)] [.ptr (bx (started h).1)] .one [B (started h).2]:=by
 obtain⟨w1,Q,H,J⟩:=K8 w;have a:=w.nums;unfold cn at a;rw[C0]at a;have e:=(xR h H ω ω J).fzR;rw[wS]at e;have o:=Fe h;have b:=(ve (bA h) h.c0 ⟨a.1,a.2.1⟩ o).fzR;rw[Qh]at b;have g:=nt (bA h) ⟨a.1,a.2.1⟩;have K:=wH h h.K.length;have y:(mV h).length<=32:=by unfold mV;omega
 have j:=Qa h;unfold started;cases C:lI (bA h) h.c0 with
 | nil=>
  rw[C]at b;by_cases L:16<(mV h).length
  ·refine fM 62 [] [(8,275,[34,35,36,37,38,39,40,41,42,43,44,45,46,47,48,33,49,50,6,0,1,2,3,4,5,6,7,8,9,10,11,12,13,14,15,16,17,18,19,1017,20])] [(0,0)] Tryz.func130 rfl (λu q=>?_)
   repeat'(first|refine gD ?_|(conv=>whnf);first|refine CB ?_|refine CH (e) ⟨⟨rfl,bG h⟩,trivial⟩ ?_|refine C7 (b) ?_|refine CX 16 rfl (by rw[Z0];omega) (aT λ_=>rfl) j ?_)
   refine CG rfl rfl ?_;exact wC
  have k:bA h=mV h:=by unfold bA;exact Z5 ω
  rw[k]at b;refine fM 62 [] [(8,275,[34,35,36,37,38,39,40,41,42,43,44,45,46,47,48,33,49,50,6,0,1,2,3,4,5,6,7,8,9,10,11,12,13,14,15,16,17,18,19,1017,20])] [(0,0)] Tryz.func130 rfl (λu q=>?_);rw[k]
  repeat'(first|refine gD ?_|(conv=>whnf);first|refine CB ?_|refine CH (e) ⟨⟨rfl,bG h⟩,trivial⟩ ?_|refine C7 (b) ?_)
  refine CG rfl rfl ?_;exact wC
 | cons q M=>
  rw[C]at b g;obtain⟨E,F,G⟩:=g q (U1 ..);obtain⟨N,O,P⟩:=tZ G;have p:=y5 _ _ G O P;have t:=Gs _ N (Gc _ _);have c:=ao (xs:=bA h) (i:=q.A.toNat) ω;have d:=ao (xs:=bA h) (i:=q.B.toNat) ω;have l:(q::M)[0]? = some q:=rfl;by_cases L:16<(mV h).length
  ·refine fM 62 [] [(8,275,[34,35,36,37,38,39,40,41,42,43,44,45,46,47,48,33,49,50,6,0,1,2,3,4,5,6,7,8,9,10,11,12,13,14,15,16,17,18,19,1017,20])] [(0,0)] Tryz.func130 rfl (λu r=>?_)
   repeat'(first|refine gD ?_|(conv=>whnf);first|with_reducible refine Bf.D (λn=>absurd n (by simp)) (λn=>?_)|refine CB ?_|refine CH (e) ⟨⟨rfl,bG h⟩,trivial⟩ ?_|refine C7 (b) ?_|refine CX 16 rfl (by rw[Z0];omega) (aT λ_=>rfl) j ?_|refine CN (by decide) (aa l) ?_|refine CN E.1 (aa c) ?_|refine CN F.1 (aa d) ?_|refine C7 (p) ?_|refine CH (t) ⟨⟨rfl,cP.enc_fz _⟩,trivial⟩ ?_|refine CB ?_)
   refine CG rfl rfl ?_;exact wC
  have k:bA h=mV h:=by unfold bA;exact Z5 ω
  rw[k]at b p t c d;refine fM 62 [] [(8,275,[34,35,36,37,38,39,40,41,42,43,44,45,46,47,48,33,49,50,6,0,1,2,3,4,5,6,7,8,9,10,11,12,13,14,15,16,17,18,19,1017,20])] [(0,0)] Tryz.func130 rfl (λu r=>?_);rw[k]
  repeat'(first|refine gD ?_|(conv=>whnf);first|with_reducible refine Bf.D (λn=>absurd n (by simp)) (λn=>?_)|refine CB ?_|refine CH (e) ⟨⟨rfl,bG h⟩,trivial⟩ ?_|refine C7 (b) ?_|refine CN (by decide) (aa l) ?_|refine CN E.1 (aa c) ?_|refine CN F.1 (aa d) ?_|refine C7 (p) ?_|refine CH (t) ⟨⟨rfl,cP.enc_fz _⟩,trivial⟩ ?_|refine CB ?_)
  refine CG rfl rfl ?_;exact wC
def bZ(k:ah):ah:={k with Calls:=k.Calls+1}
def refd(k:ah):Bool:=decide (k.Calls∈k.y)
def ja(k:ah)(p:Int)(m:Int):ah:={k with F:=⟨k.F.W,⟨k.F.R.J.set p.toNat {nth k.F.R.J p.toNat with e:=m}⟩⟩}
def jA(k:ah)(p m:Int):ah × Bool:=if refd k=true then(bZ k,false) else(ja (bZ k) p m,true)
theorem HW(k:ah)(p m:Int):ah.enc .own (ja k p m)=(ah.enc .own k).set 2 (.s .own ((k.F.R.J.map (bi.enc .own)).set p.toNat (bi.enc .own {nth k.F.R.J p.toNat with e:=m}))):=by
 simp[ah.enc,ja,I5]
theorem row16{k:ah}(a:a8 k=true){f:Nat}(b:f<k.F.W.T.length):(nth k.F.W.T f).length=16:=by
 have:=(aX.1 (aE.1 a).2.1).2.2.2 f b;unfold gM at this;simp only[I0,C0]at this;omega
def setCell(k:ah)(f:Nat)(c v:Int):ah:={k with F:=⟨⟨k.F.W.T.set f ((nth k.F.W.T f).set c.toNat v),k.F.W.a5⟩,k.F.R⟩}
theorem Ep(k:ah)(f:Nat)(c v:Int):ah.enc .own (setCell k f c v)=(ah.enc .own k).set 0 (.s .own ((k.F.W.T.map (aG .own)).set f [.s .own (((nth k.F.W.T f).map (rI .own)).set c.toNat [I v])])):=by
 simp[ah.enc,setCell,I5,aG,rI]
def bF(k:ah)(p:Int):Nat:=(ac k.F.R p).j.toNat
def ri(k:ah)(a b c:Int):ah:=setCell k (bF k b) c (nth (nth k.F.W.T (bF k a)) c.toNat)
def P7(k:ah)(a b c:Int):Nat->ah
 | 0=>k
 | _+1=>ri k a b c
def vh(k:ah)(p:Nat)(e:bi):ah:={k with F:=⟨k.F.W,⟨k.F.R.J.set p e⟩⟩}
theorem M9(k:ah)(p:Nat)(e:bi):ah.enc .own (vh k p e)=(ah.enc .own k).set 2 (.s .own ((k.F.R.J.map (bi.enc .own)).set p (bi.enc .own e))):=by
 simp[ah.enc,vh,I5]
theorem MK{k:ah}(p:Nat)(e:bi)(h:aI.sml k.F.R):aI.sml (vh k p e).F.R:=by
 refine⟨?_,λx _=>trivial⟩;show(k.F.R.J.set p e).length<=_;rw[O1];exact h.1
def vc(k:ah)(p o:Int):ah × Bool:=if refd k=true then(bZ k,false) else(gP (vh (bZ k) p.toNat ⟨2,(nth k.F.R.J o.toNat).j⟩) (nth k.F.R.J p.toNat).j,true)
def iV(m:aU)(a v:Int):aU × Int:=
 if(ac m.R (a / 16)).e=0 then(m,1) else if(ac m.R (a / 16)).e=1 then(m,2) else
 (⟨⟨m.W.T.set (ac m.R (a / 16)).j.toNat ((nth m.W.T (ac m.R (a / 16)).j.toNat).set (a % 16).toNat v),m.W.a5⟩,m.R⟩,0)
theorem Ge(m:aU)(f:Nat)(c v:Int):aU.enc .own ⟨⟨m.W.T.set f ((nth m.W.T f).set c.toNat v),m.W.a5⟩,m.R⟩ = (aU.enc .own m).set 0 (.s .own ((m.W.T.map (aG .own)).set f [.s .own (((nth m.W.T f).map (rI .own)).set c.toNat [I v])])):=by
 simp[aU.enc,I5,aG,rI]
def jmay(k:ah)(j:cM):Bool:=(a8 k&&decide (k.Calls≠100000))&&(jH j&&decide ((ac k.F.R j.X.a3).e≠0/\(ac k.F.R j.X.a1).e≠0/\(ac k.F.R j.X.a3).j≠(ac k.F.R j.X.a1).j))
def jstep(k:ah)(j:cM):ah × cM:=
 if j.b2=0 then((jA k j.X.a1 1).1,{j with b2:=if(jA k j.X.a1 1).2=true then 1 else 5})
 else if j.b2=1 then(if j.d=j.X.T.length then(k,{j with b2:=2}) else(ri k j.X.a1 j.X.a3 (nth j.X.T j.d.toNat),{j with d:=j.d+1}))
 else if j.b2=2 then((vc k j.X.a1 j.X.a3).1,{j with b2:=if(vc k j.X.a1 j.X.a3).2=true then 4 else 3})
 else if j.b2=3 then(if 0<j.d then({k with F:=(iV k.F (j.X.a3*16+nth j.X.T (j.d - 1).toNat) 0).1},{j with d:=j.d - 1}) else((jA k j.X.a1 2).1,{j with b2:=if(jA k j.X.a1 2).2=true then 5 else 3}))
 else(k,j)
theorem Kg{k:ah}{f:Int}(h1:∀j,j<k.y.length->0<=nth k.y j)(d:cU k.F.W=true)(g:gf k.F.R k.F.W.a5.length=true)(h:∀j:Nat,j<k.F.W.a5.length->(j:Int)≠f->nth k.F.W.a5 j=decide (0<(pagesOn k.F.R (j:Int)).length))(t:0<=f/\f<k.F.W.a5.length)(l:nth k.F.W.a5 f.toNat=true)(i:0<=k.Calls/\k.Calls<=100000/\k.y.length<=40):a8 (gP k f)=true:=by
 obtain⟨n,o,p,q⟩:=aX.1 d;unfold gP;split
 ·rename_i c
  rw[aE];simp only[O1];refine⟨h1,?_,g,λj b=>?_,i⟩
  ·rw[aX]
   simp only[O1,bB];refine⟨n,o,p,λj b=>?_⟩;by_cases a:f.toNat=j
   ·rw[C9 ⟨a,b⟩,C9 ⟨a,ω⟩];decide
   rw[C8 (λe=>a e.1),C8 (λe=>a e.1)];exact q j b
  rw[bB];by_cases a:f.toNat=j
  ·rw[C9 ⟨a,b⟩]
   have:(j:Int)=f:=ω
   rw[this];exact(T0 λr=>absurd c (Nat.ne_of_gt r)).symm
  rw[C8 (λe=>a e.1)];exact h j b ω
 rename_i c;rw[aE];refine⟨h1,d,g,λj b=>?_,i⟩;by_cases a:(j:Int)=f
 ·rw[a,show j=f.toNat by omega,l]
  exact(O0 (Nat.pos_of_ne_zero c)).symm
 exact h j b a
def tEq(t a:aI):Prop:=a.J.length=t.J.length/\∀q:Nat,((nth a.J q).e≠0↔(nth t.J q).e≠0)/\(nth a.J q).j=(nth t.J q).j
theorem tEq.refl(t:aI):tEq t t:=⟨rfl,λ_=>⟨Iff.rfl,rfl⟩⟩
theorem tEq.of{t a:aI}(h:a=t):tEq t a:=by rw[h];exact tEq.refl t
theorem tEq.pagesOn{t a:aI}(h:tEq t a)(f:Int):Ab.pagesOn a f=Ab.pagesOn t f:=by
 unfold Ab.pagesOn jI;rw[h.1]
 congr 1
 refine List.filter_congr λq _=>?_
 obtain⟨b,c⟩:=h.2 q;unfold JR;rw[c];exact decide_eq_decide.2 (and_congr b Iff.rfl)
theorem AU{k:ah}(h:a8 k=true){a:aI}(c:tEq k.F.R a)(i:∀q,q<a.J.length->0<=(nth a.J q).e/\(nth a.J q).e<=2):a8 {k with F:=⟨k.F.W,a⟩} = true:=by
 obtain⟨l,n,o,p,r⟩:=aE.1 h;obtain⟨t,u,w⟩:=bv.1 o;rw[aE];refine⟨l,n,bv.2 ⟨λj b=>?_,?_,?_⟩,λj b=>?_,r⟩
 ·replace b:j<a.J.length:=b
  have e:=t j (by rw[<-c.1];exact b);have d:=i j b;obtain⟨g,y⟩:=c.2 j;show kj _ (nth a.J j)=true;unfold kj at e |-;rw[C0]at e |-;rw[y];refine⟨d.1,d.2,λf=>e.2.2.1 (Classical.byContradiction λA=>(g.2 A) f),λf=>e.2.2.2 (g.1 f)⟩
 ·show 1<=a.J.length;rw[c.1];exact u
 ·show a.J.length<=32;rw[c.1];exact w
 show nth k.F.W.a5 j=decide (0<(Ab.pagesOn a (j:Int)).length);rw[c.pagesOn];exact p j b
theorem m9{k:ah}(h:a8 k=true)(f:k.Calls≠100000):a8 (bZ k)=true:=by
 obtain⟨a,b,c,d,g,i,e⟩:=aE.1 h;rw[aE];exact⟨a,b,c,d,by show 0<=k.Calls+1;omega,by show k.Calls+1<=100000;omega,e⟩
theorem sL{k:ah}{p m:Int}(a:(nth k.F.R.J p.toNat).e≠0)(b:m=1\/m=2):tEq k.F.R (ja k p m).F.R:=by
 refine⟨by simp[ja],λq=>?_⟩;simp only[ja,bB];split
 ·rename_i e
  rw[<-e.1];exact⟨⟨λ_=>a,λ_=>by show m≠0;omega⟩,rfl⟩
 exact⟨Iff.rfl,rfl⟩
theorem MI{k:ah}(h:a8 k=true){p m:Int}(d:(nth k.F.R.J p.toNat).e≠0)(a:m=1\/m=2):a8 (ja k p m)=true:=by
 refine AU h (sL d a) λq e=>?_
 obtain⟨i,j,f,l,n⟩:=aE.1 h;obtain⟨g,o,r⟩:=bv.1 f;have c:q<k.F.R.J.length:=by rw[<-(sL d a).1];exact e
 have b:=g q c;unfold kj at b;rw[C0]at b;simp only[bB];split
 ·show 0<=m/\m<=2;omega
 exact⟨b.1,b.2.1⟩
theorem EK{k:ah}{p m:Int}(h:a8 k=true)(c:k.Calls≠100000)(b:(ac k.F.R p).e≠0)(a:m=1\/m=2):a8 (jA k p m).1=true/\tEq k.F.R (jA k p m).1.F.R:=by
 obtain⟨e,f,d,-⟩:=ce h b;rw[d]at b;unfold jA;split
 ·exact⟨m9 h c,tEq.refl _⟩
 exact⟨MI (m9 h c) b a,sL (k:=bZ k) b a⟩
theorem gn{k:ah}(h:a8 k=true){p:Int}(b:(ac k.F.R p).e≠0):bF k p<k.F.W.T.length/\nth k.F.W.a5 (bF k p)=true/\((bF k p:Nat):Int)=(nth k.F.R.J p.toNat).j:=by
 obtain⟨f,g,a,i,j⟩:=ce h b;obtain⟨l,d,n,e,o⟩:=aE.1 h;obtain⟨q,r,t,u⟩:=aX.1 d;have c:((bF k p:Nat):Int)=(ac k.F.R p).j:=by unfold bF;omega
 refine⟨ω,?_,by rw[c,a]⟩;rw[e _ ω,c];refine O0 (dS.2 ⟨p.toNat,ω,?_,?_⟩)
 ·rw[<-a];exact b
 rw[<-a]
theorem ME{k:ah}(h:a8 k=true){f:Nat}{a:List Int}(c:a.length=16)(d:∀v∈a,0<=v/\v<=999)(g:nth k.F.W.a5 f=true):a8 {k with F:=⟨⟨k.F.W.T.set f a,k.F.W.a5⟩,k.F.R⟩} = true:=by
 obtain⟨i,l,n,o,p⟩:=aE.1 h;obtain⟨q,r,t,u⟩:=aX.1 l;refine aE.2 ⟨i,aX.2 ⟨?_,?_,?_,λj b=>?_⟩,n,o,p⟩
 ·simp only[O1];exact q
 ·simp only[O1];exact r
 ·simp only[O1];exact t
 simp only[O1]at b |-;simp only[bB];split
 ·rename_i e
  obtain⟨rfl,-⟩:=e;unfold gM;simp only[I0,C0,W3];refine⟨c,λv w=>?_⟩;have:=d v w;unfold iy;simp[g,this]
 exact u j b
theorem sZ{k:ah}(h:a8 k=true){f:Nat}(b:f<k.F.W.T.length):(nth k.F.W.T f).length=16/\∀v∈nth k.F.W.T f,0<=v/\v<=999:=by
 obtain⟨g,c,i,j,l⟩:=aE.1 h;obtain⟨n,o,p,d⟩:=aX.1 c;have a:=d f b;unfold gM at a;simp only[I0,C0,W3]at a;refine⟨a.1,λv e=>?_⟩;have:=a.2 v e;unfold iy at this;simp only[I0,C0]at this;exact this.1
theorem qR{k:ah}(h:a8 k=true){f:Nat}(b:f<k.F.W.T.length)(d:nth k.F.W.a5 f=true){c v:Int}(e:0<=v/\v<=999):a8 (setCell k f c v)=true:=by
 obtain⟨g,i⟩:=sZ h b;refine ME h (by rw[O1];exact g) (λz a=>?_) d;rcases T5 a with a|rfl
 ·exact i z a
 exact e
theorem Lb{k:ah}(h:a8 k=true){a b c:Int}(d:(ac k.F.R a).e≠0)(e:(ac k.F.R b).e≠0)(l:0<=c/\c<=15):a8 (ri k a b c)=true:=by
 obtain⟨f,n,-⟩:=gn h d;obtain⟨g,i,-⟩:=gn h e;obtain⟨o,j⟩:=sZ h f;exact qR h g i (j _ (am ω))
theorem Lw{k:ah}{p o:Int}(h:a8 k=true)(u:k.Calls≠100000)(i:(ac k.F.R p).e≠0)(d:(ac k.F.R o).e≠0)(w:p≠o):a8 (vc k p o).1=true:=by
 unfold vc;split
 ·exact m9 h u
 obtain⟨O,y,A⟩:=gn h i;obtain⟨P,Q,R⟩:=gn h d;obtain⟨S,T,B,r,t⟩:=ce h i;obtain⟨U,V,C,D,E⟩:=ce h d;obtain⟨F,G,H,J,W,X,K⟩:=aE.1 h;obtain⟨L,M,N⟩:=bv.1 H;rw[C]at D E d;rw[B]at r t i;have a:∀q,nth (k.F.R.J.set p.toNat ⟨2,(nth k.F.R.J o.toNat).j⟩) q=if p.toNat=q then⟨2,(nth k.F.R.J o.toNat).j⟩ else nth k.F.R.J q:=λq=>by
  rw[bB];by_cases f:p.toNat=q
  ·rw[C9 ⟨f,ω⟩,C9 f]
  rw[C8 (λe=>f e.1),C8 f]
 refine Kg F G (bv.2 ⟨λj c=>?_,?_,?_⟩) (λj c l=>?_) ⟨r,t⟩ (by rw[<-A];exact y) ⟨by show 0<=k.Calls+1;omega,by show k.Calls+1<=100000;omega,K⟩
 ·simp only[vh,bZ,O1]at c |-
  rw[a];split
  ·unfold kj;rw[C0];simp only;omega
  exact L j c
 ·simp only[vh,bZ,O1];exact M
 ·simp only[vh,bZ,O1];exact N
 replace c:j<k.F.W.a5.length:=c;show nth k.F.W.a5 j=_;rw[J j c];refine decide_eq_decide.2 ?_;rw[dS,dS];simp only[vh,bZ,O1,a];constructor
 ·rintro⟨q,n,g,b⟩
  refine⟨q,n,?_⟩;rw[C8 (λe=>l (by rw[<-b,<-e]))];exact⟨g,b⟩
 rintro⟨q,n,g,b⟩
 by_cases e:p.toNat=q
 ·rw[C9 e]at b
  exact⟨o.toNat,ω,d,b⟩
 rw[C8 e]at g b;exact⟨q,n,g,b⟩
theorem Hn{k:ah}{p o:Int}(h:a8 k=true)(b:(ac k.F.R p).e≠0)(a:(vc k p o).2=true)(q:Nat):(vc k p o).1.F.R.J.length=k.F.R.J.length/\nth (vc k p o).1.F.R.J q=if(q:Int)=p then⟨2,(nth k.F.R.J o.toNat).j⟩ else nth k.F.R.J q:=by
 obtain⟨d,f,-⟩:=ce h b;unfold vc at a |-;split at a
 ·cases a
 rename_i c;rw[C8 c];simp only[(mA _ _).1];simp only[vh,bZ,O1,bB];refine⟨trivial,?_⟩;by_cases e:(q:Int)=p
 ·rw[C9 ⟨ω,ω⟩,C9 e]
 rw[C8 λz=>e ω,C8 e]
theorem Lk{k:ah}{p o:Int}(a:(vc k p o).2=false):(vc k p o).1=bZ k:=by
 unfold vc at a |-;split
 ·rfl
 rename_i b;rw[C8 b]at a;cases a
theorem J0{k:ah}{a v:Int}(h:a8 k=true)(g:0<=a)(b:0<=v/\v<=999):a8 {k with F:=(iV k.F a v).1} = true/\(iV k.F a v).1.R=k.F.R:=by
 unfold iV;split
 ·exact⟨h,rfl⟩
 rename_i d;split
 ·exact⟨h,rfl⟩
 obtain⟨e,f,-⟩:=gn h d;exact⟨qR h e f (c:=a % 16) b,rfl⟩
def oh(t:aI)(p:Int):Prop:=∀q:Nat,(nth t.J q).e≠0->(nth t.J q).j=(nth t.J p.toNat).j->(q:Int)=p
structure JI(h:ab):Prop where
 ph:h.u=true->0<=h.Z.b2/\h.Z.b2<=3
 sp:h.u=true->∃a∈h.K,∃b∈h.K,a.Q=h.Z.X.a3/\b.Q=h.Z.X.a1/\meshable a b=true
 sk:h.u=true->oh (tbl h) h.Z.X.a3
 sm:h.u=true->oh (tbl h) h.Z.X.a1
theorem oh.tEq{t a:aI}{p:Int}(h:oh t p)(b:tEq t a):oh a p:=λq c d=>by
 obtain⟨e,f⟩:=b.2 q;exact h q (e.1 c) (by rw[<-f,<-(b.2 p.toNat).2];exact d)
theorem Pg.tEq{t b:aI}{c:List aA}{sp:List ax}{la:List a7}(h:Pg t c sp la)(a:tEq t b):Pg b c sp la where
 one l hl p hp q hq h1 h2:=h.one l hl p hp q (by rw[<-a.1];exact hq) ((a.2 q).1.1 h1) (by rw[<-(a.2 q).2,<-(a.2 p).2];exact h2)
 bnd p hp:=by rw[a.1];exact h.bnd p hp
 own p hp:=(a.2 p).1.trans (h.own p (by rw[<-a.1];exact hp))
 fre p hp:=(a.2 p).1.trans (h.fre p (by rw[<-a.1];exact hp))
 mesh s hs u hu hne hf:=h.mesh s hs u hu hne (by rw[<-(a.2 _).2,<-(a.2 u.Q.toNat).2];exact hf)
theorem aZ.step{h:ab}{E:List Int}(a:aZ h E){k:ah}(b:a8 k=true)(c:k.F.R.J.length=(tbl h).J.length)(d:Pg k.F.R h.w h.K h.M){j:cM}{m:Bool}(h1:m=true->jH j=true/\(∃s∈h.K,s.Q=j.X.a3)/\∃s∈h.K,s.Q=j.X.a1)(e:m=false->ss j=true):aZ {h with G:=k,u:=m,Z:=j} E:=
 {a with
   ker:=b
   rng:=by show b8 ((k.F.R.J.length:Nat):Int) h.w=true;rw[c];exact a.rng
   pg:=d
   job:=h1
   noj:=e}
theorem qx.apart{sp:List ax}{la:List a7}(b:qx sp la){s:ax}(c:s∈sp){l:a7}(d:l∈la){p:Int}(a:p∈lpgs l l.a2.toNat):s.Q≠p:=by
 unfold lpgs at a;simp only[t4,List.mem_range]at a;obtain⟨k,e,rfl⟩:=a;exact b.dis s c l d k e
theorem Pg.on{t H:aI}{Q:List aA}{sp:List ax}{la:List a7}(h:Pg t Q sp la)(r:qx sp la){a b:ax}(w:a∈sp)(L:b∈sp)(R:meshable a b=true)(A:oh t a.Q)(M:(nth t.J a.Q.toNat).e≠0)(N:(nth t.J b.Q.toNat).e≠0)(U:0<=b.Q)(J:H.J.length=t.J.length)(B:∀q:Nat,nth H.J q=if(q:Int)=b.Q then⟨2,(nth t.J a.Q.toNat).j⟩ else nth t.J q):Pg H Q sp la:=by
 have c:∀q:Nat,(nth H.J q).e≠0↔(nth t.J q).e≠0:=λq=>by
  rw[B];split
  ·rename_i e
   rw[show q=b.Q.toNat by omega];exact⟨λ_=>N,λ_=>by show(2:Int)≠0;omega⟩
  rfl
 have V:0<=a.Q:=by have:=r.sok a w;unfold bg at this;rw[C0]at this;omega
 refine⟨λl k p g q W S C=>?_,λp g=>by rw[J];exact h.bnd p g,λp g=>(c p).trans (h.own p (by rw[<-J];exact g)),λp g=>(c p).trans (h.fre p (by rw[<-J];exact g)),λs D u E F n=>?_⟩
 ·have O:¬(p:Int)=b.Q:=λe=>r.apart L k g e.symm
  rw[B p,C8 O,B q]at C;rw[c]at S;by_cases e:(q:Int)=b.Q
  ·rw[C9 e]at C
   have T:=h.one l k p g a.Q.toNat (by have:=h.bnd _ (d7 (la:=la) w);omega) M C;exact absurd (show a.Q=(p:Int) by omega) (r.apart w k g)
  rw[C8 e]at C;exact h.one l k p g q (by rw[<-J];exact W) S C
 have X:0<=s.Q:=by have:=r.sok s D;unfold bg at this;rw[C0]at this;omega
 have Y:0<=u.Q:=by have:=r.sok u E;unfold bg at this;rw[C0]at this;omega
 have d:∀x∈sp,∀y∈sp,x.Q=y.Q->x=y:=λx G y Z e=>by
  obtain⟨i,hi,rfl⟩:=aK G;obtain⟨j,hj,rfl⟩:=aK Z;rw[cG (f:=(·.Q)) r.nd hi hj e]
 have o:∀x∈sp,(nth t.J x.Q.toNat).e≠0:=λx G=>by
  have hx0:0<=x.Q:=by have:=r.sok x G;unfold bg at this;rw[C0]at this;omega
  refine(h.own x.Q.toNat (by have:=h.bnd _ (d7 (la:=la) G);omega)).2 ?_;rw[show((x.Q.toNat:Nat):Int)=x.Q by omega];exact d7 G
 rw[B,B]at n;simp only[show((s.Q.toNat:Nat):Int)=s.Q by omega,show((u.Q.toNat:Nat):Int)=u.Q by omega]at n;by_cases K:s.Q=b.Q
 ·rw[C9 K,C8 (λe=>F (K.trans e.symm))]at n
  have T:=A u.Q.toNat (o u E) n.symm;rw[d s D b L K,d u E a w ω,gE];exact R
 rw[C8 K]at n;by_cases P:u.Q=b.Q
 ·rw[C9 P]at n
  have T:=A s.Q.toNat (o s D) n;rw[d u E b L P,d s D a w ω];exact R
 rw[C8 P]at n;exact h.mesh s D u E F n
def over(j:cM):Bool:=decide (j.b2=4\/j.b2=5)
def gK(k:ah)(j:cM):ah × cM:=if jmay k j=true then jstep k j else(k,j)
def mStep(h:ab):ab:={h with G:=(gK h.G h.Z).1,u:=if over (gK h.G h.Z).2=true then false else h.u,Z:=if over (gK h.G h.Z).2=true then⟨⟨0,0,[]⟩,0,0⟩ else(gK h.G h.Z).2}
def Ed(h:ab):Bool:=decide ((gK h.G h.Z).2.b2=4)
theorem dw{j:cM} : jH j=true↔eH j.X=true/\0<=j.b2/\j.b2<=5/\0<=j.d/\j.d<=j.X.T.length:=by
 unfold jH;simp only[I0,C0]
theorem fW{p:cP}(h:eH p=true){i:Nat}(a:i<p.T.length):0<=nth p.T i/\nth p.T i<=15:=by
 unfold eH at h;simp only[I0]at h;have:=dL h.1 a;unfold lY at this;rw[C0]at this;exact⟨this.1,this.2.1⟩
structure JS(h:ab)(k:ah)(j:cM):Prop where
 ker:a8 k=true
 len:k.F.R.J.length=(tbl h).J.length
 pg:j.b2≠4\/JI h->Pg k.F.R h.w h.K h.M
 ph:0<=j.b2/\j.b2<=5
 plan:j.X=h.Z.X
 nxt:0<=j.d/\j.d<=j.X.T.length
 eq:j.b2≠4->tEq (tbl h) k.F.R
 calls:h.G.Calls<=k.Calls/\k.Calls<=h.G.Calls+1/\k.y=h.G.y
theorem wc(k:ah)(p m:Int):(jA k p m).1.Calls=k.Calls+1/\(jA k p m).1.y=k.y:=by
 unfold jA;split<;>exact⟨rfl,rfl⟩
theorem MG(k:ah)(p o:Int):(vc k p o).1.Calls=k.Calls+1/\(vc k p o).1.y=k.y:=by
 unfold vc;split
 ·exact⟨rfl,rfl⟩
 obtain⟨-,a,b,-⟩:=mA (vh (bZ k) p.toNat ⟨2,(nth k.F.R.J o.toNat).j⟩) (nth k.F.R.J p.toNat).j;simp only[a,b];exact⟨rfl,rfl⟩
theorem JS.of{h:ab}{E:List Int}(c:aZ h E)(B:h.u=true):JS h (gK h.G h.Z).1 (gK h.G h.Z).2:=by
 obtain⟨R,-,-⟩:=c.job B;obtain⟨O,y,A,o,p⟩:=dw.1 R;unfold gK;split
 case isFalse=>exact⟨c.ker,rfl,λ_=>c.pg,⟨y,A⟩,rfl,⟨o,p⟩,λ_=>tEq.refl _,T4 _,by show h.G.Calls<=h.G.Calls+1;omega,rfl⟩
 rename_i d;unfold jmay at d;simp only[I0,C0]at d;obtain⟨⟨-,C⟩,-,u,r,D⟩:=d;have fin:∀(k:ah)(j:cM),a8 k=true->tEq (tbl h) k.F.R->0<=j.b2/\j.b2<=5->j.X=h.Z.X->0<=j.d/\j.d<=j.X.T.length->h.G.Calls<=k.Calls/\k.Calls<=h.G.Calls+1/\k.y=h.G.y->JS h k j:=
  λk j S F T U V W=>⟨S,F.1,λ_=>c.pg.tEq F,T,U,V,λ_=>F,W⟩
 have P:=(aE.1 c.ker).2.2.2.2;unfold jstep;split
 ·obtain⟨l,w⟩:=EK c.ker C r (m:=1) (.inl rfl)
  obtain⟨g,t⟩:=wc h.G h.Z.X.a1 1;refine fin _ _ l w ?_ rfl ⟨o,p⟩ ⟨by rw[g];omega,by rw[g];omega,t⟩;show 0<=(if _ then _ else _:Int)/\(if _ then _ else _:Int)<=5;split<;>omega
 split
 ·split
  ·exact fin _ _ c.ker (tEq.refl _) ⟨by show(0:Int)<=2;omega,by show(2:Int)<=5;omega⟩ rfl ⟨o,p⟩ ⟨T4 _,by show h.G.Calls<=h.G.Calls+1;omega,rfl⟩
  have n:=fW O (i:=h.Z.d.toNat) ω;refine fin _ _ (Lb c.ker r u n) (tEq.refl _) ⟨y,A⟩ rfl ⟨by show 0<=h.Z.d+1;omega,by show h.Z.d+1<=h.Z.X.T.length;omega⟩ ⟨T4 _,by show h.G.Calls<=h.G.Calls+1;omega,rfl⟩
 split
 ·have G:h.Z.X.a1≠h.Z.X.a3:=λe=>D (by rw[e])
  have l:=Lw c.ker C r u G;obtain⟨g,t⟩:=MG h.G h.Z.X.a1 h.Z.X.a3;cases e:(vc h.G h.Z.X.a1 h.Z.X.a3).2 with
  | false=>
   rw[C8 (by simp)];refine fin _ _ l (tEq.of ?_) ⟨by show(0:Int)<=3;omega,by show(3:Int)<=5;omega⟩ rfl ⟨o,p⟩ ⟨by rw[g];omega,by rw[g];omega,t⟩;rw[Lk e];rfl
  | true=>
   rw[C9 rfl];obtain⟨X,m2,Y,-⟩:=ce c.ker r;obtain⟨n1,n2,Z,-⟩:=ce c.ker u;have f:=Hn c.ker r e;refine⟨l,(f 0).1,λH=>?_,⟨by show(0:Int)<=4;omega,by show(4:Int)<=5;omega⟩,rfl,⟨o,p⟩,λJ=>absurd rfl J,by rw[g];omega,by rw[g];omega,t⟩;have Q:JI h:=H.elim (λJ=>absurd rfl J) id;obtain⟨a,ha,b,hb,K,M,N⟩:=Q.sp B;refine c.pg.on c.L ha hb N (by rw[K];exact Q.sk B) (by rw[K];show(nth h.G.F.R.J _).e≠0;rw[<-Z];exact u) (by rw[M];show(nth h.G.F.R.J _).e≠0;rw[<-Y];exact r) (by rw[M];exact X) (f 0).1 λq=>?_
   rw[(f q).2,M,K];rfl
 split
 ·split
  ·rename_i hn0
   have n:=fW O (i:=(h.Z.d - 1).toNat) ω;have hk0:=(ce c.ker u).1;obtain⟨l,w⟩:=J0 c.ker (a:=h.Z.X.a3*16+nth h.Z.X.T (h.Z.d - 1).toNat) (v:=0) ω ⟨ω,ω⟩;exact fin _ _ l (tEq.of w) ⟨y,A⟩ rfl ⟨by show 0<=h.Z.d - 1;omega,by show h.Z.d - 1<=h.Z.X.T.length;omega⟩ ⟨T4 _,by show h.G.Calls<=h.G.Calls+1;omega,rfl⟩
  obtain⟨l,w⟩:=EK c.ker C r (m:=2) (.inr rfl);obtain⟨g,t⟩:=wc h.G h.Z.X.a1 2;refine fin _ _ l w ?_ rfl ⟨o,p⟩ ⟨by rw[g];omega,by rw[g];omega,t⟩;show 0<=(if _ then _ else _:Int)/\(if _ then _ else _:Int)<=5;split<;>omega
 exact fin _ _ c.ker (tEq.refl _) ⟨y,A⟩ rfl ⟨o,p⟩ ⟨T4 _,by show h.G.Calls<=h.G.Calls+1;omega,rfl⟩
theorem aZ.mStep{h:ab}{E:List Int}(d:aZ h E)(f:JI h)(c:h.u=true):aZ (mStep h) E/\JI (mStep h):=by
 have s:=JS.of d c;unfold Ab.mStep;generalize (gK h.G h.Z).1=k at s |-;generalize (gK h.G h.Z).2=j at s |-;cases e:over j with
 | true=>
  refine⟨d.step s.ker s.len (s.pg (.inr f)) (λh=>by simp at h) (λ_=>by simp[ss]),?_⟩;exact⟨λh=>by simp at h,λh=>by simp at h,λh=>by simp at h,λh=>by simp at h⟩
 | false=>
  simp only[Bool.false_eq_true,if_false];unfold over at e;simp only[I4,not_or]at e;have g:=s.eq e.1;have i:=s.ph;refine⟨d.step s.ker s.len (s.pg (.inr f)) (λ_=>⟨dw.2 ⟨by rw[s.plan];exact(dw.1 (d.job c).1).1,s.ph.1,s.ph.2,s.nxt⟩,by rw[s.plan];exact(d.job c).2⟩) (λh=>by rw[c]at h;cases h),?_⟩;refine⟨λ_=>⟨s.ph.1,by show j.b2<=3;omega⟩,λ_=>?_,λ_=>?_,λ_=>?_⟩
  ·show ∃a∈h.K,∃b∈h.K,a.Q=j.X.a3/\b.Q=j.X.a1/\meshable a b=true
   rw[s.plan];exact f.sp c
  ·show oh k.F.R j.X.a3
   rw[s.plan];exact(f.sk c).tEq g
  show oh k.F.R j.X.a1;rw[s.plan];exact(f.sm c).tEq g
def f7(k:ah)(a:Int):Int:=nth (nth k.F.W.T (ac k.F.R (a / 16)).j.toNat) (a % 16).toNat
def cellsOf(k:ah)(a:Int)(n:Nat):List Int:=(List.range n).map λ(i:Nat)=>f7 k (a+i)
theorem lJ(k:ah)(a:Int)(n:Nat):(cellsOf k a n).length=n:=by simp[cellsOf]
theorem En{k:ah}(b:a8 k=true)(p:Int):0<=(ac k.F.R p).j/\(ac k.F.R p).j<k.F.W.T.length:=by
 obtain⟨-,c,d,-⟩:=aE.1 b;obtain⟨e,f,g,h⟩:=aX.1 c;unfold ac;split
 ·rename_i i
  have:=(bv.1 d).1 p.toNat ω;unfold kj at this;rw[C0]at this;by_cases a:(nth k.F.R.J p.toNat).e=0
  ·have:=this.2.2.1 a;omega
  have:=this.2.2.2 a;omega
 simp only;omega
theorem M8{k:ah}(a:a8 k=true){j:Nat}(b:j<k.F.W.T.length):(nth k.F.W.T j).length=16/\∀i,i<16->0<=nth (nth k.F.W.T j) i/\nth (nth k.F.W.T j) i<=999:=by
 obtain⟨-,c,-⟩:=aE.1 a;obtain⟨e,f,g,d⟩:=aX.1 c;have:=d j b;unfold gM at this;rw[I0,C0,W3]at this;refine⟨this.1,λi l=>?_⟩;have h:=this.2 _ (am (xs:=nth k.F.W.T j) (i:=i) ω);unfold iy at h;rw[I0,C0]at h;exact h.1
theorem rx{sp:List ax}{la:List a7}{a:Int}(h:(denotes sp la a).b6=1):∃i:Nat,i<sp.length/\(denotes sp la a).c4=i/\cu (nth sp i) a=true/\denotes sp la a=og i (nth sp i) a:=by
 unfold denotes at h |-;cases e:sp.findIdx? (cu · a) with
 | some i=>
  obtain⟨b,d,-⟩:=Y5.1 e;refine⟨i,b,rfl,?_,rfl⟩;rw[bj (Z1 b)];exact d
 | none=>
  rw[e]at h;simp only at h;cases c:la.findIdx? (aY · a) with
  | some i=>rw[c]at h;simp at h
  | none=>rw[c]at h;simp at h
theorem Dw{sp:List ax}{la:List a7}{a:Int}(h:(denotes sp la a).b6=3):∃i:Nat,i<la.length/\(denotes sp la a).c4=i/\aY (nth la i) a=true/\denotes sp la a = ⟨3,i,0,a - 16*(nth la i).Q⟩:=by
 unfold denotes at h |-;cases e:sp.findIdx? (cu · a) with
 | some i=>
  rw[e]at h;simp only[og]at h;split at h<;>simp at h
 | none=>
  rw[e]at h;simp only at h |-;cases b:la.findIdx? (aY · a) with
  | some i=>
   obtain⟨c,d,-⟩:=Y5.1 b;refine⟨i,c,rfl,?_,rfl⟩;rw[bj (Z1 c)];exact d
  | none=>rw[b]at h;simp at h
theorem ik{n:Int}(h:0<=aJ n):1<=n/\n<=8:=by
 unfold aJ at h;split at h
 ·omega
 split at h
 ·omega
 split at h
 ·omega
 split at h
 ·omega
 split at h<;>omega
theorem Nm{h:ab}{o:bz}(c:iF h o=true):0<=o.Addr/\o.Addr<=2000/\1<=o.o/\o.o<=1000:=by
 unfold iF at c;simp only[I0,O5,C0]at c;obtain⟨-,⟨d,e⟩|⟨d,e⟩⟩:=c
 ·obtain⟨i,f,a,b,-⟩:=rx d
  rw[a,R2]at e;unfold cu bg at b;simp only[I0,C0]at b;have:=ik (n:=o.o) ω;omega
 obtain⟨i,f,a,b,-⟩:=Dw d;rw[a,R2]at e;unfold aY bC at b;simp only[I0,C0]at b;omega
theorem x7{h:ab}(a:dM h=true):cn h=true/\eX h=true:=by
 unfold dM at a;simp only[I0]at a;exact⟨a.1.1.2,a.1.2.1⟩
theorem Pf{h:ab}(a:dM h=true):1<=h.d/\h.d<=1000000:=by
 have:=(x7 a).1;unfold cn at this;rw[C0]at this;omega
theorem NE{h:ab}(c:dM h=true){i:Nat}(f:i<h.O.length):1<=(nth h.O i).Id/\(nth h.O i).Id<h.d/\0<=(nth h.O i).Addr/\(nth h.O i).Addr<=2000/\1<=(nth h.O i).o/\(nth h.O i).o<=1000/\∀j,j<i->(nth h.O j).Id≠(nth h.O i).Id:=by
 obtain⟨-,g⟩:=x7 c;obtain⟨o,p⟩:=Pf c;have a:=dL g f;rw[eQ ω ω]at a;unfold objAt gJ at a;simp only[I0,C0,Bool.not_eq_true']at a;obtain⟨⟨k,d⟩,l⟩:=a;have b:=Nm l;refine⟨k.2.1,ω,b.1,b.2.1,b.2.2.1,b.2.2.2,λj n e=>?_⟩;rw[List.any_eq_false]at d;refine d (nth h.O j) ?_ (by unfold jU;exact O0 e);have:(h.O.take i)[j]? = some (nth h.O j):=by rw[List.getElem?_take,C9 n,ao ω]
 exact V1 this
end Go.Proofs.YtecefhjnejfheaaGreat.Ab
