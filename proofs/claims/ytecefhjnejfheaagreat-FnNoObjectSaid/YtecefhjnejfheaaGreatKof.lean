/- What holds of a heap of which addresses are in hand: all that holds of a valid one, the holders and the addresses together. No condition. -/
import Derived.Test.YtecefhjnejfheaaGreatKod
import Derived.Test.YtecefhjnejfheaaGreatKoe
import Derived.Deep.LoopGhost
import Derived.Deep.RegionLaw
import Derived.Lib.Walk
import Derived.Sort.WalkB12
import Derived.Lib.SliceRun
import Derived.Shelf.RegionOpenPlain
set_option linter.unusedVariables false
set_option linter.defProp false
set_option linter.unusedSimpArgs false
set_option linter.constructorNameAsVariable false
namespace Go.Proofs.YtecefhjnejfheaaGreat.Ab
variable{α:Type}
def wI[Inhabited α](R:Int->Int->Prop)(n:∀a b c,R a b->R b c->R a c)(f:α->Int)(xs:List α):(∀i,i<xs.length->i=0\/R (f (nth xs (i - 1))) (f (nth xs i)))↔xs.Pairwise (λa b=>R (f a) (f b)):=by
 constructor
 ·intro h
  have o:∀j i,i<j->j<xs.length->R (f (nth xs i)) (f (nth xs j)):=λj=>by
   induction j with
   | zero=>intro i d;omega
   | succ j p=>
    intro i d g;have k:=(h (j+1) g).resolve_left ω;rw[show j+1 - 1=j from rfl]at k;by_cases e:i=j
    ·subst e;exact k
    exact n _ _ _ (p i ω ω) k
  rw[List.pairwise_iff_getElem];intro i j d g l;have:=o j i l g
  rwa [bm (W2 d),bm (W2 g)]at this
 intro h i d;by_cases e:i=0
 ·exact .inl e
 right
 have:=List.pairwise_iff_getElem.1 h (i - 1) i ω d ω
 rwa [<-bm (W2 (show i - 1<xs.length by omega)),<-bm (W2 d)]at this
def Bd[Inhabited α](f:α->Int)(xs:List α):(∀i,i<xs.length->∀o∈xs.take i,f o≠f (nth xs i))↔(xs.map f).Nodup:=by
 unfold List.Nodup;rw[List.pairwise_map,List.pairwise_iff_getElem];constructor
 ·intro h i j a b c
  have:=h j b xs[i] (List.mem_take_iff_getElem.2 ⟨i,ω,rfl⟩)
  rwa [bm (W2 b)]at this
 intro h i a o d;obtain⟨j,b,rfl⟩:=List.mem_take_iff_getElem.1 d;rw[bm (W2 a)];exact h j i ω a ω
def ef(s:ax)(a:Int):Prop:=16*s.Q<=a/\a<=16*s.Q+15/\(a - 16*s.Q) % csz s.a=0/\aS s.b1 ((a - 16*s.Q) / csz s.a)=true
def kb(sp:List ax)(a c:Int):Prop:=∃s∈sp,ef s a/\(c<0\/s.a=c)
def UU(la:List a7)(a z:Int):Prop:=∃l∈la,a=16*l.Q/\l.o=z
def PR(sp:List ax)(la:List a7)(o:bn):Prop:=(∃s∈sp,ef s o.Addr/\s.a=aJ o.o)\/UU la o.Addr o.o
def Live(sp:List ax)(la:List a7)(a:Int):Prop:=kb sp a (-1)\/∃l∈la,a=16*l.Q
variable{la:List a7}{sp:List ax}
def n7(f:qH sp la)(a:Int):(∃i,i<sp.length/\(16*(nth sp i).Q<=a/\a<=16*(nth sp i).Q+15)/\denotes sp la a=oW i (nth sp i) a)\/((∀s∈sp,¬(16*s.Q<=a/\a<=16*s.Q+15))/\((∃i,i<la.length/\bf (nth la i) a=true/\denotes sp la a = ⟨3,i,0,a - 16*(nth la i).Q⟩)\/((∀l∈la,bf l a=false)/\denotes sp la a = ⟨0,0,0,0⟩))):=by
 cases c:sp.findIdx? (cK · a) with
 | some i=>
  obtain⟨b,d,-⟩:=Z7.1 c;rw[<-bm (W2 b)]at d;exact .inl ⟨i,b,(fZ (f.sok _ (am b))).1 d,by unfold denotes;rw[c]⟩
 | none=>
  have h:=List.findIdx?_eq_none_iff.1 c;refine .inr ⟨λs g j=>?_,?_⟩
  ·have:=h s g
   rw[(fZ (f.sok _ g)).2 j]at this;cases this
  cases e:la.findIdx? (bf · a) with
  | some i=>
   obtain⟨b,d,-⟩:=Z7.1 e;rw[<-bm (W2 b)]at d;exact .inl ⟨i,b,d,by unfold denotes;rw[c,e]⟩
  | none=>exact .inr ⟨List.findIdx?_eq_none_iff.1 e,by unfold denotes;rw[c,e]⟩
variable{a c:Int}{h:ab}
def NK(k:qH h.K h.M) : dr h a c=true↔kb h.K a c:=by
 unfold dr;simp only[I0,I7,C0];constructor
 ·rintro⟨⟨b,j⟩,d⟩
  rcases n7 k a with⟨i,g,l,f⟩|⟨-,⟨i,g,-,f⟩|⟨-,f⟩⟩
  ·rw[f]at b j d
   simp only[oW]at b j d;refine⟨_,am g,⟨l.1,l.2,j,?_⟩,by simpa using d⟩;cases e:aS (nth h.K i).b1 ((a - 16*(nth h.K i).Q) / csz (nth h.K i).a) with
   | true=>rfl
   | false=>rw[e]at b;simp at b
  ·rw[f]at b;simp at b
  rw[f]at b;simp at b
 rintro⟨s,n,⟨o,p,q,r⟩,d⟩
 obtain⟨i,g,rfl⟩:=aK n;rw[jU k g ⟨o,p⟩];simp only[oW,q,r,if_true,true_and];simpa using d
variable{l:a7}
def xR(a:qH sp la)(b:l∈la):(∀s∈sp,¬(16*s.Q<=16*l.Q/\16*l.Q<=16*s.Q+15))/\bf l (16*l.Q)=true/\∀i,i<la.length->bf (nth la i) (16*l.Q)=true->nth la i=l:=by
 have k:=aM (a.lok _ b);have f:=bV (a.lok _ b);refine⟨λs g n=>?_,?_,λi d e=>?_⟩
 ·exact a.dis s g l b 0 ω ω
 ·unfold bf;rw[a.lok _ b,O0 ω];rfl
 obtain⟨j,h,rfl⟩:=aK b;have o:=aM (a.lok _ (am d));have c:=a.lok _ (am d);unfold bF at c;rw[C0]at c;unfold bf at e;rw[I0,C0]at e;rw[a.one i j d h ((nth la j).Q - (nth la i).Q).toNat 0 ω ω ω]
variable{o:bn}
def NJ(f:qH h.K h.M) : jq h o=true↔PR h.K h.M o:=by
 unfold jq;simp only[I0,I7,C0];constructor
 ·rintro⟨d,a⟩
  rcases n7 f o.Addr with⟨i,b,g,c⟩|⟨-,⟨i,b,-,c⟩|⟨-,c⟩⟩
  ·rw[c]at a d
   simp only[oW]at a d;have j:aS (nth h.K i).b1 ((o.Addr - 16*(nth h.K i).Q) / csz (nth h.K i).a)=true:=by
    cases e:aS (nth h.K i).b1 ((o.Addr - 16*(nth h.K i).Q) / csz (nth h.K i).a) with
    | true=>rfl
    | false=>rw[e]at a;simp at a
   rw[j]at a;exact .inl ⟨_,am b,⟨g.1,g.2,d,j⟩,by simpa using a⟩
  ·rw[c]at a d
   simp only at a d;exact .inr ⟨_,am b,ω,by simpa using a⟩
  rw[c]at a;simp at a
 rintro(⟨s,j,⟨p,q,r,t⟩,u⟩|⟨l,k,w,y⟩)
 ·obtain⟨i,b,rfl⟩:=aK j
  rw[jU f b ⟨p,q⟩];simp only[oW,r,t,if_true,true_and];simp[u]
 obtain⟨A,n,B⟩:=xR f k;rw[w];rcases n7 f (16*l.Q) with⟨i,b,g,c⟩|⟨-,⟨i,b,C,c⟩|⟨D,c⟩⟩
 ·exact absurd g (A _ (am b))
 ·rw[c]
  have:=B i b C;simp only[this,I3];exact⟨ω,.inr ⟨trivial,y⟩⟩
 rw[D l k]at n;cases n
def Qf(d:qH sp la)(a:Int):a∈io sp la↔Live sp la a:=by
 constructor
 ·intro h
  unfold io mr at h;obtain⟨n,o,rfl⟩:=Z4.1 h;have g:=(t5.1 o).2;unfold kJ at g;simp only[I0,I7,C0]at g;obtain⟨j,f⟩:=g;rcases n7 d (n:Int) with⟨i,c,k,b⟩|⟨-,⟨i,c,-,b⟩|⟨-,b⟩⟩
  ·rw[b]at f j
   simp only[oW]at f j;refine .inl ⟨_,am c,⟨k.1,k.2,j,?_⟩,.inl ω⟩;cases e:aS (nth sp i).b1 (((n:Int) - 16*(nth sp i).Q) / csz (nth sp i).a) with
   | true=>rfl
   | false=>rw[e]at f;simp at f
  ·rw[b]at j
   simp only at j;exact .inr ⟨_,am c,ω⟩
  rw[b]at f;simp at f
 rintro(⟨s,r,⟨t,g,u,w⟩,-⟩|⟨l,p,rfl⟩)
 ·obtain⟨i,c,rfl⟩:=aK r
  have b:=jU d c ⟨t,g⟩;exact w9 d (by rw[b];exact u) (.inl (by rw[b];simp only[oW,w,if_true]))
 obtain⟨y,q,A⟩:=xR d p;rcases n7 d (16*l.Q) with⟨i,c,k,b⟩|⟨-,⟨i,c,B,b⟩|⟨o,b⟩⟩
 ·exact absurd k (y _ (am c))
 ·have:=A i c B
  exact w9 d (by rw[b];simp only[this];omega) (.inr (by rw[b]))
 rw[o l p]at q;cases q
def RH(xs:List aB)(p:Int):Prop:=∃r∈xs,r.At<=p/\p<r.At+r.b0
variable{xs:List aB}{pages:Int}
def gf : bC pages xs=true↔pG xs/\(∀y∈xs,0<=y.At/\1<=y.b0/\y.At+y.b0<=pages)/\1<=pages/\pages<=32:=by
 constructor
 ·intro h
  obtain⟨a,b⟩:=BN h;unfold bC at h;simp only[I0,C0]at h;exact⟨a,b,h.2⟩
 rintro⟨a,b,d⟩
 unfold bC;simp only[I0,C0];refine⟨ch.2 λi c=>?_,d⟩;have f:=b _ (am c);unfold gy rangeIn;simp only[I0,C0];refine⟨ω,?_⟩;by_cases e:i=0
 ·exact .inl e
 right
 have:=List.pairwise_iff_getElem.1 a.1 (i - 1) i ω c ω
 rwa [<-bm (W2 (show i - 1<xs.length by omega)),<-bm (W2 c)]at this
def FC(h:bC pages xs=true)(p:Int):xs.any (rn p)=true↔RH xs p:=by
 obtain⟨-,c,d⟩:=gf.1 h;rw[O4];refine⟨λ⟨r,a,b⟩=>⟨r,a,?_⟩,λ⟨r,a,b⟩=>⟨r,a,?_⟩⟩
 ·have:=c r a
  unfold rn at b;rw[eZ ω ω]at b;simpa using b
 have:=c r a;unfold rn;rw[eZ ω ω];simpa using b
def wE(u:Int):∀(h:List aB)(r:aB)(out:List aB),pG h->1<=r.b0->(∀y∈h,ovl y r=false)->(∀z∈out,z.At+z.b0<r.At/\∀y∈h,z.At+z.b0<y.At)->pG out->(∀y∈r::(out++h),0<=y.At/\y.At+y.b0<=u)->∃o,kN h r out false=some o/\pG o/\(∀y∈o,0<=y.At/\y.At+y.b0<=u)/\∀p,RH o p↔RH out p\/RH h p\/(r.At<=p/\p<r.At+r.b0)
 | [],r,out,_,A,_,k,l,f=>by
  refine⟨out++[r],by simp[kN],⟨List.pairwise_append.2 ⟨l.1,List.pairwise_singleton ..,λa B b f=>by rw[V1.1 f];exact(k a B).1⟩,λy n=>?_⟩,λy n=>f y (by simp at n |-;grind),λp=>by unfold RH;simp[or_and_right,exists_or]⟩;rcases V3.1 n with n|n
  ·exact l.2 y n
  rw[V1.1 n];exact A
 | y::h,r,out,g,A,H,k,l,f=>by
  have K:=g.2 y (C2 ..);have q:=H y (C2 ..);have j:=g.head;have O:=f y (by simp);have P:=f r (by simp);have C:∀w∈h,¬(w.At<r.At+r.b0/\r.At<w.At+w.b0):=λw d=>by
   have:=H w (C6 _ d);unfold ovl at this;simpa using this
  have t:∀w∈h,1<=w.b0:=λw d=>g.2 w (C6 _ d)
  rw[Mz,CB (by rw[q];simp)];unfold ovl at q;rw[C5]at q;by_cases L:y.At+y.b0=r.At
  ·rw[CD L]
   obtain⟨o,D,E,F,G⟩:=wE u h ⟨y.At,y.b0+r.b0⟩ out g.tail (by simp only;omega) (λw d=>by
     have a:=j w d;have b:=C w d;have c:=t w d;unfold ovl;rw[C5];simp only;omega) (λz i=>⟨(k z i).2 y (C2 ..),λw d=>(k z i).2 w (C6 _ d)⟩) l (λw d=>by
     rcases List.mem_cons.1 d with rfl|d
     · simp only;omega
     exact f w (by simp at d |-;grind))
   refine⟨o,D,E,F,λp=>?_⟩;rw[G];unfold RH;simp only[List.mem_cons,exists_eq_or_imp]
   grind
  rw[CB L];by_cases M:r.At+r.b0=y.At
  ·rw[CD M]
   obtain⟨o,D,E,F,G⟩:=wE u h ⟨r.At,r.b0+y.b0⟩ out g.tail (by simp only;omega) (λw d=>by
     have a:=j w d;have b:=C w d;have c:=t w d;unfold ovl;rw[C5];simp only;omega) (λz i=>⟨(k z i).1,λw d=>(k z i).2 w (C6 _ d)⟩) l (λw d=>by
     rcases List.mem_cons.1 d with rfl|d
     · simp only;omega
     exact f w (by simp at d |-;grind))
   refine⟨o,D,E,F,λp=>?_⟩;rw[G];unfold RH;simp only[List.mem_cons,exists_eq_or_imp]
   grind
  rw[CB M];by_cases N:y.At > r.At
  ·have J:r.At+r.b0<y.At:=ω
   rw[CD ⟨N,rfl⟩,qo g.tail A λw d=>by have:=j w d;omega];refine⟨_,rfl,⟨?_,λw d=>?_⟩,λw d=>f w (by simp at d |-;grind),λp=>by unfold RH;simp[or_and_right,exists_or];grind⟩
   ·rw[V6]
    refine List.pairwise_append.2 ⟨l.1,?_,λa B b f=>?_⟩
    ·show(r::y::h).Pairwise _
     refine List.pairwise_cons.2 ⟨λw d=>?_,g.1⟩;rcases List.mem_cons.1 d with rfl|d
     ·exact J
     have:=j w d;omega
    obtain⟨Q,R⟩:=k a B;have f:b∈r::y::h:=f;rcases List.mem_cons.1 f with rfl|f
    ·exact Q
    exact R b f
   simp only[V3,List.mem_cons,List.not_mem_nil,or_false]at d;rcases d with(d|rfl|rfl)|d
   ·exact l.2 w d
   ·exact A
   ·exact K
   exact t w d
  rw[CB λe=>N e.1];obtain⟨o,D,E,F,G⟩:=wE u h r (out++[y]) g.tail A (λw d=>H w (C6 _ d)) (λz i=>by
    rcases V3.1 i with i|i
    · exact⟨(k z i).1,λw d=>(k z i).2 w (C6 _ d)⟩
    rw[V1.1 i];exact⟨ω,j⟩) ⟨List.pairwise_append.2 ⟨l.1,List.pairwise_singleton ..,λa B b f=>by rw[V1.1 f];exact(k a B).2 y (C2 ..)⟩,λw d=>by
    rcases V3.1 d with d|d
    · exact l.2 w d
    rw[V1.1 d];exact K⟩ (λw d=>f w (by simp at d |-;grind))
  refine⟨o,D,E,F,λp=>?_⟩;rw[G];unfold RH;simp[or_and_right,exists_or]
  grind
def vf{r:aB}(h:bC pages xs=true)(j:0<=r.At/\1<=r.b0/\r.At+r.b0<=pages)(c:∀p,r.At<=p->p<r.At+r.b0->¬RH xs p):∃o,dO pages xs r=some o/\bC pages o=true/\∀p,RH o p↔RH xs p\/(r.At<=p/\p<r.At+r.b0):=by
 obtain⟨k,d,l⟩:=gf.1 h;have b:rangeIn pages r=true:=by unfold rangeIn;rw[C0];omega
 unfold dO;rw[CD ⟨h,b⟩];obtain⟨o,n,f,g,q⟩:=wE pages xs r [] k j.2.1 (λy a=>by
   have:=d y a;unfold ovl;rw[C5];intro i;by_cases e:r.At<=y.At
   · exact c y.At e i.1 ⟨y,a,ω,ω⟩
   · exact c r.At ω ω ⟨y,a,ω,i.2⟩) (λz t=>by cases t) ⟨List.Pairwise.nil,λy a=>by cases a⟩ (λy a=>by
   rcases List.mem_cons.1 a with rfl|a
   · omega
   have:=d y (by simpa using a);omega)
 refine⟨o,n,gf.2 ⟨f,λy a=>⟨(g y a).1,f.2 y a,(g y a).2⟩,l⟩,λp=>?_⟩;rw[q];unfold RH;simp
structure Pg(t:aH)(fr:List aB)(sp:List ax)(la:List a7):Prop where
 one:∀l∈la,∀p:Nat,(p:Int)∈lpgs l l.a1.toNat->∀q:Nat,q<t.J.length->(nth t.J q).e≠0->(nth t.J q).j=(nth t.J p).j->q=p
 bnd:∀p∈pgs sp la,p<t.J.length
 own:∀p:Nat,p<t.J.length->((nth t.J p).e≠0↔(p:Int)∈pgs sp la)
 fre:∀p:Nat,p<t.J.length->((nth t.J p).e≠0↔¬RH fr p)
 mesh:∀s∈sp,∀u∈sp,s.Q≠u.Q->(nth t.J s.Q.toNat).j=(nth t.J u.Q.toNat).j->meshable s u=true
structure aY(h:ab)(E:List Int):Prop where
 ker:aA h.G=true
 rng:bC (dQ h) h.w=true
 lay:bp h.K h.M=true
 srs:h.K.Pairwise λa b=>a.Q<b.Q
 srl:h.M.Pairwise λa b=>a.Q<b.Q
 pg:Pg (tbl h) h.w h.K h.M
 mail:bP h.q=true
 nc:h.S.length=h.q.V.length
 quar:fI h.a9=true
 snc:∀x∈h.a9.a5,x.b7<=h.b5
 cach:∀c∈h.S,bt c=true
 nums:cq h=true
 osr:h.O.Pairwise λa b=>a.Addr<b.Addr
 onu:∀o∈h.O,1<=o.Id/\o.Id<=h.d - 1/\0<=o.a4/\o.a4<=h.S.length - 1
 oid:(h.O.map (·.Id)).Nodup
 oow:∀o∈h.O,PR h.K h.M o
 hca:∀c∈h.S,∀k:Nat,k<c.b.length->∀a∈nth c.b k,kb h.K a k
 hqu:∀x∈h.a9.a5,kb h.K x.Addr x.a
 hfl:∀a∈aF h.q,kb h.K a (-1)
 hin:∀a∈E,kb h.K a (-1)
 nd:(E++holders h).Nodup
 mem:∀a,a∈E++holders h↔Live h.K h.M a
 job:h.u=true->kx h.Z=true/\(∃s∈h.K,s.Q=h.Z.X.a3)/\∃s∈h.K,s.Q=h.Z.X.a2
 noj:h.u=false->ta h.Z=true
variable{E:List Int}
def aY.L(a:aY h E):qH h.K h.M:=qH.of a.lay
def zz(t:aH)(f:Int):(pagesOn t f).Nodup:=by
 unfold pagesOn kv List.Nodup;rw[List.pairwise_map];exact(List.nodup_range.sublist List.filter_sublist).imp λh e=>h ω
def QI{l:List Int}(b:l.Nodup)(d:a∈l)(c:∀x∈l,x=a):l.length=1:=by
 match l with
 | []=>cases d
 | [_]=>rfl
 | x::y::r=>
  exfalso;have e:=c x (by simp);have f:=c y (by simp);rw[e,f]at b;simp at b
variable{s:ax}
def dH(a:s∈sp):s.Q∈pgs sp la:=by
 unfold pgs;exact V3.2 (.inl (Z4.2 ⟨s,a,rfl⟩))
variable{p:Int}
def gi(a:l∈la)(b:p∈lpgs l l.a1.toNat):p∈pgs sp la:=by
 unfold pgs;exact V3.2 (.inr (List.mem_flatMap.2 ⟨l,a,b⟩))
def UY(n:bp h.K h.M=true)(P:bC (dQ h) h.w=true)(J:pages0 h=true)(t:oN h=true):Pg (tbl h) h.w h.K h.M:=by
 have Q:=qH.of n;obtain⟨R,y,K⟩:=se J;have S:∀p:Nat,p<dQ h->((nth (tbl h).J p).e≠0↔¬RH h.w p):=λp a=>by
  have d:=J;unfold pages0 at d;simp only[I0]at d;have A:=dI d.2 a;unfold wb at A;rw[I0]at A;have L:=A.2;rw[<-FC P];cases e:h.w.any (rn (p:Int))<;>rw[e]at L<;>simpa using L
 refine⟨λl B p f q T C D=>?_,y,K,S,λs U u V E M=>?_⟩
 ·obtain⟨i,o,rfl⟩:=aK B
  obtain⟨k,w,F⟩:=d9.1 f;have a:p<dQ h:=by have:=y _ (gi (sp:=h.K) B f);omega
  have r:=(K p a).2 (gi B f);have b:=R i o k w;rw[<-F,eO a r]at b;have N:(p:Int)∈pagesOn (tbl h) (nth (tbl h).J p).j:=d7.2 ⟨a,r,rfl⟩;have O:(q:Int)∈pagesOn (tbl h) (nth (tbl h).J p).j:=d7.2 ⟨T,C,D⟩;obtain⟨z,W⟩:=List.length_eq_one_iff.1 b;rw[W]at N O;simp only[V1]at N O;omega
 obtain⟨i,o,rfl⟩:=aK U;obtain⟨j,G,rfl⟩:=aK V;have c:∀k,k<h.K.length->ac (tbl h) (nth h.K k).Q=nth (tbl h).J (nth h.K k).Q.toNat:=λk w=>by
  have X:=aC (Q.sok _ (am w));have Y:=y _ (dH (la:=h.M) (am w));rw[show(nth h.K k).Q=(((nth h.K k).Q.toNat:Nat):Int) by omega];exact xS ω
 unfold oN at t;rw[ch]at t;rcases Nat.lt_trichotomy i j with g|H|g
 ·have b:=dI (t j G) g
  unfold lU at b;rw[c i o,c j G,I7,C0]at b;rw[gR];exact b.resolve_left λe=>e M.symm
 ·subst H;exact absurd rfl E
 have b:=dI (t i o) g;unfold lU at b;rw[c i o,c j G,I7,C0]at b;exact b.resolve_left λe=>e M
def LQ(sp:List ax):cE sp.length (yb sp)=true↔sp.Pairwise λa b=>a.Q<b.Q:=by
 rw[ch];refine Iff.trans ?_ (wI (λa b:Int=>a<b) (λa b c=>Int.lt_trans) (λs:ax=>s.Q) sp);unfold yb;simp only[C0]
def M3(la:List a7):cE la.length (yB la)=true↔la.Pairwise λa b=>a.Q<b.Q:=by
 rw[ch];refine Iff.trans ?_ (wI (λa b:Int=>a<b) (λa b c=>Int.lt_trans) (λs:a7=>s.Q) la);unfold yB;simp only[C0]
def Uq(r:bp h.K h.M=true)(D:bC (dQ h) h.w=true)(h1:h.K.Pairwise λa b=>a.Q<b.Q)(E:h.M.Pairwise λa b=>a.Q<b.Q)(c:Pg (tbl h) h.w h.K h.M):pages0 h=true/\oN h=true:=by
 have A:=qH.of r;constructor
 ·unfold pages0
  simp only[I0];refine⟨⟨⟨(LQ _).2 h1,ch.2 λi o=>?_⟩,V4.2 λp d=>O0 (c.bnd p d)⟩,ch.2 λp d=>?_⟩
  ·unfold uG
   rw[I0];refine⟨dI ((M3 _).2 E) o,ch.2 λk w=>?_⟩;have y:=am o;have L:=aM (A.lok _ y);obtain⟨p,d⟩ : ∃p:Nat,(nth h.M i).Q+(k:Nat)=(p:Nat):=⟨((nth h.M i).Q+k).toNat,ω⟩
   have g:(p:Int)∈lpgs (nth h.M i) (nth h.M i).a1.toNat:=d9.2 ⟨k,w,d.symm⟩;have l:p<dQ h:=by have:=c.bnd _ (gi (sp:=h.K) y g);exact Int.ofNat_lt.1 this
   have t:=(c.own p l).2 (gi y g);unfold yZ;rw[C0,d,eO l t];refine QI (zz ..) (d7.2 ⟨l,t,rfl⟩) λx C=>?_
   obtain⟨q,rfl⟩:=vR C;obtain⟨F,G,H⟩:=d7.1 C;rw[c.one _ y p g q F G H]
  unfold wb;rw[I0,C0];refine⟨c.own p d,?_⟩;have B:=c.fre p d;rw[<-FC D]at B;cases e:h.w.any (rn (p:Int))<;>rw[e]at B<;>simpa using B
 unfold oN;refine ch.2 λi o=>ch.2 λj M=>?_
 have n:j<h.K.length:=ω
 have u:∀k,k<h.K.length->ac (tbl h) (nth h.K k).Q=nth (tbl h).J (nth h.K k).Q.toNat:=λk w=>by
  have N:=aC (A.sok _ (am w));have J:=c.bnd _ (dH (la:=h.M) (am w));rw[show(nth h.K k).Q=(((nth h.K k).Q.toNat:Nat):Int) by omega];exact xS (by unfold dQ;unfold tbl at J;omega)
 unfold lU;rw[u i o,u j n,I7,C0];by_cases e:(nth (tbl h).J (nth h.K i).Q.toNat).j=(nth (tbl h).J (nth h.K j).Q.toNat).j
 ·refine .inr (c.mesh _ (am o) _ (am n) (λK=>?_) e)
  have:=cU (f:=(·.Q)) A.nd o n K;omega
 exact .inl e
def NL(n:cq h=true)(q:qH h.K h.M):fo h=true↔(h.O.Pairwise λa b=>a.Addr<b.Addr)/\(∀o∈h.O,1<=o.Id/\o.Id<=h.d - 1/\0<=o.a4/\o.a4<=h.S.length - 1)/\(h.O.map (·.Id)).Nodup/\∀o∈h.O,PR h.K h.M o:=by
 unfold cq at n;rw[C0]at n;refine Iff.trans ?_ (and_congr (wI (λa b:Int=>a<b) (λa b c=>Int.lt_trans) (λo:bn=>o.Addr) h.O) (and_congr Iff.rfl (and_congr (Bd (λo:bn=>o.Id) h.O) Iff.rfl)));unfold fo;rw[eZ ω ω,ch];have p:∀i,i<h.O.length->(objAt (h.d - 1) h i=true↔(i=0\/(nth h.O (i - 1)).Addr<(nth h.O i).Addr)/\(1<=(nth h.O i).Id/\(nth h.O i).Id<=h.d - 1/\0<=(nth h.O i).a4/\(nth h.O i).a4<=h.S.length - 1)/\(∀o∈h.O.take i,o.Id≠(nth h.O i).Id)/\PR h.K h.M (nth h.O i)):=λi d=>by
  unfold objAt gS;rw[I0,I0,C0,NJ q,Bool.not_eq_true',List.any_eq_false];simp only[bR,C0];constructor
  ·rintro⟨⟨⟨e,f⟩,g⟩,j⟩;exact⟨e,f,g,j⟩
  rintro⟨e,f,g,j⟩;exact⟨⟨⟨e,f⟩,g⟩,j⟩
 constructor
 ·intro r
  have k:=λi d=>(p i d).1 (r i d)
  refine⟨λi d=>(k i d).1,λo l=>?_,λi d=>(k i d).2.2.1,λo l=>?_⟩
  ·obtain⟨i,d,rfl⟩:=aK l;exact(k i d).2.1
  obtain⟨i,d,rfl⟩:=aK l;exact(k i d).2.2.2
 rintro⟨e,f,g,j⟩ i d
 exact(p i d).2 ⟨e i d,f _ (am d),g i d,j _ (am d)⟩
def Hd(b:qH h.K h.M):gW h=true↔(∀c∈h.S,∀k:Nat,k<c.b.length->∀a∈nth c.b k,kb h.K a k)/\(∀x∈h.a9.a5,kb h.K x.Addr x.a)/\∀a∈aF h.q,kb h.K a (-1):=by
 rw[kA];simp only[V4,fk,ch,tn,ix,jX,NK b,and_assoc]
def Ka : 0<=eX h p↔∃s∈h.K,s.Q=p:=by
 unfold eX;rw[show(0<=cu (jI p) h.K)↔(decide (cu (jI p) h.K≥0)=true) by simp,gT,O4];simp[jI]
def aY.to(b:aY h []):cN h=true:=by
 have d:=b.L;obtain⟨g,j⟩:=Uq b.lay b.rng b.srs b.srl b.pg;have e:=(NL b.nums d).2 ⟨b.osr,b.onu,b.oid,b.oow⟩;have f:=(Hd d).2 ⟨b.hca,b.hqu,b.hfl⟩;unfold cN lJ;simp only[I0];refine⟨⟨⟨⟨⟨⟨⟨⟨⟨⟨b.ker,b.rng⟩,b.lay⟩,g⟩,by rw[Ba b.lay g];exact j⟩,?_⟩,?_⟩,V4.2 b.cach⟩,b.nums⟩,e,?_⟩,?_⟩
 ·unfold d6
  rw[b.mail,b.quar,O0 b.nc];rfl
 ·unfold mz
  exact V4.2 λx k=>O0 (b.snc x k)
 ·unfold je
  have i:(holders h).Nodup:=by simpa using b.nd
  have c:∀a,a∈holders h↔a∈io h.K h.M:=λa=>by rw[Qf d,<-b.mem a];simp
  have l:(holders h).Perm (io h.K h.M):=(List.perm_ext_iff_of_nodup i (qa ..)).2 c;rw[f,O0 i,O0 l.length_eq];rfl
 unfold vG;cases c:h.u with
 | true=>
  obtain⟨n,o,p⟩:=b.job c;rw[CD rfl,n,O0 (Ka.2 o),O0 (Ka.2 p)];rfl
 | false=>rw[CB (by simp)];exact b.noj c
def dele(xs:List α)(i:Nat):List α:=xs.take i++xs.drop (i+1)
def fK(xs:List α)(i:Nat):(dele xs i).Sublist xs:=by
 unfold dele;rw[<-List.eraseIdx_eq_take_drop_succ];exact List.eraseIdx_sublist ..
variable{i:Nat}
def Bp[Inhabited α]{xs:List α}(a:i<xs.length):xs.Perm (nth xs i::dele xs i):=by
 have:xs=xs.take i++nth xs i::xs.drop (i+1):=by rw[<-jm a,List.take_append_drop]
 conv=>lhs;rw[this]
 exact List.perm_middle
def jo{α:Type}[Inhabited α](f:α->List Int)(a:Int):∀(xs:List α)(i:Nat)(y:α),i<xs.length->((xs.set i y).flatMap f).count a+(f (nth xs i)).count a=(xs.flatMap f).count a+(f y).count a
 | [],i,_,h=>by cases h
 | x::xs,0,y,_=>by
  show((y::xs).flatMap f).count a+(f x).count a=((x::xs).flatMap f).count a+(f y).count a;rw[W7,W7,Z6,Z6];omega
 | x::xs,i+1,y,h=>by
  have:=jo f a xs i y (by simpa using h);show((x::xs.set i y).flatMap f).count a+(f (nth xs i)).count a=((x::xs).flatMap f).count a+(f y).count a;rw[W7,W7,Z6,Z6];omega
def lG(a:List (List Int)):a.flatten=a.flatMap λx=>x:=by
 induction a with
 | nil=>rfl
 | cons x xs b=>rw[List.flatten_cons,W7,b]
def kb.any(h:kb sp a c):kb sp a (-1):=by
 obtain⟨s,b,d,-⟩:=h;exact⟨s,b,d,.inl (by decide)⟩
variable{k:ah}
def aY.cells(a:aY h E)(c:aA k=true)(b:k.F.R=h.G.F.R):aY {h with G:=k} E:=
 {a with
   ker:=c
   rng:=by show bC ((k.F.R.J.length:Nat):Int) h.w=true;rw[b];exact a.rng
   pg:=by show Pg k.F.R h.w h.K h.M;rw[b];exact a.pg}
def aY.dropO(b:aY h E)(g:i<h.O.length)(j:kb h.K (nth h.O i).Addr (-1)):aY {h with O:=dele h.O i} ((nth h.O i).Addr::E):=by
 have f:(E++holders h).Perm (((nth h.O i).Addr::E)++holders {h with O:=dele h.O i}):=by
  have k:=(Bp g).map (·.Addr);refine List.perm_iff_count.2 λa=>?_
  have l:=k.count_eq a;simp only[Y6,List.count_cons]at l;simp only[holders,ce,Z6,List.cons_append,List.count_cons];omega
 have c:(dele h.O i).Sublist h.O:=fK ..;exact {b with
   osr:=b.osr.sublist c
   onu:=λo d=>b.onu o (c.subset d)
   oid:=b.oid.sublist (c.map _)
   oow:=λo d=>b.oow o (c.subset d)
   hin:=λa e=>by
     rcases List.mem_cons.1 e with rfl|e
     · exact j
     exact b.hin a e
   nd:=f.nodup_iff.1 b.nd
   mem:=λa=>by rw[<-f.mem_iff];exact b.mem a}
def nK(c:a8)(k:Nat)(a:Int):a8:=⟨c.b.set k (nth c.b k++[a])⟩
variable{t:Nat}
def aY.put{k:Nat}(g:aY h (a::E))(l:t<h.S.length)(q:k<(nth h.S t).b.length)(r:kb h.K a k)(u:bt (nK (nth h.S t) k a)=true):aY {h with S:=h.S.set t (nK (nth h.S t) k a)} E:=by
 have n:(a::E++holders h).Perm (E++holders {h with S:=h.S.set t (nK (nth h.S t) k a)}):=by
  refine List.perm_iff_count.2 λb=>?_
  have w:=jo (λc:a8=>c.b.flatten) b h.S t (nK (nth h.S t) k a) l;have p:=jo (λx:List Int=>x) b (nth h.S t).b k (nth (nth h.S t).b k++[a]) q;rw[<-lG,<-lG]at p;simp only[Z6,List.count_singleton]at p;simp only[nK]at w;simp only[holders,ce,nK,Z6,List.cons_append,List.count_cons];omega
 exact {g with
   nc:=by show(h.S.set ..).length=_;rw[W1];exact g.nc
   cach:=λc d=>by
     rcases S7 d with d|rfl
     · exact g.cach c d
     exact u
   onu:=by show ∀o∈h.O,1<=o.Id/\o.Id<=h.d - 1/\0<=o.a4/\o.a4<=(h.S.set t _).length - 1;rw[W1];exact g.onu
   hca:=λc d j i b f=>by
     rcases S7 d with d|rfl
     · exact g.hca c d j i b f
     simp only[nK,W1]at i;simp only[nK,bE]at f;by_cases e:k=j
     · subst e
       rw[CD ⟨rfl,i⟩]at f;rcases V3.1 f with f|f
       · exact g.hca _ (am l) _ i b f
       rw[V1.1 f];exact r
     rw[CB λx=>e x.1]at f;exact g.hca _ (am l) _ i b f
   hin:=λb f=>g.hin b (C6 _ f)
   nd:=n.nodup_iff.1 g.nd
   mem:=λb=>by rw[<-n.mem_iff];exact g.mem b}
def aY.toQuar{x:aN}{q:bM}{out:List aN}(d:aY h (x.Addr::E))(i:fI q=true)(f:h.a9.a5++[x]=out++q.a5)(j:x.b7<=h.b5)(k:kb h.K x.Addr x.a):aY {h with a9:=q} (out.map (·.Addr)++E):=by
 have c:∀y∈out++q.a5,y.b7<=h.b5/\kb h.K y.Addr y.a:=λy a=>by
  rw[<-f]at a;rcases V3.1 a with a|a
  ·exact⟨d.snc y a,d.hqu y a⟩
  rw[V1.1 a];exact⟨j,k⟩
 have g:(x.Addr::E++holders h).Perm ((out.map (·.Addr)++E)++holders {h with a9:=q}):=by
  refine List.perm_iff_count.2 λb=>?_
  have n:=Z0 (λl:List aN=>(l.map (·.Addr)).count b) f;simp only[W6,Z6,Y6,List.map_nil,List.count_singleton]at n;simp only[holders,ce,Z6,List.cons_append,List.count_cons];omega
 exact {d with
   quar:=i
   snc:=λy a=>(c y (V3.2 (.inr a))).1
   hqu:=λy a=>(c y (V3.2 (.inr a))).2
   hin:=λb e=>by
     rcases V3.1 e with e|e
     · obtain⟨y,a,rfl⟩:=Z4.1 e
       exact(c y (V3.2 (.inl a))).2.any
     exact d.hin b (C6 _ e)
   nd:=g.nodup_iff.1 d.nd
   mem:=λb=>by rw[<-g.mem_iff];exact d.mem b}
def zt(b i:Int):Int:=((BitVec.ofInt IntKind.i64.bits b &&& ~~~BitVec.ofInt IntKind.i64.bits (2 ^ i.toNat)).toNat:Nat)
def nl(s:ax)(i:Int):ax:={s with b1:=zt s.b1 i}
def eB(b i:Int):aS b i=true↔0<=b/\0<=i/\i<=15/\b.toNat.testBit i.toNat=true:=by
 unfold aS;rw[C0];refine and_congr_right λa=>and_congr_right λc=>and_congr_right λ_=>?_
 obtain⟨n,rfl⟩:=O3 a;rw[Nat.testBit_eq_decide_div_mod_eq,C0,I3]
 norm_cast
variable{b:Int}
def E6{i:Int}(f:0<=b/\b<=65535)(a:0<=i/\i<=15)(j:Nat):(zt b i).toNat.testBit j=(b.toNat.testBit j&&decide (i.toNat≠j)):=by
 have g:(2:Int) ^ i.toNat<=32768/\0<=(2:Int) ^ i.toNat:=by
  obtain⟨n,rfl⟩:=O3 a.1;rw[I3];have:(2:Nat) ^ n<=2 ^ 15:=Nat.pow_le_pow_right (by decide) ω;have c:((2 ^ n:Nat):Int)=(2:Int) ^ n:=Int.natCast_pow 2 n;rw[<-c];exact⟨Int.ofNat_le.2 this,Int.natCast_nonneg _⟩
 unfold zt;rw[I3,BitVec.testBit_toNat,BitVec.getLsbD_and,BitVec.getLsbD_not,<-BitVec.testBit_toNat,<-BitVec.testBit_toNat,oe ω,oe ω];rw[show((2:Int) ^ i.toNat).toNat=2 ^ i.toNat by rw[show(2:Int) ^ i.toNat=((2 ^ i.toNat:Nat):Int) by norm_cast,I3],Nat.testBit_two_pow];by_cases d:j<64
 ·rw[show decide (j<IntKind.i64.bits)=true from O0 d,Bool.true_and]
  congr 1
  by_cases e:i.toNat=j
  ·rw[O0 e,W0 (λx=>x e)];rfl
  rw[W0 e,O0 e];rfl
 rw[Nat.testBit_lt_two_pow (x:=b.toNat) (i:=j) (C4 (show b.toNat<2 ^ 16 by omega) (Nat.pow_le_pow_right (by decide) ω))]
 rfl
def DQ{i:Int}(a:0<=b/\b<=65535):0<=zt b i/\zt b i<=b:=by
 unfold zt;refine⟨ω,?_⟩;rw[BitVec.toNat_and,oe ω];have:=Nat.and_le_left (n:=b.toNat) (m:=(~~~BitVec.ofInt IntKind.i64.bits (2 ^ i.toNat)).toNat);omega
def Fb{i:Int}(a:0<=b/\b<=65535)(h:0<=i/\i<=15)(j:Int):aS (zt b i) j=true↔aS b j=true/\j≠i:=by
 rw[eB,eB,E6 a h,I0,C0];have:=DQ (i:=i) a;constructor
 ·rintro⟨k,c,d,f,g⟩;exact⟨⟨a.1,c,d,f⟩,λe=>g (by rw[e])⟩
 rintro⟨⟨k,c,d,f⟩,g⟩;exact⟨this.1,c,d,f,λe=>g ω⟩
def eS(h:bi s=true):0<=s.b1/\s.b1<=65535:=by
 unfold bi at h;simp only[C0]at h;have:=Hz s.a;omega
def J3(h:bi s=true)(i:Int):bi (nl s i)=true:=by
 have b:=eS h;have a:=DQ (i:=i) b;unfold bi at h;rw[C0]at h;obtain⟨c,d,e,f,j,g⟩:=h;exact O0 ⟨c,d,e,f,a.1,V5 a.2 g⟩
def uv{u:ax}(a:bi s=true){i:Int}(b:0<=i/\i<=15)(h:meshable s u=true):meshable (nl s i) u=true:=by
 unfold meshable at h |-;simp only[I0,C0]at h |-;obtain⟨⟨c,d⟩,e,f,g⟩:=h;refine⟨⟨J3 c i,d⟩,e,f,?_⟩;refine Nat.eq_of_testBit_eq λj=>?_
 have:=Z0 (λn=>Nat.testBit n j) g;simp only[Nat.testBit_and,Nat.zero_testBit,nl,E6 (eS a) b]at this |-;cases k:s.b1.toNat.testBit j<;>cases l:u.b1.toNat.testBit j<;>rw[k,l]at this<;>simp_all
def dD(s:ax)(a:Int):Int:=(a - 16*s.Q) / csz s.a
def qt(h:bi s=true)(c:16*s.Q<=a/\a<=16*s.Q+15):0<=dD s a/\dD s a<=15:=by
 have b:=aC h;unfold dD;rcases b9 ⟨b.2.2.1,b.2.2.2⟩ with e|e|e|e<;>rw[e]<;>omega
def xH(h:bi s=true)(d:(a - 16*s.Q) % csz s.a=0)(f:(b - 16*s.Q) % csz s.a=0)(e:dD s a=dD s b):a=b:=by
 have c:=aC h;unfold dD at e;rcases b9 ⟨c.2.2.1,c.2.2.2⟩ with z|z|z|z<;>rw[z]at d f e<;>omega
def B2(h:bi s=true)(k:ef s a)(b:Int):ef (nl s (dD s a)) b↔ef s b/\b≠a:=by
 obtain⟨l,n,o,p⟩:=k;have d:=qt h ⟨l,n⟩;unfold ef;simp only[nl];rw[Fb (eS h) d];constructor
 ·rintro⟨f,g,c,i,j⟩
  exact⟨⟨f,g,c,i⟩,λe=>j (by rw[e];rfl)⟩
 rintro⟨⟨f,g,c,i⟩,j⟩
 exact⟨f,g,c,i,λe=>j (xH h c o e)⟩
def ed[Inhabited α]{xs:List α}{y z:α}(h:z∈xs.set i y):z=y\/∃j,j<xs.length/\j≠i/\nth xs j=z:=by
 obtain⟨j,a,rfl⟩:=List.mem_iff_getElem.1 h;rw[List.getElem_set];by_cases e:i=j
 ·subst e;simp
 rw[CB e];rw[W1]at a;exact .inr ⟨j,a,λx=>e x.symm,bm (W2 a)⟩
variable{j:Nat}
def kw[Inhabited α]{xs:List α}(y:α)(a:j<xs.length)(e:j≠i):nth xs j∈xs.set i y:=by
 have:nth (xs.set i y) j=nth xs j:=by rw[bE,CB λx=>e x.1.symm]
 rw[<-this];exact am (by rw[W1];exact a)
def jg{xs:List α}(y:α)(a:i<xs.length):y∈xs.set i y:=by
 refine List.mem_iff_getElem.2 ⟨i,by rw[W1];exact a,by simp⟩
def PN(k:Int)(a:i<sp.length):(sp.set i (nl (nth sp i) k)).map (·.Q)=sp.map (·.Q):=by
 rw[C7];refine List.ext_getElem (by simp) λj b c=>?_
 rw[List.getElem_set];split
 ·rename_i e;subst e
  rw[List.getElem_map];show(nth sp i).Q=_;rw[bm (W2 a)]
 rfl
def kb.set(q:qH sp la)(k:i<sp.length)(l:ef (nth sp i) a)(b c:Int):kb (sp.set i (nl (nth sp i) (dD (nth sp i) a))) b c↔kb sp b c/\b≠a:=by
 have g:=q.sok _ (am k);constructor
 ·rintro⟨s,o,d,h⟩
  rcases ed o with rfl|⟨j,n,r,rfl⟩
  ·have:=(B2 g l b).1 d
   exact⟨⟨_,am k,this.1,h⟩,this.2⟩
  refine⟨⟨_,am n,d,h⟩,λe=>?_⟩;subst e;have:=cU (f:=(·.Q)) q.nd k n (by have t:=l.1;have u:=l.2.1;have w:=d.1;have y:=d.2.1;omega);omega
 rintro⟨⟨s,o,d,h⟩,p⟩
 obtain⟨j,n,rfl⟩:=aK o;by_cases e:j=i
 ·subst e
  exact⟨_,jg _ k,(B2 g l b).2 ⟨d,p⟩,h⟩
 exact⟨_,kw _ n e,d,h⟩
def aY.give(d:aY h (a::E))(J:i<h.K.length)(K:ef (nth h.K i) a):aY {h with K:=h.K.set i (nl (nth h.K i) (dD (nth h.K i) a))} E:=by
 have G:=d.L;have Q:=G.sok _ (am J);have M:=qt Q ⟨K.1,K.2.1⟩;have f:=λb c=>kb.set G J K b c
 have A:=PN (dD (nth h.K i) a) J;generalize R:h.K.set i (nl (nth h.K i) (dD (nth h.K i) a))=sp at f A;have q:pgs sp h.M=pgs h.K h.M:=by unfold pgs;rw[A]
 have B:=d.nd;rw[List.cons_append]at B;obtain⟨S,B⟩:=List.nodup_cons.1 B;have r:∀b,b∈E++holders h->b≠a:=λb g e=>S (by rw[<-e];exact g)
 have C:∀b,b∈holders h->b≠a:=λb g=>r b (V3.2 (.inr g))
 have T:∀l∈h.M,16*l.Q≠a:=λl O e=>(xR G O).1 _ (am J) (by have a1:=K.1;have a2:=K.2.1;omega)
 have t:∀s∈sp,∃u∈h.K,u.Q=s.Q/\(s=u\/s=nl u (dD (nth h.K i) a)):=λs p=>by
  rw[<-R]at p;rcases ed p with rfl|⟨j,hj,hji,rfl⟩
  ·exact⟨_,am J,rfl,.inr rfl⟩
  exact⟨_,am hj,rfl,.inl rfl⟩
 have N:∀u∈h.K,∃s∈sp,s.Q=u.Q:=λu y=>by
  have:u.Q∈sp.map (·.Q):=by rw[A];exact Z4.2 ⟨u,y,rfl⟩
  obtain⟨s,p,e⟩:=Z4.1 this;exact⟨s,p,e⟩
 exact {d with
   lay:=by
     obtain⟨l1,l2,l3⟩:=dv d.lay;unfold bp;simp only[I0,C0];refine⟨⟨V4.2 λs p=>?_,l2⟩,by rw[q];exact l3⟩;obtain⟨u,y,-,rfl|rfl⟩:=t s p
     · exact G.sok _ y
     exact J3 (G.sok _ y) _
   srs:=by
     have n:(h.K.map (·.Q)).Pairwise (λa b=>a<b):=List.pairwise_map.2 d.srs;rw[<-A]at n;exact List.pairwise_map.1 n
   pg:=⟨d.pg.one,by rw[q];exact d.pg.bnd,by rw[q];exact d.pg.own,d.pg.fre,λs p u y r hf=>by
     obtain⟨U,D,Z,V⟩:=t s p;obtain⟨P,F,eu,W⟩:=t u y;have n:=d.pg.mesh U D P F (by rw[Z,eu];exact r) (by rw[Z,eu];exact hf);have w:meshable s P=true:=by
       rcases V with rfl|rfl
       · exact n
       exact uv (G.sok _ D) M n
     rcases W with rfl|rfl
     · exact w
     rw[gR]at w |-;exact uv (G.sok _ F) M w⟩
   oow:=λo ho=>by
     have X:o.Addr≠a:=C _ (by unfold holders;simp only[V3];exact .inl (.inl (.inl (Z4.2 ⟨o,ho,rfl⟩))));rcases d.oow o ho with⟨s,p,n,w⟩|n
     · obtain⟨u,y,Y,H⟩:=(f o.Addr (aJ o.o)).2 ⟨⟨s,p,n,.inr w⟩,X⟩
       refine .inl ⟨u,y,Y,?_⟩;rcases H with H|H
       · have:=aC (G.sok _ p);omega
       exact H
     exact .inr n
   hca:=λc hc k hk b g=>(f b k).2 ⟨d.hca c hc k hk b g,C b (by
     unfold holders ce;simp only[V3];exact .inl (.inl (.inr (List.mem_flatMap.2 ⟨c,hc,List.mem_flatten.2 ⟨_,am hk,g⟩⟩))))⟩
   hqu:=λx hx=>(f _ _).2 ⟨d.hqu x hx,C _ (by unfold holders;simp only[V3];exact .inl (.inr (Z4.2 ⟨x,hx,rfl⟩)))⟩
   hfl:=λb g=>(f _ _).2 ⟨d.hfl b g,C _ (by unfold holders;simp only[V3];exact .inr g)⟩
   hin:=λb g=>(f _ _).2 ⟨d.hin b (C6 _ g),r b (V3.2 (.inl g))⟩
   nd:=B
   mem:=λb=>by
     show b∈E++holders h↔Live sp h.M b;have n:=d.mem b;rw[List.cons_append,List.mem_cons]at n;unfold Live at n |-;rw[f];constructor
     · intro g
       rcases n.1 (.inr g) with w|w
       · exact .inl ⟨w,r b g⟩
       exact .inr w
     rintro(⟨w,h3⟩|⟨l,O,rfl⟩)
     · exact(n.2 (.inl w)).resolve_left h3
     exact(n.2 (.inr ⟨l,O,rfl⟩)).resolve_left (T l O)
   job:=λhm=>by
     obtain⟨j1,⟨s,p,e1⟩,⟨u,y,e2⟩⟩:=d.job hm;obtain⟨U,D,Y⟩:=N s p;obtain⟨P,F,H⟩:=N u y;exact⟨j1,⟨U,D,Y.trans e1⟩,⟨P,F,H.trans e2⟩⟩}
def unmN(k:ah)(p:Int):Nat->ah
 | 0=>k
 | n+1=>ee (unmN k p n) (p+n)
def jf{k:ah}(h:aA k=true)(p:Int):∀n,aA (unmN k p n)=true
 | 0=>h
 | n+1=>x9 _ (jf h p n)
def fN(k:ah)(p:Int):∀n,(unmN k p n).F.R.J.length=k.F.R.J.length/\(unmN k p n).Calls=k.Calls/\(unmN k p n).a0=k.a0
 | 0=>⟨rfl,rfl,rfl⟩
 | n+1=>by
  obtain⟨a,b,c⟩:=fN k p n;obtain⟨d,e,f⟩:=me (unmN k p n) (p+n);exact⟨d.trans a,e.trans b,f.trans c⟩
def rO(h:aA k=true)(d:0<=p/\p<k.F.R.J.length)(q:Nat):nth (ee k p).F.R.J q=if(q:Int)=p then⟨0,0⟩ else nth k.F.R.J q:=by
 have g:ac k.F.R p=nth k.F.R.J p.toNat:=by unfold ac;rw[CD d]
 unfold ee;split
 ·rename_i a
  split
  ·rename_i i
   rw[g]at a;have b:=(b8.1 (aG.1 h).2.2.1).1 p.toNat ω;unfold kQ at b;rw[C0]at b;have c:=b.2.2.1 a;rw[show q=p.toNat by omega];generalize nth k.F.R.J p.toNat=e at a c;obtain⟨m,f⟩:=e;simp only at a c;rw[a,c]
  rfl
 rw[(nv _ _).1];simp only[qE,bE];by_cases e:(q:Int)=p
 ·rw[CD ⟨ω,ω⟩,CD e]
 rw[CB λx=>e ω,CB e]
def mX{k:ah}(h:aA k=true){p:Int}(b:0<=p):∀n:Nat,p+n<=k.F.R.J.length->∀q:Nat,nth (unmN k p n).F.R.J q=if p<=q/\(q:Int)<p+n then⟨0,0⟩ else nth k.F.R.J q
 | 0,_,q=>by rw[CB ω];rfl
 | n+1,f,q=>by
  have c:=mX h b n ω q;have d:=rO (jf h p n) (p:=p+n) ⟨ω,by rw[(fN k p n).1];omega⟩ q;show nth (ee (unmN k p n) (p+n)).F.R.J q=_;rw[d,c];by_cases e:(q:Int)=p+n
  ·rw[CD e,CD ⟨ω,ω⟩]
  rw[CB e];by_cases a:p<=q/\(q:Int)<p+n
  ·rw[CD a,CD ⟨ω,ω⟩]
  rw[CB a,CB ω]
variable{β:Type}
def Gh(f:α->List β){xs c:List α}(h:xs.Sublist c):(xs.flatMap f).Sublist (c.flatMap f):=by
 induction h with
 | slnil=>exact List.Sublist.refl _
 | cons a _ b=>rw[W7];exact b.trans (List.sublist_append_right ..)
 | cons_cons a _ b=>rw[W7,W7];exact List.Sublist.append (List.Sublist.refl _) b
variable{n:Nat}
def yy(c:aY h E)(Y:1<=n)(w:sp.Sublist h.K)(D:la.Sublist h.M)(j:∀q:Int,p<=q->q<p+n->q∈pgs h.K h.M)(K:0<=p)(F:∀q,q∈pgs sp la↔q∈pgs h.K h.M/\¬(p<=q/\q<p+n)) :
  ∃o,dO (dQ h) h.w ⟨p,n⟩ = some o/\aA (unmN h.G p n)=true/\bC ((unmN h.G p n).F.R.J.length:Nat) o=true/\bp sp la=true/\Pg (unmN h.G p n).F.R o sp la:=by
 have t:=c.pg.bnd _ (j (p+n - 1) ω ω);have a:=(fN h.G p n).1;have y:p+n<=h.G.F.R.J.length:=by unfold tbl at t;omega
 have g:=mX c.ker K n y;obtain⟨o,Q,R,S⟩:=vf (r:=⟨p,n⟩) c.rng ⟨K,by simp only;omega,y⟩ λq M N=>by
  simp only at M N;obtain⟨m,rfl⟩:=O3 (show 0<=q by omega);have A:m<(tbl h).J.length:=by unfold tbl;omega
  exact(c.pg.fre m A).1 ((c.pg.own m A).2 (j _ M N))
 refine⟨o,Q,jf c.ker p n,by rw[a];exact R,?_,?_⟩
 ·obtain⟨T,U,V⟩:=dv c.lay
  unfold bp;simp only[I0,C0];exact⟨⟨V4.2 λs d=>V4.1 T s (w.subset d),V4.2 λl d=>V4.1 U l (D.subset d)⟩,V.sublist ((w.map _).append (Gh _ D))⟩
 have i:∀q:Nat,(q:Int)∈pgs sp la->nth (unmN h.G p n).F.R.J q=nth (tbl h).J q:=λq f=>by rw[g,CB ((F q).1 f).2];rfl
 have b:∀q:Nat,(nth (unmN h.G p n).F.R.J q).e≠0↔(nth (tbl h).J q).e≠0/\¬(p<=q/\(q:Int)<p+n):=λq=>by
  rw[g];by_cases e:p<=q/\(q:Int)<p+n
  ·rw[CD e];exact⟨λx=>absurd rfl x,λx=>absurd e x.2⟩
  rw[CB e];exact⟨λx=>⟨x,e⟩,λx=>x.1⟩
 refine⟨λl d q f r O G B=>?_,λq f=>?_,λq f=>?_,λq f=>?_,λs d u H J P=>?_⟩
 ·have C:=(b r).1 G
  rw[a]at O;rw[i q (gi d f),g,CB C.2]at B;exact c.pg.one l (D.subset d) q f r O C.1 B
 ·rw[a];exact c.pg.bnd q ((F q).1 f).1
 ·rw[a]at f
  rw[b,F,c.pg.own q f]
 ·rw[a]at f
  rw[b,S,c.pg.fre q f];simp only
  grind
 have k:∀s∈sp,0<=s.Q:=λs d=>(aC (c.L.sok s (w.subset d))).1
 have W:=i s.Q.toNat (by rw[Int.toNat_of_nonneg (k s d)];exact dH d);have X:=i u.Q.toNat (by rw[Int.toNat_of_nonneg (k u H)];exact dH H);rw[W,X]at P;exact c.pg.mesh s (w.subset d) u (w.subset H) J P
def dd[Inhabited α]{xs:List α}{k:Nat}{z:α} : z∈dele xs k↔∃j,j<xs.length/\j≠k/\nth xs j=z:=by
 unfold dele;rw[V3];constructor
 ·rintro(h|h)
  ·obtain⟨j,a,rfl⟩:=List.mem_take_iff_getElem.1 h
   exact⟨j,ω,ω,bm (W2 ω)⟩
  obtain⟨j,a,rfl⟩:=List.mem_drop_iff_getElem.1 h;exact⟨k+1+j,ω,ω,bm (W2 ω)⟩
 rintro⟨j,a,b,rfl⟩
 rw[bm (W2 a)];by_cases e:j<k
 ·exact .inl (List.mem_take_iff_getElem.2 ⟨j,ω,rfl⟩)
 refine .inr (List.mem_drop_iff_getElem.2 ⟨j - (k+1),ω,?_⟩)
 congr 1;omega
def qk{q:Int} : q∈pgs sp la↔(∃s∈sp,s.Q=q)\/∃l∈la,q∈lpgs l l.a1.toNat:=by
 unfold pgs;simp only[V3,Z4,List.mem_flatMap]
def wM(h:s.b1=0)(a:Int):¬ef s a:=by
 rintro⟨-,-,-,b⟩
 rw[eB,h]at b;simp at b
def aY.giveSpan(g:aY h E)(B:i<h.K.length)(y:(nth h.K i).b1=0)(W:h.u=true->(nth h.K i).Q≠h.Z.X.a3/\(nth h.K i).Q≠h.Z.X.a2) :
  ∃o,dO (dQ h) h.w ⟨(nth h.K i).Q,1⟩ = some o/\aY {h with G:=ee h.G (nth h.K i).Q,K:=dele h.K i,w:=o} E:=by
 have F:=g.L;have G:=aC (F.sok _ (am B));have A:∀q,q∈pgs (dele h.K i) h.M↔q∈pgs h.K h.M/\¬((nth h.K i).Q<=q/\q<(nth h.K i).Q+(1:Nat)):=λq=>by
  rw[qk,qk];constructor
  ·rintro(⟨s,r,rfl⟩|⟨l,C,D⟩)
   ·obtain⟨j,d,H,rfl⟩:=dd.1 r
    refine⟨.inl ⟨_,am d,rfl⟩,λe=>H (cU (f:=(·.Q)) F.nd d B ω)⟩
   refine⟨.inr ⟨l,C,D⟩,λe=>?_⟩;obtain⟨k,J,rfl⟩:=d9.1 D;exact F.dis _ (am B) l C k J ω
  rintro⟨⟨s,r,rfl⟩|⟨l,C,D⟩,K⟩
  ·obtain⟨j,d,rfl⟩:=aK r
   refine .inl ⟨_,dd.2 ⟨j,d,λe=>K (by subst e;omega),rfl⟩,rfl⟩
  exact .inr ⟨l,C,D⟩
 obtain⟨o,X,Q,R,Y,S⟩:=yy g (sp:=dele h.K i) (la:=h.M) (p:=(nth h.K i).Q) (n:=1) (W3 _) (fK ..) (List.Sublist.refl _) (λq q1 q2=>by rw[show q=(nth h.K i).Q by omega];exact dH (am B)) G.1 A;have M:unmN h.G (nth h.K i).Q 1=ee h.G (nth h.K i).Q:=by show ee h.G ((nth h.K i).Q+((0:Nat):Int))=_;rw[show(nth h.K i).Q+((0:Nat):Int)=(nth h.K i).Q by omega]
 rw[M]at Q R S;have t:∀b c,kb (dele h.K i) b c↔kb h.K b c:=λb c=>by
  constructor
  ·rintro⟨s,r,w⟩;exact⟨s,(fK ..).subset r,w⟩
  rintro⟨s,r,w,N⟩
  obtain⟨j,d,rfl⟩:=aK r;exact⟨_,dd.2 ⟨j,d,λe=>wM y b (by rw[<-e];exact w),rfl⟩,w,N⟩
 refine⟨o,X,{g with
   ker:=Q
   rng:=R
   lay:=Y
   srs:=g.srs.sublist (fK ..)
   pg:=S
   oow:=λZ ho=>?_
   hca:=λc G k J b y=>(t b k).2 (g.hca c G k J b y)
   hqu:=λx hx=>(t _ _).2 (g.hqu x hx)
   hfl:=λb y=>(t _ _).2 (g.hfl b y)
   hin:=λb y=>(t _ _).2 (g.hin b y)
   mem:=λb=>(g.mem b).trans ?_
   job:=λT=>?_}⟩
 ·rcases g.oow Z ho with⟨s,r,w,N⟩|w
  ·obtain⟨j,d,rfl⟩:=aK r
   exact .inl ⟨_,dd.2 ⟨j,d,λe=>wM y _ (by rw[<-e];exact w),rfl⟩,w,N⟩
  exact .inr w
 ·unfold Live;rw[t]
 obtain⟨j1,⟨s,r,U⟩,⟨u,M,V⟩⟩:=g.job T;obtain⟨n1,n2⟩:=W T;obtain⟨a,O,rfl⟩:=aK r;obtain⟨b,P,rfl⟩:=aK M;exact⟨j1,⟨_,dd.2 ⟨a,O,λe=>n1 (by rw[<-e];exact U),rfl⟩,U⟩,⟨_,dd.2 ⟨b,P,λe=>n2 (by rw[<-e];exact V),rfl⟩,V⟩⟩
def aY.dropL{k:Nat}(d:aY h E)(S:i<h.O.length)(y:k<h.M.length)(G:(nth h.O i).Addr=16*(nth h.M k).Q) :
  ∃o,dO (dQ h) h.w ⟨(nth h.M k).Q,(nth h.M k).a1⟩ = some o/\aY {h with G:=unmN h.G (nth h.M k).Q (nth h.M k).a1.toNat,M:=dele h.M k,w:=o,O:=dele h.O i} E:=by
 have A:=d.L;have T:=aM (A.lok _ (am y));have C:∀q,q∈pgs h.K (dele h.M k)↔q∈pgs h.K h.M/\¬((nth h.M k).Q<=q/\q<(nth h.M k).Q+((nth h.M k).a1.toNat:Nat)):=λq=>by
  rw[qk,qk];constructor
  ·rintro(⟨s,B,rfl⟩|⟨l,f,D⟩)
   ·refine⟨.inl ⟨s,B,rfl⟩,λe=>A.dis s B _ (am y) (s.Q - (nth h.M k).Q).toNat ω ω⟩
   obtain⟨j,c,t,rfl⟩:=dd.1 f;refine⟨.inr ⟨_,am c,D⟩,λe=>?_⟩;obtain⟨m,N,rfl⟩:=d9.1 D;exact t (A.one j k c y m ((nth h.M j).Q+(m:Int) - (nth h.M k).Q).toNat N ω ω)
  rintro⟨⟨s,B,rfl⟩|⟨l,f,D⟩,g⟩
  ·exact .inl ⟨s,B,rfl⟩
  obtain⟨j,c,rfl⟩:=aK f;refine .inr ⟨_,dd.2 ⟨j,c,λe=>g ?_,rfl⟩,D⟩;subst e;obtain⟨m,N,rfl⟩:=d9.1 D;omega
 obtain⟨o,O,U,V,W,X⟩:=yy d (sp:=h.K) (la:=dele h.M k) (p:=(nth h.M k).Q) (n:=(nth h.M k).a1.toNat) ω (List.Sublist.refl _) (fK ..) (λq q1 q2=>gi (am y) (d9.2 ⟨(q - (nth h.M k).Q).toNat,ω,ω⟩)) T.2.2.1 C;rw[Int.toNat_of_nonneg ω]at O;have P:(E++holders h).Perm ((nth h.O i).Addr::(E++holders {h with O:=dele h.O i})):=by
  have Y:=(Bp S).map (·.Addr);refine List.perm_iff_count.2 λa=>?_
  have r:=Y.count_eq a;simp only[Y6,List.count_cons]at r;simp only[holders,ce,Z6,List.count_cons];omega
 have u:=P.nodup_iff.1 d.nd;obtain⟨K,u⟩:=List.nodup_cons.1 u;have w:∀b,(b=(nth h.O i).Addr\/b∈E++holders {h with O:=dele h.O i})↔Live h.K h.M b:=λb=>by rw[<-d.mem b,P.mem_iff,List.mem_cons]
 have g:∀b,b∈E++holders {h with O:=dele h.O i}->b≠(nth h.O i).Addr:=λb H e=>K (by rw[<-e];exact H)
 refine⟨o,O,{d with
   ker:=U
   rng:=V
   lay:=W
   srl:=d.srl.sublist (fK ..)
   pg:=X
   osr:=d.osr.sublist (fK ..)
   onu:=λF J=>d.onu F ((fK ..).subset J)
   oid:=d.oid.sublist ((fK ..).map _)
   oow:=λF J=>?_
   nd:=u
   mem:=λb=>?_}⟩
 ·rcases d.oow F ((fK ..).subset J) with r|⟨l,f,Q,Z⟩
  ·exact .inl r
  obtain⟨j,c,rfl⟩:=aK f;refine .inr ⟨_,dd.2 ⟨j,c,λe=>?_,rfl⟩,Q,Z⟩;subst e;refine g F.Addr (V3.2 (.inr ?_)) (by rw[G];exact Q);unfold holders;simp only[V3];exact .inl (.inl (.inl (Z4.2 ⟨F,J,rfl⟩)))
 constructor
 ·intro H
  rcases(w b).1 (.inr H) with r|⟨l,f,rfl⟩
  ·exact .inl r
  obtain⟨j,c,rfl⟩:=aK f;exact .inr ⟨_,dd.2 ⟨j,c,λe=>g _ H (by rw[G,e]),rfl⟩,rfl⟩
 rintro(r|⟨l,f,rfl⟩)
 ·refine((w b).2 (.inl r)).resolve_left λe=>?_
  obtain⟨s,B,⟨M,R,-⟩,-⟩:=r;exact(xR A (am y)).1 s B (by rw[e,G]at M R;exact⟨M,R⟩)
 obtain⟨j,c,t,rfl⟩:=dd.1 f;refine((w _).2 (.inr ⟨_,am c,rfl⟩)).resolve_left λe=>t ?_
 have M:=aM (A.lok _ (am c));rw[G]at e;exact A.one j k c y 0 0 ω ω ω
def gk(h:ab)(p:Int):Bool:=h.u&&(decide (p=h.Z.X.a3) || decide (p=h.Z.X.a2))
def giveP(h:ab)(i:Nat):ab:={h with G:=ee h.G (nth h.K i).Q,K:=dele h.K i,w:=(dO (dQ h) h.w ⟨(nth h.K i).Q,1⟩).getD h.w}
def clrS(h:ab)(i:Nat)(a:Int):ab:={h with K:=h.K.set i (nl (nth h.K i) (dD (nth h.K i) a))}
def freeS(h:ab)(i:Nat)(a:Int):ab:=if(nl (nth h.K i) (dD (nth h.K i) a)).b1=0/\gk h (nth h.K i).Q=false then giveP (clrS h i a) i else clrS h i a
def uY(h:ab)(a:Int):Nat:=(eX h (a / 16)).toNat
def freeA(h:ab)(a:Int):ab:=freeS h (uY h a) a
def cput(c:a8)(k a:Int):Option a8:=if bt c=true/\0<=k/\k<=3/\bt (nK c k.toNat a)=true then some (nK c k.toNat a) else none
def recyc(t:Nat)(h:ab)(a:Int):ab:=match cput (nth h.S t) (nth h.K (uY h a)).a a with
 | some c=>{h with S:=h.S.set t c}
 | none=>freeA h a
def aY.at{h:ab}{E:List Int}{a:Int}(e:aY h E)(f:kb h.K a (-1)):uY h a<h.K.length/\ef (nth h.K (uY h a)) a/\eX h (a / 16)=(uY h a:Nat):=by
 obtain⟨s,g,c,-⟩:=f;obtain⟨i,d,rfl⟩:=aK g;have j:(nth h.K i).Q=a / 16:=by have l:=c.1;have n:=c.2.1;omega
 have b:=l7 e.L d;rw[j]at b;have k:uY h a=i:=by unfold uY;rw[b];rfl
 rw[k];exact⟨d,c,b⟩
def yK(e:gk h p=false)(a:h.u=true):p≠h.Z.X.a3/\p≠h.Z.X.a2:=by
 unfold gk at e;rw[a]at e;simpa using e
def aY.freeS{h:ab}{E:List Int}{a:Int}{i:Nat}(f:aY h (a::E))(b:i<h.K.length)(g:ef (nth h.K i) a):aY (freeS h i a) E:=by
 have c:=f.give b g;unfold Ab.freeS;split
 ·rename_i e
  have d:nth (clrS h i a).K i=nl (nth h.K i) (dD (nth h.K i) a):=by unfold clrS;simp only[bE,true_and];rw[CD b]
  obtain⟨o,j,k⟩:=aY.giveSpan (h:=clrS h i a) c (i:=i) (by unfold clrS;simp only[W1];exact b) (by rw[d];exact e.1) (λl=>by rw[d];exact yK e.2 l);unfold giveP;rw[j];exact k
 exact c
def aY.freeA{h:ab}{E:List Int}{a:Int}(b:aY h (a::E)):aY (freeA h a) E:=by
 obtain⟨c,d,-⟩:=b.at (b.hin a (C2 ..));exact b.freeS c d
def pV{c:a8}(h:bt c=true):c.b.length=4:=by
 unfold bt at h;simp only[I0,C0]at h;exact h.1
def aY.recyc{h:ab}{E:List Int}{a:Int}{t:Nat}(b:aY h (a::E))(f:t<h.S.length):aY (recyc t h a) E:=by
 obtain⟨g,i,-⟩:=b.at (b.hin a (C2 ..));unfold Ab.recyc;split
 ·rename_i c d
  unfold cput at d;split at d
  ·rename_i e
   cases d;obtain⟨j,l,n,k⟩:=e;exact b.put f (by rw[pV j];omega) ⟨_,am g,i,.inr ω⟩ k
  cases d
 exact b.freeA
def x7(h:ab)(i:Nat)(a:Int):(freeS h i a).S=h.S/\(freeS h i a).O=h.O/\(freeS h i a).G.Calls=h.G.Calls/\(freeS h i a).q=h.q/\(freeS h i a).Z=h.Z/\(freeS h i a).b5=h.b5/\(freeS h i a).a9=h.a9/\(freeS h i a).G.a0=h.G.a0:=by
 unfold freeS;split
 ·obtain⟨-,b,c⟩:=me (clrS h i a).G (nth (clrS h i a).K i).Q
  exact⟨rfl,rfl,b,rfl,rfl,rfl,rfl,c⟩
 exact⟨rfl,rfl,rfl,rfl,rfl,rfl,rfl,rfl⟩
def ou(t:Nat)(h:ab)(a:Int):(recyc t h a).S.length=h.S.length/\(recyc t h a).O=h.O/\(recyc t h a).G.Calls=h.G.Calls/\(recyc t h a).q=h.q/\(recyc t h a).Z=h.Z/\(recyc t h a).b5=h.b5/\(recyc t h a).a9=h.a9/\(recyc t h a).G.a0=h.G.a0:=by
 unfold recyc;split
 ·exact⟨W1 ..,rfl,rfl,rfl,rfl,rfl,rfl,rfl⟩
 obtain⟨b,c⟩:=x7 h (uY h a) a;exact⟨Z0 _ b,c⟩
def recycs(t:Nat)(h:ab)(az:List Int):ab:=az.foldl (recyc t) h
def fp(t:Nat):∀(az:List Int)(h:ab),(recycs t h az).S.length=h.S.length/\(recycs t h az).O=h.O/\(recycs t h az).G.Calls=h.G.Calls/\(recycs t h az).q=h.q/\(recycs t h az).Z=h.Z/\(recycs t h az).b5=h.b5/\(recycs t h az).a9=h.a9/\(recycs t h az).G.a0=h.G.a0
 | [],h=>⟨rfl,rfl,rfl,rfl,rfl,rfl,rfl,rfl⟩
 | a::az,h=>by
  obtain⟨b,c,d,e,f,g,i,j⟩:=fp t az (recyc t h a);obtain⟨k,l,n,o,p,q,r,u⟩:=ou t h a;exact⟨b.trans k,c.trans l,d.trans n,e.trans o,f.trans p,g.trans q,i.trans r,j.trans u⟩
def aY.recycs{t:Nat}{E:List Int} : ∀{az:List Int}{h:ab},aY h (az++E)->t<h.S.length->aY (recycs t h az) E
 | [],h,b,_=>b
 | a::az,h,b,c=>aY.recycs (az:=az) (h:=Ab.recyc t h a) (b.recyc c) (by rw[(ou t h a).1];exact c)
def qc(l:List aN):Int:=quarCells l l.length
def oY(room:Int):List aN->Nat
 | []=>0
 | x::xs=>if room<qc (x::xs) then oY room xs+1 else 0
def L8(q:bM)(x:aN):bM:=⟨q.c1,(q.a5++[x]).drop (oY q.c1 (q.a5++[x]))⟩
def z6(q:bM)(x:aN):List aN:=(q.a5++[x]).take (oY q.c1 (q.a5++[x]))
def Gl(room:Int):∀l,oY room l<=l.length
 | []=>W3 _
 | x::xs=>by unfold oY;split;(have:=Gl room xs;simp only[List.length_cons];omega);omega
def Eu{room:Int}(a:0<=room):∀l:List aN,qc (l.drop (oY room l))<=room
 | []=>a
 | x::xs=>by
  unfold oY;split
  ·exact Eu a xs
  rename_i h;show qc (x::xs)<=room;omega
def Bl{room:Int} : ∀{l:List aN}{k:Nat},k<oY room l->room<qc (l.drop k)
 | [],k,h=>by cases h
 | x::xs,0,h=>by
  unfold oY at h;split at h
  ·assumption
  omega
 | x::xs,k+1,h=>by
  unfold oY at h;split at h
  ·exact Bl (l:=xs) ω
  omega
def ku{q:bM} : fI q=true↔(∀x∈q.a5,0<=x.a/\x.a<=3/\0<=x.Addr/\0<=x.b7)/\(q.a5.Pairwise λa b=>a.b7<=b.b7)/\(q.a5.map (·.Addr)).Nodup/\0<=q.c1/\q.c1<=500/\qc q.a5<=q.c1:=by
 refine Iff.trans ?_ (and_congr Iff.rfl (and_congr (wI (λa b:Int=>a<=b) (λa b c=>V5) (λs:aN=>s.b7) q.a5) (and_congr (Bd (λs:aN=>s.Addr) q.a5) Iff.rfl)));unfold fI qc;simp only[I0,C0,ch,jS,Bool.not_eq_true',List.any_eq_false,dJ];constructor
 ·rintro⟨e,f⟩
  refine⟨λx l=>?_,λi d=>(e i d).1.2.2.2.2,λi d=>(e i d).2,f⟩;obtain⟨i,d,rfl⟩:=aK l;obtain⟨⟨g,h,j,k,-⟩,-⟩:=e i d;exact⟨g,h,j,k⟩
 rintro⟨e,f,n,o⟩
 refine⟨λi d=>?_,o⟩;obtain⟨g,h,j,k⟩:=e _ (am d);exact⟨⟨g,h,j,k,f i d⟩,n i d⟩
def Ra{q:bM}{x:aN}(h:fI q=true)(i:0<=x.a/\x.a<=3/\0<=x.Addr/\0<=x.b7)(j:∀y∈q.a5,y.b7<=x.b7)(k:∀y∈q.a5,y.Addr≠x.Addr):fI (L8 q x)=true:=by
 obtain⟨l,n,o,g,p,r⟩:=ku.1 h;have c:(L8 q x).a5.Sublist (q.a5++[x]):=List.drop_sublist ..;refine ku.2 ⟨λy d=>?_,List.Pairwise.sublist c ?_,List.Nodup.sublist (c.map _) ?_,g,p,Eu g _⟩
 ·rcases V3.1 (c.subset d) with d|d
  ·exact l y d
  rw[V1.1 d];exact i
 ·exact List.pairwise_append.2 ⟨n,List.pairwise_singleton ..,λa f b e=>by rw[V1.1 e];exact j a f⟩
 rw[W6];refine List.nodup_append.2 ⟨o,by simp,λa f b e=>?_⟩;obtain⟨y,d,rfl⟩:=Z4.1 f;simp only[Y6,List.map_nil,V1]at e;rw[e];exact k y d
def lI(r:List Int)(o:Nat):Nat->List Int
 | 0=>r
 | n+1=>(lI r o n).set (o+n) 0
def cY(k:ah)(a:Int):Nat:=(ac k.F.R (a / 16)).j.toNat
def f7(k:ah)(a:Int)(n:Nat):ah:={k with F:=⟨⟨k.F.W.T.set (cY k a) (lI (nth k.F.W.T (cY k a)) (a % 16).toNat n),k.F.W.a6⟩,k.F.R⟩}
def nh(r:List Int)(o:Nat):∀n,(lI r o n).length=r.length
 | 0=>rfl
 | n+1=>by unfold lI;rw[W1,nh r o n]
def AY{r:List Int}{o:Nat} : ∀{n:Nat}{v:Int},v∈lI r o n->v∈r\/v=0
 | 0,v,h=>.inl h
 | n+1,v,h=>by
  rcases S7 h with h|h
  ·exact AY h
  exact .inr h
def Ft(h:aA k=true)(a:Int)(n:Nat):aA (f7 k a n)=true:=by
 obtain⟨g,i,l,o,p⟩:=aG.1 h;obtain⟨q,r,t,f⟩:=bc.1 i;refine aG.2 ⟨g,bc.2 ⟨?_,?_,?_,λj c=>?_⟩,l,o,p⟩
 ·simp only[f7,W1];exact q
 ·simp only[f7,W1];exact r
 ·simp only[f7,W1];exact t
 simp only[f7,W1]at c |-;simp only[bE];split
 ·rename_i e
  have b:=f j c;unfold iq at b |-;simp only[I0,C0,V4]at b |-;rw[e.1]at *;refine⟨by rw[nh];exact b.1,λv d=>?_⟩;rcases AY d with d|rfl
  ·exact b.2 v d
  unfold iW;simp
 exact f j c
def wz(h:ab)(a:Int):Nat:=(h.M.findIdx? λl=>decide (l.Q*16=a)).getD 0
def freeL(h:ab)(i k:Nat):ab:={h with G:=unmN h.G (nth h.M k).Q (nth h.M k).a1.toNat,M:=dele h.M k,w:=(dO (dQ h) h.w ⟨(nth h.M k).Q,(nth h.M k).a1⟩).getD h.w,O:=dele h.O i}
def ma(h:ab)(o:bn):aN:=⟨o.Addr,aJ o.o,h.b5⟩
def inQuar(h:ab)(i:Nat):ab:={h with G:=f7 h.G (nth h.O i).Addr (csz (aJ (nth h.O i).o)).toNat,O:=dele h.O i,a9:=L8 h.a9 (ma h (nth h.O i))}
def GK(h:ab)(t i:Nat):ab:=recycs t (inQuar h i) ((z6 h.a9 (ma h (nth h.O i))).map (·.Addr))
def freeOb(h:ab)(t i:Nat):ab × Int:=
 if aJ (nth h.O i).o<0 then(freeL h i (wz h (nth h.O i).Addr),0)
 else if(ac (tbl h) ((nth h.O i).Addr / 16)).e=1 then(h,5)
 else(GK h t i,0)
def sq(d:l∈h.M)(e:a=16*l.Q):wz h a<h.M.length/\a=16*(nth h.M (wz h a)).Q/\(∀j,j<wz h a->(nth h.M j).Q*16≠a)/\h.M.findIdx? (λl=>decide (l.Q*16=a))=some (wz h a):=by
 cases b:h.M.findIdx? λl=>decide (l.Q*16=a) with
 | none=>
  have:=List.findIdx?_eq_none_iff.1 b l d;rw[C5]at this;omega
 | some k=>
  obtain⟨c,f,g⟩:=Z7.1 b;have i:wz h a=k:=by unfold wz;rw[b];rfl
  rw[i];rw[<-bm (W2 c),C0]at f;refine⟨c,ω,λj n=>?_,rfl⟩;have:=g j n;rw[<-bm (W2 (show j<h.M.length by omega))]at this;simpa using this
def dU(a:aY h E)(g:o∈h.O):(aJ o.o<0->UU h.M o.Addr o.o)/\(¬aJ o.o<0->(∃s∈h.K,ef s o.Addr/\s.a=aJ o.o)/\aJ o.o<=3):=by
 rcases a.oow o g with⟨s,d,b,c⟩|⟨l,f,b,c⟩
 ·have i:=aC (a.L.sok s d)
  exact⟨λe=>ω,λ_=>⟨⟨s,d,b,c⟩,ω⟩⟩
 have j:=bV (a.L.lok l f);refine⟨λ_=>⟨l,f,b,c⟩,λe=>absurd ?_ e⟩;unfold aJ;rw[CB ω,CB ω,CB ω,CB ω,CB ω]
 decide
def aY.inQuar{h:ab}{i:Nat}(a:aY h [])(j:i<h.O.length)(r:¬aJ (nth h.O i).o<0):aY (inQuar h i) ((z6 h.a9 (ma h (nth h.O i))).map (·.Addr)):=by
 obtain⟨⟨s,l,n,t⟩,u⟩:=(dU a (am j)).2 r;have b:kb h.K (nth h.O i).Addr (aJ (nth h.O i).o):=⟨s,l,n,.inr t⟩
 have d:=a.nums;unfold cq at d;rw[C0]at d;have w:=aC (a.L.sok s l);have o:=a.dropO j b.any;have A:=o.cells (k:=f7 h.G (nth h.O i).Addr (csz (aJ (nth h.O i).o)).toNat) (Ft a.ker _ _) rfl;have f:∀y∈h.a9.a5,y.Addr≠(nth h.O i).Addr:=λy g e=>by
  have c:=o.nd;rw[List.cons_append,List.nil_append]at c;refine(List.nodup_cons.1 c).1 ?_;rw[<-e];unfold holders;simp only[V3];exact .inl (.inr (Z4.2 ⟨y,g,rfl⟩))
 have p:=aY.toQuar (x:=ma h (nth h.O i)) (q:=L8 h.a9 (ma h (nth h.O i))) (out:=z6 h.a9 (ma h (nth h.O i))) A (Ra a.quar ⟨by show 0<=aJ _;omega,u,by show 0<=(nth h.O i).Addr;have:=n.1;omega,d.2.2.1⟩ (λy g=>a.snc y g) f) (by unfold z6 L8;simp only[List.take_append_drop]) (W5 _) b;rw[List.append_nil]at p;exact p
def aY.freeOb{h:ab}{t i:Nat}(a:aY h [])(b:i<h.O.length)(e:t<h.S.length):aY (freeOb h t i).1 []:=by
 unfold Ab.freeOb;split
 ·rename_i c
  obtain⟨l,f,d,-⟩:=(dU a (am b)).1 c;obtain⟨g,j,-⟩:=sq f d;obtain⟨o,k,n⟩:=a.dropL b g j;unfold Ab.freeL;rw[k];exact n
 rename_i c;split
 ·exact a
 have d:=a.inQuar b c;refine aY.recycs (E:=[]) ?_ e;rw[List.append_nil];exact d
def KB:∀{H L:List Int},H.Nodup->(∀x∈H,x∈L)->H.length<=L.length
 | [],L,_,_=>X0 _
 | y::H,L,f,b=>by
  have c:y∈L:=b y (C2 ..);have a:=List.nodup_cons.1 f;have:=KB (L:=L.erase y) a.2 λz d=>(List.mem_erase_of_ne (λe:z=y=>a.1 (by rw[<-e];exact d))).2 (b z (C6 _ d))
  rw[List.length_erase_of_mem c]at this;have g:=List.length_pos_of_mem c;simp only[List.length_cons];omega
def y1{H:List Int}(c:H.Nodup)(a:∀x∈H,0<=x/\x<n):H.length<=n:=by
 have:=KB (L:=(List.range n).map λ(i:Nat)=>(i:Int)) c λx b=>Z4.2 ⟨x.toNat,List.mem_range.2 (by have:=a x b;omega),by have:=a x b;omega⟩
 simpa using this
def db{f:α->Int}{xs:List α}(h:xs.Pairwise λa b=>f a<f b):(xs.map f).Nodup:=by
 unfold List.Nodup;rw[List.pairwise_map];exact h.imp λh e=>ω
def NQ:∀(b:List (List Int))(k:Nat)(s:List Int),(gF k s b).isSome=true->∀l∈b,l.length<=8
 | [],_,_,_,l,a=>by cases a
 | x::b,k,s,h,l,a=>by
  simp only[gF]at h;cases e:fh k s x with
  | none=>rw[e]at h;cases h
  | some d=>
   rw[e]at h;rcases List.mem_cons.1 a with rfl|a
   ·unfold fh at e
    split at e
    ·rename_i c;exact c.1
    cases e
   exact NQ b (k+1) d h l a
def fw{c:a8}(h:bt c=true):c.b.length=4/\∀l∈c.b,l.length<=8:=by
 have a:=h;unfold bt at h;simp only[I0,C0]at h;exact⟨h.1,NQ _ _ _ h.2⟩
structure RX(h:ab):Prop where
 cells:h.G.F.W.T.length<=32
 row:∀r∈h.G.F.W.T,r.length=16
 used:h.G.F.W.a6.length<=32
 ents:h.G.F.R.J.length<=32
 ref:h.G.a0.length<=40
 free:h.w.length<=32
 spans:h.K.length<=32
 larges:h.M.length<=32
 objs:h.O.length<=512
 caches:h.S.length<=4
 lists:∀c∈h.S,c.b.length=4/\∀l∈c.b,l.length<=8
 quar:h.a9.a5.length<=512
def kb.bd(b:aY h E)(d:kb h.K a c):0<=a/\a<512:=by
 obtain⟨s,e,⟨f,g,-⟩,-⟩:=d;have i:=aC (b.L.sok s e);omega
def aY.lens(d:aY h E):RX h:=by
 obtain⟨O,t,u,P,Q,R,w⟩:=aG.1 d.ker;obtain⟨S,A,T,B⟩:=bc.1 t;obtain⟨U,V,C⟩:=b8.1 u;obtain⟨p,D,W⟩:=gf.1 d.rng;obtain⟨X,Y,F,Z⟩:=ku.1 d.quar;have q:=d.mail;unfold bP at q;simp only[I0,C0]at q;have G:=d.nc;refine⟨A,λr g=>?_,ω,C,w,?_,?_,?_,?_,ω,λc J=>fw (d.cach c J),?_⟩
 ·obtain⟨j,K,rfl⟩:=aK g
  have:=B j K;unfold iq at this;simp only[I0,C0]at this;exact this.1
 ·have:=y1 (H:=h.w.map (·.At)) (n:=32) (db (p.1.imp_of_mem fun {a b} ha hb h=>by have:=p.2 a ha;omega)) λx f=>by
   obtain⟨r,g,rfl⟩:=Z4.1 f;have:=D r g;omega
  simpa using this
 ·have:=y1 (H:=h.K.map (·.Q)) (n:=32) d.L.nd λx f=>by
   obtain⟨s,i,rfl⟩:=Z4.1 f;have:=aC (d.L.sok s i);omega
  simpa using this
 ·have:=y1 (H:=h.M.map (·.Q)) (n:=32) (db d.srl) λx f=>by
   obtain⟨l,k,rfl⟩:=Z4.1 f;have:=aM (d.L.lok l k);omega
  simpa using this
 ·have:=y1 (H:=h.O.map (·.Addr)) (n:=512) (db d.osr) λx f=>by
   obtain⟨o,M,rfl⟩:=Z4.1 f;rcases d.oow o M with⟨s,i,⟨k1,k2,-⟩,-⟩|⟨l,k,e,-⟩
   ·have:=aC (d.L.sok s i);omega
   have:=aM (d.L.lok l k);omega
  simpa using this
 have:=y1 (H:=h.a9.a5.map (·.Addr)) (n:=512) F λx f=>by
  obtain⟨y,N,rfl⟩:=Z4.1 f;exact(d.hqu y N).bd d
 simpa using this
def RX.sml(a:RX h)(d:aA h.G=true)(e:aL.sml h.q)(f:cA.sml h.Z):ab.sml h:=
 ⟨bO d,⟨by have:=a.free;omega,λ_ _=>trivial⟩,⟨by have:=a.spans;omega,λ_ _=>trivial⟩,⟨by have:=a.larges;omega,λ_ _=>trivial⟩,⟨by have:=a.objs;omega,λ_ _=>trivial⟩,⟨by have:=a.caches;omega,λc b=>⟨by have:=(a.lists c b).1;omega,λl g=>by have:=(a.lists c b).2 l g;show l.length<=1048576;omega⟩⟩,e,⟨by have:=a.quar;omega,λ_ _=>trivial⟩,f⟩
def mF(a:Int)(o:bn):Bool:=decide (o.Addr=a)
def pC(h:ab)(a:Int):Nat:=(cu (mF a) h.O).toNat
def aY.objAt(k:aY h E)(l:o∈h.O):pC h o.Addr<h.O.length/\nth h.O (pC h o.Addr)=o/\cu (mF o.Addr) h.O=(pC h o.Addr:Nat):=by
 obtain⟨i,a,rfl⟩:=aK l;have d:cu (mF (nth h.O i).Addr) h.O=(i:Nat):=dB (ao a) (by unfold mF;simp) λj z p g=>by
  have b:=bm g;have c:=(X2.1 g).1;subst b;unfold mF;refine W0 λe=>?_
  have:=cU (f:=(·.Addr)) (db k.osr) c a e;omega
 have n:pC h (nth h.O i).Addr=i:=by unfold pC;rw[d];rfl
 rw[n];exact⟨a,rfl,d⟩
def lB(k:ah)(p:Int)(n:Nat):(unmN k p n).Calls=k.Calls/\(unmN k p n).a0=k.a0:=(fN k p n).2
open Go.RowKit
set_option maxRecDepth 20000
set_option maxHeartbeats 4000000
def Pa(y:aB)(a:List aB):d4 [] (y::a)=d4 [y] a:=by rw[d4];rfl
def F7[Inhabited α]{xs:List α}(h:xs≠[]):xs.getLast? = some (nth xs (xs.length - 1)):=by
 have a:0<xs.length:=List.length_pos_iff.2 h;rw[List.getLast?_eq_getElem?,ao ω]
def PY{xs:List α}(h:xs≠[])(v:α):xs.dropLast++[v]=xs.set (xs.length - 1) v:=by
 have b:0<xs.length:=List.length_pos_iff.2 h;refine List.ext_getElem (by simp;omega) λi a c=>?_
 rw[List.getElem_set];by_cases e:xs.length - 1=i
 ·subst e
  rw[CD rfl,List.getElem_append_right (by simp)];simp
 rw[CB e,List.getElem_append_left (by simp at a |-;omega),List.getElem_dropLast]
variable{out:List aB}
def Ns{y:aB}{a:List aB}(h:out≠[])(e:(nth out (out.length - 1)).At+(nth out (out.length - 1)).b0=y.At):d4 out (y::a)=d4 (out.set (out.length - 1) ⟨(nth out (out.length - 1)).At,(nth out (out.length - 1)).b0+y.b0⟩) a:=by
 rw[d4,F7 h];simp only;rw[CD e,PY h]
def Ta{y:aB}{a:List aB}(h:out≠[])(e:¬(nth out (out.length - 1)).At+(nth out (out.length - 1)).b0=y.At):d4 out (y::a)=d4 (out++[y]) a:=by
 rw[d4,F7 h];simp only;rw[CB e]
def tq(xs:List aB)(B:xs.length<=4194304)(o:∀y∈xs,0<=y.At/\1<=y.b0/\y.At+y.b0<=1048576):zzA 584 false [.val none (bB .U xs)] .one (bB .own (d4 [] xs)):=by
 refine fO 63 [(6,21,[15,16,17,18,19,20,21,22,23,24,25,26,27,28,29,30,31,32,33,34,35]),(7,15,[38,39,40,41,42,43,44,45,46,47,48,49,50,51,52])] Tryz.func584 rfl ?_ (.inr (mA _))
 repeat'(first|refine gP ?_|fail)
 (conv=>whnf)
 refine CH (ι:=Nat × List aB) (λq=>[(0,.H .one (bB .U xs)),(3,.H .one (bB .own q.2)),(4,.H .one [I ((q.1:Nat):Int)])]) (λq=>q.1<=xs.length/\d4 q.2 (xs.drop q.1)=d4 [] xs/\q.2.length<=q.1/\∀y∈q.2,0<=y.At/\1<=y.b0/\y.At+y.b0<=1048576) (λq=>xs.length - q.1) ((0,[])) ?_ (⟨X0 _,rfl,W3 _,λy g=>by cases g⟩) λq p=>?_
 ·exact wB
 obtain⟨i,out⟩:=q;obtain⟨t,b,j,c⟩:=p;simp only at t b j c |-;by_cases k:i<xs.length
 ·have l:=ao k
  have g:=o _ (am k);rw[jm k]at b;by_cases h:out=[]
  ·subst h
   rw[Pa]at b;have D:([]:List aB).length=0:=rfl
   repeat'(first|refine gE ?_|(conv=>whnf);first|refine Ln.mk (show List.length _=0 from rfl) ?_|refine Ap.sm (λr u=>by cases u) rfl (by simp) (by decide) rfl ?_)
   ((conv=>whnf)
    refine CG (i+1,[nth xs i]) ⟨(by simp only;omega),b,(by simp),(λy a=>by rw[V1.1 a];exact g)⟩ (by simp only;omega) ?_
    (repeat'(first|exact trivial|rfl|exact CN rfl (CN (Z0 (C.s dN.own) (by simp[aB.enc])) trivial)|refine CN ?_ ?_)))
  have n:0<out.length:=List.length_pos_iff.2 h;have d:out[((out.length:Int) - 1).toNat]? = some (nth out (out.length - 1)):=by
   rw[show((out.length:Int) - 1).toNat=out.length - 1 by omega];exact ao ω
  have w:=c _ (am (xs:=out) (i:=out.length - 1) ω);by_cases e:(nth out (out.length - 1)).At+(nth out (out.length - 1)).b0=(nth xs i).At
  ·rw[Ns h e]at b
   repeat'(first|refine gB ?_|(conv=>whnf);first|refine CP ω (aa d) ?_|refine CS rfl rfl (aa d) rfl (O1 rfl) rfl ?_)
   ((conv=>whnf)
    refine CG (i+1,out.set (out.length - 1) ⟨(nth out (out.length - 1)).At,(nth out (out.length - 1)).b0+(nth xs i).b0⟩) ⟨(by simp only;omega),b,(by simp only;rw[W1];omega),(λy a=>?_)⟩ (by simp only;omega) ?_)
   ·rcases S7 a with a|rfl
    ·exact c y a
    simp only;omega
   (repeat'(first|exact trivial|rfl|exact CN rfl (CN (Z0 (C.s dN.own) (by rw[show((out.length:Int) - 1).toNat=out.length - 1 by omega,C7];rfl)) trivial)|refine CN ?_ ?_))
  rw[Ta h e]at b
  repeat'(first|refine gB ?_|(conv=>whnf);first|refine CP ω (aa d) ?_|refine Ap.sm (aT λ_=>rfl) rfl (by simp;omega) (by decide) rfl ?_)
  ((conv=>whnf)
   refine CG (i+1,out++[nth xs i]) ⟨(by simp only;omega),b,(by simp;omega),(λy a=>?_)⟩ (by simp only;omega) ?_)
  ·rcases V3.1 a with a|a
   ·exact c y a
   rw[V1.1 a];exact g
  (repeat'(first|exact trivial|rfl|exact CN rfl (CN (Z0 (C.s dN.own) (by simp[aB.enc])) trivial)|refine CN ?_ ?_))
 obtain rfl:i=xs.length:=ω
 rw[List.drop_length]at b
 repeat'(first|refine gE ?_|fail)
 rw[<-b];rfl
def Bc(r y:aB)(a:List aB)(put:Bool):np r (y::a) put=if ovl y r then none else if !put&&decide (y.At > r.At) then(np r a true).map λt=>r::y::t else(np r a put).map λt=>y::t:=by rw[np]
def mW(pages:Int)(xs:List aB)(r:aB)(H:0<=pages/\pages<=1048576)(J:iH xs):zzA 568 false [.val none [I pages],.val none (bB .U xs),.val (some 2) (aB.enc .U r)] (.tup [none,none]) (HS xs (dO pages xs r)):=by
 have w:=J.1;have n:=mS pages xs H J;have E:=yS pages r H;cases o:bC pages xs<;>rw[o]at n
 ·rw[show dO pages xs r=none by unfold dO;rw[CB (by rw[o];simp)]]
  refine fO 82 [] Tryz.func568 rfl ?_ (.inr (uO _ _))
  repeat'(first|refine gP ?_|(conv=>whnf);first|refine C9 (n) ?_|refine CR (λ_=>rfl) (λ_=>rfl) w (by decide) ?_)
  rfl
 cases k:rangeIn pages r<;>rw[k]at E
 ·rw[show dO pages xs r=none by unfold dO;rw[CB (by rw[k];simp)]]
  refine fO 82 [] Tryz.func568 rfl ?_ (.inr (uO _ _))
  repeat'(first|refine gP ?_|(conv=>whnf);first|refine C9 (n) ?_|refine C9 (E) ?_|refine CR (λ_=>rfl) (λ_=>rfl) w (by decide) ?_)
  rfl
 obtain⟨K,L⟩:=BN o;have p:0<=r.At/\1<=r.b0/\r.At+r.b0<=pages:=by
  unfold rangeIn at k;rw[C0]at k;omega
 rw[show dO pages xs r=(np r xs false).map (d4 []) by unfold dO;rw[CD ⟨o,k⟩,A2 (pages:=pages) K p.2.1 λz M=>by simp at M]];refine fO 82 [] Tryz.func568 rfl ?_ (.inr (uO _ _))
 repeat'(first|refine gP ?_|(conv=>whnf);first|refine C9 (n) ?_|refine C9 (E) ?_|refine CR (λ_=>rfl) (λ_=>rfl) w (by decide) ?_)
 (conv=>whnf)
 refine CH (ι:=Nat × List aB × Bool) (λq=>[(1,.H .one (bB .U xs)),(5,.H .box (aB.enc .U r)),(8,.H .one (bB .own xs)),(9,.H .one (bB .own q.2.1)),(10,.H .one [B (q.2.2)]),(11,.H .one [I ((q.1:Nat):Int)])]) (λq=>q.1<=xs.length/\(np r (xs.drop q.1) q.2.2).map (q.2.1++·)=np r xs false/\q.2.1.length<=q.1+q.2.2.toNat/\(∀y∈q.2.1,0<=y.At/\1<=y.b0/\y.At+y.b0<=1048576)) (λq=>xs.length - q.1) ((0,[],false)) ?_ (⟨X0 _,by simp,by simp,by simp⟩) λq g=>?_
 ·exact wB
 obtain⟨i,out,put⟩:=q;obtain⟨N,b,d,e⟩:=g;simp only at N b d e |-;have l:0<=r.At/\1<=r.b0/\r.At+r.b0<=1048576:=ω
 by_cases F:i<xs.length
 ·have u:=ao F
  have O:=L _ (am F);have h:0<=(nth xs i).At/\1<=(nth xs i).b0/\(nth xs i).At+(nth xs i).b0<=1048576:=ω
  rw[jm F]at b;by_cases j:ovl (nth xs i) r=true
  ·rw[<-b]
   rw[Bc,CD j];unfold ovl at j;rw[C0]at j
   repeat'(first|refine gE ?_|(conv=>whnf);with_reducible refine Bf.D (λg=>?_) (λg=>?_))
   rfl
  rw[Bc,CB j]at b;unfold ovl at j;rw[C0]at j;cases put with
  | false=>
   have d:out.length<=i:=by simpa using d
   by_cases P:(nth xs i).At > r.At
   ·rw[CD (by simp;omega),Option.map_map]at b
    repeat'(first|refine gE ?_|(conv=>whnf);first|with_reducible refine Bf.D (λg=>?_) (λg=>?_)|refine Ap.sm (aT λ_=>rfl) rfl (by simp;omega) (by decide) rfl ?_|refine Ap.sm (λr p=>by simp at p;rcases p with⟨a,_,rfl⟩|rfl<;>rfl) rfl (by simp;omega) (by decide) rfl ?_)
    ((conv=>whnf)
     refine CG (i+1,out++[r,nth xs i],true) ⟨(by simp only;omega),(by rw[<-b];congr 1;funext t;simp),(by simp;omega),(λy c=>?_)⟩ (by simp only;omega) ?_)
    ·rcases V3.1 c with c|c
     ·exact e y c
     rcases List.mem_cons.1 c with rfl|c
     ·exact l
     rw[V1.1 c];exact h
    (repeat'(first|exact trivial|rfl|exact CN rfl (CN (Z0 (C.s dN.own) (by simp[aB.enc])) trivial)|refine CN ?_ ?_))
   rw[CB (by simp;omega),Option.map_map]at b
   repeat'(first|refine gE ?_|(conv=>whnf);first|with_reducible refine Bf.D (λg=>?_) (λg=>?_)|refine Ap.sm (aT λ_=>rfl) rfl (by simp;omega) (by decide) rfl ?_)
   ((conv=>whnf)
    refine CG (i+1,out++[nth xs i],false) ⟨(by simp only;omega),(by rw[<-b];congr 1;funext t;simp),(by simp;omega),(λy c=>?_)⟩ (by simp only;omega) ?_)
   ·rcases V3.1 c with c|c
    ·exact e y c
    rw[V1.1 c];exact h
   (repeat'(first|exact trivial|rfl|exact CN rfl (CN (Z0 (C.s dN.own) (by simp[aB.enc])) trivial)|refine CN ?_ ?_))
  | true=>
   have d:out.length<=i+1:=d;rw[CB (by simp),Option.map_map]at b;by_cases Q:(nth xs i).At<r.At+r.b0
   all_goals
    repeat'(first|refine gE ?_|(conv=>whnf);first|with_reducible refine Bf.D (λg=>?_) (λg=>?_)|refine Ap.sm (aT λ_=>rfl) rfl (by simp;omega) (by decide) rfl ?_)
    ((conv=>whnf)
     refine CG (i+1,out++[nth xs i],true) ⟨(by simp only;omega),(by rw[<-b];congr 1;funext t;simp),(by simp;omega),(λy c=>?_)⟩ (by simp only;omega) ?_)
    ·rcases V3.1 c with c|c
     ·exact e y c
     rw[V1.1 c];exact h
    (repeat'(first|exact trivial|rfl|exact CN rfl (CN (Z0 (C.s dN.own) (by simp[aB.enc])) trivial)|refine CN ?_ ?_))
 obtain rfl:i=xs.length:=ω
 rw[List.drop_length]at b;cases put with
 | false=>
  have d:out.length<=xs.length:=by simpa using d
  rw[<-b];have G:=tq (out++[r]) (by simp;omega) (λy c=>by
    rcases V3.1 c with c|c
    · exact e y c
    rw[V1.1 c];exact l)
  repeat'(first|refine gE ?_|(conv=>whnf);first|refine Ap.sm (aT λ_=>rfl) rfl (by simp;omega) (by decide) (show(out++[r]).map (aB.enc .own)=_ by simp[aB.enc]) ?_|refine CL (G) ⟨⟨rfl,eN _⟩,trivial⟩ ?_)
  rfl
 | true=>
  have d:out.length<=xs.length+1:=d;rw[<-b];have G:=tq out ω e
  repeat'(first|refine gE ?_|(conv=>whnf);refine CL (G) ⟨⟨rfl,eN _⟩,trivial⟩ ?_)
  simp[np,HS]
  rfl
def shl64{i:Int}(d:0<=i/\i<=15):IntKind.i64.wrap (1*2 ^ min i.toNat IntKind.i64.bits)=2 ^ i.toNat/\0<=(2:Int) ^ i.toNat/\(2:Int) ^ i.toNat<=32768:=by
 have a:min i.toNat IntKind.i64.bits=i.toNat:=Nat.min_eq_left (show i.toNat<=64 by omega);have b:(0:Int)<=2 ^ i.toNat/\(2:Int) ^ i.toNat<=32768:=by
  have:(2:Nat) ^ i.toNat<=2 ^ 15:=Nat.pow_le_pow_right (by decide) ω;have c:((2 ^ i.toNat:Nat):Int)=(2:Int) ^ i.toNat:=Int.natCast_pow 2 i.toNat;rw[<-c];exact⟨Int.natCast_nonneg _,Int.ofNat_le.2 this⟩
 rw[a,Int.one_mul];exact⟨eZ ω ω,b⟩
def clr64{i:Int}(a:0<=b/\b<=65535):IntKind.i64.wrap ((BitVec.ofInt IntKind.i64.bits b &&& ~~~BitVec.ofInt IntKind.i64.bits (2 ^ i.toNat)).toNat:Nat)=zt b i:=by
 have:=DQ (i:=i) a;unfold zt at this |-;exact eZ ω ω
def uZ(b i:Int)(c:0<=b/\b<=65535)(d:0<=i/\i<=15):zzA 579 false [.val none [I b],.val none [I i]] .one [I (zt b i)]:=by
 have a:=qx b i;rw[O0 ω]at a;have e:IntKind.u64.wrap i=i:=by unfold IntKind.wrap;simp[IntKind.signed,IntKind.bits];omega
 refine fO 15 [] Tryz.func579 rfl ?_
 repeat'(first|refine gP ?_|(conv=>whnf);first|refine C9 (a) ?_|refine CQ ω ?_|refine CO e ?_|refine CO (shl64 d).1 ?_|refine CO (clr64 c) ?_)
 rfl
def RV{k:Int}(a:aS s.b1 k=true):0<=k/\k<=15:=by
 have:=(eB _ _).1 a;omega
def zI(s:ax)(k:Int)(a:bi s=true)(b:aS s.b1 k=true):zzA 553 false [.val (some 3) (ax.enc .U s),.val none [I k]] (.tup [some 3,none]) (ax.enc .own (nl s k)++[B true]):=by
 have e:=eS a;have g:=RV b;have c:=fW s;have d:=hB s.b1 k ω;rw[a]at c;rw[b]at d;refine fO 23 [] Tryz.func553 rfl ?_ (.inr (bg (ax.enc_fr _) ⟨trivial,trivial⟩))
 repeat'(first|refine gP ?_|(conv=>whnf);first|refine C9 (c) ?_|refine C9 (d) ?_|refine C9 (uZ s.b1 k e g) ?_)
 rfl
def yi(c:a8)(k:Int)(b:a8.sml c):zzA 480 false [.val (some 1) (a8.enc .U c),.val none [I k]] .one [B (bt c&&decide (0<=k/\k<=3))]:=by
 have a:=o6 c b;cases e:bt c<;>rw[e]at a
 all_goals
  refine fO 11 [] Tryz.func480 rfl ?_
  repeat'(first|refine gP ?_|(conv=>whnf);first|refine C9 (a) ?_|refine C9 (aI k 0 3) ?_)
  all_goals rfl
def uS{c:a8}{k:Nat}(a:k<c.b.length):c.b[k]? = some (nth c.b k):=ao a
def PC{c:a8}(h:bt c=true)(k:Nat)(a:Int):a8.sml (nK c k a):=by
 obtain⟨f,d⟩:=fw h;refine⟨by simp only[nK,W1];omega,λl b=>?_⟩;rcases S7 b with b|rfl
 ·have:=d l b;show l.length<=1048576;omega
 show(nth c.b k++[a]).length<=1048576;by_cases e:k<c.b.length
 ·have:=d _ (am e);simp;omega
 have:nth c.b k=[]:=by unfold nth;rw[C3,Z2 ω];rfl
 rw[this];simp
def Qc(c:a8)(k:Nat)(a:Int):a8.enc .own (nK c k a)=[.s .own ((c.b.map (aD .own)).set k (aD .own (nth c.b k++[a])))]:=by simp[a8.enc,nK,C7]
def gG{f:α->List C}{xs:List α}{k:Nat}{y:α}{r:List C}(h:xs[k]? = some y):((xs.map f).set k r)[k]? = some r:=by
 rw[v4 (by rw[I1];exact(X2.1 h).1)]
def iY(f:α->β)(xs:List α)(y:α):(xs++[y]).map f=xs.map f++[f y]:=by simp
def JF(c:a8)(k a:Int):List C:=a8.enc .own ((cput c k a).getD c)++[B (cput c k a).isSome]
def Qo(c:a8)(k a:Int):iD (JF c k a):=bg (a8.enc_fr _) ⟨trivial,trivial⟩
def zo(c:a8)(k:Nat)(a:Int)(h:bt c=true)(B:k<=3):zzA 583 false [.val (some 1) (a8.enc .U c),.val none [I (k:Nat)],.val none [I a]] (.tup [some 1,none]) (JF c k a):=by
 obtain⟨D,q⟩:=fw h;have r:a8.sml c:=⟨ω,λl u=>by have:=q l u;show l.length<=1048576;omega⟩
 have n:=yi c k r;rw[h,O0 ω]at n;have t:=j9 c r;have d:=PC h k a;have o:=o6 (nK c k a) d;have w:=j9 (nK c k a) d;have b:=uS (c:=c) (k:=k) ω;have y:=q _ (am (xs:=c.b) (i:=k) ω);have j:=a8.enc_fz (nK c k a);rw[Qc]at j;have g:=Qo c k a;unfold JF at g |-;cases e:bt (nK c k a)<;>rw[e]at o
 ·have p:cput c k a=none:=by unfold cput;rw[CB λx=>by have:=x.2.2.2;rw[I3,e]at this;cases this]
  rw[p]at g |-;refine fO 35 [(4,267,[16,17,18,19,20,21,22,23,24,25,27,0,1,2,3,4,5,6,7,8,9,10,1000,1001,1002,11,12])] Tryz.func583 rfl ?_ (.inr g)
  repeat'(first|refine gP ?_|(conv=>whnf);first|refine CF (gG b) ?_|refine CJ rfl (gG b) rfl ?_|refine C9 (n) ?_|refine C9 (t) ?_|refine Lq.one rfl rfl (aa b) rfl (O1 rfl) rfl rfl ?_|refine CS rfl rfl (gG b) rfl (O1 rfl) (show [C.s dN.own ((c.b.map (aD .own)).set k (aD .own (nth c.b k++[a])))]=_ from by simp only[List.set_cons_zero,List.set_set,I3];rfl) ?_|refine Ap.sm (aT λ_=>rfl) rfl (by simp;omega) (by decide) (iY _ _ _) ?_|refine CL (o) ⟨⟨rfl,j⟩,trivial⟩ ?_)
  rfl
 have p:cput c k a=some (nK c k a):=by unfold cput;rw[CD ⟨h,ω,ω,by rw[I3];exact e⟩,I3]
 rw[p]at g |-;refine fO 35 [(4,267,[16,17,18,19,20,21,22,23,24,25,27,0,1,2,3,4,5,6,7,8,9,10,1000,1001,1002,11,12])] Tryz.func583 rfl ?_ (.inr g)
 repeat'(first|refine gP ?_|(conv=>whnf);first|refine CF (gG b) ?_|refine CJ rfl (gG b) rfl ?_|refine C9 (n) ?_|refine C9 (t) ?_|refine Lq.one rfl rfl (aa b) rfl (O1 rfl) rfl rfl ?_|refine CS rfl rfl (gG b) rfl (O1 rfl) (show [C.s dN.own ((c.b.map (aD .own)).set k (aD .own (nth c.b k++[a])))]=_ from by simp only[List.set_cons_zero,List.set_set,I3];rfl) ?_|refine Ap.sm (aT λ_=>rfl) rfl (by simp;omega) (by decide) (iY _ _ _) ?_|refine CL (o) ⟨⟨rfl,j⟩,trivial⟩ ?_|refine CL (w) ⟨⟨rfl,j⟩,trivial⟩ ?_)
 rfl
def bA(x:ab):List C:=[.s .own (x.G.F.W.T.map (aD .own)),.s .own (x.G.F.W.a6.map (rB .own)),.s .own (x.G.F.R.J.map (bk.enc .own)),I x.G.Calls,.s .own (x.G.a0.map (rI .own)),.s .own (x.w.map (aB.enc .own)),.s .own (x.K.map (ax.enc .own)),.s .own (x.M.map (a7.enc .own)),.s .own (x.O.map (bn.enc .own)),.s .own (x.S.map (a8.enc .own)),.s .own (x.q.V.map (cF .own)),.s .own (x.q.y.map (aD .own)),I x.a9.c1,.s .own (x.a9.a5.map (aN.enc .own)),I x.c0,I x.b5,I x.c4,I x.d,B x.u,I x.Z.X.a3,I x.Z.X.a2,.s .U (x.Z.X.T.map (rI .U)),I x.Z.b2,I x.Z.d]
def bI(x:ab):eH (bA x)=ab.enc .U x:=by simp[eH,bA,ab.enc,a8.enc_fz,bk.enc_fz,a7.enc_fz,bn.enc_fz,aB.enc_fz,ax.enc_fz,aN.enc_fz,rB,o7,rI,d8,<-co,X6]
def yr(x:cA):List C:=[I x.X.a3,I x.X.a2,.s .U (x.X.T.map (rI .U)),I x.b2,I x.d]
def Pu.two{g a:List C}{off k h l c:Nat}{cs:List C}{K:List C->Prop}{o d:dN}{rows rows2:List (List C)}{r f:List C}(h1:g[off]? = some (.s o rows))(u:o.mine=true)(n:rows[i]? = some r)(w:r.length=k)(p:r[j]? = some (.s d rows2))(y:d.mine=true)(q:rows2[h]? = some f)(A:f.length=l)(E:c+cs.length<=l)(B:a=g.set off (.s o (rows.set i (r.set j (.s d (rows2.set h (splice f c cs)))))))(D:K a):Pu g off [(i,k,j),(h,l,c)] cs K:=by
 have t:o≠.U:=λe=>by subst e;cases u
 have b:d≠.U:=λe=>by subst e;cases y
 refine Pu.mk (r:=f) (j:=c) (by simp[cn,h1,n,w,p,q,A]) (by simp[kU,h1,n,t,p,q,b]) ω (by rw[B];simp[gl,h1,n,p,q]) D
def GD(x:List ax):fz (.s .own (x.map (ax.enc .own)))=.s .U (x.map (ax.enc .U)):=(List.cons.inj (xJ x)).1
def BB(x:List a7):fz (.s .own (x.map (a7.enc .own)))=.s .U (x.map (a7.enc .U)):=(List.cons.inj (EX x)).1
def Db(x:List bn):fz (.s .own (x.map (bn.enc .own)))=.s .U (x.map (bn.enc .U)):=(List.cons.inj (KT x)).1
def Ap.dele{e:α->List C}{xs:List α}{sz by_:Nat}{K:List (List C)->Prop}(a:∀y,(e y).length=sz)(b:∀y,aZ (e y)=true)(h:xs.length<=1048576)(c:by_<=1000)(d:K ((Ab.dele xs i).map e)):Ap true ((xs.take i).map e) ((xs.drop (i+1)).map e) sz by_ K:=by
 have f:(xs.take i).length+(xs.drop (i+1)).length<=2097152:=by rw[Z1,Z3];omega
 refine CU (aT a) (aT a) (λ_ r g=>by obtain⟨y,-,rfl⟩:=Z4.1 g;exact b y) (by rw[I1,I1];omega) (by rw[I1,I1];exact O5 (Nat.mul_le_mul f c) (by decide)) ?_ d;unfold Ab.dele;rw[W6]
def LE(h:ab)(p:Int)(a:aH.sml h.G.F.R):zzA 488 false [.ptr (ab.enc .U h),.val none [I p]] .one [I (ac h.G.F.R p).e]:=by
 refine fO 13 [] Tryz.func488 rfl ?_
 repeat'(first|refine gP ?_|(conv=>whnf);refine C9 (du h.G.F.R p a) ?_)
 rfl
def Tn(h:ab):List C:=(bA h).drop 5
def U3(h:ab)(k:ah):bA {h with G:=k} = ah.enc .own k++Tn h:=rfl
def GA(h:ab):Tn h=[.s .own (h.w.map (aB.enc .own)),.s .own (h.K.map (ax.enc .own)),.s .own (h.M.map (a7.enc .own)),.s .own (h.O.map (bn.enc .own)),.s .own (h.S.map (a8.enc .own)),.s .own (h.q.V.map (cF .own)),.s .own (h.q.y.map (aD .own)),I h.a9.c1,.s .own (h.a9.a5.map (aN.enc .own)),I h.c0,I h.b5,I h.c4,I h.d,B h.u,I h.Z.X.a3,I h.Z.X.a2,.s .U (h.Z.X.T.map (rI .U)),I h.Z.b2,I h.Z.d]:=rfl
def Lg(h:ab)(f:Int)(a:aH.sml h.G.F.R)(b:0<=f/\f<h.G.F.W.T.length/\f<h.G.F.W.a6.length) :
  zzB 489 false [.ptr (bA h),.val none [I f]] [.ptr (bA {h with G:=ik h.G f}),.val none [I f]] (.tup []) []:=by
 have c:=ao (xs:=h.G.F.W.T) (i:=f.toNat) ω;have d:=ao (xs:=h.G.F.W.a6) (i:=f.toNat) ω;rw[U3 h (ik h.G f)];by_cases e:(pagesOn h.G.F.R f).length=0
 ·rw[AS e,GA]
  refine fM 30 [] [(2,8,[21,22,23,24,25,26,27,28])] [(0,0),(0,0)] Tryz.func489 rfl (λu q=>?_) (.inr trivial)
  repeat'(first|refine gB ?_|(conv=>whnf);first|with_reducible (first|refine CP b.1 (aa d) ?_|refine CP b.1 (aa c) ?_)|refine CL (gU h.G.F.R f a) ⟨⟨rfl,Cc h.G.F.R⟩,⟨rfl,rfl⟩,trivial⟩ ?_|refine CS rfl rfl (aa c) rfl (O1 rfl) rfl ?_|refine CS rfl rfl (aa d) rfl (O1 rfl) rfl ?_|refine Mk.mk 16 rfl rfl (by decide) (by decide) rfl ?_)
  refine CK rfl rfl ?_;exact wB
 rw[G1 e];show aW _ _ _ [.ptr (bA h),_] [.ptr (bA h),_] _ _;refine fM 30 [] [(2,8,[21,22,23,24,25,26,27,28])] [(0,0),(0,0)] Tryz.func489 rfl (λu q=>?_) (.inr trivial)
 repeat'(first|refine gB ?_|(conv=>whnf);refine CL (gU h.G.F.R f a) ⟨⟨rfl,Cc h.G.F.R⟩,⟨rfl,rfl⟩,trivial⟩ ?_)
 refine CK rfl rfl ?_;exact wB
def nU(h:ab)(p:Int)(b:aA h.G=true) :
  zzB 388 false [.ptr (bA h),.val none [I p]] [.ptr (bA {h with G:=ee h.G p}),.val none [I p]] .one [B (decide ((ac h.G.F.R p).e≠0))]:=by
 have k:=bO b;have c:=LE h p k.1.2;by_cases a:(ac h.G.F.R p).e=0
 ·rw[show ee h.G p=h.G by unfold ee;rw[CD a]]
  refine fM 32 [(489,[2,0])] [] [(0,0),(0,0)] Tryz.func388 rfl (λu q=>?_)
  repeat'(first|refine gB ?_|(conv=>whnf);refine CL (c) ⟨bI h,⟨rfl,rfl⟩,trivial⟩ ?_)
  refine CK rfl ?_ ?_
  ·exact Z0 (λz=>[B z]) ((by simp[a]))
  exact wB
 obtain⟨l,r,n,d,o⟩:=cj b a;have j:=(bc.1 (aG.1 b).2.1).2.2.1;rw[show ee h.G p=ik (qE h.G p) (ac h.G.F.R p).j by unfold ee;rw[CB a]];have e:=Lg {h with G:=qE h.G p} (ac h.G.F.R p).j (Pm b) ⟨d,by simp only[qE];omega,by simp only[qE];omega⟩;rw[U3 h (qE h.G p),MI,GA]at e;have g:=ao (xs:=h.G.F.R.J) (i:=p.toNat) ω;rw[n]at c e a |-;refine fM 32 [(489,[2,0])] [] [(0,0),(0,0)] Tryz.func388 rfl (λu q=>?_)
 repeat'(first|refine gB ?_|(conv=>whnf);first|with_reducible refine CP l (aa g) ?_|refine CL (c) ⟨bI h,⟨rfl,rfl⟩,trivial⟩ ?_|refine CS rfl rfl (aa g) rfl (O1 rfl) rfl ?_|refine CM (e) (.inl rfl) ?_)
 refine CK rfl ?_ ?_
 ·exact Z0 (λz=>[B z]) ((by simp[a]))
 exact wB
def vo(h:ab)(p:Int):zzA 381 false [.ptr (ab.enc .U h),.val none [I p]] .one [B (gk h p)]:=by
 cases e:h.u
 all_goals
  have b:ab.enc .U h=(ab.enc .U h).set 18 (B h.u):=rfl;rw[e]at b;rw[b];refine fO 29 [] Tryz.func381 rfl ?_
  repeat'(first|refine gP ?_|(conv=>whnf);with_reducible (first|refine Bf.D (λa=>?_) (λa=>?_)|refine Bf.E (λa=>?_) (λa=>?_)|refine Bf.N (λa=>?_) (λa=>?_)))
  all_goals exact Z0 (λz=>[B z]) ((by unfold gk;rw[e];first|(simp[*];done)|(simp[*];rw[I5];simp)))
def i6(h:ab):zzA 386 false [.ptr (ab.enc .U h)] .one [I (dQ h:Nat)]:=by
 refine fO 11 [] Tryz.func386 rfl ?_
 repeat'(first|refine gP ?_|fail)
 rfl
def rF(h:ab)(a:Int)(k:h.O.length<=1048576):zzA 558 false [.val (some 24) (ab.enc .U h),.val none [I a]] .one [I (cu (mF a) h.O)]:=by
 refine fO 22 [] Tryz.func558 rfl ?_
 repeat'(first|refine gP ?_|fail)
 (conv=>whnf)
 refine CH (ι:=Nat) (λi=>[(1,.H .one [I (a)]),(2,.H .box (ab.enc .U h)),(5,.H .one [I ((i:Nat):Int)])]) (λi=>i<=h.O.length/\∀(j:Nat)(z:bn),j<i->h.O[j]? = some z->mF a z=false) (λi=>h.O.length - i) (0) ?_ (⟨X0 _,λj z l=>ω⟩) λi d=>?_
 ·exact wB
 obtain⟨d,c⟩:=d;by_cases g:i<h.O.length
 ·have b:=ao g
  by_cases e:(nth h.O i).Addr=a
  ·repeat'(first|refine gB ?_|fail)
   exact Z0 (λz=>[I z]) (dB b (by unfold mF;simp[e]) c).symm
  repeat'(first|refine gB ?_|fail)
  ((conv=>whnf);refine CG (i+1) ⟨ω,dt b (by unfold mF;simp[e]) c⟩ ω ?_;(exact wB))
 repeat'(first|refine gE ?_|fail)
 exact Z0 (λz=>[I z]) (fy ω c).symm
def oD(h:ab)(i:Nat)(b:i<h.O.length)(a:h.O.length<=1048576):zzB 562 false [.ptr (bA h),.val none [I (i:Nat)]] [.ptr (bA {h with O:=dele h.O i}),.val none [I (i:Nat)]] (.tup []) []:=by
 refine fM 23 [] [(0,273,[4,5,6,7,8,9,10,11,13,14,15,16,17,18,19,21,22,0,1,2,3,4,5,6,7,9,10,11,12,13,14,15,8,1000,1009,1010,1011,1012,1013,1014,1015,16,1000,17,18,19]),(1048576,0,[8])] [(0,0),(0,0)] Tryz.func562 rfl (λu q=>?_) (.inr trivial)
 repeat'(first|refine gP ?_|(conv=>whnf);first|refine HH.mk rfl (Db h.O) rfl ?_|refine CZ i rfl (by rw[I1];omega) (aT λ_=>rfl) X4 ?_|refine Sl.suf (i+1) rfl (by rw[I1];omega) (aT λ_=>rfl) Y4 ?_|refine CY (λ_=>rfl) (λ_=>rfl) (by rw[Z1];omega) (by decide) ?_|refine Ap.dele (λ_=>rfl) (λ_=>rfl) a (by decide) ?_|refine CR (λ_=>rfl) (λ_=>rfl) (by rw[Z1];omega) (by decide) ?_)
 refine CK rfl rfl ?_;exact wB
def Eo(h:ab)(E:List Int)(i:Nat)(b:aY h E)(e:i<h.K.length):zzB 554 false [.ptr (bA h),.val none [I (i:Nat)]] [.ptr (bA (giveP h i)),.val none [I (i:Nat)]] (.tup []) []:=by
 have a:=b.lens;have g:=a.spans;have c:=ao e;have j:=nU {h with K:=dele h.K i} (nth h.K i).Q b.ker;have d:=i6 {h with G:=ee h.G (nth h.K i).Q,K:=dele h.K i};rw[show dQ {h with G:=ee h.G (nth h.K i).Q,K:=dele h.K i} = dQ h from(me _ _).1]at d;have k:dQ h<=32:=a.ents;have l:=mW (dQ h:Nat) h.w ⟨(nth h.K i).Q,1⟩ ⟨ω,ω⟩ ⟨by have:=a.free;omega,λ_ _=>trivial⟩;refine fM 52 [(388,[2,0])] [(1,273,[13,14,15,16,17,18,19,20,22,23,24,25,26,27,28,30,31,0,1,2,3,4,5,6,7,9,10,11,12,13,14,15,8,1000,1009,1010,1011,1012,1013,1014,1015,16,1000,17,18,19]),(1048577,0,[6]),(3,270,[38,39,40,41,42,43,44,45,47,37,48,49,50,51,0,1,2,3,4,5,6,7,8,1000,1001,1002,1003,1004,1005,1006,9,10,11,12,13,14,15,1012])] [(0,0),(0,0)] Tryz.func554 rfl (λu q=>?_) (.inr trivial)
 repeat'(first|refine gP ?_|(conv=>whnf);first|refine HH.mk rfl (GD h.K) rfl ?_|refine CZ i rfl (by rw[I1];omega) (aT λ_=>rfl) X4 ?_|refine Sl.suf (i+1) rfl (by rw[I1];omega) (aT λ_=>rfl) Y4 ?_|refine CY (λ_=>rfl) (λ_=>rfl) (by rw[Z1];omega) (by decide) ?_|refine Ap.dele (λ_=>rfl) (λ_=>rfl) ω (by decide) ?_|refine CR (λ_=>rfl) (λ_=>rfl) (by rw[Z1];omega) (by decide) ?_|refine CM (j) (.inl rfl) ?_|refine CL (d) ⟨bI _,trivial⟩ ?_|refine CL (l) ⟨⟨rfl,rfl⟩,⟨rfl,eN h.w⟩,⟨rfl,rfl⟩,trivial⟩ ?_)
 refine CK rfl rfl ?_;exact wB
def yl(h:ab)(i:Nat)(a:Int):bA (clrS h i a)=(bA h).set 6 (.s .own ((h.K.map (ax.enc .own)).set i (ax.enc .own (nl (nth h.K i) (dD (nth h.K i) a))))):=by
 simp[bA,clrS,C7]
def ss{f:α->β}{xs:List α}{y:β}(a:i<xs.length):((xs.map f).set i y)[i]? = some y:=by
 rw[v4 (by rw[I1];exact a)]
def Mc(c:bi s=true)(b:ef s a):jb s a=(dD s a,0):=by
 unfold jb;rw[CD ((fZ c).2 ⟨b.1,b.2.1⟩),b.2.2.1];rfl
def o8(h:ab)(E:List Int)(a:Int)(c:aY h (a::E)):zzB 511 false [.ptr (bA h),.val none [I a]] [.ptr (bA (freeA h a)),.val none [I a]] (.tup []) []:=by
 obtain⟨g,n,t⟩:=c.at (c.hin a (C2 ..));have d:=(c.hin a (C2 ..)).bd c;have B:=c.lens;have C:=B.spans;have e:=c.L.sok _ (am g);have k:=kG h (a / 16) ω;rw[t]at k;unfold freeA;generalize uY h a=i at g n k e;have b:=ao g;have o:=vM (nth h.K i) a ⟨ω,ω⟩;rw[Mc e n]at o;have w:=zI (nth h.K i) (dD (nth h.K i) a) e n.2.2.2;have D:=c.give g n;have l:=vo (clrS h i a) (nth h.K i).Q;rw[show gk (clrS h i a) (nth h.K i).Q=gk h (nth h.K i).Q from rfl]at l;have p:=Eo (clrS h i a) E i D (by unfold clrS;simp only[W1];exact g);have r:=bI (clrS h i a);rw[yl]at p r;have j:((h.K.map (ax.enc .own)).set i (ax.enc .own (nl (nth h.K i) (dD (nth h.K i) a))))[i]? = some (ax.enc .own (nl (nth h.K i) (dD (nth h.K i) a))):=ss g;unfold freeS;by_cases y:(nl (nth h.K i) (dD (nth h.K i) a)).b1=0
 ·cases F:gk h (nth h.K i).Q<;>rw[F]at l
  ·rw[CD ⟨y,rfl⟩]
   refine fM 68 [(554,[2,0])] [(2,274,[26,27,28,29,30,31,32,33,34,35,36,37,38,39,25,40,41,42,0,1,2,3,4,5,6,7,8,9,10,11,12,13,14,15,16,17,18,1016])] [(0,0),(0,0)] Tryz.func511 rfl (λu q=>?_) (.inr trivial)
   repeat'(first|refine gB ?_|(conv=>whnf);first|with_reducible refine CO ((Z0 _ (tdiv16 d.1)).trans (eZ ω ω)) ?_|refine CQ (by decide) ?_|refine CL (k) ⟨⟨rfl,bI h⟩,⟨rfl,rfl⟩,trivial⟩ ?_|refine CF j ?_|refine CJ rfl j rfl ?_|refine C9 (o) ?_|refine C9 (w) ?_|refine CS rfl rfl (aa b) rfl (O1 rfl) rfl ?_|refine CL (l) ⟨r,⟨rfl,rfl⟩,trivial⟩ ?_|refine CM (p) (.inl rfl) ?_)
   refine CK rfl rfl ?_;exact wB
  rw[CB λx=>by cases x.2];rw[yl];refine fM 68 [(554,[2,0])] [(2,274,[26,27,28,29,30,31,32,33,34,35,36,37,38,39,25,40,41,42,0,1,2,3,4,5,6,7,8,9,10,11,12,13,14,15,16,17,18,1016])] [(0,0),(0,0)] Tryz.func511 rfl (λu q=>?_) (.inr trivial)
  repeat'(first|refine gB ?_|(conv=>whnf);first|with_reducible refine CO ((Z0 _ (tdiv16 d.1)).trans (eZ ω ω)) ?_|refine CQ (by decide) ?_|refine CL (k) ⟨⟨rfl,bI h⟩,⟨rfl,rfl⟩,trivial⟩ ?_|refine CF j ?_|refine CJ rfl j rfl ?_|refine C9 (o) ?_|refine C9 (w) ?_|refine CS rfl rfl (aa b) rfl (O1 rfl) rfl ?_|refine CL (l) ⟨r,⟨rfl,rfl⟩,trivial⟩ ?_|refine CM (p) (.inl rfl) ?_)
  refine CK rfl rfl ?_;exact wB
 rw[CB λx=>y x.1];rw[yl];refine fM 68 [(554,[2,0])] [(2,274,[26,27,28,29,30,31,32,33,34,35,36,37,38,39,25,40,41,42,0,1,2,3,4,5,6,7,8,9,10,11,12,13,14,15,16,17,18,1016])] [(0,0),(0,0)] Tryz.func511 rfl (λu q=>?_) (.inr trivial)
 repeat'(first|refine gB ?_|(conv=>whnf);first|with_reducible refine CO ((Z0 _ (tdiv16 d.1)).trans (eZ ω ω)) ?_|refine CQ (by decide) ?_|refine CL (k) ⟨⟨rfl,bI h⟩,⟨rfl,rfl⟩,trivial⟩ ?_|refine CF j ?_|refine CJ rfl j rfl ?_|refine C9 (o) ?_|refine C9 (w) ?_|refine CS rfl rfl (aa b) rfl (O1 rfl) rfl ?_|refine CL (l) ⟨r,⟨rfl,rfl⟩,trivial⟩ ?_|refine CM (p) (.inl rfl) ?_)
 refine CK rfl rfl ?_;exact wB
def MT(h:ab)(t:Nat)(c:a8):bA {h with S:=h.S.set t c} = (bA h).set 9 (.s .own ((h.S.map (a8.enc .own)).set t (a8.enc .own c))):=by
 simp[bA,C7]
def oR(h:ab)(E:List Int)(t:Nat)(a:Int)(b:aY h (a::E))(w:t<h.S.length):zzB 564 false [.ptr (bA h),.val none [I (t:Nat)],.val none [I a]] [.ptr (bA (recyc t h a)),.val none [I (t:Nat)],.val none [I a]] (.tup []) []:=by
 obtain⟨o,y,p⟩:=b.at (b.hin a (C2 ..));have g:=(b.hin a (C2 ..)).bd b;have B:=b.lens;have C:=B.spans;have j:=aC (b.L.sok _ (am o));have r:=b.cach _ (am w);have l:=kG h (a / 16) ω;rw[p]at l;have D:=o8 h E a b;unfold recyc;generalize uY h a=i at o y l j;have n:=ao o;have k:=ao w;have d:=zo (nth h.S t) (nth h.K i).a.toNat a r ω;rw[Int.toNat_of_nonneg j.2.2.1]at d;unfold JF at d;cases e:cput (nth h.S t) (nth h.K i).a a with
 | none=>
  rw[e]at d;refine fM 46 [(511,[2,0])] [(1,277,[16,17,18,19,20,21,22,23,24,25,26,27,28,29,30,31,32,15,33,34,7,0,1,2,3,4,5,6,7,8,9,10,11,12,13,14,15,16,17,18,19,20,21,1019,22]),(3,6,[36,37,38,39,40,41])] [(0,0),(0,0),(0,0)] Tryz.func564 rfl (λu q=>?_) (.inr trivial)
  repeat'(first|refine gP ?_|(conv=>whnf);first|with_reducible refine CO ((Z0 _ (tdiv16 g.1)).trans (eZ ω ω)) ?_|refine CQ (by decide) ?_|refine CL (l) ⟨⟨rfl,bI h⟩,⟨rfl,rfl⟩,trivial⟩ ?_|refine CL (d) ⟨⟨rfl,a8.enc_fz _⟩,⟨rfl,rfl⟩,⟨rfl,rfl⟩,trivial⟩ ?_|refine CM (D) (.inl rfl) ?_)
  refine CK rfl rfl ?_;exact wB
 | some c=>
  rw[e]at d;simp only;rw[MT];refine fM 46 [(511,[2,0])] [(1,277,[16,17,18,19,20,21,22,23,24,25,26,27,28,29,30,31,32,15,33,34,7,0,1,2,3,4,5,6,7,8,9,10,11,12,13,14,15,16,17,18,19,20,21,1019,22]),(3,6,[36,37,38,39,40,41])] [(0,0),(0,0),(0,0)] Tryz.func564 rfl (λu q=>?_) (.inr trivial)
  repeat'(first|refine gP ?_|(conv=>whnf);first|with_reducible refine CO ((Z0 _ (tdiv16 g.1)).trans (eZ ω ω)) ?_|refine CQ (by decide) ?_|refine CL (l) ⟨⟨rfl,bI h⟩,⟨rfl,rfl⟩,trivial⟩ ?_|refine CL (d) ⟨⟨rfl,a8.enc_fz _⟩,⟨rfl,rfl⟩,⟨rfl,rfl⟩,trivial⟩ ?_|refine CS rfl rfl (aa k) rfl (O1 rfl) rfl ?_)
  refine CK rfl rfl ?_;exact wB
def qI(h:ab)(i:Nat)(d:aY h [])(o:i<h.O.length)(t:aJ (nth h.O i).o<0):zzB 560 false [.ptr (bA h),.val none [I (i:Nat)]] [.ptr (bA (freeL h i (wz h (nth h.O i).Addr))),.val none [I (i:Nat)]] (.tup []) []:=by
 obtain⟨l,w,y,-⟩:=(dU d (am o)).1 t;obtain⟨p,B,c,-⟩:=sq w y;generalize wz h (nth h.O i).Addr=g at p B c;have a:=d.lens;have C:=a.larges;have D:=a.objs;have b:=ao o;have N:=aM (d.L.lok _ (am p));have E:dQ h<=32:=a.ents;refine fM 89 [(388,[2,0]),(562,[2,0])] [(4,11,[23,24,25,26,27,28,29,30,31,32,33]),(8,7,[41,42,43,44,45,46,47]),(9,273,[50,51,52,53,54,55,56,57,58,59,60,62,49,63,64,65,66,0,1,2,3,4,5,6,7,8,9,10,11,1000,1001,1002,1003,1004,1005,1006,12,13,14,15,16,17,18,1015]),(10,273,[67,68,69,70,71,72,73,74,76,77,78,79,80,81,82,84,85,0,1,2,3,4,5,6,7,9,10,11,12,13,14,15,8,1000,1009,1010,1011,1012,1013,1014,1015,16,1000,17,18,19]),(1048586,0,[7])] [(0,0),(0,0)] Tryz.func560 rfl (λu q=>?_) (.inr trivial)
 repeat'(first|refine gP ?_|fail)
 (conv=>whnf)
 refine CH (ι:=Nat) (λk=>[(0,.H .box (bA h)),(1,.H .one [I ((i:Nat):Int)]),(4,.H .one [I ((k:Nat):Int)])]) (λk=>k<=g) (λk=>g - k) (0) ?_ (X0 _) λk O=>?_
 ·exact wB
 have j:=ao (xs:=h.M) (i:=k) ω;have F:=aM (d.L.lok _ (am (xs:=h.M) (i:=k) ω));have G:0<=(nth h.O i).Addr/\(nth h.O i).Addr<=512:=ω
 by_cases e:k=g
 ·subst e
  repeat'(first|refine gB ?_|fail)
  (conv=>whnf)
  refine CH (ι:=Nat) (λn=>[(0,.H .box (bA {h with G:=unmN h.G (nth h.M k).Q n})),(1,.H .one [I ((i:Nat):Int)]),(4,.H .one [I ((k:Nat):Int)]),(5,.H .box (a7.enc .own (nth h.M k))),(6,.H .one [I ((n:Nat):Int)])]) (λn=>n<=(nth h.M k).a1.toNat) (λn=>(nth h.M k).a1.toNat - n) (0) ?_ (X0 _) λn P=>?_
  ·exact wB
  by_cases Q:n<(nth h.M k).a1.toNat
  ·have H:=nU {h with G:=unmN h.G (nth h.M k).Q n} ((nth h.M k).Q+n) (jf d.ker _ _)
   repeat'(first|refine gE ?_|(conv=>whnf);refine CM (H) (.inl rfl) ?_)
   ((conv=>whnf);refine CG (n+1) ω ω ?_;(exact wB))
  obtain rfl:n=(nth h.M k).a1.toNat:=ω
  have r:=i6 {h with G:=unmN h.G (nth h.M k).Q (nth h.M k).a1.toNat};rw[show dQ {h with G:=unmN h.G (nth h.M k).Q (nth h.M k).a1.toNat} = dQ h from(fN _ _ _).1]at r;have J:=mW (dQ h:Nat) h.w ⟨(nth h.M k).Q,(nth h.M k).a1⟩ ⟨ω,ω⟩ ⟨by have:=a.free;omega,λ_ _=>trivial⟩;have K:=oD {h with G:=unmN h.G (nth h.M k).Q (nth h.M k).a1.toNat,M:=dele h.M k,w:=(dO (dQ h) h.w ⟨(nth h.M k).Q,(nth h.M k).a1⟩).getD h.w} i o (by show h.O.length<=_;omega)
  repeat'(first|refine gE ?_|(conv=>whnf);first|refine HH.mk rfl (BB h.M) rfl ?_|refine CZ k rfl (by rw[I1];omega) (aT λ_=>rfl) X4 ?_|refine Sl.suf (k+1) rfl (by rw[I1];omega) (aT λ_=>rfl) Y4 ?_|refine CY (λ_=>rfl) (λ_=>rfl) (by rw[Z1];omega) (by decide) ?_|refine Ap.dele (λ_=>rfl) (λ_=>rfl) ω (by decide) ?_|refine CR (λ_=>rfl) (λ_=>rfl) (by rw[Z1];omega) (by decide) ?_|refine CL (r) ⟨bI _,trivial⟩ ?_|refine CL (J) ⟨⟨rfl,rfl⟩,⟨rfl,eN h.w⟩,⟨rfl,rfl⟩,trivial⟩ ?_|refine CM (K) (.inl rfl) ?_)
  refine CK rfl rfl ?_;exact wB
 have M:=c k ω
 repeat'(first|refine gB ?_|fail)
 ((conv=>whnf);refine CG (k+1) ω ω ?_;(exact wB))
def TJ(q:bM)(x:aN):List C:=bM.enc .own (L8 q x)++cx .own (z6 q x)
def RM(q:bM)(x:aN):iD (TJ q x):=bg (bM.enc_fr _) (vD _)
def Er(q:bM)(a:aN)(K:q.a5.length<=4096)(e:fI q=true)(r:0<=a.a/\a.a<=3/\0<=a.Addr/\0<=a.b7)(t:∀y∈q.a5,y.b7<=a.b7)(u:∀y∈q.a5,y.Addr≠a.Addr) :
  zzA 563 false [.val (some 2) (bM.enc .U q),.val (some 3) (aN.enc .U a)] (.tup [some 2,none]) (TJ q a):=by
 have b:bM.sml q:=⟨ω,λ_ _=>trivial⟩
 have w:=sK q b;have l:=pv q b;rw[e]at l;have n:=B1 a;rw[O0 r]at n;have o:=sP q a.Addr b;rw[show q.a5.any (dJ a.Addr)=false by rw[List.any_eq_false];intro y B;unfold dJ;simpa using u y B]at o;have C:=(ku.1 e).2.2.2;have g:=RM q a;have L:(aN.mk a.Addr a.a a.b7)=a:=rfl;have c:=Gl q.c1 (q.a5++[a]);simp only[Y3,List.length_singleton]at c;by_cases E:q.a5.length=0
 all_goals
  try have h:(nth q.a5 (q.a5.length - 1)).b7<=a.b7:=t _ (am ω)
  try have j:=ao (xs:=q.a5) (i:=q.a5.length - 1) ω
  try have d:q.a5[((q.a5.length:Int) - 1).toNat]? = some (nth q.a5 (q.a5.length - 1)):=by rw[show((q.a5.length:Int) - 1).toNat=q.a5.length - 1 by omega];exact j
  refine fO 74 [(3,27,[15,16,17,18,19,20,21,22,23,24,25,26,27,28,29,30,31,32,33,34,35,36,37,38,39,40,41]),(7,6,[52,53,54,55,56,57]),(9,268,[61,62,63,64,65,66,67,69,70,71,72,73,0,1,2,3,4,5,6,8,9,10,11,12,7,1008,1009,1010,1011,1012,13,14])] Tryz.func563 rfl ?_ (.inr g)
  repeat'(first|refine gE ?_|(conv=>whnf);first|with_reducible refine Bf.D (λe=>?_) (λe=>?_)|refine C9 (w) ?_|refine C9 (l) ?_|refine C9 (n) ?_|refine C9 (o) ?_|refine CP ω (aa d) ?_|refine Ap.sm (aT λ_=>rfl) rfl (by simp;omega) (by decide) (iY (aN.enc .own) q.a5 a) ?_)
  (conv=>whnf)
  refine Lp.fz 8 (ι:=Nat) (λk=>[(2,.H .box (bM.enc .U q)),(4,.H .box [I 0,.z]),(8,.H .one (cx .U (q.a5++[a]))),(9,.H .one [I (k:Nat)])]) (λk=>k<=oY q.c1 (q.a5++[a])) (λk=>oY q.c1 (q.a5++[a]) - k) 0 ?_ (X0 _) λk M=>?_
  ·(repeat'(first|exact trivial|rfl|exact CN rfl (show Pc (eH (cx .own (q.a5++[a]))) (cx .U (q.a5++[a])) by rw[EM];exact ng _)|refine CN ?_ ?_))
  have N:(q.a5++[a]).length=q.a5.length+1:=by simp
  have F:((q.a5++[a]).drop k).length<=5000:=by rw[Z3];omega
  have G:((q.a5++[a]).take k).length<=5000:=by rw[Z1];omega
  have p:=vI ((q.a5++[a]).drop k) ⟨ω,λ_ _=>trivial⟩;by_cases H:k<oY q.c1 (q.a5++[a])
  ·have J:q.c1<quarCells ((q.a5++[a]).drop k) ((q.a5++[a]).drop k).length:=Bl H
   repeat'(first|refine gE ?_|(conv=>whnf);first|refine Sl.suf k rfl (by rw[I1];omega) (aT λ_=>rfl) Y4 ?_|refine C9 (p) ?_)
   ((conv=>whnf);refine CG (k+1) ω ω ?_;(exact wB))
  obtain rfl:k=oY q.c1 (q.a5++[a]):=ω
  have J:quarCells ((q.a5++[a]).drop (oY q.c1 (q.a5++[a]))) ((q.a5++[a]).drop (oY q.c1 (q.a5++[a]))).length<=q.c1:=Eu C.1 _
  repeat'(first|refine gE ?_|(conv=>whnf);first|refine Sl.suf (oY q.c1 (q.a5++[a])) rfl (by rw[I1];omega) (aT λ_=>rfl) Y4 ?_|refine CZ (oY q.c1 (q.a5++[a])) rfl (by rw[I1];omega) (aT λ_=>rfl) X4 ?_|refine C9 (p) ?_|refine CY (λ_=>rfl) (λ_=>rfl) ω (by decide) ?_|refine CR (λ_=>rfl) (λ_=>rfl) ω (by decide) ?_)
  rfl
def qW{z:Int}(h:0<=z/\z<512):IntKind.i64.wrap (z.tdiv 16)=z / 16:=(Z0 _ (tdiv16 h.1)).trans (eZ ω ω)
def tP(a:aY h E)(b:o∈h.O):0<=o.Addr/\o.Addr<512:=by
 rcases a.oow o b with⟨s,c,⟨f,g,-⟩,-⟩|⟨l,d,e,-⟩
 ·have:=aC (a.L.sok s c);omega
 have:=aM (a.L.lok l d);omega
def PO{k:Int}(h:0<=k/\k<=3):1<=csz k/\csz k<=8:=by
 rcases b9 h with e|e|e|e<;>rw[e]<;>decide
structure UD(h:ab)(o:bn):Prop where
 cl:0<=aJ o.o/\aJ o.o<=3
 fr:0<=(ac h.G.F.R (o.Addr / 16)).j/\(ac h.G.F.R (o.Addr / 16)).j<h.G.F.W.T.length
 fit:o.Addr % 16+csz (aJ o.o)<=16
 row:(nth h.G.F.W.T (cY h.G o.Addr)).length=16
def UD.of(b:aY h E)(l:o∈h.O)(q:¬aJ o.o<0):UD h o:=by
 obtain⟨⟨s,d,f,r⟩,B⟩:=(dU b l).2 q;have t:=aC (b.L.sok s d);have u:=tP b l;have n:s.Q=o.Addr / 16:=by have C:=f.1;have D:=f.2.1;omega
 have c:(o.Addr / 16).toNat<(tbl h).J.length:=by have:=b.pg.bnd _ (dH (la:=h.M) d);omega
 have a:(((o.Addr / 16).toNat:Nat):Int)=o.Addr / 16:=ω
 have p:=(b.pg.own _ c).2 (by rw[a,<-n];exact dH d);have g:(ac h.G.F.R (o.Addr / 16)).e≠0:=by rw[<-a];unfold tbl at p c;rw[fB c];exact p
 obtain⟨-,-,-,i,w⟩:=cj b.ker g;have y:=(bc.1 (aG.1 b.ker).2.1).2.2.1;have j:cY h.G o.Addr<h.G.F.W.T.length:=by unfold cY;omega
 refine⟨ω,⟨i,ω⟩,?_,b.lens.row _ (am j)⟩;have A:=f.2.2.1;rw[n,<-r]at *;rcases b9 (k:=s.a) ⟨ω,ω⟩ with e|e|e|e<;>rw[e]at A |-<;>omega
def JL(h:ab)(a:Int)(b:cY h.G a<h.G.F.W.T.length):({h with G:=f7 h.G a 0} : ab)=h:=by
 have e:h.G.F.W.T.set (cY h.G a) (nth h.G.F.W.T (cY h.G a))=h.G.F.W.T:=by
  refine List.ext_getElem? λi=>?_
  rw[I4];split
  ·rename_i e
   subst e;exact(ao b).symm
  rfl
 unfold f7 lI;rw[e]
def Gn(h:ab)(a:Int)(k:Nat)(v:Int)(_:0<=a):bA {h with G:=f7 h.G a (k+1)} = (bA {h with G:=f7 h.G a k}).set 0 (.s .own (((f7 h.G a k).F.W.T.map (aD .own)).set (ac h.G.F.R (a / 16)).j.toNat ((aD .own (lI (nth h.G.F.W.T (cY h.G a)) (a % 16).toNat k)).set 0 (.s .own (((lI (nth h.G.F.W.T (cY h.G a)) (a % 16).toNat k).map (rI .own)).set (a % 16+k).toNat (splice (rI .own v) 0 [I 0])))))):=by
 have e:(a % 16+k).toNat=(a % 16).toNat+k:=ω
 rw[e];simp[bA,f7,C7,lI,aD,splice,cY]
 rfl
def FR(t:Nat)(h:ab)(xs:List aN)(k:Nat)(a:k<xs.length):recycs t h ((xs.take (k+1)).map (·.Addr))=recyc t (recycs t h ((xs.take k).map (·.Addr))) (nth xs k).Addr:=by
 unfold recycs;rw[O6,ao a];simp
def H6(h:ab)(o:bn)(t:Nat)(a:aY h [])(P:o∈h.O)(ht:o.a4=t)(hlc:h.S.length<=4):zzB 527 false [.ptr (bA h),.val none [I (t:Nat)],.val none [I o.Addr]] [.ptr (bA (freeOb h t (pC h o.Addr)).1),.val none [I (t:Nat)],.val none [I o.Addr]] .one [I (freeOb h t (pC h o.Addr)).2]:=by
 obtain⟨l,B,C⟩:=a.objAt P;have b:=tP a P;have hon:=a.onu o P;have d:=a.lens;have hno:=d.objs;have E:t<h.S.length:=ω
 have M:=aI (t:Nat) 0 (h.S.length - 1:Int);rw[O0 ω]at M;have F:=rF h o.Addr ω;rw[C]at F;generalize pC h o.Addr=i at l B F;subst B;have r:=ao l;have Q:=kY (nth h.O i).o;unfold freeOb;have R:=bO a.ker;have Z:=du h.G.F.R ((nth h.O i).Addr / 16) R.1.2;by_cases w:aJ (nth h.O i).o<0
 ·rw[CD w]
  have c3:=qI h i a l w;refine fM 148 [(560,[2,0]),(562,[2,0]),(564,[2,0,0]),(559,[2,0])] [(15,269,[68,69,70,71,72,73,74,75,77,67,78,79,11,0,1,2,3,4,5,6,7,13,8,1000,1001,1002,1003,1004,1013,9,10,11,12,14,1012,15]),(22,15,[92,93,94,95,96,97,98,99,100,101,102,103,104,105,106]),(25,271,[116,117,118,119,120,121,122,123,124,125,127,115,128,129,14,0,1,2,3,4,5,6,7,8,9,15,10,1000,1001,1002,1003,1015,11,12,13,14,16,1014,17])] [(0,0),(0,0),(0,0)] Tryz.func527 rfl (λu q=>?_)
  repeat'(first|refine gE ?_|(conv=>whnf);first|with_reducible refine Bf.D (λn=>?_) (λn=>?_)|refine C9 (M) ?_|refine CL (F) ⟨⟨rfl,bI h⟩,⟨rfl,rfl⟩,trivial⟩ ?_|refine C9 (Q) ?_|refine CM (c3) (.inl rfl) ?_)
  refine CK rfl rfl ?_;exact wB
 rw[CB w];obtain⟨S,s2,s3,s4⟩:=UD.of a (am l) w;by_cases N:(ac (tbl h) ((nth h.O i).Addr / 16)).e=1
 ·rw[CD N]
  unfold tbl at N;refine fM 148 [(560,[2,0]),(562,[2,0]),(564,[2,0,0]),(559,[2,0])] [(15,269,[68,69,70,71,72,73,74,75,77,67,78,79,11,0,1,2,3,4,5,6,7,13,8,1000,1001,1002,1003,1004,1013,9,10,11,12,14,1012,15]),(22,15,[92,93,94,95,96,97,98,99,100,101,102,103,104,105,106]),(25,271,[116,117,118,119,120,121,122,123,124,125,127,115,128,129,14,0,1,2,3,4,5,6,7,8,9,15,10,1000,1001,1002,1003,1015,11,12,13,14,16,1014,17])] [(0,0),(0,0),(0,0)] Tryz.func527 rfl (λu q=>?_)
  repeat'(first|refine gB ?_|(conv=>whnf);first|with_reducible refine Bf.D (λn=>?_) (λn=>?_)|refine CQ (by decide) ?_|refine CO (qW b) ?_|refine C9 (M) ?_|refine CL (F) ⟨⟨rfl,bI h⟩,⟨rfl,rfl⟩,trivial⟩ ?_|refine C9 (Q) ?_|refine CL (Z) ⟨⟨rfl,Cc _⟩,⟨rfl,rfl⟩,trivial⟩ ?_)
  refine CK rfl rfl ?_;exact wB
 rw[CB N];unfold tbl at N;have G:cY h.G (nth h.O i).Addr<h.G.F.W.T.length:=by unfold cY;omega
 have hcz:=PO S;have g:=a.inQuar l w;have H:=dx (aJ (nth h.O i).o);refine fM 148 [(560,[2,0]),(562,[2,0]),(564,[2,0,0]),(559,[2,0])] [(15,269,[68,69,70,71,72,73,74,75,77,67,78,79,11,0,1,2,3,4,5,6,7,13,8,1000,1001,1002,1003,1004,1013,9,10,11,12,14,1012,15]),(22,15,[92,93,94,95,96,97,98,99,100,101,102,103,104,105,106]),(25,271,[116,117,118,119,120,121,122,123,124,125,127,115,128,129,14,0,1,2,3,4,5,6,7,8,9,15,10,1000,1001,1002,1003,1015,11,12,13,14,16,1014,17])] [(0,0),(0,0),(0,0)] Tryz.func527 rfl (λu q=>?_)
 repeat'(first|refine gB ?_|(conv=>whnf);first|with_reducible refine Bf.D (λn=>?_) (λn=>?_)|refine CQ (by decide) ?_|refine CO (qW b) ?_|refine C9 (M) ?_|refine CL (F) ⟨⟨rfl,bI h⟩,⟨rfl,rfl⟩,trivial⟩ ?_|refine C9 (Q) ?_|refine CL (Z) ⟨⟨rfl,Cc _⟩,⟨rfl,rfl⟩,trivial⟩ ?_)
 rw[show bA h=bA {h with G:=f7 h.G (nth h.O i).Addr 0} by rw[JL h _ G]]
 (conv=>whnf)
 refine CH (ι:=Nat) (λk=>[(0,.H .box (bA {h with G:=f7 h.G (nth h.O i).Addr k})),(1,.H .one [I ((t:Nat):Int)]),(2,.H .one [I ((nth h.O i).Addr)]),(7,.H .one [I ((i:Nat):Int)]),(8,.H .box (bn.enc .own (nth h.O i))),(9,.H .one [I (aJ (nth h.O i).o)]),(10,.H .box (bk.enc .own (ac h.G.F.R ((nth h.O i).Addr / 16)))),(13,.H .one [I ((k:Nat):Int)])]) (λk=>k<=(csz (aJ (nth h.O i).o)).toNat) (λk=>(csz (aJ (nth h.O i).o)).toNat - k) (0) ?_ (X0 _) λk hk=>?_
 ·exact wB
 have hmod:IntKind.i64.wrap 0=0:=rfl;have T:(nth h.O i).Addr.tmod 16=(nth h.O i).Addr % 16:=fF b.1;have p:(f7 h.G (nth h.O i).Addr k).F.W.T[(ac h.G.F.R ((nth h.O i).Addr / 16)).j.toNat]? = some (lI (nth h.G.F.W.T (cY h.G (nth h.O i).Addr)) ((nth h.O i).Addr % 16).toNat k):=v4 G;by_cases O:k<(csz (aJ (nth h.O i).o)).toNat
 ·have J:=ao (xs:=lI (nth h.G.F.W.T (cY h.G (nth h.O i).Addr)) ((nth h.O i).Addr % 16).toNat k) (i:=((nth h.O i).Addr % 16+k).toNat) (by rw[nh,s4];omega)
  repeat'(first|refine gE ?_|(conv=>whnf);first|refine CQ (by decide) ?_|refine CX T ?_|refine C9 (H) ?_|refine CP s2.1 (aa p) ?_|refine CP ω (aa J) ?_|refine Pu.two rfl rfl (aa p) rfl rfl rfl (aa J) rfl (W3 _) (Gn h _ k _ b.1) ?_)
  ((conv=>whnf);refine CG (k+1) ω ω ?_;(exact wB))
 obtain rfl:k=(csz (aJ (nth h.O i).o)).toNat:=ω
 have c5:=oD {h with G:=f7 h.G (nth h.O i).Addr (csz (aJ (nth h.O i).o)).toNat} i l (by show h.O.length<=_;omega);have j:=a.nums;unfold cq at j;rw[C0]at j;have K:=(a.dropO l (kb.any (c:=aJ (nth h.O i).o) (by obtain⟨⟨s,hs,k1,k2⟩,-⟩:=(dU a (am l)).2 w;exact⟨s,hs,k1,.inr k2⟩))).nd;rw[List.cons_append,List.nil_append]at K;have c6:=Er h.a9 (ma h (nth h.O i)) (by have:=d.quar;omega) a.quar ⟨S.1,S.2,b.1,j.2.2.1⟩ (λy U=>a.snc y U) (λy U e=>(List.nodup_cons.1 K).1 (by rw[show(nth h.O i).Addr=y.Addr from e.symm];unfold holders;simp only[V3];exact .inl (.inr (Z4.2 ⟨y,U,rfl⟩))));unfold TJ at c6;have V:(z6 h.a9 (ma h (nth h.O i))).length<=513:=by have:=d.quar;unfold z6;rw[Z1,Y3];simp only[List.length_singleton];omega
 repeat'(first|refine gB ?_|(conv=>whnf);first|with_reducible refine Bf.D (λn=>?_) (λn=>?_)|refine C9 (H) ?_|refine CM (c5) (.inl rfl) ?_|refine CL (c6) ⟨⟨rfl,bM.enc_fz h.a9⟩,⟨rfl,rfl⟩,trivial⟩ ?_)
 have W:GK h t i=recycs t (inQuar h i) ((z6 h.a9 (ma h (nth h.O i))).map (·.Addr)):=rfl;simp only;rw[W];have hqn:(inQuar h i).S.length=h.S.length:=rfl;generalize z6 h.a9 (ma h (nth h.O i))=out at g V
 (conv=>whnf)
 refine CH (ι:=Nat) (λk=>[(0,.H .box (bA (recycs t (inQuar h i) ((out.take k).map (·.Addr))))),(1,.H .one [I ((t:Nat):Int)]),(15,.H .one (cx .own out)),(16,.H .one [I ((k:Nat):Int)])]) (λk=>k<=out.length) (λk=>out.length - k) (0) ?_ (X0 _) λk hk=>?_
 ·exact wB
 by_cases O:k<out.length
 ·have L:=ao O
  have X:out.map (·.Addr)=(out.take k).map (·.Addr)++(nth out k).Addr::(out.drop (k+1)).map (·.Addr):=by
   conv=>lhs;rw[<-List.take_append_drop k out,jm O]
   simp
  have Y:aY (recycs t (inQuar h i) ((out.take k).map (·.Addr))) ((nth out k).Addr::(out.drop (k+1)).map (·.Addr)):=aY.recycs (by rw[<-X];exact g) E;have c7:=oR _ _ t _ Y (by rw[(fp t _ _).1];exact E)
  repeat'(first|refine gE ?_|(conv=>whnf);first|refine CF (aa L) ?_|refine CJ rfl (aa L) rfl ?_|refine CM (c7) (.inl rfl) ?_)
  ((conv=>whnf);refine CG (k+1) ω ω ?_)
  rw[FR t _ out k O];exact wB
 obtain rfl:k=out.length:=ω
 rw[Y5]
 repeat'(first|refine gE ?_|fail)
 refine CK rfl rfl ?_;exact wB
set_option maxRecDepth 100000
def dZ(c:C):RO c c:=(ng [c]).1
def ov{c a:C}(h:a=c):RO c a:=by subst h;exact dZ _
def Ms(c:a8)(k:Nat):a8:=⟨c.b.set k []⟩
def Rb(c:a8)(k:Nat):a8.enc .own (Ms c k)=[.s .own ((c.b.map (aD .own)).set k (aD .own []))]:=by simp[a8.enc,Ms,C7]
def PJ(xs:List Int):([]:List Int).map (rI .U)=(xs.map (rI .U)).drop xs.length:=by rw[List.drop_eq_nil_of_le (by rw[I1];omega)];rfl
def Pt(xs:List Int):xs.map (rI .U)=(xs.map (rI .U)).take xs.length:=by rw[C8 (by rw[I1];omega)]
def UO(c:a8)(k:Nat):List C:=a8.enc .own (Ms c k)++aD .own (nth c.b k)
def TT(c:a8)(k:Nat):iD (UO c k):=bg (a8.enc_fr _) (bG _)
def ww(c:a8)(k:Nat)(d:bt c=true)(p:k<=3):zzA 510 false [.val (some 1) (a8.enc .U c),.val none [I (k:Nat)],.val none [I 8]] (.tup [some 1,none]) (UO c k):=by
 obtain⟨q,e⟩:=fw d;have g:a8.sml c:=⟨ω,λl j=>by have:=e l j;show l.length<=1048576;omega⟩
 have h:=yi c k g;rw[d,O0 ω]at h;have n:=j9 c g;have a:=uS (c:=c) (k:=k) ω;have o:=e _ (am (xs:=c.b) (i:=k) ω);have b:=TT c k;unfold UO at b |-;rw[Rb]at b |-;refine fO 52 [(5,268,[29,30,31,32,33,34,35,36,37,38,39,41,0,1,2,3,4,5,6,7,8,9,10,11,1000,1001,1002,12,13]),(6,265,[42,43,44,45,46,47,48,49,50,0,1,2,3,4,5,6,7,8,9,1000,10,11])] Tryz.func510 rfl ?_ (.inr b)
 repeat'(first|refine gP ?_|(conv=>whnf);first|refine C9 (h) ?_|refine C9 (n) ?_|refine CX (z:=((nth c.b k).length:Int)) (by simp;omega) ?_|refine Sl.suf (nth c.b k).length rfl (by rw[I1];omega) (aT λ_=>rfl) (PJ _) ?_|refine CZ (nth c.b k).length rfl (by rw[I1];omega) (aT λ_=>rfl) (Pt _) ?_|refine CY (λ_=>rfl) (λ_=>rfl) (by simp) (by decide) ?_|refine CR (λ_=>rfl) (λ_=>rfl) (by simp) (by decide) ?_|refine CY (λ_=>rfl) (λ_=>rfl) ω (by decide) ?_|refine CR (λ_=>rfl) (λ_=>rfl) ω (by decide) ?_|refine CS rfl rfl (aa a) rfl (O1 rfl) rfl ?_)
 rfl
def pN{k:Int} : ∀{l s s2 c:List Int},(∀x∈s2,x∈s)->rY k s l=some c->(∀x∈s,x∈c)/\∃d,rY k s2 l=some d/\∀x∈d,x∈c
 | [],s,s2,c,h,e=>by
  simp only[rY,C1]at e |-;subst e;exact⟨λ_ h=>h,s2,rfl,h⟩
 | a::l,s,s2,c,h,e=>by
  simp only[rY]at e |-;split at e
  ·rename_i g
   rw[CD (show good k s2 a from⟨g.1,g.2.1,g.2.2.1,λx=>g.2.2.2 (h a x)⟩)];obtain⟨f,i⟩:=pN (l:=l) (s:=s++[a]) (s2:=s2++[a]) (λx b=>by
     rcases V3.1 b with b|b
     · exact V3.2 (.inl (h x b))
     exact V3.2 (.inr b)) e
   exact⟨λx b=>f x (V3.2 (.inl b)),i⟩
  cases e
def uK:∀{a:List (List Int)}{k:Nat}{s s2:List Int},(∀x∈s2,x∈s)->(gF k s a).isSome=true->(gF k s2 a).isSome=true
 | [],_,_,_,_,_=>rfl
 | l::a,k,s,s2,h,e=>by
  simp only[gF,fh]at e |-;split at e
  ·rename_i g
   rw[CD g];cases b:rY k s l with
   | none=>rw[b]at e;cases e
   | some i=>
    rw[b]at e;obtain⟨-,c,d,f⟩:=pN h b;rw[d];exact uK f e
  cases e
def G4:∀{a:List (List Int)}{k:Nat}{s s2:List Int}(i:Nat),(∀x∈s2,x∈s)->(gF k s a).isSome=true->(gF k s2 (a.set i [])).isSome=true
 | [],_,_,_,_,_,_=>rfl
 | l::a,k,s,s2,i,h,e=>by
  simp only[gF,fh]at e;split at e
  ·rename_i g
   cases b:rY k s l with
   | none=>rw[b]at e;cases e
   | some o=>
    rw[b]at e;obtain⟨c,d,f,j⟩:=pN h b;cases i with
    | zero=>
     simp only[List.set_cons_zero,gF,fh];rw[CD ⟨by simp,g.2⟩];exact uK (λx n=>c x (h x n)) e
    | succ i=>
     simp only[List.set_cons_succ,gF,fh];rw[CD g,f];exact G4 i j e
  cases e
def Uf{c:a8}(h:bt c=true)(k:Nat):bt (Ms c k)=true:=by
 unfold bt at h |-;simp only[I0,C0]at h |-;exact⟨by simp only[Ms,W1];exact h.1,G4 k (λ_ h=>h) h.2⟩
def spilt(h:ab)(t k:Nat):ab:={h with S:=h.S.set t (Ms (nth h.S t) k)}
def aY.spilt{h:ab}{E:List Int}{t k:Nat}(f:aY h E)(i:t<h.S.length)(n:k<(nth h.S t).b.length):aY (spilt h t k) (nth (nth h.S t).b k++E):=by
 have p:(E++holders h).Perm (nth (nth h.S t).b k++E++holders (Ab.spilt h t k)):=by
  refine List.perm_iff_count.2 λb=>?_
  have r:=jo (λc:a8=>c.b.flatten) b h.S t (Ms (nth h.S t) k) i;have q:=jo (λx:List Int=>x) b (nth h.S t).b k [] n;rw[<-lG,<-lG]at q;simp only[List.count_nil]at q;simp only[Ms]at r;simp only[holders,ce,Ab.spilt,Ms,Z6];omega
 have g:∀c∈(Ab.spilt h t k).S,c∈h.S\/c=Ms (nth h.S t) k:=λc u=>S7 u
 exact {f with
   nc:=by show(h.S.set ..).length=_;rw[W1];exact f.nc
   cach:=λc a=>by
     rcases g c a with a|rfl
     · exact f.cach c a
     exact Uf (f.cach _ (am i)) k
   onu:=by show ∀o∈h.O,1<=o.Id/\o.Id<=h.d - 1/\0<=o.a4/\o.a4<=(h.S.set t _).length - 1;rw[W1];exact f.onu
   hca:=λc a j l b d=>by
     rcases g c a with a|rfl
     · exact f.hca c a j l b d
     simp only[Ms,W1]at l;simp only[Ms,bE]at d;by_cases e:k=j
     · subst e
       rw[CD ⟨rfl,l⟩]at d;cases d
     rw[CB λx=>e x.1]at d;exact f.hca _ (am i) _ l b d
   hin:=λb d=>by
     rcases V3.1 d with d|d
     · exact(f.hca _ (am i) k n b d).any
     exact f.hin b d
   nd:=p.nodup_iff.1 f.nd
   mem:=λb=>by rw[<-p.mem_iff];exact f.mem b}
def freeAs(h:ab)(az:List Int):ab:=az.foldl freeA h
def fX:∀(az:List Int)(h:ab),(freeAs h az).S=h.S/\(freeAs h az).O=h.O/\(freeAs h az).G.Calls=h.G.Calls/\(freeAs h az).q=h.q/\(freeAs h az).Z=h.Z/\(freeAs h az).b5=h.b5/\(freeAs h az).a9=h.a9/\(freeAs h az).G.a0=h.G.a0
 | [],h=>⟨rfl,rfl,rfl,rfl,rfl,rfl,rfl,rfl⟩
 | a::az,h=>by
  obtain⟨b,c,d,e,f,g,i,j⟩:=fX az (freeA h a);obtain⟨k,l,n,o,p,q,r,t⟩:=x7 h (uY h a) a;exact⟨b.trans k,c.trans l,d.trans n,e.trans o,f.trans p,g.trans q,i.trans r,j.trans t⟩
def aY.freeAs{E:List Int} : ∀{az:List Int}{h:ab},aY h (az++E)->aY (freeAs h az) E
 | [],_,b=>b
 | a::az,h,b=>aY.freeAs (az:=az) (h:=Ab.freeA h a) b.freeA
def vi(h:ab)(az:List Int)(k:Nat)(a:k<az.length):freeAs h (az.take (k+1))=freeA (freeAs h (az.take k)) (nth az k):=by
 rw[O6,ao a];simp[freeAs]
def flushN(t:Nat)(h:ab):Nat->ab × Nat
 | 0=>(h,0)
 | k+1=>(freeAs (spilt (flushN t h k).1 t k) (nth (nth (flushN t h k).1.S t).b k),(flushN t h k).2+(nth (nth (flushN t h k).1.S t).b k).length)
def jO{t:Nat}{h:ab}(c:aY h [])(e:t<h.S.length):∀{k:Nat},k<=4->aY (flushN t h k).1 []/\(flushN t h k).1.S.length=h.S.length/\(flushN t h k).1.G.Calls=h.G.Calls/\(flushN t h k).1.O=h.O/\(flushN t h k).1.q=h.q/\(flushN t h k).1.Z=h.Z/\(flushN t h k).2<=8*k
 | 0,_=>⟨c,rfl,rfl,rfl,rfl,rfl,X0 _⟩
 | k+1,y=>by
  obtain⟨d,f,g,i,j,l,A⟩:=jO c e (k:=k) ω;have a:t<(flushN t h k).1.S.length:=ω
  obtain⟨B,n⟩:=fw (d.cach _ (am a));have b:k<(nth (flushN t h k).1.S t).b.length:=ω
  have o:=d.spilt a b;have C:=n _ (am b);obtain⟨p,q,r,u,w,-⟩:=fX (nth (nth (flushN t h k).1.S t).b k) (Ab.spilt (flushN t h k).1 t k);refine⟨aY.freeAs o,?_,r.trans g,q.trans i,u.trans j,w.trans l,?_⟩
  ·show(Ab.freeAs _ _).S.length=_
   rw[p];simp only[Ab.spilt,W1];exact f
  simp only[flushN];omega
def EW{k:Nat}(d:aY h [])(e:t<h.S.length)(j:k<4):t<(flushN t h k).1.S.length/\bt (nth (flushN t h k).1.S t)=true/\k<(nth (flushN t h k).1.S t).b.length/\(nth (nth (flushN t h k).1.S t).b k).length<=8/\(flushN t h k).2<=8*k:=by
 obtain⟨f,l,-,-,-,-,g⟩:=jO d e (k:=k) ω;have a:t<(flushN t h k).1.S.length:=ω
 have c:=f.cach _ (am a);obtain⟨n,i⟩:=fw c;have b:k<(nth (flushN t h k).1.S t).b.length:=ω
 exact⟨a,c,b,i _ (am b),g⟩
def PW{k:Nat}(a:aY h [])(b:t<h.S.length)(d:k<4)(e:j<(nth (nth (flushN t h k).1.S t).b k).length):aY (freeAs (spilt (flushN t h k).1 t k) ((nth (nth (flushN t h k).1.S t).b k).take j)) (nth (nth (nth (flushN t h k).1.S t).b k) j::(nth (nth (flushN t h k).1.S t).b k).drop (j+1)):=by
 obtain⟨f,g⟩:=EW a b d;have c:=((jO a b (k:=k) ω).1).spilt f g.2.1;rw[List.append_nil]at c;refine aY.freeAs ?_;rw[<-jm e,List.take_append_drop];exact c
def Ag(h:ab)(t:Nat)(i:aY h [])(l:t<h.S.length):zzB 433 false [.ptr (bA h),.val none [I (t:Nat)]] [.ptr (bA (flushN t h 4).1),.val none [I (t:Nat)]] .one [I ((flushN t h 4).2:Nat)]:=by
 refine fM 48 [(511,[2,0])] [(6,6,[26,27,28,29,30,31])] [(0,0),(0,0)] Tryz.func433 rfl (λu q=>?_)
 repeat'(first|refine gP ?_|fail)
 (conv=>whnf)
 refine CH (ι:=Nat) (λk=>[(0,.H .box (bA (flushN t h k).1)),(1,.H .one [I ((t:Nat):Int)]),(5,.H .one [I (((flushN t h k).2:Nat):Int)]),(6,.H .one [I ((k:Nat):Int)])]) (λk=>k<=4) (λk=>4 - k) (0) ?_ (X0 _) λk D=>?_
 ·repeat'(first|exact trivial|rfl |exact ov a|exact dZ _|refine CN ?_ ?_|(exact DS (by first|omega|(simp only;omega)|(simp;omega))))
 by_cases n:k<4
 ·obtain⟨o,p,E,F,G⟩:=EW i l n
  have r:=ww (nth (flushN t h k).1.S t) k p ω;have c:=λj=>PW i l n (j:=j)
  have e:=ao o;have w:(flushN t h (k+1)).1=freeAs (spilt (flushN t h k).1 t k) (nth (nth (flushN t h k).1.S t).b k):=rfl;have y:(flushN t h (k+1)).2=(flushN t h k).2+(nth (nth (flushN t h k).1.S t).b k).length:=rfl;have a:C.s dN.own ((spilt (flushN t h k).1 t k).S.map (a8.enc .own))=C.s dN.own (((flushN t h k).1.S.map (a8.enc .own)).set t (a8.enc .own (Ms (nth (flushN t h k).1.S t) k))):=by simp[spilt,C7]
  repeat'(first|refine gE ?_|(conv=>whnf);first|refine CL (r) ⟨⟨rfl,a8.enc_fz _⟩,⟨rfl,rfl⟩,⟨rfl,rfl⟩,trivial⟩ ?_|refine CS rfl rfl (aa e) rfl (O1 rfl) rfl ?_)
  generalize (flushN t h k).1=d at *;generalize (flushN t h k).2=m at *
  (conv=>whnf)
  refine CH (ι:=Nat) (λj=>[(0,.H .box (bA (freeAs (spilt d t k) ((nth (nth d.S t).b k).take j)))),(1,.H .one [I ((t:Nat):Int)]),(5,.H .one [I (((m+j):Nat):Int)]),(6,.H .one [I ((k:Nat):Int)]),(8,.H .one (aD .own (nth (nth d.S t).b k))),(9,.H .one [I ((j:Nat):Int)])]) (λj=>j<=(nth (nth d.S t).b k).length) (λj=>(nth (nth d.S t).b k).length - j) (0) ?_ (X0 _) λj H=>?_
  ·repeat'(first|exact trivial|rfl |exact ov a|exact dZ _|refine CN ?_ ?_|(exact DS (by first|omega|(simp only;omega)|(simp;omega))))
  by_cases g:j<(nth (nth d.S t).b k).length
  ·have b:=ao g
   have B:=o8 _ _ _ (c j g)
   repeat'(first|refine gE ?_|(conv=>whnf);refine CM (B) (.inl rfl) ?_)
   ((conv=>whnf);refine CG (j+1) ω ω ?_)
   rw[vi _ _ _ g];exact wC
  obtain rfl:j=(nth (nth d.S t).b k).length:=ω
  rw[Y5]
  repeat'(first|refine gE ?_|fail)
  ((conv=>whnf);refine CG (k+1) ω ω ?_)
  rw[w,y];exact wC
 obtain rfl:k=4:=ω
 repeat'(first|refine gE ?_|fail)
 refine CK rfl rfl ?_;exact wC
def Ki(s:Int):Int:=(1103515245*s+12345) % 1073741824
def HA(s:Int):0<=Ki s/\Ki s<=1073741823:=by unfold Ki;omega
def zM(s:Int)(b:0<=s/\s<=1073741823):zzA 540 false [.val none [I s]] .one [I (Ki s)]:=by
 have a:=aI s 0 1073741823;rw[O0 b]at a;refine fO 10 [] Tryz.func540 rfl ?_
 repeat'(first|refine gP ?_|(conv=>whnf);first|refine CX (z:=Ki s) (fF ω) ?_|refine C9 (a) ?_|refine CQ (by decide) ?_)
 rfl
def Pi(s n:Int):Int:=Ki s / 1024 % n
def yu(s:Int){n:Int}(h:1<=n):0<=Pi s n/\Pi s n<n:=⟨Int.emod_nonneg _ ω,Int.emod_lt_of_pos _ ω⟩
def vc(s n:Int)(b:0<=s/\s<=1073741823)(c:1<=n/\n<=1000):zzA 483 false [.val none [I s],.val none [I n]] (.tup [none,none]) [I (Pi s n),I (Ki s)]:=by
 have d:=aI s 0 1073741823;have e:=aI n 1 1000;rw[O0 b]at d;rw[O0 c]at e;have g:=HA s;have i:=yu s c.1;have a:(Ki s).tdiv 1024=Ki s / 1024:=Int.tdiv_eq_ediv_of_nonneg g.1;have h:((Ki s).tdiv 1024).tmod n=Pi s n:=by rw[a];exact fF ω
 refine fO 23 [] Tryz.func483 rfl ?_ (.inr ⟨trivial,trivial,trivial⟩)
 repeat'(first|refine gP ?_|(conv=>whnf);first|refine C9 (d) ?_|refine C9 (e) ?_|refine C9 (zM s b) ?_|refine CQ (by decide) ?_|refine CQ ω ?_|refine CX h ?_|refine CO (eZ (by rw[a];omega) (by rw[a];omega)) ?_)
 rfl
def tz(n:Nat):List Int:=(List.range n).map λ(i:Nat)=>(i:Int)
def H7(n:Nat):tz (n+1)=tz n++[(n:Int)]:=by unfold tz;rw[List.range_succ,W6];rfl
def AE(n:Nat):(tz n).length=n:=by simp[tz]
def yk(xs:List Int)(i k:Nat):List Int:=(xs.set i (nth xs k)).set k (nth xs i)
def Lj(xs:List Int)(i k:Nat):(yk xs i k).length=xs.length:=by simp[yk]
def i9(n:Nat)(s:Int):Nat->List Int × Int
 | 0=>(tz n,s)
 | j+1=>(yk (i9 n s j).1 (n - 1 - j) (Pi (i9 n s j).2 ((n - 1 - j:Nat)+1:Int)).toNat,Ki (i9 n s j).2)
def mY(n:Nat){s:Int}(a:0<=s/\s<=1073741823):∀j,(i9 n s j).1.length=n/\0<=(i9 n s j).2/\(i9 n s j).2<=1073741823
 | 0=>⟨AE n,a⟩
 | j+1=>⟨by simp only[i9,Lj];exact(mY n a j).1,HA _⟩
def shuf(n:Nat)(s:Int):List Int × Int:=i9 n s (n - 1)
def NS(xs:List Int)(i k:Nat):(yk xs i k).map (rI .own)=((xs.map (rI .own)).set i (rI .own (nth xs k))).set k (rI .own (nth xs i)):=by simp[yk,C7]
def LJ{xs:List Int}{k:Nat}(v:Int)(a:k<xs.length):((xs.map (rI .own)).set i (rI .own v))[k]? = some (rI .own (nth (xs.set i v) k)):=by
 rw[<-C7];exact aa (ao (by rw[W1];exact a))
def z7(n:Nat)(s:Int)(d:0<=s/\s<=1073741823)(w:n<=64):zzA 425 false [.val none [I s],.val none [I (n:Nat)]] (.tup [none,none]) (aD .own (shuf n s).1++[I (shuf n s).2]):=by
 have e:=aI s 0 1073741823;have g:=aI (n:Nat) 0 64;rw[O0 d]at e;rw[O0 ω]at g;refine fO 63 [] Tryz.func425 rfl ?_ (.inr (bg (bG _) ⟨trivial,trivial⟩))
 repeat'(first|refine gP ?_|(conv=>whnf);first|refine C9 (e) ?_|refine C9 (g) ?_)
 (conv=>whnf)
 refine CH (ι:=Nat) (λk=>[(0,.H .one [I (s)]),(1,.H .one [I ((n:Nat):Int)]),(6,.H .one (aD .own (tz k))),(7,.H .one [I ((k:Nat):Int)])]) (λk=>k<=n) (λk=>n - k) (0) ?_ (X0 _) λk y=>?_
 ·exact wB
 have h:=AE k;by_cases B:k<n
 ·repeat'(first|refine gE ?_|(conv=>whnf);refine Ap.sm (aT λ_=>rfl) rfl (by simp;omega) (by decide) (iY (rI .own) (tz k) (k:Int)) ?_)
  ((conv=>whnf);refine CG (k+1) ω ω ?_)
  rw[H7];exact wB
 obtain rfl:k=n:=ω
 repeat'(first|refine gE ?_|fail)
 (conv=>whnf)
 refine CH (ι:=Nat) (λj=>[(0,.H .one [I ((i9 k s j).2)]),(6,.H .one (aD .own (i9 k s j).1)),(8,.H .one [I (((k:Int) - 1 - j))])]) (λj=>(j<=k - 1/\j<=k)) (λj=>k - j) (0) ?_ (⟨X0 _,X0 _⟩) λj C=>?_
 ·exact wB
 obtain⟨D,l,o⟩:=mY k d j;by_cases E:j<k - 1
 ·have q:(k:Int) - 1 - j=((k - 1 - j:Nat):Int):=ω
  have r:=yu (i9 k s j).2 (n:=((k - 1 - j:Nat)+1:Int)) ω;have t:=vc (i9 k s j).2 ((k - 1 - j:Nat)+1:Int) ⟨l,o⟩ ω;have u:i9 k s (j+1)=(yk (i9 k s j).1 (k - 1 - j) (Pi (i9 k s j).2 ((k - 1 - j:Nat)+1:Int)).toNat,Ki (i9 k s j).2):=rfl;rw[q];generalize i9 k s j=p at *;obtain⟨xs,z⟩:=p;simp only at *;generalize k - 1 - j=i at *;have a:=ao (xs:=xs) (i:=i) ω;have b:=ao (xs:=xs) (i:=(Pi z (i+1)).toNat) ω;have c:=LJ (xs:=xs) (i:=i) (k:=(Pi z (i+1)).toNat) (nth xs (Pi z (i+1)).toNat) ω
  repeat'(first|refine gE ?_|(conv=>whnf);first|refine C9 (t) ?_|refine CP ω (aa b) ?_|refine CS rfl rfl (aa a) rfl (O1 rfl) rfl ?_|refine CP ω c ?_|refine CS rfl rfl c rfl (O1 rfl) rfl ?_)
  ((conv=>whnf);refine CG (j+1) ω ω ?_)
  rw[u];simp only[aD,NS];exact wB
 obtain rfl:j=k - 1:=ω
 repeat'(first|refine gE ?_|fail)
 rfl
def DW(b:Int):Nat->Nat
 | 0=>0
 | n+1=>DW b n+(if aS b (n:Nat)=true then 1 else 0)
def D5(b:Int):∀n,DW b n<=n
 | 0=>W3 _
 | n+1=>by have:=D5 b n;simp only[DW];split<;>omega
def vW(b:Int)(d:b<=9223372036854775807):zzA 424 false [.val none [I b]] .one [I (DW b 16:Nat)]:=by
 refine fO 15 [] Tryz.func424 rfl ?_
 repeat'(first|refine gP ?_|fail)
 (conv=>whnf)
 refine CH (ι:=Nat) (λk=>[(0,.H .one [I (b)]),(3,.H .one [I ((DW b k:Nat):Int)]),(4,.H .one [I ((k:Nat):Int)])]) (λk=>k<=16) (λk=>16 - k) (0) ?_ (X0 _) λk g=>?_
 ·exact wB
 have h:=D5 b k;by_cases i:k<16
 ·have a:=hB b (k:Nat) d
  have c:DW b (k+1)=DW b k+(if aS b (k:Nat)=true then 1 else 0):=rfl;cases e:aS b (k:Nat)<;>rw[e]at a c
  all_goals
   repeat'(first|refine gE ?_|(conv=>whnf);refine C9 (a) ?_)
   ((conv=>whnf);refine CG (k+1) ω ω ?_)
   rw[c];exact wB
 obtain rfl:k=16:=ω
 repeat'(first|refine gE ?_|fail)
 rfl
def A5(h:ab)(s:ax):Bool:=decide (0<DW s.b1 16)&&decide ((aP h s.Q).length=1)
def ml(h:ab):Nat->List ax
 | 0=>[]
 | n+1=>if A5 h (nth h.K n)=true then ml h n++[nth h.K n] else ml h n
def oC(h:ab):List ax:=ml h h.K.length
def xy(h:ab):∀n,(ml h n).length<=n
 | 0=>W3 _
 | n+1=>by have:=xy h n;simp only[ml];split<;>simp<;>omega
def nw(h:ab):∀{n:Nat},n<=h.K.length->∀s∈ml h n,s∈h.K
 | 0,_,s,a=>by cases a
 | n+1,b,s,a=>by
  simp only[ml]at a;split at a
  ·rcases V3.1 a with a|a
   ·exact nw h ω s a
   rw[V1.1 a];exact am ω
  exact nw h ω s a
def xn(h:ab)(j:vT h)(q:h.K.length<=1000)(r:dQ h<=1000)(l:∀s∈h.K,s.b1<=9223372036854775807):zzA 289 false [.val (some 24) (ab.enc .U h)] .one (bT .own (oC h)):=by
 refine fO 42 [(5,16,[13,14,15,16,17,18,19,20,21,22,23,24,25,26,27,28])] Tryz.func289 rfl ?_ (.inr (HG _))
 repeat'(first|refine gP ?_|fail)
 (conv=>whnf)
 refine CH (ι:=Nat) (λk=>[(1,.H .box (ab.enc .U h)),(3,.H .one (bT .own (ml h k))),(4,.H .one [I ((k:Nat):Int)])]) (λk=>k<=h.K.length) (λk=>h.K.length - k) (0) ?_ (X0 _) λk t=>?_
 ·exact wB
 have n:=xy h k;by_cases e:k<h.K.length
 ·have c:=ao e
  have d:=vW (nth h.K k).b1 (l _ (am e));have b:=iF h (nth h.K k).Q j;have o:=gt h (nth h.K k).Q;have p:=D5 (nth h.K k).b1 16;have a:ml h (k+1)=if A5 h (nth h.K k)=true then ml h k++[nth h.K k] else ml h k:=rfl
  by_cases g:0<DW (nth h.K k).b1 16
  ·by_cases i:(aP h (nth h.K k).Q).length=1
   ·rw[CD (by unfold A5;simp[g,i])]at a
    repeat'(first|refine gB ?_|(conv=>whnf);first|refine C9 (d) ?_|refine CL (b) ⟨⟨rfl,rfl⟩,⟨rfl,rfl⟩,trivial⟩ ?_|refine C9 (b) ?_|refine Ap.sm (aT λ_=>rfl) rfl (by simp;omega) (by decide) (iY (ax.enc .own) (ml h k) (nth h.K k)) ?_)
    ((conv=>whnf);refine CG (k+1) ω ω ?_)
    rw[a];exact wB
   rw[CB (by unfold A5;simp[i])]at a
   repeat'(first|refine gB ?_|(conv=>whnf);first|refine C9 (d) ?_|refine C9 (b) ?_)
   ((conv=>whnf);refine CG (k+1) ω ω ?_)
   rw[a];exact wB
  rw[CB (by unfold A5;simp[g])]at a
  repeat'(first|refine gE ?_|(conv=>whnf);first|refine C9 (d) ?_|refine C9 (b) ?_)
  ((conv=>whnf);refine CG (k+1) ω ω ?_)
  rw[a];exact wB
 obtain rfl:k=h.K.length:=ω
 repeat'(first|refine gE ?_|fail)
 rfl
def tO(s:ax)(c:Nat):Bool:=aS s.b1 (((c:Nat):Int) / csz s.a)
def uJ(s:ax)(n:Nat):List Int:=((List.range n).filter (tO s)).map λ(i:Nat)=>(i:Int)
def Q5(h:tO s n=true):uJ s (n+1)=uJ s n++[(n:Int)]:=by
 unfold uJ;rw[List.range_succ,List.filter_append,W6];simp[h]
def TR(h:tO s n=false):uJ s (n+1)=uJ s n:=by
 unfold uJ;rw[List.range_succ,List.filter_append,W6];simp[h]
def sM(s:ax)(n:Nat):(uJ s n).length<=n:=by
 unfold uJ;rw[I1];exact O5 (List.length_filter_le _ _) (by simp)
def Ri(a:bi s=true){c:Nat}(d:c<16):0<=((c:Nat):Int) / csz s.a/\((c:Nat):Int) / csz s.a<=15:=by
 have f:=aC a;have b:csz s.a=1\/csz s.a=2\/csz s.a=4\/csz s.a=8:=b9 ω;rcases b with e|e|e|e<;>rw[e]<;>omega
def pU(s:ax)(a:bi s=true):zzA 426 false [.val (some 3) (ax.enc .U s)] .one (aD .own (uJ s 16)):=by
 have b:=fW s;rw[a]at b;have g:=aC a;have n:=b9 g.2.2;refine fO 27 [(5,7,[14,15,16,17,18,19,20])] Tryz.func426 rfl ?_ (.inr (bG _))
 repeat'(first|refine gP ?_|fail)
 (conv=>whnf)
 refine CH (ι:=Nat) (λi=>[(1,.H .box (ax.enc .U s)),(3,.H .one (aD .own (uJ s i))),(4,.H .one [I ((i:Nat):Int)])]) (λi=>i<=16) (λi=>16 - i) (0) ?_ (X0 _) λi o=>?_
 ·exact wB
 have h:=sM s i;by_cases j:i<16
 ·have k:=Ri a j
  have d:IntKind.i64.wrap (((i:Nat):Int).tdiv (csz s.a))=((i:Nat):Int) / csz s.a:=by rw[kn ω];exact eZ ω ω
  have c:=hB s.b1 (((i:Nat):Int) / csz s.a) (eP a).2;cases e:tO s i
  ·rw[show aS s.b1 (((i:Nat):Int) / csz s.a)=false from e]at c
   repeat'(first|refine gE ?_|(conv=>whnf);first|refine C9 (b) ?_|refine C9 (dx _) ?_|refine CQ ω ?_|refine CO d ?_|refine C9 (c) ?_)
   ((conv=>whnf);refine CG (i+1) ω ω ?_)
   rw[TR e];exact wB
  rw[show aS s.b1 (((i:Nat):Int) / csz s.a)=true from e]at c
  repeat'(first|refine gE ?_|(conv=>whnf);first|refine C9 (b) ?_|refine C9 (dx _) ?_|refine CQ ω ?_|refine CO d ?_|refine C9 (c) ?_|refine CU cw (λr l=>by rw[V1.1 l];rfl) (by simp[aZ,dS]) (by simp;omega) (by simp only[I1];exact wZ (by simp;omega) (by decide)) rfl ?_)
  ((conv=>whnf);refine CG (i+1) ω ω ?_)
  rw[Q5 e]
  (repeat'(first|exact trivial|rfl|exact CN rfl (CN (Z0 (C.s dN.own) (by simp[rI])) trivial)|refine CN ?_ ?_))
 obtain rfl:i=16:=ω
 repeat'(first|refine gE ?_|(conv=>whnf);refine C9 (b) ?_)
 rfl
structure gw where
 A:Int
 B:Int
deriving DecidableEq,Inhabited
def gw.enc(_:dN)(x:gw):List C:=[I x.A,I x.B]
def jR(o:dN)(x:List gw):List C:=[.s o (x.map (gw.enc o))]
def HD(x:List gw):iD (jR .own x):=⟨⟨.inl λh=>(by cases h),bj _ _ λ_ _=>⟨trivial,trivial,trivial⟩⟩,trivial⟩
def Td(i:Int)(p:gw):Bool:=decide (p.A=i) || decide (p.B=i)
def dq(a b:ax):cJ:=if(uJ a 16).length<(uJ b 16).length then⟨b.Q,a.Q,uJ a 16⟩ else⟨a.Q,b.Q,uJ b 16⟩
def Ak(a b:ax)(g:meshable a b=true)(h:bi a=true)(i:bi b=true):zzA 291 false [.val (some 3) (ax.enc .U a),.val (some 3) (ax.enc .U b)] (.tup [some 3,none]) (cJ.enc .own (dq a b)++[B true]):=by
 have c:=mR a b;rw[g]at c;have d:=pU a h;have e:=pU b i;have j:=sM a 16;have k:=sM b 16;unfold dq;split
 ·refine fO 27 [(3,6,[11,12,13,14,15,16]),(5,6,[20,21,22,23,24,25])] Tryz.func291 rfl ?_ (.inr (bg (cJ.enc_fr _) ⟨trivial,trivial⟩))
  repeat'(first|refine gE ?_|(conv=>whnf);first|refine C9 (c) ?_|refine C9 (d) ?_|refine C9 (e) ?_)
  rfl
 refine fO 27 [(3,6,[11,12,13,14,15,16]),(5,6,[20,21,22,23,24,25])] Tryz.func291 rfl ?_ (.inr (bg (cJ.enc_fr _) ⟨trivial,trivial⟩))
 repeat'(first|refine gE ?_|(conv=>whnf);first|refine C9 (c) ?_|refine C9 (d) ?_|refine C9 (e) ?_)
 rfl
def tT(p:cJ):cA:=⟨p,0,0⟩
def Fd(p:cJ)(c:eU p=true)(a:cJ.sml p):zzA 292 false [.val (some 3) (cJ.enc .U p)] (.tup [some 5,none]) (cA.enc .own (tT p)++[B true]):=by
 have b:=vQ p a;rw[c]at b;have d:=sH (tT p) a;refine fO 11 [] Tryz.func292 rfl ?_ (.inr (bg (cA.enc_fr _) ⟨trivial,trivial⟩))
 repeat'(first|refine gP ?_|(conv=>whnf);first|refine C9 (b) ?_|refine C9 (d) ?_)
 rfl
def uq(n:Nat){s:Int}(c:0<=s/\s<=1073741823):∀{j:Nat},j<=n - 1->∀x∈(i9 n s j).1,0<=x/\x<n
 | 0,_,x,a=>by
  simp only[i9,tz,Z4,List.mem_range]at a;obtain⟨i,d,rfl⟩:=a;omega
 | j+1,e,x,a=>by
  have f:=(mY n c j).1;have b:=uq n c (j:=j) ω;have g:=yu (i9 n s j).2 (n:=((n - 1 - j:Nat)+1:Int)) ω;simp only[i9,yk]at a;rcases S7 a with a|rfl
  ·rcases S7 a with a|rfl
   ·exact b x a
   exact b _ (am ω)
  exact b _ (am ω)
def tkn(out:List gw)(a:Int):Bool:=out.any (Td a)
def stp(a:List ax)(p:List Int)(t i:Nat)(out:List gw):List gw:=
 if tkn out (nth p i)=false/\tkn out (nth p (p.length / 2+(i+t) % (p.length - p.length / 2)))=false/\meshable (nth a (nth p i).toNat) (nth a (nth p (p.length / 2+(i+t) % (p.length - p.length / 2))).toNat)=true then out++[⟨nth p i,nth p (p.length / 2+(i+t) % (p.length - p.length / 2))⟩] else out
def wl(a:List ax)(p:List Int)(t:Nat)(out:List gw):Nat->List gw
 | 0=>out
 | i+1=>stp a p t i (wl a p t out i)
def rk(a:List ax)(p:List Int):Nat->List gw
 | 0=>[]
 | t+1=>wl a p t (rk a p t) (p.length / 2)
def Tc(a:List ax)(p:List Int)(t i:Nat)(out:List gw):(stp a p t i out).length<=out.length+1:=by unfold stp;split<;>simp
def xZ(a:List ax)(p:List Int)(t:Nat)(out:List gw):∀i,(wl a p t out i).length<=out.length+i
 | 0=>W3 _
 | i+1=>by have b:=xZ a p t out i;have c:=Tc a p t i (wl a p t out i);simp only[wl];omega
def GE(a:List ax)(p:List Int):∀t,(rk a p t).length<=t*(p.length / 2)
 | 0=>X0 _
 | t+1=>by have b:=GE a p t;have c:=xZ a p t (rk a p t) (p.length / 2);simp only[rk];rw[Nat.add_mul];omega
def m6(a:List ax)(s:Int):List gw:=rk a (shuf a.length s).1 3
def oL(n:Nat)(out:List gw):List Bool:=(List.range n).map λ(i:Nat)=>tkn out (i:Nat)
def K5{out:List gw}(h:0<=a/\a<n):(oL n out)[a.toNat]? = some (tkn out a):=by
 unfold oL;rw[X3,X7 ω];show some (tkn out ((a.toNat:Nat):Int))=_;rw[Int.toNat_of_nonneg h.1]
def Qp{out:List gw}(f:0<=a/\a<n)(g:0<=b/\b<n):oL n (out++[⟨a,b⟩])=((oL n out).set a.toNat true).set b.toNat true:=by
 unfold oL;apply List.ext_getElem?;intro i;by_cases c:i<n
 ·rw[X3,X7 c]
  by_cases d:b.toNat=i
  ·subst d
   rw[v4 (by simp;omega)];simp only[Z5,tkn,List.any_append,List.any_cons,List.any_nil,Td];rw[Int.toNat_of_nonneg g.1];simp
  rw[List.getElem?_set_ne d];by_cases e:a.toNat=i
  ·subst e
   rw[v4 (by simp;omega)];simp only[Z5,tkn,List.any_append,List.any_cons,List.any_nil,Td];rw[Int.toNat_of_nonneg f.1];simp
  rw[List.getElem?_set_ne e,X3,X7 c];simp only[Z5,tkn,List.any_append,List.any_cons,List.any_nil,Td];rw[W0 ω,W0 ω];simp
 rw[Z2 (by simp;omega),Z2 (by simp;omega)]
def Rv(n:Nat):(oL n []).map (rB .own)=List.replicate n [B false]:=by
 unfold oL;rw[List.map_map];apply List.ext_getElem?;intro i;rw[X3];by_cases a:i<n
 ·rw[X7 a,List.getElem?_replicate];simp[a];rfl
 rw[Z2 (by simp;omega),List.getElem?_replicate];simp[a]
def Lz{xs:List Bool}{k:Nat}(v:Bool)(a:k<xs.length):((xs.map (rB .own)).set i (rB .own v))[k]? = some (rB .own (nth (xs.set i v) k)):=by
 rw[<-C7];exact aa (ao (by rw[W1];exact a))
def wg(c:List ax)(s:Int)(u:0<=s/\s<=1073741823)(V:c.length<=16):zzA 290 false [.val none (bT .U c),.val none [I s],.val none [I 3]] (.tup [none,none]) (jR .own (m6 c s)++[I (shuf c.length s).2]):=by
 have J:=aI s 0 1073741823;rw[O0 u]at J;have K:=aI 3 0 16;rw[O0 ω]at K;have Q:=z7 c.length s u ω;have D:=(mY c.length u (c.length - 1)).1;have e:=uq c.length u (W3 _);unfold m6;change (shuf c.length s).1.length=_ at D;change ∀x∈(shuf c.length s).1,_ at e
 have E:iD (jR .own (rk c (shuf c.length s).1 3)++[I (shuf c.length s).2]):=bg (HD _) ⟨trivial,trivial⟩;generalize shuf c.length s=q at *;obtain⟨p,z⟩:=q;simp only at *;have F:((p.length:Nat):Int).tdiv 2=((p.length / 2:Nat):Int):=by rw[Int.tdiv_eq_ediv_of_nonneg ω];omega
 have g:C.s dN.own ((oL c.length []).map (rB .own))=C.s dN.own (List.replicate c.length [B false]):=by rw[Rv]
 have h:∀i:Nat,i<p.length->0<=nth p i/\nth p i<c.length:=λi R=>e _ (am R)
 refine fO 110 [(15,21,[73,74,75,76,77,78,79,80,81,82,83,84,85,86,87,88,89,90,91,92,93])] Tryz.func290 rfl ?_ (.inr E)
 repeat'(first|refine gE ?_|(conv=>whnf);first|with_reducible refine CO ((Z0 _ F).trans (eZ ω ω)) ?_|refine C9 (J) ?_|refine C9 (K) ?_|refine C9 (Q) ?_|refine CQ (by decide) ?_|refine Mk.mk c.length rfl rfl ω (wZ ω (by decide)) rfl ?_)
 (conv=>whnf)
 refine CH (ι:=Nat) (λt=>[(0,.H .one (bT .U c)),(2,.H .one [I (3)]),(8,.H .one (jR .own (rk c p t))),(9,.H .one (aD .own p)),(10,.H .one [I (z)]),(11,.H .one [I (((p.length / 2):Nat):Int)]),(12,.H .one (iu .own (oL c.length (rk c p t)))),(13,.H .one [I ((t:Nat):Int)])]) (λt=>t<=3) (λt=>3 - t) (0) ?_ (X0 _) λt S=>?_
 ·repeat'(first|exact trivial|rfl |exact ov g|refine CN ?_ ?_|(exact DS (by first|omega|(simp only;omega)|(simp;omega))))
 have W:=GE c p t;have ol2:t*(p.length / 2)<=3*8:=Nat.mul_le_mul S ω;by_cases X:t<3
 ·repeat'(first|refine gE ?_|fail)
  (conv=>whnf)
  refine CH (ι:=Nat) (λj=>[(0,.H .one (bT .U c)),(2,.H .one [I (3)]),(8,.H .one (jR .own (wl c p t (rk c p t) j))),(9,.H .one (aD .own p)),(10,.H .one [I (z)]),(11,.H .one [I (((p.length / 2):Nat):Int)]),(12,.H .one (iu .own (oL c.length (wl c p t (rk c p t) j)))),(13,.H .one [I ((t:Nat):Int)]),(14,.H .one [I ((j:Nat):Int)])]) (λj=>j<=p.length / 2) (λj=>p.length / 2 - j) (0) ?_ (X0 _) λj Y=>?_
  ·repeat'(first|exact trivial|rfl |exact ov g|refine CN ?_ ?_|(exact DS (by first|omega|(simp only;omega)|(simp;omega))))
  have Z:=xZ c p t (rk c p t) j;by_cases lj:j<p.length / 2
  ·have L:(j+t) % (p.length - p.length / 2)<p.length - p.length / 2:=Nat.mod_lt _ ω
   have G:((j:Int)+t).tmod ((p.length:Int) - (p.length / 2:Nat))=(((j+t) % (p.length - p.length / 2):Nat):Int):=by
    rw[fF ω,Int.natCast_emod];congr 1;omega
   have d:wl c p t (rk c p t) (j+1)=stp c p t j (wl c p t (rk c p t) j):=rfl;unfold stp at d;generalize wl c p t (rk c p t) j=out at *;have l:p.length / 2+(j+t) % (p.length - p.length / 2)<p.length:=ω
   generalize hk:(j+t) % (p.length - p.length / 2)=k at *;have n:=ao (xs:=p) (i:=j) ω;have o:=ao (xs:=p) (i:=p.length / 2+k) l;have w:=h j ω;have r:=h _ l;generalize nth p j=a at *;generalize nth p (p.length / 2+k)=b at *;have y:=K5 (out:=out) w;have H:=K5 (out:=out) r;have T:=ao (xs:=c) (i:=a.toNat) ω;have U:=ao (xs:=c) (i:=b.toNat) ω;have M:=mR (nth c a.toNat) (nth c b.toNat);have ub2:=Lz (xs:=oL c.length out) (i:=a.toNat) (k:=b.toNat) true (by simp[oL];omega);cases N:tkn out a<;>cases O:tkn out b<;>cases P:meshable (nth c a.toNat) (nth c b.toNat)
   all_goals
    rw[N]at y;rw[O]at H;rw[P]at M;rw[N,O,P]at d;simp only[and_true,true_and,if_true,Bool.false_eq_true,Bool.true_eq_false,and_false,false_and,if_false]at d
    repeat'(first|refine gE ?_|(conv=>whnf);first|refine CX G ?_|refine CQ ω ?_|refine CP ω (aa o) ?_|refine CP w.1 (aa y) ?_|refine CP r.1 (aa H) ?_|refine CP w.1 (aa T) ?_|refine CP r.1 (aa U) ?_|refine CJ rfl (aa H) rfl ?_|refine C9 (M) ?_|refine CS rfl rfl (aa y) rfl (O1 rfl) rfl ?_|refine CP r.1 ub2 ?_|refine CS rfl rfl ub2 rfl (O1 rfl) rfl ?_|refine Ap.sm (aT λ_=>rfl) rfl (by simp;omega) (by decide) (iY (gw.enc .own) out ⟨a,b⟩) ?_)
    ((conv=>whnf);refine CG (j+1) ω ω ?_)
    rw[d]
    first|(rw[Qp w r];simp only[iu,C7])|skip
    exact wB
  obtain rfl:j=p.length / 2:=ω
  repeat'(first|refine gE ?_|fail)
  ((conv=>whnf);refine CG (t+1) ω ω ?_;(exact wB))
 obtain rfl:t=3:=ω
 repeat'(first|refine gE ?_|fail)
 rfl
def H5(x:List gw):eH (jR .own x)=jR .U x:=by simp[eH,jR,gw.enc,<-co,X6]
variable{f:Nat}
def ar.fzR{P:Program}{sh:Bool}{A:List RA}{k:Kd}{rcs:List C}(h:ar P f sh A k rcs):ar P f sh A k (eH rcs):=by
 obtain⟨c,d⟩:=h;refine⟨c,λw S g i j=>(d w S g i j).mono λe w1 l=>?_⟩;obtain⟨v,n,p,X,q,r,t,B,u,y⟩:=l;refine⟨v,n,p,NO,λb o=>q b o\/X b o,λ_ _ h=>h.elim,λb o a=>?_,λ_ _ h=>h.elim,by rw[co,I1];exact u,y.freeze⟩;rcases a with a|a
 ·exact t b o a
 exact .inr (r b o a)
structure QY(ls:List ax)(q:gw):Prop where
 a:0<=q.A/\q.A<ls.length
 b:0<=q.B/\q.B<ls.length
 m:meshable (nth ls q.A.toNat) (nth ls q.B.toNat)=true
def J8{b:List ax}{p:List Int}(c:∀x∈p,0<=x/\x<b.length)(t:Nat){out:List gw}(d:∀q∈out,QY b q):∀{i:Nat},i<=p.length / 2->∀q∈wl b p t out i,QY b q
 | 0,_=>d
 | i+1,h=>λq a=>by
  have e:=J8 c t d (i:=i) ω;simp only[wl,stp]at a;split at a
  ·rename_i g
   rcases V3.1 a with a|a
   ·exact e q a
   obtain rfl:=V1.1 a;have f:(i+t) % (p.length - p.length / 2)<p.length - p.length / 2:=Nat.mod_lt _ ω;exact⟨c _ (am ω),c _ (am ω),g.2.2⟩
  exact e q a
def Ky{a:List ax}{p:List Int}(b:∀x∈p,0<=x/\x<a.length):∀t,∀q∈rk a p t,QY a q
 | 0=>λq c=>by cases c
 | t+1=>J8 b t (Ky b t) (W3 _)
def nC(a:List ax){s:Int}(b:0<=s/\s<=1073741823):∀q∈m6 a s,QY a q:=Ky (uq a.length b (W3 _)) 3
def RP(s:ax)(n:Nat):(uJ s n).Pairwise (· < ·):=by
 unfold uJ;rw[List.pairwise_map];exact(List.pairwise_lt_range.sublist List.filter_sublist).imp λh=>ω
def Uc : ∀z∈uJ s n,0<=z/\z<n:=λz a=>by
 unfold uJ at a;simp only[Z4,t5,List.mem_range]at a;obtain⟨c,⟨b,-⟩,rfl⟩:=a;omega
def xF(s:ax):cE (uJ s 16).length (mV (uJ s 16))=true:=by
 refine ch.2 λj a=>?_
 have c:=Uc _ (am a);unfold mV;refine O0 ⟨ω,ω,?_⟩;by_cases e:j=0
 ·exact .inl e
 refine .inr ?_;have b:=List.pairwise_iff_getElem.1 (RP s 16) (j - 1) j ω a ω;rw[show nth (uJ s 16) (j - 1)=(uJ s 16)[j - 1] from bm (W2 ω),show nth (uJ s 16) j=(uJ s 16)[j] from bm (W2 a)];exact b
def uB{a b:ax}(c:meshable a b=true):eU (dq a b)=true/\bi a=true/\bi b=true:=by
 unfold meshable at c;simp only[I0,C0]at c;have d:=aC c.1.1;have e:=aC c.1.2;refine⟨?_,c.1⟩;unfold dq eU;split
 ·simp only[I0,C0];exact⟨xF a,ω⟩
 simp only[I0,C0];exact⟨xF b,ω⟩
def Ja(a b:ax):cJ.sml (dq a b):=by
 have c:=sM a 16;have d:=sM b 16;unfold dq cJ.sml sN;split<;>simp only<;>omega
def bD(h:ab):List ax:=(oC h).take 16
def started(h:ab):ab × Bool:=match m6 (bD h) h.c0 with
 | []=>({h with c0:=(shuf (bD h).length h.c0).2},false)
 | q::_=>({h with c0:=(shuf (bD h).length h.c0).2,u:=true,Z:=tT (dq (nth (bD h) q.A.toNat) (nth (bD h) q.B.toNat))},true)
def MJ(a:aY h E):h.K.length<=32/\dQ h<=32/\vT h/\∀s∈h.K,s.b1<=9223372036854775807:=by
 have b:=a.lens;refine⟨b.spans,b.ents,?_,λs c=>by have:=eS (a.L.sok s c);omega⟩;have:=(bO a.ker).1.2;exact this
def Jd(h:ab):(bD h).length<=16:=by unfold bD;rw[Z1];omega
def T5(x:List gw)(z:Int):eH (jR .own x++[I z])=jR .U x++[I z]:=by
 have h:=H5 x;rw[co]at h |-;rw[W6,h];simp[fz]
def TO(h:ab):(bD h).map (ax.enc .U)=((oC h).map (ax.enc .U)).take 16:=X4
def GO(p:cJ)(b:eU p=true)(c:cJ.sml p):zzA 292 false [.val (some 3) (cJ.enc .U p)] (.tup [some 5,none]) (yr (tT p)++[B true]):=by
 have h:=(Fd p b c).fzR;have e:eH (cA.enc .own (tT p)++[B true])=yr (tT p)++[B true]:=by
  have a:=cA.enc_fz (tT p);rw[co]at a |-;rw[W6,a];simp[fz,cA.enc,yr]
 rwa [e]at h
def zS(h:ab)(w:aY h []):zzB 130 false [.ptr (bA h)] [.ptr (bA (started h).1)] .one [B (started h).2]:=by
 obtain⟨w1,Q,H,J⟩:=MJ w;have a:=w.nums;unfold cq at a;rw[C0]at a;have e:=(xn h H ω ω J).fzR;rw[xJ]at e;have o:=Jd h;have b:=(wg (bD h) h.c0 ⟨a.1,a.2.1⟩ o).fzR;rw[T5]at b;have g:=nC (bD h) ⟨a.1,a.2.1⟩;have K:=xy h h.K.length;have y:(oC h).length<=32:=by unfold oC;omega
 have j:=TO h;unfold started;cases C:m6 (bD h) h.c0 with
 | nil=>
  rw[C]at b;by_cases L:16<(oC h).length
  ·refine fM 62 [] [(8,275,[34,35,36,37,38,39,40,41,42,43,44,45,46,47,48,33,49,50,6,0,1,2,3,4,5,6,7,8,9,10,11,12,13,14,15,16,17,18,19,1017,20])] [(0,0)] Tryz.func130 rfl (λu q=>?_)
   repeat'(first|refine gE ?_|(conv=>whnf);first|refine CL (e) ⟨⟨rfl,bI h⟩,trivial⟩ ?_|refine C9 (b) ?_|refine CZ 16 rfl (by rw[I1];omega) (aT λ_=>rfl) j ?_)
   refine CK rfl rfl ?_;exact wC
  have k:bD h=oC h:=by unfold bD;exact C8 ω
  rw[k]at b;refine fM 62 [] [(8,275,[34,35,36,37,38,39,40,41,42,43,44,45,46,47,48,33,49,50,6,0,1,2,3,4,5,6,7,8,9,10,11,12,13,14,15,16,17,18,19,1017,20])] [(0,0)] Tryz.func130 rfl (λu q=>?_);rw[k]
  repeat'(first|refine gE ?_|(conv=>whnf);first|refine CL (e) ⟨⟨rfl,bI h⟩,trivial⟩ ?_|refine C9 (b) ?_)
  refine CK rfl rfl ?_;exact wC
 | cons q M=>
  rw[C]at b g;obtain⟨E,F,G⟩:=g q (C2 ..);obtain⟨N,O,P⟩:=uB G;have p:=Ak _ _ G O P;have t:=GO _ N (Ja _ _);have c:=ao (xs:=bD h) (i:=q.A.toNat) ω;have d:=ao (xs:=bD h) (i:=q.B.toNat) ω;have l:(q::M)[0]? = some q:=rfl;by_cases L:16<(oC h).length
  ·refine fM 62 [] [(8,275,[34,35,36,37,38,39,40,41,42,43,44,45,46,47,48,33,49,50,6,0,1,2,3,4,5,6,7,8,9,10,11,12,13,14,15,16,17,18,19,1017,20])] [(0,0)] Tryz.func130 rfl (λu r=>?_)
   repeat'(first|refine gE ?_|(conv=>whnf);first|with_reducible refine Bf.D (λn=>absurd n (by simp)) (λn=>?_)|refine CL (e) ⟨⟨rfl,bI h⟩,trivial⟩ ?_|refine C9 (b) ?_|refine CZ 16 rfl (by rw[I1];omega) (aT λ_=>rfl) j ?_|refine CP (by decide) (aa l) ?_|refine CP E.1 (aa c) ?_|refine CP F.1 (aa d) ?_|refine C9 (p) ?_|refine CL (t) ⟨⟨rfl,cJ.enc_fz _⟩,trivial⟩ ?_)
   refine CK rfl rfl ?_;exact wC
  have k:bD h=oC h:=by unfold bD;exact C8 ω
  rw[k]at b p t c d;refine fM 62 [] [(8,275,[34,35,36,37,38,39,40,41,42,43,44,45,46,47,48,33,49,50,6,0,1,2,3,4,5,6,7,8,9,10,11,12,13,14,15,16,17,18,19,1017,20])] [(0,0)] Tryz.func130 rfl (λu r=>?_);rw[k]
  repeat'(first|refine gE ?_|(conv=>whnf);first|with_reducible refine Bf.D (λn=>absurd n (by simp)) (λn=>?_)|refine CL (e) ⟨⟨rfl,bI h⟩,trivial⟩ ?_|refine C9 (b) ?_|refine CP (by decide) (aa l) ?_|refine CP E.1 (aa c) ?_|refine CP F.1 (aa d) ?_|refine C9 (p) ?_|refine CL (t) ⟨⟨rfl,cJ.enc_fz _⟩,trivial⟩ ?_)
  refine CK rfl rfl ?_;exact wC
def cg(k:ah):ah:={k with Calls:=k.Calls+1}
def refd(k:ah):Bool:=decide (k.Calls∈k.a0)
def jB(k:ah)(p:Int)(m:Int):ah:={k with F:=⟨k.F.W,⟨k.F.R.J.set p.toNat {nth k.F.R.J p.toNat with e:=m}⟩⟩}
def ky(k:ah)(p m:Int):ah × Bool:=if refd k=true then(cg k,false) else(jB (cg k) p m,true)
def Ly(k:ah)(p m:Int):ah.enc .own (jB k p m)=(ah.enc .own k).set 2 (.s .own ((k.F.R.J.map (bk.enc .own)).set p.toNat (bk.enc .own {nth k.F.R.J p.toNat with e:=m}))):=by
 simp[ah.enc,jB,C7]
def row16(a:aA k=true)(b:f<k.F.W.T.length):(nth k.F.W.T f).length=16:=by
 have:=(bc.1 (aG.1 a).2.1).2.2.2 f b;unfold iq at this;simp only[I0,C0]at this;omega
def setCell(k:ah)(f:Nat)(c v:Int):ah:={k with F:=⟨⟨k.F.W.T.set f ((nth k.F.W.T f).set c.toNat v),k.F.W.a6⟩,k.F.R⟩}
def EY(k:ah)(f:Nat)(c v:Int):ah.enc .own (setCell k f c v)=(ah.enc .own k).set 0 (.s .own ((k.F.W.T.map (aD .own)).set f [.s .own (((nth k.F.W.T f).map (rI .own)).set c.toNat [I v])])):=by
 simp[ah.enc,setCell,C7,aD,rI]
def bK(k:ah)(p:Int):Nat:=(ac k.F.R p).j.toNat
def sv(k:ah)(a b c:Int):ah:=setCell k (bK k b) c (nth (nth k.F.W.T (bK k a)) c.toNat)
def Tj(k:ah)(a b c:Int):Nat->ah
 | 0=>k
 | _+1=>sv k a b c
def w5(k:ah)(p:Nat)(e:bk):ah:={k with F:=⟨k.F.W,⟨k.F.R.J.set p e⟩⟩}
def PK(k:ah)(p:Nat)(e:bk):ah.enc .own (w5 k p e)=(ah.enc .own k).set 2 (.s .own ((k.F.R.J.map (bk.enc .own)).set p (bk.enc .own e))):=by
 simp[ah.enc,w5,C7]
def Qa(p:Nat)(e:bk)(h:aH.sml k.F.R):aH.sml (w5 k p e).F.R:=by
 refine⟨?_,λx _=>trivial⟩;show(k.F.R.J.set p e).length<=_;rw[W1];exact h.1
def wy(k:ah)(p o:Int):ah × Bool:=if refd k=true then(cg k,false) else(ik (w5 (cg k) p.toNat ⟨2,(nth k.F.R.J o.toNat).j⟩) (nth k.F.R.J p.toNat).j,true)
def iZ(m:aR)(a v:Int):aR × Int:=
 if(ac m.R (a / 16)).e=0 then(m,1) else if(ac m.R (a / 16)).e=1 then(m,2) else
 (⟨⟨m.W.T.set (ac m.R (a / 16)).j.toNat ((nth m.W.T (ac m.R (a / 16)).j.toNat).set (a % 16).toNat v),m.W.a6⟩,m.R⟩,0)
def HB(m:aR)(f:Nat)(c v:Int):aR.enc .own ⟨⟨m.W.T.set f ((nth m.W.T f).set c.toNat v),m.W.a6⟩,m.R⟩ = (aR.enc .own m).set 0 (.s .own ((m.W.T.map (aD .own)).set f [.s .own (((nth m.W.T f).map (rI .own)).set c.toNat [I v])])):=by
 simp[aR.enc,C7,aD,rI]
def jmay(k:ah)(j:cA):Bool:=(aA k&&decide (k.Calls≠100000))&&(kx j&&decide ((ac k.F.R j.X.a3).e≠0/\(ac k.F.R j.X.a2).e≠0/\(ac k.F.R j.X.a3).j≠(ac k.F.R j.X.a2).j))
def jstep(k:ah)(j:cA):ah × cA:=
 if j.b2=0 then((ky k j.X.a2 1).1,{j with b2:=if(ky k j.X.a2 1).2=true then 1 else 5})
 else if j.b2=1 then(if j.d=j.X.T.length then(k,{j with b2:=2}) else(sv k j.X.a2 j.X.a3 (nth j.X.T j.d.toNat),{j with d:=j.d+1}))
 else if j.b2=2 then((wy k j.X.a2 j.X.a3).1,{j with b2:=if(wy k j.X.a2 j.X.a3).2=true then 4 else 3})
 else if j.b2=3 then(if 0<j.d then({k with F:=(iZ k.F (j.X.a3*16+nth j.X.T (j.d - 1).toNat) 0).1},{j with d:=j.d - 1}) else((ky k j.X.a2 2).1,{j with b2:=if(ky k j.X.a2 2).2=true then 5 else 3}))
 else(k,j)
def Qr{f:Int}(h1:∀j,j<k.a0.length->0<=nth k.a0 j)(d:dc k.F.W=true)(g:gx k.F.R k.F.W.a6.length=true)(h:∀j:Nat,j<k.F.W.a6.length->(j:Int)≠f->nth k.F.W.a6 j=decide (0<(pagesOn k.F.R (j:Int)).length))(t:0<=f/\f<k.F.W.a6.length)(l:nth k.F.W.a6 f.toNat=true)(i:0<=k.Calls/\k.Calls<=100000/\k.a0.length<=40):aA (ik k f)=true:=by
 obtain⟨n,o,p,q⟩:=bc.1 d;unfold ik;split
 ·rename_i c
  rw[aG];simp only[W1];refine⟨h1,?_,g,λj b=>?_,i⟩
  ·rw[bc]
   simp only[W1,bE];refine⟨n,o,p,λj b=>?_⟩;by_cases a:f.toNat=j
   ·rw[CD ⟨a,b⟩,CD ⟨a,ω⟩];decide
   rw[CB (λe=>a e.1),CB (λe=>a e.1)];exact q j b
  rw[bE];by_cases a:f.toNat=j
  ·rw[CD ⟨a,b⟩]
   have:(j:Int)=f:=ω
   rw[this];exact(W0 λr=>absurd c (Nat.ne_of_gt r)).symm
  rw[CB (λe=>a e.1)];exact h j b ω
 rename_i c;rw[aG];refine⟨h1,d,g,λj b=>?_,i⟩;by_cases a:(j:Int)=f
 ·rw[a,show j=f.toNat by omega,l]
  exact(O0 (Nat.pos_of_ne_zero c)).symm
 exact h j b a
def tEq(t a:aH):Prop:=a.J.length=t.J.length/\∀q:Nat,((nth a.J q).e≠0↔(nth t.J q).e≠0)/\(nth a.J q).j=(nth t.J q).j
def tEq.refl(t:aH):tEq t t:=⟨rfl,λ_=>⟨Iff.rfl,rfl⟩⟩
def tEq.of{t a:aH}(h:a=t):tEq t a:=by rw[h];exact tEq.refl t
def tEq.pagesOn{t a:aH}(h:tEq t a)(f:Int):Ab.pagesOn a f=Ab.pagesOn t f:=by
 unfold Ab.pagesOn kv;rw[h.1]
 congr 1
 refine List.filter_congr λq _=>?_
 obtain⟨b,c⟩:=h.2 q;unfold M9;rw[c];exact decide_eq_decide.2 (and_congr b Iff.rfl)
def DT(h:aA k=true){a:aH}(c:tEq k.F.R a)(i:∀q,q<a.J.length->0<=(nth a.J q).e/\(nth a.J q).e<=2):aA {k with F:=⟨k.F.W,a⟩} = true:=by
 obtain⟨l,n,o,p,r⟩:=aG.1 h;obtain⟨t,u,w⟩:=b8.1 o;rw[aG];refine⟨l,n,b8.2 ⟨λj b=>?_,?_,?_⟩,λj b=>?_,r⟩
 ·replace b:j<a.J.length:=b
  have e:=t j (by rw[<-c.1];exact b);have d:=i j b;obtain⟨g,y⟩:=c.2 j;show kQ _ (nth a.J j)=true;unfold kQ at e |-;rw[C0]at e |-;rw[y];refine⟨d.1,d.2,λf=>e.2.2.1 (Classical.byContradiction λA=>(g.2 A) f),λf=>e.2.2.2 (g.1 f)⟩
 ·show 1<=a.J.length;rw[c.1];exact u
 ·show a.J.length<=32;rw[c.1];exact w
 show nth k.F.W.a6 j=decide (0<(Ab.pagesOn a (j:Int)).length);rw[c.pagesOn];exact p j b
def nu(h:aA k=true)(f:k.Calls≠100000):aA (cg k)=true:=by
 obtain⟨a,b,c,d,g,i,e⟩:=aG.1 h;rw[aG];exact⟨a,b,c,d,by show 0<=k.Calls+1;omega,by show k.Calls+1<=100000;omega,e⟩
variable{m:Int}
def ul(a:(nth k.F.R.J p.toNat).e≠0)(b:m=1\/m=2):tEq k.F.R (jB k p m).F.R:=by
 refine⟨by simp[jB],λq=>?_⟩;simp only[jB,bE];split
 ·rename_i e
  rw[<-e.1];exact⟨⟨λ_=>a,λ_=>by show m≠0;omega⟩,rfl⟩
 exact⟨Iff.rfl,rfl⟩
def Qb(h:aA k=true)(d:(nth k.F.R.J p.toNat).e≠0)(a:m=1\/m=2):aA (jB k p m)=true:=by
 refine DT h (ul d a) λq e=>?_
 obtain⟨i,j,f,l,n⟩:=aG.1 h;obtain⟨g,o,r⟩:=b8.1 f;have c:q<k.F.R.J.length:=by rw[<-(ul d a).1];exact e
 have b:=g q c;unfold kQ at b;rw[C0]at b;simp only[bE];split
 ·show 0<=m/\m<=2;omega
 exact⟨b.1,b.2.1⟩
def Fo(h:aA k=true)(c:k.Calls≠100000)(b:(ac k.F.R p).e≠0)(a:m=1\/m=2):aA (ky k p m).1=true/\tEq k.F.R (ky k p m).1.F.R:=by
 obtain⟨e,f,d,-⟩:=cj h b;rw[d]at b;unfold ky;split
 ·exact⟨nu h c,tEq.refl _⟩
 exact⟨Qb (nu h c) b a,ul (k:=cg k) b a⟩
def gK(h:aA k=true)(b:(ac k.F.R p).e≠0):bK k p<k.F.W.T.length/\nth k.F.W.a6 (bK k p)=true/\((bK k p:Nat):Int)=(nth k.F.R.J p.toNat).j:=by
 obtain⟨f,g,a,i,j⟩:=cj h b;obtain⟨l,d,n,e,o⟩:=aG.1 h;obtain⟨q,r,t,u⟩:=bc.1 d;have c:((bK k p:Nat):Int)=(ac k.F.R p).j:=by unfold bK;omega
 refine⟨ω,?_,by rw[c,a]⟩;rw[e _ ω,c];refine O0 (eA.2 ⟨p.toNat,ω,?_,?_⟩)
 ·rw[<-a];exact b
 rw[<-a]
def N8(h:aA k=true){a:List Int}(c:a.length=16)(d:∀v∈a,0<=v/\v<=999)(g:nth k.F.W.a6 f=true):aA {k with F:=⟨⟨k.F.W.T.set f a,k.F.W.a6⟩,k.F.R⟩} = true:=by
 obtain⟨i,l,n,o,p⟩:=aG.1 h;obtain⟨q,r,t,u⟩:=bc.1 l;refine aG.2 ⟨i,bc.2 ⟨?_,?_,?_,λj b=>?_⟩,n,o,p⟩
 ·simp only[W1];exact q
 ·simp only[W1];exact r
 ·simp only[W1];exact t
 simp only[W1]at b |-;simp only[bE];split
 ·rename_i e
  obtain⟨rfl,-⟩:=e;unfold iq;simp only[I0,C0,V4];refine⟨c,λv w=>?_⟩;have:=d v w;unfold iW;simp[g,this]
 exact u j b
def uU(h:aA k=true)(b:f<k.F.W.T.length):(nth k.F.W.T f).length=16/\∀v∈nth k.F.W.T f,0<=v/\v<=999:=by
 obtain⟨g,c,i,j,l⟩:=aG.1 h;obtain⟨n,o,p,d⟩:=bc.1 c;have a:=d f b;unfold iq at a;simp only[I0,C0,V4]at a;refine⟨a.1,λv e=>?_⟩;have:=a.2 v e;unfold iW at this;simp only[I0,C0]at this;exact this.1
def rV(h:aA k=true)(b:f<k.F.W.T.length)(d:nth k.F.W.a6 f=true){v:Int}(e:0<=v/\v<=999):aA (setCell k f c v)=true:=by
 obtain⟨g,i⟩:=uU h b;refine N8 h (by rw[W1];exact g) (λz a=>?_) d;rcases S7 a with a|rfl
 ·exact i z a
 exact e
def Qt(h:aA k=true)(d:(ac k.F.R a).e≠0)(e:(ac k.F.R b).e≠0)(l:0<=c/\c<=15):aA (sv k a b c)=true:=by
 obtain⟨f,n,-⟩:=gK h d;obtain⟨g,i,-⟩:=gK h e;obtain⟨o,j⟩:=uU h f;exact rV h g i (j _ (am ω))
def Pz{o:Int}(h:aA k=true)(u:k.Calls≠100000)(i:(ac k.F.R p).e≠0)(d:(ac k.F.R o).e≠0)(w:p≠o):aA (wy k p o).1=true:=by
 unfold wy;split
 ·exact nu h u
 obtain⟨O,y,A⟩:=gK h i;obtain⟨P,Q,R⟩:=gK h d;obtain⟨S,T,B,r,t⟩:=cj h i;obtain⟨U,V,C,D,E⟩:=cj h d;obtain⟨F,G,H,J,W,X,K⟩:=aG.1 h;obtain⟨L,M,N⟩:=b8.1 H;rw[C]at D E d;rw[B]at r t i;have a:∀q,nth (k.F.R.J.set p.toNat ⟨2,(nth k.F.R.J o.toNat).j⟩) q=if p.toNat=q then⟨2,(nth k.F.R.J o.toNat).j⟩ else nth k.F.R.J q:=λq=>by
  rw[bE];by_cases f:p.toNat=q
  ·rw[CD ⟨f,ω⟩,CD f]
  rw[CB (λe=>f e.1),CB f]
 refine Qr F G (b8.2 ⟨λj c=>?_,?_,?_⟩) (λj c l=>?_) ⟨r,t⟩ (by rw[<-A];exact y) ⟨by show 0<=k.Calls+1;omega,by show k.Calls+1<=100000;omega,K⟩
 ·simp only[w5,cg,W1]at c |-
  rw[a];split
  ·unfold kQ;rw[C0];simp only;omega
  exact L j c
 ·simp only[w5,cg,W1];exact M
 ·simp only[w5,cg,W1];exact N
 replace c:j<k.F.W.a6.length:=c;show nth k.F.W.a6 j=_;rw[J j c];refine decide_eq_decide.2 ?_;rw[eA,eA];simp only[w5,cg,W1,a];constructor
 ·rintro⟨q,n,g,b⟩
  refine⟨q,n,?_⟩;rw[CB (λe=>l (by rw[<-b,<-e]))];exact⟨g,b⟩
 rintro⟨q,n,g,b⟩
 by_cases e:p.toNat=q
 ·rw[CD e]at b
  exact⟨o.toNat,ω,d,b⟩
 rw[CB e]at g b;exact⟨q,n,g,b⟩
def JH{o:Int}(h:aA k=true)(b:(ac k.F.R p).e≠0)(a:(wy k p o).2=true)(q:Nat):(wy k p o).1.F.R.J.length=k.F.R.J.length/\nth (wy k p o).1.F.R.J q=if(q:Int)=p then⟨2,(nth k.F.R.J o.toNat).j⟩ else nth k.F.R.J q:=by
 obtain⟨d,f,-⟩:=cj h b;unfold wy at a |-;split at a
 ·cases a
 rename_i c;rw[CB c];simp only[(nv _ _).1];simp only[w5,cg,W1,bE];refine⟨trivial,?_⟩;by_cases e:(q:Int)=p
 ·rw[CD ⟨ω,ω⟩,CD e]
 rw[CB λz=>e ω,CB e]
def Nf{o:Int}(a:(wy k p o).2=false):(wy k p o).1=cg k:=by
 unfold wy at a |-;split
 ·rfl
 rename_i b;rw[CB b]at a;cases a
def Md{v:Int}(h:aA k=true)(g:0<=a)(b:0<=v/\v<=999):aA {k with F:=(iZ k.F a v).1} = true/\(iZ k.F a v).1.R=k.F.R:=by
 unfold iZ;split
 ·exact⟨h,rfl⟩
 rename_i d;split
 ·exact⟨h,rfl⟩
 obtain⟨e,f,-⟩:=gK h d;exact⟨rV h e f (c:=a % 16) b,rfl⟩
def oZ(t:aH)(p:Int):Prop:=∀q:Nat,(nth t.J q).e≠0->(nth t.J q).j=(nth t.J p.toNat).j->(q:Int)=p
structure JI(h:ab):Prop where
 ph:h.u=true->0<=h.Z.b2/\h.Z.b2<=3
 sp:h.u=true->∃a∈h.K,∃b∈h.K,a.Q=h.Z.X.a3/\b.Q=h.Z.X.a2/\meshable a b=true
 sk:h.u=true->oZ (tbl h) h.Z.X.a3
 sm:h.u=true->oZ (tbl h) h.Z.X.a2
def oZ.tEq{t a:aH}{p:Int}(h:oZ t p)(b:tEq t a):oZ a p:=λq c d=>by
 obtain⟨e,f⟩:=b.2 q;exact h q (e.1 c) (by rw[<-f,<-(b.2 p.toNat).2];exact d)
theorem Pg.tEq{t b:aH}{c:List aB}{sp:List ax}{la:List a7}(h:Pg t c sp la)(a:tEq t b):Pg b c sp la where
 one l hl p hp q hq h1 h2:=h.one l hl p hp q (by rw[<-a.1];exact hq) ((a.2 q).1.1 h1) (by rw[<-(a.2 q).2,<-(a.2 p).2];exact h2)
 bnd p hp:=by rw[a.1];exact h.bnd p hp
 own p hp:=(a.2 p).1.trans (h.own p (by rw[<-a.1];exact hp))
 fre p hp:=(a.2 p).1.trans (h.fre p (by rw[<-a.1];exact hp))
 mesh s hs u hu hne hf:=h.mesh s hs u hu hne (by rw[<-(a.2 _).2,<-(a.2 u.Q.toNat).2];exact hf)
def aY.step(a:aY h E)(b:aA k=true)(c:k.F.R.J.length=(tbl h).J.length)(d:Pg k.F.R h.w h.K h.M){j:cA}{m:Bool}(h1:m=true->kx j=true/\(∃s∈h.K,s.Q=j.X.a3)/\∃s∈h.K,s.Q=j.X.a2)(e:m=false->ta j=true):aY {h with G:=k,u:=m,Z:=j} E:=
 {a with
   ker:=b
   rng:=by show bC ((k.F.R.J.length:Nat):Int) h.w=true;rw[c];exact a.rng
   pg:=d
   job:=h1
   noj:=e}
def qH.apart(b:qH sp la)(c:s∈sp)(d:l∈la)(a:p∈lpgs l l.a1.toNat):s.Q≠p:=by
 unfold lpgs at a;simp only[Z4,List.mem_range]at a;obtain⟨k,e,rfl⟩:=a;exact b.dis s c l d k e
def Pg.on{t H:aH}{Q:List aB}(h:Pg t Q sp la)(r:qH sp la){a b:ax}(w:a∈sp)(L:b∈sp)(R:meshable a b=true)(A:oZ t a.Q)(M:(nth t.J a.Q.toNat).e≠0)(N:(nth t.J b.Q.toNat).e≠0)(U:0<=b.Q)(J:H.J.length=t.J.length)(B:∀q:Nat,nth H.J q=if(q:Int)=b.Q then⟨2,(nth t.J a.Q.toNat).j⟩ else nth t.J q):Pg H Q sp la:=by
 have c:∀q:Nat,(nth H.J q).e≠0↔(nth t.J q).e≠0:=λq=>by
  rw[B];split
  ·rename_i e
   rw[show q=b.Q.toNat by omega];exact⟨λ_=>N,λ_=>by show(2:Int)≠0;omega⟩
  rfl
 have V:0<=a.Q:=by have:=r.sok a w;unfold bi at this;rw[C0]at this;omega
 refine⟨λl k p g q W S C=>?_,λp g=>by rw[J];exact h.bnd p g,λp g=>(c p).trans (h.own p (by rw[<-J];exact g)),λp g=>(c p).trans (h.fre p (by rw[<-J];exact g)),λs D u E F n=>?_⟩
 ·have O:¬(p:Int)=b.Q:=λe=>r.apart L k g e.symm
  rw[B p,CB O,B q]at C;rw[c]at S;by_cases e:(q:Int)=b.Q
  ·rw[CD e]at C
   have T:=h.one l k p g a.Q.toNat (by have:=h.bnd _ (dH (la:=la) w);omega) M C;exact absurd (show a.Q=(p:Int) by omega) (r.apart w k g)
  rw[CB e]at C;exact h.one l k p g q (by rw[<-J];exact W) S C
 have X:0<=s.Q:=by have:=r.sok s D;unfold bi at this;rw[C0]at this;omega
 have Y:0<=u.Q:=by have:=r.sok u E;unfold bi at this;rw[C0]at this;omega
 have d:∀x∈sp,∀y∈sp,x.Q=y.Q->x=y:=λx G y Z e=>by
  obtain⟨i,hi,rfl⟩:=aK G;obtain⟨j,hj,rfl⟩:=aK Z;rw[cU (f:=(·.Q)) r.nd hi hj e]
 have o:∀x∈sp,(nth t.J x.Q.toNat).e≠0:=λx G=>by
  have hx0:0<=x.Q:=by have:=r.sok x G;unfold bi at this;rw[C0]at this;omega
  refine(h.own x.Q.toNat (by have:=h.bnd _ (dH (la:=la) G);omega)).2 ?_;rw[show((x.Q.toNat:Nat):Int)=x.Q by omega];exact dH G
 rw[B,B]at n;simp only[show((s.Q.toNat:Nat):Int)=s.Q by omega,show((u.Q.toNat:Nat):Int)=u.Q by omega]at n;by_cases K:s.Q=b.Q
 ·rw[CD K,CB (λe=>F (K.trans e.symm))]at n
  have T:=A u.Q.toNat (o u E) n.symm;rw[d s D b L K,d u E a w ω,gR];exact R
 rw[CB K]at n;by_cases P:u.Q=b.Q
 ·rw[CD P]at n
  have T:=A s.Q.toNat (o s D) n;rw[d u E b L P,d s D a w ω];exact R
 rw[CB P]at n;exact h.mesh s D u E F n
def over(j:cA):Bool:=decide (j.b2=4\/j.b2=5)
def ip(k:ah)(j:cA):ah × cA:=if jmay k j=true then jstep k j else(k,j)
def mStep(h:ab):ab:={h with G:=(ip h.G h.Z).1,u:=if over (ip h.G h.Z).2=true then false else h.u,Z:=if over (ip h.G h.Z).2=true then⟨⟨0,0,[]⟩,0,0⟩ else(ip h.G h.Z).2}
def Fu(h:ab):Bool:=decide ((ip h.G h.Z).2.b2=4)
def dA{j:cA} : kx j=true↔eU j.X=true/\0<=j.b2/\j.b2<=5/\0<=j.d/\j.d<=j.X.T.length:=by
 unfold kx;simp only[I0,C0]
def gm{p:cJ}(h:eU p=true)(a:i<p.T.length):0<=nth p.T i/\nth p.T i<=15:=by
 unfold eU at h;simp only[I0]at h;have:=dI h.1 a;unfold mV at this;rw[C0]at this;exact⟨this.1,this.2.1⟩
structure JS(h:ab)(k:ah)(j:cA):Prop where
 ker:aA k=true
 len:k.F.R.J.length=(tbl h).J.length
 pg:j.b2≠4\/JI h->Pg k.F.R h.w h.K h.M
 ph:0<=j.b2/\j.b2<=5
 plan:j.X=h.Z.X
 nxt:0<=j.d/\j.d<=j.X.T.length
 eq:j.b2≠4->tEq (tbl h) k.F.R
 calls:h.G.Calls<=k.Calls/\k.Calls<=h.G.Calls+1/\k.a0=h.G.a0
def ya(k:ah)(p m:Int):(ky k p m).1.Calls=k.Calls+1/\(ky k p m).1.a0=k.a0:=by
 unfold ky;split<;>exact⟨rfl,rfl⟩
def P1(k:ah)(p o:Int):(wy k p o).1.Calls=k.Calls+1/\(wy k p o).1.a0=k.a0:=by
 unfold wy;split
 ·exact⟨rfl,rfl⟩
 obtain⟨-,a,b,-⟩:=nv (w5 (cg k) p.toNat ⟨2,(nth k.F.R.J o.toNat).j⟩) (nth k.F.R.J p.toNat).j;simp only[a,b];exact⟨rfl,rfl⟩
def JS.of(c:aY h E)(B:h.u=true):JS h (ip h.G h.Z).1 (ip h.G h.Z).2:=by
 obtain⟨R,-,-⟩:=c.job B;obtain⟨O,y,A,o,p⟩:=dA.1 R;unfold ip;split
 case isFalse=>exact⟨c.ker,rfl,λ_=>c.pg,⟨y,A⟩,rfl,⟨o,p⟩,λ_=>tEq.refl _,W5 _,by show h.G.Calls<=h.G.Calls+1;omega,rfl⟩
 rename_i d;unfold jmay at d;simp only[I0,C0]at d;obtain⟨⟨-,C⟩,-,u,r,D⟩:=d;have fin:∀(k:ah)(j:cA),aA k=true->tEq (tbl h) k.F.R->0<=j.b2/\j.b2<=5->j.X=h.Z.X->0<=j.d/\j.d<=j.X.T.length->h.G.Calls<=k.Calls/\k.Calls<=h.G.Calls+1/\k.a0=h.G.a0->JS h k j:=
  λk j S F T U V W=>⟨S,F.1,λ_=>c.pg.tEq F,T,U,V,λ_=>F,W⟩
 have P:=(aG.1 c.ker).2.2.2.2;unfold jstep;split
 ·obtain⟨l,w⟩:=Fo c.ker C r (m:=1) (.inl rfl)
  obtain⟨g,t⟩:=ya h.G h.Z.X.a2 1;refine fin _ _ l w ?_ rfl ⟨o,p⟩ ⟨by rw[g];omega,by rw[g];omega,t⟩;show 0<=(if _ then _ else _:Int)/\(if _ then _ else _:Int)<=5;split<;>omega
 split
 ·split
  ·exact fin _ _ c.ker (tEq.refl _) ⟨by show(0:Int)<=2;omega,by show(2:Int)<=5;omega⟩ rfl ⟨o,p⟩ ⟨W5 _,by show h.G.Calls<=h.G.Calls+1;omega,rfl⟩
  have n:=gm O (i:=h.Z.d.toNat) ω;refine fin _ _ (Qt c.ker r u n) (tEq.refl _) ⟨y,A⟩ rfl ⟨by show 0<=h.Z.d+1;omega,by show h.Z.d+1<=h.Z.X.T.length;omega⟩ ⟨W5 _,by show h.G.Calls<=h.G.Calls+1;omega,rfl⟩
 split
 ·have G:h.Z.X.a2≠h.Z.X.a3:=λe=>D (by rw[e])
  have l:=Pz c.ker C r u G;obtain⟨g,t⟩:=P1 h.G h.Z.X.a2 h.Z.X.a3;cases e:(wy h.G h.Z.X.a2 h.Z.X.a3).2 with
  | false=>
   rw[CB (by simp)];refine fin _ _ l (tEq.of ?_) ⟨by show(0:Int)<=3;omega,by show(3:Int)<=5;omega⟩ rfl ⟨o,p⟩ ⟨by rw[g];omega,by rw[g];omega,t⟩;rw[Nf e];rfl
  | true=>
   rw[CD rfl];obtain⟨X,m2,Y,-⟩:=cj c.ker r;obtain⟨n1,n2,Z,-⟩:=cj c.ker u;have f:=JH c.ker r e;refine⟨l,(f 0).1,λH=>?_,⟨by show(0:Int)<=4;omega,by show(4:Int)<=5;omega⟩,rfl,⟨o,p⟩,λJ=>absurd rfl J,by rw[g];omega,by rw[g];omega,t⟩;have Q:JI h:=H.elim (λJ=>absurd rfl J) id;obtain⟨a,ha,b,hb,K,M,N⟩:=Q.sp B;refine c.pg.on c.L ha hb N (by rw[K];exact Q.sk B) (by rw[K];show(nth h.G.F.R.J _).e≠0;rw[<-Z];exact u) (by rw[M];show(nth h.G.F.R.J _).e≠0;rw[<-Y];exact r) (by rw[M];exact X) (f 0).1 λq=>?_
   rw[(f q).2,M,K];rfl
 split
 ·split
  ·rename_i hn0
   have n:=gm O (i:=(h.Z.d - 1).toNat) ω;have hk0:=(cj c.ker u).1;obtain⟨l,w⟩:=Md c.ker (a:=h.Z.X.a3*16+nth h.Z.X.T (h.Z.d - 1).toNat) (v:=0) ω ⟨ω,ω⟩;exact fin _ _ l (tEq.of w) ⟨y,A⟩ rfl ⟨by show 0<=h.Z.d - 1;omega,by show h.Z.d - 1<=h.Z.X.T.length;omega⟩ ⟨W5 _,by show h.G.Calls<=h.G.Calls+1;omega,rfl⟩
  obtain⟨l,w⟩:=Fo c.ker C r (m:=2) (.inr rfl);obtain⟨g,t⟩:=ya h.G h.Z.X.a2 2;refine fin _ _ l w ?_ rfl ⟨o,p⟩ ⟨by rw[g];omega,by rw[g];omega,t⟩;show 0<=(if _ then _ else _:Int)/\(if _ then _ else _:Int)<=5;split<;>omega
 exact fin _ _ c.ker (tEq.refl _) ⟨y,A⟩ rfl ⟨o,p⟩ ⟨W5 _,by show h.G.Calls<=h.G.Calls+1;omega,rfl⟩
def aY.mStep{h:ab}{E:List Int}(d:aY h E)(f:JI h)(c:h.u=true):aY (mStep h) E/\JI (mStep h):=by
 have s:=JS.of d c;unfold Ab.mStep;generalize (ip h.G h.Z).1=k at s |-;generalize (ip h.G h.Z).2=j at s |-;cases e:over j with
 | true=>
  refine⟨d.step s.ker s.len (s.pg (.inr f)) (λh=>by simp at h) (λ_=>by simp[ta]),?_⟩;exact⟨λh=>by simp at h,λh=>by simp at h,λh=>by simp at h,λh=>by simp at h⟩
 | false=>
  simp only[Bool.false_eq_true,if_false];unfold over at e;simp only[C5,not_or]at e;have g:=s.eq e.1;have i:=s.ph;refine⟨d.step s.ker s.len (s.pg (.inr f)) (λ_=>⟨dA.2 ⟨by rw[s.plan];exact(dA.1 (d.job c).1).1,s.ph.1,s.ph.2,s.nxt⟩,by rw[s.plan];exact(d.job c).2⟩) (λh=>by rw[c]at h;cases h),?_⟩;refine⟨λ_=>⟨s.ph.1,by show j.b2<=3;omega⟩,λ_=>?_,λ_=>?_,λ_=>?_⟩
  ·show ∃a∈h.K,∃b∈h.K,a.Q=j.X.a3/\b.Q=j.X.a2/\meshable a b=true
   rw[s.plan];exact f.sp c
  ·show oZ k.F.R j.X.a3
   rw[s.plan];exact(f.sk c).tEq g
  show oZ k.F.R j.X.a2;rw[s.plan];exact(f.sm c).tEq g
def fg(k:ah)(a:Int):Int:=nth (nth k.F.W.T (ac k.F.R (a / 16)).j.toNat) (a % 16).toNat
def cellsOf(k:ah)(a:Int)(n:Nat):List Int:=(List.range n).map λ(i:Nat)=>fg k (a+i)
def gL(k:ah)(a:Int)(n:Nat):(cellsOf k a n).length=n:=by simp[cellsOf]
def D3(k:ah)(a:Int)(n:Nat):cellsOf k a (n+1)=cellsOf k a n++[fg k (a+n)]:=by
 unfold cellsOf;rw[List.range_succ,W6];rfl
def yO(b:aA k=true)(p:Int):0<=(ac k.F.R p).j/\(ac k.F.R p).j<k.F.W.T.length:=by
 obtain⟨-,c,d,-⟩:=aG.1 b;obtain⟨e,f,g,h⟩:=bc.1 c;unfold ac;split
 ·rename_i i
  have:=(b8.1 d).1 p.toNat ω;unfold kQ at this;rw[C0]at this;by_cases a:(nth k.F.R.J p.toNat).e=0
  ·have:=this.2.2.1 a;omega
  have:=this.2.2.2 a;omega
 simp only;omega
def Ju(a:aA k=true)(b:j<k.F.W.T.length):(nth k.F.W.T j).length=16/\∀i,i<16->0<=nth (nth k.F.W.T j) i/\nth (nth k.F.W.T j) i<=999:=by
 obtain⟨-,c,-⟩:=aG.1 a;obtain⟨e,f,g,d⟩:=bc.1 c;have:=d j b;unfold iq at this;rw[I0,C0,V4]at this;refine⟨this.1,λi l=>?_⟩;have h:=this.2 _ (am (xs:=nth k.F.W.T j) (i:=i) ω);unfold iW at h;rw[I0,C0]at h;exact h.1
def BU(h:ab)(a n:Int)(b:aA h.G=true)(q:0<=a/\a<=1000000)(r:n<=1000000) :
  zzA 87 false [.val (some 24) (ab.enc .U h),.val none [I a],.val none [I n]] .one (aD .own (cellsOf h.G a n.toNat)):=by
 have c:=bO b;refine fO 44 [] Tryz.func87 rfl ?_ (.inr (bG _))
 repeat'(first|refine gP ?_|fail)
 (conv=>whnf)
 refine CH (ι:=Nat) (λi=>[(1,.H .one [I (a)]),(2,.H .one [I (n)]),(3,.H .box (ab.enc .U h)),(7,.H .one (aD .own (cellsOf h.G a i))),(8,.H .one [I ((i:Nat):Int)])]) (λi=>i<=n.toNat) (λi=>n.toNat - i) (0) ?_ (X0 _) λi t=>?_
 ·exact wB
 have d:=gL h.G a i;by_cases u:i<n.toNat
 ·obtain⟨e,w⟩:=yO b ((a+i) / 16)
  have g:=ao (xs:=h.G.F.W.T) (i:=(ac h.G.F.R ((a+i) / 16)).j.toNat) ω;have k:=(Ju b (j:=(ac h.G.F.R ((a+i) / 16)).j.toNat) ω).1;have l:=ao (xs:=nth h.G.F.W.T (ac h.G.F.R ((a+i) / 16)).j.toNat) (i:=((a+i) % 16).toNat) ω;have o:IntKind.i64.wrap ((a+(i:Int)).tdiv 16)=(a+i) / 16:=by rw[kn ω];exact eZ ω ω
  have p:(a+(i:Int)).tmod 16=(a+i) % 16:=fF ω
  repeat'(first|refine gE ?_|(conv=>whnf);first|refine CQ (by decide) ?_|refine CO o ?_|refine CX p ?_|refine C9 (gM h.G.F.R _ c.1.2) ?_|refine CP e (aa g) ?_|refine CP ω (aa l) ?_|refine Ap.sn cw rfl (by simp;omega) (by decide) rfl ?_)
  (conv=>whnf)
  refine CG (i+1) ω ω ?_;rw[D3]
  (repeat'(first|exact trivial|rfl|exact CN rfl (CN (Z0 (C.s dN.own) (by simp[rI,fg])) trivial)|refine CN ?_ ?_))
 repeat'(first|refine gE ?_|fail)
 obtain rfl:i=n.toNat:=ω
 rfl
end Go.Proofs.YtecefhjnejfheaaGreat.Ab
