/- What holds of a heap of which addresses are in hand: all that holds of a valid one, the holders and the addresses together. No condition. -/
import Derived.Test.YtecefhjnejfheaaGreatKmd
import Derived.Test.YtecefhjnejfheaaGreatKme
import Derived.Deep.LoopGhost
import Derived.Deep.RegionLaw
import Derived.Lib.Walk
import Derived.Sort.WalkB12
import Derived.Lib.SliceRun
import Derived.Shelf.RegionOpenPlain
set_option linter.unusedVariables false
set_option linter.defProp false
set_option linter.unusedSimpArgs false
set_option linter.constructorNameAsVariable false
namespace Go.Proofs.YtecefhjnejfheaaGreat.Ab
def wK{α:Type}[Inhabited α](R:Int->Int->Prop)(n:∀a b c,R a b->R b c->R a c)(f:α->Int)(xs:List α):(∀i,i<xs.length->i=0\/R (f (nth xs (i - 1))) (f (nth xs i)))↔xs.Pairwise (λa b=>R (f a) (f b)):=by
 constructor
 ·intro h
  have o:∀j i,i<j->j<xs.length->R (f (nth xs i)) (f (nth xs j)):=λj=>by
   induction j with
   | zero=>intro i d;omega
   | succ j p=>
    intro i d g;have k:=(h (j+1) g).resolve_left ω;rw[show j+1 - 1=j from rfl]at k;by_cases e:i=j
    ·subst e;exact k
    exact n _ _ _ (p i ω ω) k
  rw[List.pairwise_iff_getElem];intro i j d g l;have:=o j i l g
  rwa [bm (I2 d),bm (I2 g)]at this
 intro h i d;by_cases e:i=0
 ·exact .inl e
 right
 have:=List.pairwise_iff_getElem.1 h (i - 1) i ω d ω
 rwa [<-bm (I2 (show i - 1<xs.length by omega)),<-bm (I2 d)]at this
def A2{α:Type}[Inhabited α](f:α->Int)(xs:List α):(∀i,i<xs.length->∀o∈xs.take i,f o≠f (nth xs i))↔(xs.map f).Nodup:=by
 unfold List.Nodup;rw[List.pairwise_map,List.pairwise_iff_getElem];constructor
 ·intro h i j a b c
  have:=h j b xs[i] (List.mem_take_iff_getElem.2 ⟨i,ω,rfl⟩)
  rwa [bm (I2 b)]at this
 intro h i a o d;obtain⟨j,b,rfl⟩:=List.mem_take_iff_getElem.1 d;rw[bm (I2 a)];exact h j i ω a ω
def eM(s:ax)(a:Int):Prop:=16*s.R<=a/\a<=16*s.R+15/\(a - 16*s.R) % csz s.d=0/\aU s.b2 ((a - 16*s.R) / csz s.d)=true
def k6(sp:List ax)(a c:Int):Prop:=∃s∈sp,eM s a/\(c<0\/s.d=c)
def TT(la:List aB)(a z:Int):Prop:=∃l∈la,a=16*l.R/\l.u=z
def LT(sp:List ax)(la:List aB)(o:bt):Prop:=(∃s∈sp,eM s o.Addr/\s.d=aJ o.u)\/TT la o.Addr o.u
def mV(sp:List ax)(la:List aB)(a:Int):Prop:=k6 sp a (-1)\/∃l∈la,a=16*l.R
def nj{sp:List ax}{la:List aB}(f:sj sp la)(a:Int):(∃i,i<sp.length/\(16*(nth sp i).R<=a/\a<=16*(nth sp i).R+15)/\denotes sp la a=oJ i (nth sp i) a)\/((∀s∈sp,¬(16*s.R<=a/\a<=16*s.R+15))/\((∃i,i<la.length/\bq (nth la i) a=true/\denotes sp la a = ⟨3,i,0,a - 16*(nth la i).R⟩)\/((∀l∈la,bq l a=false)/\denotes sp la a = ⟨0,0,0,0⟩))):=by
 cases c:sp.findIdx? (cy · a) with
 | some i=>
  obtain⟨b,d,-⟩:=C7.1 c;rw[<-bm (I2 b)]at d;exact .inl ⟨i,b,(gS (f.sok _ (am b))).1 d,by unfold denotes;rw[c]⟩
 | none=>
  have h:=List.findIdx?_eq_none_iff.1 c;refine .inr ⟨λs g j=>?_,?_⟩
  ·have:=h s g
   rw[(gS (f.sok _ g)).2 j]at this;cases this
  cases e:la.findIdx? (bq · a) with
  | some i=>
   obtain⟨b,d,-⟩:=C7.1 e;rw[<-bm (I2 b)]at d;exact .inl ⟨i,b,d,by unfold denotes;rw[c,e]⟩
  | none=>exact .inr ⟨List.findIdx?_eq_none_iff.1 e,by unfold denotes;rw[c,e]⟩
def MZ{h:ab}(k:sj h.K h.M){a c:Int} : d9 h a c=true↔k6 h.K a c:=by
 unfold d9;simp only[I0,O6,C0];constructor
 ·rintro⟨⟨b,j⟩,d⟩
  rcases nj k a with⟨i,g,l,f⟩|⟨-,⟨i,g,-,f⟩|⟨-,f⟩⟩
  ·rw[f]at b j d
   simp only[oJ]at b j d;refine⟨_,am g,⟨l.1,l.2,j,?_⟩,by simpa using d⟩;cases e:aU (nth h.K i).b2 ((a - 16*(nth h.K i).R) / csz (nth h.K i).d) with
   | true=>rfl
   | false=>rw[e]at b;simp at b
  ·rw[f]at b;simp at b
  rw[f]at b;simp at b
 rintro⟨s,n,⟨o,p,q,r⟩,d⟩
 obtain⟨i,g,rfl⟩:=aL n;rw[jT k g ⟨o,p⟩];simp only[oJ,q,r,if_true,true_and];simpa using d
def wX{sp:List ax}{la:List aB}(a:sj sp la){l:aB}(b:l∈la):(∀s∈sp,¬(16*s.R<=16*l.R/\16*l.R<=16*s.R+15))/\bq l (16*l.R)=true/\∀i,i<la.length->bq (nth la i) (16*l.R)=true->nth la i=l:=by
 have k:=aO (a.lok _ b);have f:=cS (a.lok _ b);refine⟨λs g n=>?_,?_,λi d e=>?_⟩
 ·exact a.dis s g l b 0 ω ω
 ·unfold bq;rw[a.lok _ b,O0 ω];rfl
 obtain⟨j,h,rfl⟩:=aL b;have o:=aO (a.lok _ (am d));have c:=a.lok _ (am d);unfold bJ at c;rw[C0]at c;unfold bq at e;rw[I0,C0]at e;rw[a.one i j d h ((nth la j).R - (nth la i).R).toNat 0 ω ω ω]
def Pr{h:ab}(f:sj h.K h.M){o:bt} : jl h o=true↔LT h.K h.M o:=by
 unfold jl;simp only[I0,O6,C0];constructor
 ·rintro⟨d,a⟩
  rcases nj f o.Addr with⟨i,b,g,c⟩|⟨-,⟨i,b,-,c⟩|⟨-,c⟩⟩
  ·rw[c]at a d
   simp only[oJ]at a d;have j:aU (nth h.K i).b2 ((o.Addr - 16*(nth h.K i).R) / csz (nth h.K i).d)=true:=by
    cases e:aU (nth h.K i).b2 ((o.Addr - 16*(nth h.K i).R) / csz (nth h.K i).d) with
    | true=>rfl
    | false=>rw[e]at a;simp at a
   rw[j]at a;exact .inl ⟨_,am b,⟨g.1,g.2,d,j⟩,by simpa using a⟩
  ·rw[c]at a d
   simp only at a d;exact .inr ⟨_,am b,ω,by simpa using a⟩
  rw[c]at a;simp at a
 rintro(⟨s,j,⟨p,q,r,t⟩,u⟩|⟨l,k,w,y⟩)
 ·obtain⟨i,b,rfl⟩:=aL j
  rw[jT f b ⟨p,q⟩];simp only[oJ,r,t,if_true,true_and];simp[u]
 obtain⟨A,n,B⟩:=wX f k;rw[w];rcases nj f (16*l.R) with⟨i,b,g,c⟩|⟨-,⟨i,b,C,c⟩|⟨D,c⟩⟩
 ·exact absurd g (A _ (am b))
 ·rw[c]
  have:=B i b C;simp only[this,X2];exact⟨ω,.inr ⟨trivial,y⟩⟩
 rw[D l k]at n;cases n
def Fs{sp:List ax}{la:List aB}(d:sj sp la)(a:Int):a∈ja sp la↔mV sp la a:=by
 constructor
 ·intro h
  unfold ja mh at h;obtain⟨n,o,rfl⟩:=O4.1 h;have g:=(U4.1 o).2;unfold kA at g;simp only[I0,O6,C0]at g;obtain⟨j,f⟩:=g;rcases nj d (n:Int) with⟨i,c,k,b⟩|⟨-,⟨i,c,-,b⟩|⟨-,b⟩⟩
  ·rw[b]at f j
   simp only[oJ]at f j;refine .inl ⟨_,am c,⟨k.1,k.2,j,?_⟩,.inl ω⟩;cases e:aU (nth sp i).b2 (((n:Int) - 16*(nth sp i).R) / csz (nth sp i).d) with
   | true=>rfl
   | false=>rw[e]at f;simp at f
  ·rw[b]at j
   simp only at j;exact .inr ⟨_,am c,ω⟩
  rw[b]at f;simp at f
 rintro(⟨s,r,⟨t,g,u,w⟩,-⟩|⟨l,p,rfl⟩)
 ·obtain⟨i,c,rfl⟩:=aL r
  have b:=jT d c ⟨t,g⟩;exact w8 d (by rw[b];exact u) (.inl (by rw[b];simp only[oJ,w,if_true]))
 obtain⟨y,q,A⟩:=wX d p;rcases nj d (16*l.R) with⟨i,c,k,b⟩|⟨-,⟨i,c,B,b⟩|⟨o,b⟩⟩
 ·exact absurd k (y _ (am c))
 ·have:=A i c B
  exact w8 d (by rw[b];simp only[this];omega) (.inr (by rw[b]))
 rw[o l p]at q;cases q
def RH(xs:List aA)(p:Int):Prop:=∃r∈xs,r.At<=p/\p<r.At+r.b0
def fG{pages:Int}{xs:List aA} : bC pages xs=true↔pn xs/\(∀y∈xs,0<=y.At/\1<=y.b0/\y.At+y.b0<=pages)/\1<=pages/\pages<=32:=by
 constructor
 ·intro h
  obtain⟨a,b⟩:=Ea h;unfold bC at h;simp only[I0,C0]at h;exact⟨a,b,h.2⟩
 rintro⟨a,b,d⟩
 unfold bC;simp only[I0,C0];refine⟨cA.2 λi c=>?_,d⟩;have f:=b _ (am c);unfold gK rangeIn;simp only[I0,C0];refine⟨ω,?_⟩;by_cases e:i=0
 ·exact .inl e
 right
 have:=List.pairwise_iff_getElem.1 a.1 (i - 1) i ω c ω
 rwa [<-bm (I2 (show i - 1<xs.length by omega)),<-bm (I2 c)]at this
def Gx{pages:Int}{xs:List aA}(h:bC pages xs=true)(p:Int):xs.any (rn p)=true↔RH xs p:=by
 obtain⟨-,c,d⟩:=fG.1 h;rw[t4];refine⟨λ⟨r,a,b⟩=>⟨r,a,?_⟩,λ⟨r,a,b⟩=>⟨r,a,?_⟩⟩
 ·have:=c r a
  unfold rn at b;rw[eP ω ω]at b;simpa using b
 have:=c r a;unfold rn;rw[eP ω ω];simpa using b
def wF(u:Int):∀(h:List aA)(r:aA)(out:List aA),pn h->1<=r.b0->(∀y∈h,ovl y r=false)->(∀z∈out,z.At+z.b0<r.At/\∀y∈h,z.At+z.b0<y.At)->pn out->(∀y∈r::(out++h),0<=y.At/\y.At+y.b0<=u)->∃o,kE h r out false=some o/\pn o/\(∀y∈o,0<=y.At/\y.At+y.b0<=u)/\∀p,RH o p↔RH out p\/RH h p\/(r.At<=p/\p<r.At+r.b0)
 | [],r,out,_,A,_,k,l,f=>by
  refine⟨out++[r],by simp[kE],⟨List.pairwise_append.2 ⟨l.1,List.pairwise_singleton ..,λa B b f=>by rw[O1.1 f];exact(k a B).1⟩,λy n=>?_⟩,λy n=>f y (by simp at n |-;grind),λp=>by unfold RH;simp[or_and_right,exists_or]⟩;rcases z3.1 n with n|n
  ·exact l.2 y n
  rw[O1.1 n];exact A
 | y::h,r,out,g,A,H,k,l,f=>by
  have K:=g.2 y (W1 ..);have q:=H y (W1 ..);have j:=g.head;have O:=f y (by simp);have P:=f r (by simp);have C:∀w∈h,¬(w.At<r.At+r.b0/\r.At<w.At+w.b0):=λw d=>by
   have:=H w (O5 _ d);unfold ovl at this;simpa using this
  have t:∀w∈h,1<=w.b0:=λw d=>g.2 w (O5 _ d)
  rw[Kw,C9 (by rw[q];simp)];unfold ovl at q;rw[X4]at q;by_cases L:y.At+y.b0=r.At
  ·rw[CB L]
   obtain⟨o,D,E,F,G⟩:=wF u h ⟨y.At,y.b0+r.b0⟩ out g.tail (by simp only;omega) (λw d=>by
     have a:=j w d;have b:=C w d;have c:=t w d;unfold ovl;rw[X4];simp only;omega) (λz i=>⟨(k z i).2 y (W1 ..),λw d=>(k z i).2 w (O5 _ d)⟩) l (λw d=>by
     rcases List.mem_cons.1 d with rfl|d
     · simp only;omega
     exact f w (by simp at d |-;grind))
   refine⟨o,D,E,F,λp=>?_⟩;rw[G];unfold RH;simp only[List.mem_cons,exists_eq_or_imp]
   grind
  rw[C9 L];by_cases M:r.At+r.b0=y.At
  ·rw[CB M]
   obtain⟨o,D,E,F,G⟩:=wF u h ⟨r.At,r.b0+y.b0⟩ out g.tail (by simp only;omega) (λw d=>by
     have a:=j w d;have b:=C w d;have c:=t w d;unfold ovl;rw[X4];simp only;omega) (λz i=>⟨(k z i).1,λw d=>(k z i).2 w (O5 _ d)⟩) l (λw d=>by
     rcases List.mem_cons.1 d with rfl|d
     · simp only;omega
     exact f w (by simp at d |-;grind))
   refine⟨o,D,E,F,λp=>?_⟩;rw[G];unfold RH;simp only[List.mem_cons,exists_eq_or_imp]
   grind
  rw[C9 M];by_cases N:y.At > r.At
  ·have J:r.At+r.b0<y.At:=ω
   rw[CB ⟨N,rfl⟩,qr g.tail A λw d=>by have:=j w d;omega];refine⟨_,rfl,⟨?_,λw d=>?_⟩,λw d=>f w (by simp at d |-;grind),λp=>by unfold RH;simp[or_and_right,exists_or];grind⟩
   ·rw[W5]
    refine List.pairwise_append.2 ⟨l.1,?_,λa B b f=>?_⟩
    ·show(r::y::h).Pairwise _
     refine List.pairwise_cons.2 ⟨λw d=>?_,g.1⟩;rcases List.mem_cons.1 d with rfl|d
     ·exact J
     have:=j w d;omega
    obtain⟨Q,R⟩:=k a B;have f:b∈r::y::h:=f;rcases List.mem_cons.1 f with rfl|f
    ·exact Q
    exact R b f
   simp only[z3,List.mem_cons,List.not_mem_nil,or_false]at d;rcases d with(d|rfl|rfl)|d
   ·exact l.2 w d
   ·exact A
   ·exact K
   exact t w d
  rw[C9 λe=>N e.1];obtain⟨o,D,E,F,G⟩:=wF u h r (out++[y]) g.tail A (λw d=>H w (O5 _ d)) (λz i=>by
    rcases z3.1 i with i|i
    · exact⟨(k z i).1,λw d=>(k z i).2 w (O5 _ d)⟩
    rw[O1.1 i];exact⟨ω,j⟩) ⟨List.pairwise_append.2 ⟨l.1,List.pairwise_singleton ..,λa B b f=>by rw[O1.1 f];exact(k a B).2 y (W1 ..)⟩,λw d=>by
    rcases z3.1 d with d|d
    · exact l.2 w d
    rw[O1.1 d];exact K⟩ (λw d=>f w (by simp at d |-;grind))
  refine⟨o,D,E,F,λp=>?_⟩;rw[G];unfold RH;simp[or_and_right,exists_or]
  grind
def vB{pages:Int}{xs:List aA}{r:aA}(h:bC pages xs=true)(j:0<=r.At/\1<=r.b0/\r.At+r.b0<=pages)(c:∀p,r.At<=p->p<r.At+r.b0->¬RH xs p):∃o,dN pages xs r=some o/\bC pages o=true/\∀p,RH o p↔RH xs p\/(r.At<=p/\p<r.At+r.b0):=by
 obtain⟨k,d,l⟩:=fG.1 h;have b:rangeIn pages r=true:=by unfold rangeIn;rw[C0];omega
 unfold dN;rw[CB ⟨h,b⟩];obtain⟨o,n,f,g,q⟩:=wF pages xs r [] k j.2.1 (λy a=>by
   have:=d y a;unfold ovl;rw[X4];intro i;by_cases e:r.At<=y.At
   · exact c y.At e i.1 ⟨y,a,ω,ω⟩
   · exact c r.At ω ω ⟨y,a,ω,i.2⟩) (λz t=>by cases t) ⟨List.Pairwise.nil,λy a=>by cases a⟩ (λy a=>by
   rcases List.mem_cons.1 a with rfl|a
   · omega
   have:=d y (by simpa using a);omega)
 refine⟨o,n,fG.2 ⟨f,λy a=>⟨(g y a).1,f.2 y a,(g y a).2⟩,l⟩,λp=>?_⟩;rw[q];unfold RH;simp
structure Pg(t:aG)(fr:List aA)(sp:List ax)(la:List aB):Prop where
 one:∀l∈la,∀p:Nat,(p:Int)∈lpgs l l.a4.toNat->∀q:Nat,q<t.J.length->(nth t.J q).j≠0->(nth t.J q).e=(nth t.J p).e->q=p
 bnd:∀p∈pgs sp la,p<t.J.length
 own:∀p:Nat,p<t.J.length->((nth t.J p).j≠0↔(p:Int)∈pgs sp la)
 fre:∀p:Nat,p<t.J.length->((nth t.J p).j≠0↔¬RH fr p)
 mesh:∀s∈sp,∀u∈sp,s.R≠u.R->(nth t.J s.R.toNat).e=(nth t.J u.R.toNat).e->meshable s u=true
structure aY(h:ab)(E:List Int):Prop where
 ker:ay h.G=true
 rng:bC (eQ h) h.q=true
 lay:bo h.K h.M=true
 srs:h.K.Pairwise λa b=>a.R<b.R
 srl:h.M.Pairwise λa b=>a.R<b.R
 pg:Pg (tbl h) h.q h.K h.M
 mail:bO h.y=true
 nc:h.T.length=h.y.U.length
 quar:gC h.a9=true
 snc:∀x∈h.a9.a6,x.b7<=h.b3
 cach:∀c∈h.T,bA c=true
 nums:cj h=true
 osr:h.O.Pairwise λa b=>a.Addr<b.Addr
 onu:∀o∈h.O,1<=o.Id/\o.Id<=h.a - 1/\0<=o.a5/\o.a5<=h.T.length - 1
 oid:(h.O.map (·.Id)).Nodup
 oow:∀o∈h.O,LT h.K h.M o
 hca:∀c∈h.T,∀k:Nat,k<c.b.length->∀a∈nth c.b k,k6 h.K a k
 hqu:∀x∈h.a9.a6,k6 h.K x.Addr x.d
 hfl:∀a∈aN h.y,k6 h.K a (-1)
 hin:∀a∈E,k6 h.K a (-1)
 nd:(E++holders h).Nodup
 mem:∀a,a∈E++holders h↔mV h.K h.M a
 job:h.o=true->j9 h.Y=true/\(∃s∈h.K,s.R=h.Y.W.a2)/\∃s∈h.K,s.R=h.Y.W.a0
 noj:h.o=false->qI h.Y=true
def aY.L{h:ab}{E:List Int}(a:aY h E):sj h.K h.M:=sj.of a.lay
def Af(t:aG)(f:Int):(pagesOn t f).Nodup:=by
 unfold pagesOn kh List.Nodup;rw[List.pairwise_map];exact(List.nodup_range.sublist List.filter_sublist).imp λh e=>h ω
def PD{l:List Int}{a:Int}(b:l.Nodup)(d:a∈l)(c:∀x∈l,x=a):l.length=1:=by
 match l with
 | []=>cases d
 | [_]=>rfl
 | x::y::r=>
  exfalso;have e:=c x (by simp);have f:=c y (by simp);rw[e,f]at b;simp at b
def dC{sp:List ax}{la:List aB}{s:ax}(a:s∈sp):s.R∈pgs sp la:=by
 unfold pgs;exact z3.2 (.inl (O4.2 ⟨s,a,rfl⟩))
def gt{sp:List ax}{la:List aB}{l:aB}(a:l∈la){p:Int}(b:p∈lpgs l l.a4.toNat):p∈pgs sp la:=by
 unfold pgs;exact z3.2 (.inr (List.mem_flatMap.2 ⟨l,a,b⟩))
def RZ{h:ab}(n:bo h.K h.M=true)(P:bC (eQ h) h.q=true)(J:pages0 h=true)(t:oz h=true):Pg (tbl h) h.q h.K h.M:=by
 have Q:=sj.of n;obtain⟨R,y,K⟩:=sB J;have S:∀p:Nat,p<eQ h->((nth (tbl h).J p).j≠0↔¬RH h.q p):=λp a=>by
  have d:=J;unfold pages0 at d;simp only[I0]at d;have A:=dZ d.2 a;unfold wd at A;rw[I0]at A;have L:=A.2;rw[<-Gx P];cases e:h.q.any (rn (p:Int))<;>rw[e]at L<;>simpa using L
 refine⟨λl B p f q T C D=>?_,y,K,S,λs U u V E M=>?_⟩
 ·obtain⟨i,o,rfl⟩:=aL B
  obtain⟨k,w,F⟩:=dy.1 f;have a:p<eQ h:=by have:=y _ (gt (sp:=h.K) B f);omega
  have r:=(K p a).2 (gt B f);have b:=R i o k w;rw[<-F,fD a r]at b;have N:(p:Int)∈pagesOn (tbl h) (nth (tbl h).J p).e:=ew.2 ⟨a,r,rfl⟩;have O:(q:Int)∈pagesOn (tbl h) (nth (tbl h).J p).e:=ew.2 ⟨T,C,D⟩;obtain⟨z,W⟩:=List.length_eq_one_iff.1 b;rw[W]at N O;simp only[O1]at N O;omega
 obtain⟨i,o,rfl⟩:=aL U;obtain⟨j,G,rfl⟩:=aL V;have c:∀k,k<h.K.length->ac (tbl h) (nth h.K k).R=nth (tbl h).J (nth h.K k).R.toNat:=λk w=>by
  have X:=aF (Q.sok _ (am w));have Y:=y _ (dC (la:=h.M) (am w));rw[show(nth h.K k).R=(((nth h.K k).R.toNat:Nat):Int) by omega];exact xi ω
 unfold oz at t;rw[cA]at t;rcases Nat.lt_trichotomy i j with g|H|g
 ·have b:=dZ (t j G) g
  unfold lA at b;rw[c i o,c j G,O6,C0]at b;rw[io];exact b.resolve_left λe=>e M.symm
 ·subst H;exact absurd rfl E
 have b:=dZ (t i o) g;unfold lA at b;rw[c i o,c j G,O6,C0]at b;exact b.resolve_left λe=>e M
def B0(sp:List ax):df sp.length (y2 sp)=true↔sp.Pairwise λa b=>a.R<b.R:=by
 rw[cA];refine Iff.trans ?_ (wK (λa b:Int=>a<b) (λa b c=>Int.lt_trans) (λs:ax=>s.R) sp);unfold y2;simp only[C0]
def Az(la:List aB):df la.length (x7 la)=true↔la.Pairwise λa b=>a.R<b.R:=by
 rw[cA];refine Iff.trans ?_ (wK (λa b:Int=>a<b) (λa b c=>Int.lt_trans) (λs:aB=>s.R) la);unfold x7;simp only[C0]
def T4{h:ab}(r:bo h.K h.M=true)(D:bC (eQ h) h.q=true)(h1:h.K.Pairwise λa b=>a.R<b.R)(E:h.M.Pairwise λa b=>a.R<b.R)(c:Pg (tbl h) h.q h.K h.M):pages0 h=true/\oz h=true:=by
 have A:=sj.of r;constructor
 ·unfold pages0
  simp only[I0];refine⟨⟨⟨(B0 _).2 h1,cA.2 λi o=>?_⟩,v4.2 λp d=>O0 (c.bnd p d)⟩,cA.2 λp d=>?_⟩
  ·unfold tF
   rw[I0];refine⟨dZ ((Az _).2 E) o,cA.2 λk w=>?_⟩;have y:=am o;have L:=aO (A.lok _ y);obtain⟨p,d⟩ : ∃p:Nat,(nth h.M i).R+(k:Nat)=(p:Nat):=⟨((nth h.M i).R+k).toNat,ω⟩
   have g:(p:Int)∈lpgs (nth h.M i) (nth h.M i).a4.toNat:=dy.2 ⟨k,w,d.symm⟩;have l:p<eQ h:=by have:=c.bnd _ (gt (sp:=h.K) y g);exact Int.ofNat_lt.1 this
   have t:=(c.own p l).2 (gt y g);unfold yJ;rw[C0,d,fD l t];refine PD (Af ..) (ew.2 ⟨l,t,rfl⟩) λx C=>?_
   obtain⟨q,rfl⟩:=vO C;obtain⟨F,G,H⟩:=ew.1 C;rw[c.one _ y p g q F G H]
  unfold wd;rw[I0,C0];refine⟨c.own p d,?_⟩;have B:=c.fre p d;rw[<-Gx D]at B;cases e:h.q.any (rn (p:Int))<;>rw[e]at B<;>simpa using B
 unfold oz;refine cA.2 λi o=>cA.2 λj M=>?_
 have n:j<h.K.length:=ω
 have u:∀k,k<h.K.length->ac (tbl h) (nth h.K k).R=nth (tbl h).J (nth h.K k).R.toNat:=λk w=>by
  have N:=aF (A.sok _ (am w));have J:=c.bnd _ (dC (la:=h.M) (am w));rw[show(nth h.K k).R=(((nth h.K k).R.toNat:Nat):Int) by omega];exact xi (by unfold eQ;unfold tbl at J;omega)
 unfold lA;rw[u i o,u j n,O6,C0];by_cases e:(nth (tbl h).J (nth h.K i).R.toNat).e=(nth (tbl h).J (nth h.K j).R.toNat).e
 ·refine .inr (c.mesh _ (am o) _ (am n) (λK=>?_) e)
  have:=cM (f:=(·.R)) A.nd o n K;omega
 exact .inl e
def Fk{h:ab}(n:cj h=true)(q:sj h.K h.M):fL h=true↔(h.O.Pairwise λa b=>a.Addr<b.Addr)/\(∀o∈h.O,1<=o.Id/\o.Id<=h.a - 1/\0<=o.a5/\o.a5<=h.T.length - 1)/\(h.O.map (·.Id)).Nodup/\∀o∈h.O,LT h.K h.M o:=by
 unfold cj at n;rw[C0]at n;refine Iff.trans ?_ (and_congr (wK (λa b:Int=>a<b) (λa b c=>Int.lt_trans) (λo:bt=>o.Addr) h.O) (and_congr Iff.rfl (and_congr (A2 (λo:bt=>o.Id) h.O) Iff.rfl)));unfold fL;rw[eP ω ω,cA];have p:∀i,i<h.O.length->(objAt (h.a - 1) h i=true↔(i=0\/(nth h.O (i - 1)).Addr<(nth h.O i).Addr)/\(1<=(nth h.O i).Id/\(nth h.O i).Id<=h.a - 1/\0<=(nth h.O i).a5/\(nth h.O i).a5<=h.T.length - 1)/\(∀o∈h.O.take i,o.Id≠(nth h.O i).Id)/\LT h.K h.M (nth h.O i)):=λi d=>by
  unfold objAt ic;rw[I0,I0,C0,Pr q,Bool.not_eq_true',List.any_eq_false];simp only[fp,C0];constructor
  ·rintro⟨⟨⟨e,f⟩,g⟩,j⟩;exact⟨e,f,g,j⟩
  rintro⟨e,f,g,j⟩;exact⟨⟨⟨e,f⟩,g⟩,j⟩
 constructor
 ·intro r
  have k:=λi d=>(p i d).1 (r i d)
  refine⟨λi d=>(k i d).1,λo l=>?_,λi d=>(k i d).2.2.1,λo l=>?_⟩
  ·obtain⟨i,d,rfl⟩:=aL l;exact(k i d).2.1
  obtain⟨i,d,rfl⟩:=aL l;exact(k i d).2.2.2
 rintro⟨e,f,g,j⟩ i d
 exact(p i d).2 ⟨e i d,f _ (am d),g i d,j _ (am d)⟩
def y4{h:ab}(b:sj h.K h.M):iE h=true↔(∀c∈h.T,∀k:Nat,k<c.b.length->∀a∈nth c.b k,k6 h.K a k)/\(∀x∈h.a9.a6,k6 h.K x.Addr x.d)/\∀a∈aN h.y,k6 h.K a (-1):=by
 rw[mc];simp only[v4,fw,cA,tK,iA,kM,MZ b,and_assoc]
def DG{p:Int}{h:ab} : 0<=gQ h p↔∃s∈h.K,s.R=p:=by
 unfold gQ;rw[show(0<=dH (kB p) h.K)↔(decide (dH (kB p) h.K≥0)=true) by simp,jC,t4];simp[kB]
def aY.of{h:ab}(n:dA h=true):aY h []:=by
 unfold dA lR at n;simp only[I0]at n;obtain⟨⟨⟨⟨⟨⟨⟨⟨⟨⟨B,t⟩,k⟩,o⟩,u⟩,f⟩,w⟩,C⟩,y⟩,d,e⟩,b⟩:=n;have g:=sj.of k;rw[uf k o]at u;have l:=o;unfold pages0 at l;simp only[I0]at l;unfold dw at f;simp only[I0,C0]at f;unfold jo at e;simp only[I0,C0]at e;obtain⟨⟨p,A⟩,O⟩:=e;obtain⟨D,E,F,G⟩:=(Fk y g).1 d;obtain⟨H,J,K⟩:=(y4 g).1 p;unfold kS at w;have q:=cA.1 l.1.1.2;refine⟨B,t,k,(B0 _).1 l.1.1.1,(Az _).1 (cA.2 λi L=>?_),RZ k t o u,f.1.1,f.1.2,f.2,λx M=>by simpa using v4.1 w x M,λc N=>v4.1 C c N,y,D,E,F,G,H,J,K,λa j=>(by cases j),(by simpa using A),λa=>?_,λr=>?_,λr=>?_⟩
 ·have:=q i L
  unfold tF at this;rw[I0]at this;exact this.1
 ·rw[List.nil_append,<-Fs g]
  exact⟨λj=>kT g d p a j,λj=>rJ A (kT g d p) ω a j⟩
 ·unfold rg at b
  rw[CB r]at b;simp only[I0,C0,DG]at b;exact⟨b.1.1,b.1.2,b.2⟩
 unfold rg at b;rw[C9 (by rw[r];simp)]at b;exact b
def aY.to{h:ab}(b:aY h []):dA h=true:=by
 have d:=b.L;obtain⟨g,j⟩:=T4 b.lay b.rng b.srs b.srl b.pg;have e:=(Fk b.nums d).2 ⟨b.osr,b.onu,b.oid,b.oow⟩;have f:=(y4 d).2 ⟨b.hca,b.hqu,b.hfl⟩;unfold dA lR;simp only[I0];refine⟨⟨⟨⟨⟨⟨⟨⟨⟨⟨b.ker,b.rng⟩,b.lay⟩,g⟩,by rw[uf b.lay g];exact j⟩,?_⟩,?_⟩,v4.2 b.cach⟩,b.nums⟩,e,?_⟩,?_⟩
 ·unfold dw
  rw[b.mail,b.quar,O0 b.nc];rfl
 ·unfold kS
  exact v4.2 λx k=>O0 (b.snc x k)
 ·unfold jo
  have i:(holders h).Nodup:=by simpa using b.nd
  have c:∀a,a∈holders h↔a∈ja h.K h.M:=λa=>by rw[Fs d,<-b.mem a];simp
  have l:(holders h).Perm (ja h.K h.M):=(List.perm_ext_iff_of_nodup i (p7 ..)).2 c;rw[f,O0 i,O0 l.length_eq];rfl
 unfold rg;cases c:h.o with
 | true=>
  obtain⟨n,o,p⟩:=b.job c;rw[CB rfl,n,O0 (DG.2 o),O0 (DG.2 p)];rfl
 | false=>rw[C9 (by simp)];exact b.noj c
def dele{α:Type}(xs:List α)(i:Nat):List α:=xs.take i++xs.drop (i+1)
def fQ{α:Type}(xs:List α)(i:Nat):(dele xs i).Sublist xs:=by
 unfold dele;rw[<-List.eraseIdx_eq_take_drop_succ];exact List.eraseIdx_sublist ..
def A7{α:Type}[Inhabited α]{xs:List α}{i:Nat}(a:i<xs.length):xs.Perm (nth xs i::dele xs i):=by
 have:xs=xs.take i++nth xs i::xs.drop (i+1):=by rw[<-jb a,List.take_append_drop]
 conv=>lhs;rw[this]
 exact List.perm_middle
def ju{α:Type}[Inhabited α](f:α->List Int)(a:Int):∀(xs:List α)(i:Nat)(y:α),i<xs.length->((xs.set i y).flatMap f).count a+(f (nth xs i)).count a=(xs.flatMap f).count a+(f y).count a
 | [],i,_,h=>by cases h
 | x::xs,0,y,_=>by
  show((y::xs).flatMap f).count a+(f x).count a=((x::xs).flatMap f).count a+(f y).count a;rw[X6,X6,C6,C6];omega
 | x::xs,i+1,y,h=>by
  have:=ju f a xs i y (by simpa using h);show((x::xs.set i y).flatMap f).count a+(f (nth xs i)).count a=((x::xs).flatMap f).count a+(f y).count a;rw[X6,X6,C6,C6];omega
def l8(a:List (List Int)):a.flatten=a.flatMap λx=>x:=by
 induction a with
 | nil=>rfl
 | cons x xs b=>rw[List.flatten_cons,X6,b]
def k6.any{sp:List ax}{a c:Int}(h:k6 sp a c):k6 sp a (-1):=by
 obtain⟨s,b,d,-⟩:=h;exact⟨s,b,d,.inl (by decide)⟩
def aY.cells{h:ab}{E:List Int}(a:aY h E){k:af}(c:ay k=true)(b:k.F.Q=h.G.F.Q):aY {h with G:=k} E:=
 {a with
   ker:=c
   rng:=by show bC ((k.F.Q.J.length:Nat):Int) h.q=true;rw[b];exact a.rng
   pg:=by show Pg k.F.Q h.q h.K h.M;rw[b];exact a.pg}
def aY.dropO{h:ab}{E:List Int}{i:Nat}(b:aY h E)(g:i<h.O.length)(j:k6 h.K (nth h.O i).Addr (-1)):aY {h with O:=dele h.O i} ((nth h.O i).Addr::E):=by
 have f:(E++holders h).Perm (((nth h.O i).Addr::E)++holders {h with O:=dele h.O i}):=by
  have k:=(A7 g).map (·.Addr);refine List.perm_iff_count.2 λa=>?_
  have l:=k.count_eq a;simp only[Z5,List.count_cons]at l;simp only[holders,cG,C6,List.cons_append,List.count_cons];omega
 have c:(dele h.O i).Sublist h.O:=fQ ..;exact {b with
   osr:=b.osr.sublist c
   onu:=λo d=>b.onu o (c.subset d)
   oid:=b.oid.sublist (c.map _)
   oow:=λo d=>b.oow o (c.subset d)
   hin:=λa e=>by
     rcases List.mem_cons.1 e with rfl|e
     · exact j
     exact b.hin a e
   nd:=f.nodup_iff.1 b.nd
   mem:=λa=>by rw[<-f.mem_iff];exact b.mem a}
def od(c:aE)(k:Nat)(a:Int):aE:=⟨c.b.set k (nth c.b k++[a])⟩
def aY.put{h:ab}{E:List Int}{a:Int}{t k:Nat}(g:aY h (a::E))(l:t<h.T.length)(q:k<(nth h.T t).b.length)(r:k6 h.K a k)(u:bA (od (nth h.T t) k a)=true):aY {h with T:=h.T.set t (od (nth h.T t) k a)} E:=by
 have n:(a::E++holders h).Perm (E++holders {h with T:=h.T.set t (od (nth h.T t) k a)}):=by
  refine List.perm_iff_count.2 λb=>?_
  have w:=ju (λc:aE=>c.b.flatten) b h.T t (od (nth h.T t) k a) l;have p:=ju (λx:List Int=>x) b (nth h.T t).b k (nth (nth h.T t).b k++[a]) q;rw[<-l8,<-l8]at p;simp only[C6,List.count_singleton]at p;simp only[od]at w;simp only[holders,cG,od,C6,List.cons_append,List.count_cons];omega
 exact {g with
   nc:=by show(h.T.set ..).length=_;rw[U1];exact g.nc
   cach:=λc d=>by
     rcases V6 d with d|rfl
     · exact g.cach c d
     exact u
   onu:=by show ∀o∈h.O,1<=o.Id/\o.Id<=h.a - 1/\0<=o.a5/\o.a5<=(h.T.set t _).length - 1;rw[U1];exact g.onu
   hca:=λc d j i b f=>by
     rcases V6 d with d|rfl
     · exact g.hca c d j i b f
     simp only[od,U1]at i;simp only[od,bz]at f;by_cases e:k=j
     · subst e
       rw[CB ⟨rfl,i⟩]at f;rcases z3.1 f with f|f
       · exact g.hca _ (am l) _ i b f
       rw[O1.1 f];exact r
     rw[C9 λx=>e x.1]at f;exact g.hca _ (am l) _ i b f
   hin:=λb f=>g.hin b (O5 _ f)
   nd:=n.nodup_iff.1 g.nd
   mem:=λb=>by rw[<-n.mem_iff];exact g.mem b}
def aY.toQuar{h:ab}{E:List Int}{x:aQ}{q:bL}{out:List aQ}(d:aY h (x.Addr::E))(i:gC q=true)(f:h.a9.a6++[x]=out++q.a6)(j:x.b7<=h.b3)(k:k6 h.K x.Addr x.d):aY {h with a9:=q} (out.map (·.Addr)++E):=by
 have c:∀y∈out++q.a6,y.b7<=h.b3/\k6 h.K y.Addr y.d:=λy a=>by
  rw[<-f]at a;rcases z3.1 a with a|a
  ·exact⟨d.snc y a,d.hqu y a⟩
  rw[O1.1 a];exact⟨j,k⟩
 have g:(x.Addr::E++holders h).Perm ((out.map (·.Addr)++E)++holders {h with a9:=q}):=by
  refine List.perm_iff_count.2 λb=>?_
  have n:=X0 (λl:List aQ=>(l.map (·.Addr)).count b) f;simp only[X5,C6,Z5,List.map_nil,List.count_singleton]at n;simp only[holders,cG,C6,List.cons_append,List.count_cons];omega
 exact {d with
   quar:=i
   snc:=λy a=>(c y (z3.2 (.inr a))).1
   hqu:=λy a=>(c y (z3.2 (.inr a))).2
   hin:=λb e=>by
     rcases z3.1 e with e|e
     · obtain⟨y,a,rfl⟩:=O4.1 e
       exact(c y (z3.2 (.inl a))).2.any
     exact d.hin b (O5 _ e)
   nd:=g.nodup_iff.1 d.nd
   mem:=λb=>by rw[<-g.mem_iff];exact d.mem b}
def Aj(b i:Int):Int:=((BitVec.ofInt IntKind.i64.bits b &&& ~~~BitVec.ofInt IntKind.i64.bits (2 ^ i.toNat)).toNat:Nat)
def mW(s:ax)(i:Int):ax:={s with b2:=Aj s.b2 i}
def eB(b i:Int):aU b i=true↔0<=b/\0<=i/\i<=15/\b.toNat.testBit i.toNat=true:=by
 unfold aU;rw[C0];refine and_congr_right λa=>and_congr_right λc=>and_congr_right λ_=>?_
 obtain⟨n,rfl⟩:=Z2 a;rw[Nat.testBit_eq_decide_div_mod_eq,C0,X2]
 norm_cast
def Gn{b i:Int}(f:0<=b/\b<=65535)(a:0<=i/\i<=15)(j:Nat):(Aj b i).toNat.testBit j=(b.toNat.testBit j&&decide (i.toNat≠j)):=by
 have g:(2:Int) ^ i.toNat<=32768/\0<=(2:Int) ^ i.toNat:=by
  obtain⟨n,rfl⟩:=Z2 a.1;rw[X2];have:(2:Nat) ^ n<=2 ^ 15:=Nat.pow_le_pow_right (by decide) ω;have c:((2 ^ n:Nat):Int)=(2:Int) ^ n:=Int.natCast_pow 2 n;rw[<-c];exact⟨Int.ofNat_le.2 this,Int.natCast_nonneg _⟩
 unfold Aj;rw[X2,BitVec.testBit_toNat,BitVec.getLsbD_and,BitVec.getLsbD_not,<-BitVec.testBit_toNat,<-BitVec.testBit_toNat,nr ω,nr ω];rw[show((2:Int) ^ i.toNat).toNat=2 ^ i.toNat by rw[show(2:Int) ^ i.toNat=((2 ^ i.toNat:Nat):Int) by norm_cast,X2],Nat.testBit_two_pow];by_cases d:j<64
 ·rw[show decide (j<IntKind.i64.bits)=true from O0 d,Bool.true_and]
  congr 1
  by_cases e:i.toNat=j
  ·rw[O0 e,U0 (λx=>x e)];rfl
  rw[U0 e,O0 e];rfl
 rw[Nat.testBit_lt_two_pow (x:=b.toNat) (i:=j) (Y3 (show b.toNat<2 ^ 16 by omega) (Nat.pow_le_pow_right (by decide) ω))]
 rfl
def BQ{b i:Int}(a:0<=b/\b<=65535):0<=Aj b i/\Aj b i<=b:=by
 unfold Aj;refine⟨ω,?_⟩;rw[BitVec.toNat_and,nr ω];have:=Nat.and_le_left (n:=b.toNat) (m:=(~~~BitVec.ofInt IntKind.i64.bits (2 ^ i.toNat)).toNat);omega
def G6{b i:Int}(a:0<=b/\b<=65535)(h:0<=i/\i<=15)(j:Int):aU (Aj b i) j=true↔aU b j=true/\j≠i:=by
 rw[eB,eB,Gn a h,I0,C0];have:=BQ (i:=i) a;constructor
 ·rintro⟨k,c,d,f,g⟩;exact⟨⟨a.1,c,d,f⟩,λe=>g (by rw[e])⟩
 rintro⟨⟨k,c,d,f⟩,g⟩;exact⟨this.1,c,d,f,λe=>g ω⟩
def eX{s:ax}(h:bg s=true):0<=s.b2/\s.b2<=65535:=by
 unfold bg at h;simp only[C0]at h;have:=Hj s.d;omega
def JM{s:ax}(h:bg s=true)(i:Int):bg (mW s i)=true:=by
 have b:=eX h;have a:=BQ (i:=i) b;unfold bg at h;rw[C0]at h;obtain⟨c,d,e,f,j,g⟩:=h;exact O0 ⟨c,d,e,f,a.1,t5 a.2 g⟩
def tQ{s u:ax}(a:bg s=true){i:Int}(b:0<=i/\i<=15)(h:meshable s u=true):meshable (mW s i) u=true:=by
 unfold meshable at h |-;simp only[I0,C0]at h |-;obtain⟨⟨c,d⟩,e,f,g⟩:=h;refine⟨⟨JM c i,d⟩,e,f,?_⟩;refine Nat.eq_of_testBit_eq λj=>?_
 have:=X0 (λn=>Nat.testBit n j) g;simp only[Nat.testBit_and,Nat.zero_testBit,mW,Gn (eX a) b]at this |-;cases k:s.b2.toNat.testBit j<;>cases l:u.b2.toNat.testBit j<;>rw[k,l]at this<;>simp_all
def dB(s:ax)(a:Int):Int:=(a - 16*s.R) / csz s.d
def qm{s:ax}(h:bg s=true){a:Int}(c:16*s.R<=a/\a<=16*s.R+15):0<=dB s a/\dB s a<=15:=by
 have b:=aF h;unfold dB;rcases bP ⟨b.2.2.1,b.2.2.2⟩ with e|e|e|e<;>rw[e]<;>omega
def yZ{s:ax}(h:bg s=true){a b:Int}(d:(a - 16*s.R) % csz s.d=0)(f:(b - 16*s.R) % csz s.d=0)(e:dB s a=dB s b):a=b:=by
 have c:=aF h;unfold dB at e;rcases bP ⟨c.2.2.1,c.2.2.2⟩ with z|z|z|z<;>rw[z]at d f e<;>omega
def AO{s:ax}(h:bg s=true){a:Int}(k:eM s a)(b:Int):eM (mW s (dB s a)) b↔eM s b/\b≠a:=by
 obtain⟨l,n,o,p⟩:=k;have d:=qm h ⟨l,n⟩;unfold eM;simp only[mW];rw[G6 (eX h) d];constructor
 ·rintro⟨f,g,c,i,j⟩
  exact⟨⟨f,g,c,i⟩,λe=>j (by rw[e];rfl)⟩
 rintro⟨⟨f,g,c,i⟩,j⟩
 exact⟨f,g,c,i,λe=>j (yZ h c o e)⟩
def eE{α:Type}[Inhabited α]{xs:List α}{i:Nat}{y z:α}(h:z∈xs.set i y):z=y\/∃j,j<xs.length/\j≠i/\nth xs j=z:=by
 obtain⟨j,a,rfl⟩:=List.mem_iff_getElem.1 h;rw[List.getElem_set];by_cases e:i=j
 ·subst e;simp
 rw[C9 e];rw[U1]at a;exact .inr ⟨j,a,λx=>e x.symm,bm (I2 a)⟩
def kn{α:Type}[Inhabited α]{xs:List α}{i j:Nat}(y:α)(a:j<xs.length)(e:j≠i):nth xs j∈xs.set i y:=by
 have:nth (xs.set i y) j=nth xs j:=by rw[bz,C9 λx=>e x.1.symm]
 rw[<-this];exact am (by rw[U1];exact a)
def jz{α:Type}{xs:List α}{i:Nat}(y:α)(a:i<xs.length):y∈xs.set i y:=by
 refine List.mem_iff_getElem.2 ⟨i,by rw[U1];exact a,by simp⟩
def Pz{sp:List ax}{i:Nat}(k:Int)(a:i<sp.length):(sp.set i (mW (nth sp i) k)).map (·.R)=sp.map (·.R):=by
 rw[I6];refine List.ext_getElem (by simp) λj b c=>?_
 rw[List.getElem_set];split
 ·rename_i e;subst e
  rw[List.getElem_map];show(nth sp i).R=_;rw[bm (I2 a)]
 rfl
def k6.set{sp:List ax}{la:List aB}(q:sj sp la){i:Nat}(k:i<sp.length){a:Int}(l:eM (nth sp i) a)(b c:Int):k6 (sp.set i (mW (nth sp i) (dB (nth sp i) a))) b c↔k6 sp b c/\b≠a:=by
 have g:=q.sok _ (am k);constructor
 ·rintro⟨s,o,d,h⟩
  rcases eE o with rfl|⟨j,n,r,rfl⟩
  ·have:=(AO g l b).1 d
   exact⟨⟨_,am k,this.1,h⟩,this.2⟩
  refine⟨⟨_,am n,d,h⟩,λe=>?_⟩;subst e;have:=cM (f:=(·.R)) q.nd k n (by have t:=l.1;have u:=l.2.1;have w:=d.1;have y:=d.2.1;omega);omega
 rintro⟨⟨s,o,d,h⟩,p⟩
 obtain⟨j,n,rfl⟩:=aL o;by_cases e:j=i
 ·subst e
  exact⟨_,jz _ k,(AO g l b).2 ⟨d,p⟩,h⟩
 exact⟨_,kn _ n e,d,h⟩
def aY.give{h:ab}{E:List Int}{a:Int}{i:Nat}(d:aY h (a::E))(J:i<h.K.length)(K:eM (nth h.K i) a):aY {h with K:=h.K.set i (mW (nth h.K i) (dB (nth h.K i) a))} E:=by
 have G:=d.L;have Q:=G.sok _ (am J);have M:=qm Q ⟨K.1,K.2.1⟩;have f:=λb c=>k6.set G J K b c
 have A:=Pz (dB (nth h.K i) a) J;generalize R:h.K.set i (mW (nth h.K i) (dB (nth h.K i) a))=sp at f A;have q:pgs sp h.M=pgs h.K h.M:=by unfold pgs;rw[A]
 have B:=d.nd;rw[List.cons_append]at B;obtain⟨S,B⟩:=List.nodup_cons.1 B;have r:∀b,b∈E++holders h->b≠a:=λb g e=>S (by rw[<-e];exact g)
 have C:∀b,b∈holders h->b≠a:=λb g=>r b (z3.2 (.inr g))
 have T:∀l∈h.M,16*l.R≠a:=λl O e=>(wX G O).1 _ (am J) (by have a1:=K.1;have a2:=K.2.1;omega)
 have t:∀s∈sp,∃u∈h.K,u.R=s.R/\(s=u\/s=mW u (dB (nth h.K i) a)):=λs p=>by
  rw[<-R]at p;rcases eE p with rfl|⟨j,hj,hji,rfl⟩
  ·exact⟨_,am J,rfl,.inr rfl⟩
  exact⟨_,am hj,rfl,.inl rfl⟩
 have N:∀u∈h.K,∃s∈sp,s.R=u.R:=λu y=>by
  have:u.R∈sp.map (·.R):=by rw[A];exact O4.2 ⟨u,y,rfl⟩
  obtain⟨s,p,e⟩:=O4.1 this;exact⟨s,p,e⟩
 exact {d with
   lay:=by
     obtain⟨l1,l2,l3⟩:=dG d.lay;unfold bo;simp only[I0,C0];refine⟨⟨v4.2 λs p=>?_,l2⟩,by rw[q];exact l3⟩;obtain⟨u,y,-,rfl|rfl⟩:=t s p
     · exact G.sok _ y
     exact JM (G.sok _ y) _
   srs:=by
     have n:(h.K.map (·.R)).Pairwise (λa b=>a<b):=List.pairwise_map.2 d.srs;rw[<-A]at n;exact List.pairwise_map.1 n
   pg:=⟨d.pg.one,by rw[q];exact d.pg.bnd,by rw[q];exact d.pg.own,d.pg.fre,λs p u y r hf=>by
     obtain⟨U,D,Z,V⟩:=t s p;obtain⟨P,F,eu,W⟩:=t u y;have n:=d.pg.mesh U D P F (by rw[Z,eu];exact r) (by rw[Z,eu];exact hf);have w:meshable s P=true:=by
       rcases V with rfl|rfl
       · exact n
       exact tQ (G.sok _ D) M n
     rcases W with rfl|rfl
     · exact w
     rw[io]at w |-;exact tQ (G.sok _ F) M w⟩
   oow:=λo ho=>by
     have X:o.Addr≠a:=C _ (by unfold holders;simp only[z3];exact .inl (.inl (.inl (O4.2 ⟨o,ho,rfl⟩))));rcases d.oow o ho with⟨s,p,n,w⟩|n
     · obtain⟨u,y,Y,H⟩:=(f o.Addr (aJ o.u)).2 ⟨⟨s,p,n,.inr w⟩,X⟩
       refine .inl ⟨u,y,Y,?_⟩;rcases H with H|H
       · have:=aF (G.sok _ p);omega
       exact H
     exact .inr n
   hca:=λc hc k hk b g=>(f b k).2 ⟨d.hca c hc k hk b g,C b (by
     unfold holders cG;simp only[z3];exact .inl (.inl (.inr (List.mem_flatMap.2 ⟨c,hc,List.mem_flatten.2 ⟨_,am hk,g⟩⟩))))⟩
   hqu:=λx hx=>(f _ _).2 ⟨d.hqu x hx,C _ (by unfold holders;simp only[z3];exact .inl (.inr (O4.2 ⟨x,hx,rfl⟩)))⟩
   hfl:=λb g=>(f _ _).2 ⟨d.hfl b g,C _ (by unfold holders;simp only[z3];exact .inr g)⟩
   hin:=λb g=>(f _ _).2 ⟨d.hin b (O5 _ g),r b (z3.2 (.inl g))⟩
   nd:=B
   mem:=λb=>by
     show b∈E++holders h↔mV sp h.M b;have n:=d.mem b;rw[List.cons_append,List.mem_cons]at n;unfold mV at n |-;rw[f];constructor
     · intro g
       rcases n.1 (.inr g) with w|w
       · exact .inl ⟨w,r b g⟩
       exact .inr w
     rintro(⟨w,h3⟩|⟨l,O,rfl⟩)
     · exact(n.2 (.inl w)).resolve_left h3
     exact(n.2 (.inr ⟨l,O,rfl⟩)).resolve_left (T l O)
   job:=λhm=>by
     obtain⟨j1,⟨s,p,e1⟩,⟨u,y,e2⟩⟩:=d.job hm;obtain⟨U,D,Y⟩:=N s p;obtain⟨P,F,H⟩:=N u y;exact⟨j1,⟨U,D,Y.trans e1⟩,⟨P,F,H.trans e2⟩⟩}
def unmN(k:af)(p:Int):Nat->af
 | 0=>k
 | n+1=>ed (unmN k p n) (p+n)
def jh{k:af}(h:ay k=true)(p:Int):∀n,ay (unmN k p n)=true
 | 0=>h
 | n+1=>yE _ (jh h p n)
def fV(k:af)(p:Int):∀n,(unmN k p n).F.Q.J.length=k.F.Q.J.length/\(unmN k p n).Calls=k.Calls/\(unmN k p n).w=k.w
 | 0=>⟨rfl,rfl,rfl⟩
 | n+1=>by
  obtain⟨a,b,c⟩:=fV k p n;obtain⟨d,e,f⟩:=lG (unmN k p n) (p+n);exact⟨d.trans a,e.trans b,f.trans c⟩
def rT{k:af}(h:ay k=true){p:Int}(d:0<=p/\p<k.F.Q.J.length)(q:Nat):nth (ed k p).F.Q.J q=if(q:Int)=p then⟨0,0⟩ else nth k.F.Q.J q:=by
 have g:ac k.F.Q p=nth k.F.Q.J p.toNat:=by unfold ac;rw[CB d]
 unfold ed;split
 ·rename_i a
  split
  ·rename_i i
   rw[g]at a;have b:=(br.1 (a8.1 h).2.2.1).1 p.toNat ω;unfold kH at b;rw[C0]at b;have c:=b.2.2.1 a;rw[show q=p.toNat by omega];generalize nth k.F.Q.J p.toNat=e at a c;obtain⟨m,f⟩:=e;simp only at a c;rw[a,c]
  rfl
 rw[(mU _ _).1];simp only[qz,bz];by_cases e:(q:Int)=p
 ·rw[CB ⟨ω,ω⟩,CB e]
 rw[C9 λx=>e ω,C9 e]
def mN{k:af}(h:ay k=true){p:Int}(b:0<=p):∀n:Nat,p+n<=k.F.Q.J.length->∀q:Nat,nth (unmN k p n).F.Q.J q=if p<=q/\(q:Int)<p+n then⟨0,0⟩ else nth k.F.Q.J q
 | 0,_,q=>by rw[C9 ω];rfl
 | n+1,f,q=>by
  have c:=mN h b n ω q;have d:=rT (jh h p n) (p:=p+n) ⟨ω,by rw[(fV k p n).1];omega⟩ q;show nth (ed (unmN k p n) (p+n)).F.Q.J q=_;rw[d,c];by_cases e:(q:Int)=p+n
  ·rw[CB e,CB ⟨ω,ω⟩]
  rw[C9 e];by_cases a:p<=q/\(q:Int)<p+n
  ·rw[CB a,CB ⟨ω,ω⟩]
  rw[C9 a,C9 ω]
def Fx{α β:Type}(f:α->List β){xs c:List α}(h:xs.Sublist c):(xs.flatMap f).Sublist (c.flatMap f):=by
 induction h with
 | slnil=>exact List.Sublist.refl _
 | cons a _ b=>rw[X6];exact b.trans (List.sublist_append_right ..)
 | cons_cons a _ b=>rw[X6,X6];exact List.Sublist.append (List.Sublist.refl _) b
def y3{h:ab}{E:List Int}(c:aY h E){sp:List ax}{la:List aB}{p:Int}{n:Nat}(Y:1<=n)(w:sp.Sublist h.K)(D:la.Sublist h.M)(j:∀q:Int,p<=q->q<p+n->q∈pgs h.K h.M)(K:0<=p)(F:∀q,q∈pgs sp la↔q∈pgs h.K h.M/\¬(p<=q/\q<p+n)) :
  ∃o,dN (eQ h) h.q ⟨p,n⟩ = some o/\ay (unmN h.G p n)=true/\bC ((unmN h.G p n).F.Q.J.length:Nat) o=true/\bo sp la=true/\Pg (unmN h.G p n).F.Q o sp la:=by
 have t:=c.pg.bnd _ (j (p+n - 1) ω ω);have a:=(fV h.G p n).1;have y:p+n<=h.G.F.Q.J.length:=by unfold tbl at t;omega
 have g:=mN c.ker K n y;obtain⟨o,Q,R,S⟩:=vB (r:=⟨p,n⟩) c.rng ⟨K,by simp only;omega,y⟩ λq M N=>by
  simp only at M N;obtain⟨m,rfl⟩:=Z2 (show 0<=q by omega);have A:m<(tbl h).J.length:=by unfold tbl;omega
  exact(c.pg.fre m A).1 ((c.pg.own m A).2 (j _ M N))
 refine⟨o,Q,jh c.ker p n,by rw[a];exact R,?_,?_⟩
 ·obtain⟨T,U,V⟩:=dG c.lay
  unfold bo;simp only[I0,C0];exact⟨⟨v4.2 λs d=>v4.1 T s (w.subset d),v4.2 λl d=>v4.1 U l (D.subset d)⟩,V.sublist ((w.map _).append (Fx _ D))⟩
 have i:∀q:Nat,(q:Int)∈pgs sp la->nth (unmN h.G p n).F.Q.J q=nth (tbl h).J q:=λq f=>by rw[g,C9 ((F q).1 f).2];rfl
 have b:∀q:Nat,(nth (unmN h.G p n).F.Q.J q).j≠0↔(nth (tbl h).J q).j≠0/\¬(p<=q/\(q:Int)<p+n):=λq=>by
  rw[g];by_cases e:p<=q/\(q:Int)<p+n
  ·rw[CB e];exact⟨λx=>absurd rfl x,λx=>absurd e x.2⟩
  rw[C9 e];exact⟨λx=>⟨x,e⟩,λx=>x.1⟩
 refine⟨λl d q f r O G B=>?_,λq f=>?_,λq f=>?_,λq f=>?_,λs d u H J P=>?_⟩
 ·have C:=(b r).1 G
  rw[a]at O;rw[i q (gt d f),g,C9 C.2]at B;exact c.pg.one l (D.subset d) q f r O C.1 B
 ·rw[a];exact c.pg.bnd q ((F q).1 f).1
 ·rw[a]at f
  rw[b,F,c.pg.own q f]
 ·rw[a]at f
  rw[b,S,c.pg.fre q f];simp only
  grind
 have k:∀s∈sp,0<=s.R:=λs d=>(aF (c.L.sok s (w.subset d))).1
 have W:=i s.R.toNat (by rw[Int.toNat_of_nonneg (k s d)];exact dC d);have X:=i u.R.toNat (by rw[Int.toNat_of_nonneg (k u H)];exact dC H);rw[W,X]at P;exact c.pg.mesh s (w.subset d) u (w.subset H) J P
def db{α:Type}[Inhabited α]{xs:List α}{k:Nat}{z:α} : z∈dele xs k↔∃j,j<xs.length/\j≠k/\nth xs j=z:=by
 unfold dele;rw[z3];constructor
 ·rintro(h|h)
  ·obtain⟨j,a,rfl⟩:=List.mem_take_iff_getElem.1 h
   exact⟨j,ω,ω,bm (I2 ω)⟩
  obtain⟨j,a,rfl⟩:=List.mem_drop_iff_getElem.1 h;exact⟨k+1+j,ω,ω,bm (I2 ω)⟩
 rintro⟨j,a,b,rfl⟩
 rw[bm (I2 a)];by_cases e:j<k
 ·exact .inl (List.mem_take_iff_getElem.2 ⟨j,ω,rfl⟩)
 refine .inr (List.mem_drop_iff_getElem.2 ⟨j - (k+1),ω,?_⟩)
 congr 1;omega
def qb{sp:List ax}{la:List aB}{q:Int} : q∈pgs sp la↔(∃s∈sp,s.R=q)\/∃l∈la,q∈lpgs l l.a4.toNat:=by
 unfold pgs;simp only[z3,O4,List.mem_flatMap]
def wL{s:ax}(h:s.b2=0)(a:Int):¬eM s a:=by
 rintro⟨-,-,-,b⟩
 rw[eB,h]at b;simp at b
def aY.giveSpan{h:ab}{E:List Int}{i:Nat}(g:aY h E)(B:i<h.K.length)(y:(nth h.K i).b2=0)(W:h.o=true->(nth h.K i).R≠h.Y.W.a2/\(nth h.K i).R≠h.Y.W.a0) :
  ∃o,dN (eQ h) h.q ⟨(nth h.K i).R,1⟩ = some o/\aY {h with G:=ed h.G (nth h.K i).R,K:=dele h.K i,q:=o} E:=by
 have F:=g.L;have G:=aF (F.sok _ (am B));have A:∀q,q∈pgs (dele h.K i) h.M↔q∈pgs h.K h.M/\¬((nth h.K i).R<=q/\q<(nth h.K i).R+(1:Nat)):=λq=>by
  rw[qb,qb];constructor
  ·rintro(⟨s,r,rfl⟩|⟨l,C,D⟩)
   ·obtain⟨j,d,H,rfl⟩:=db.1 r
    refine⟨.inl ⟨_,am d,rfl⟩,λe=>H (cM (f:=(·.R)) F.nd d B ω)⟩
   refine⟨.inr ⟨l,C,D⟩,λe=>?_⟩;obtain⟨k,J,rfl⟩:=dy.1 D;exact F.dis _ (am B) l C k J ω
  rintro⟨⟨s,r,rfl⟩|⟨l,C,D⟩,K⟩
  ·obtain⟨j,d,rfl⟩:=aL r
   refine .inl ⟨_,db.2 ⟨j,d,λe=>K (by subst e;omega),rfl⟩,rfl⟩
  exact .inr ⟨l,C,D⟩
 obtain⟨o,X,Q,R,Y,S⟩:=y3 g (sp:=dele h.K i) (la:=h.M) (p:=(nth h.K i).R) (n:=1) (C3 _) (fQ ..) (List.Sublist.refl _) (λq q1 q2=>by rw[show q=(nth h.K i).R by omega];exact dC (am B)) G.1 A;have M:unmN h.G (nth h.K i).R 1=ed h.G (nth h.K i).R:=by show ed h.G ((nth h.K i).R+((0:Nat):Int))=_;rw[show(nth h.K i).R+((0:Nat):Int)=(nth h.K i).R by omega]
 rw[M]at Q R S;have t:∀b c,k6 (dele h.K i) b c↔k6 h.K b c:=λb c=>by
  constructor
  ·rintro⟨s,r,w⟩;exact⟨s,(fQ ..).subset r,w⟩
  rintro⟨s,r,w,N⟩
  obtain⟨j,d,rfl⟩:=aL r;exact⟨_,db.2 ⟨j,d,λe=>wL y b (by rw[<-e];exact w),rfl⟩,w,N⟩
 refine⟨o,X,{g with
   ker:=Q
   rng:=R
   lay:=Y
   srs:=g.srs.sublist (fQ ..)
   pg:=S
   oow:=λZ ho=>?_
   hca:=λc G k J b y=>(t b k).2 (g.hca c G k J b y)
   hqu:=λx hx=>(t _ _).2 (g.hqu x hx)
   hfl:=λb y=>(t _ _).2 (g.hfl b y)
   hin:=λb y=>(t _ _).2 (g.hin b y)
   mem:=λb=>(g.mem b).trans ?_
   job:=λT=>?_}⟩
 ·rcases g.oow Z ho with⟨s,r,w,N⟩|w
  ·obtain⟨j,d,rfl⟩:=aL r
   exact .inl ⟨_,db.2 ⟨j,d,λe=>wL y _ (by rw[<-e];exact w),rfl⟩,w,N⟩
  exact .inr w
 ·unfold mV;rw[t]
 obtain⟨j1,⟨s,r,U⟩,⟨u,M,V⟩⟩:=g.job T;obtain⟨n1,n2⟩:=W T;obtain⟨a,O,rfl⟩:=aL r;obtain⟨b,P,rfl⟩:=aL M;exact⟨j1,⟨_,db.2 ⟨a,O,λe=>n1 (by rw[<-e];exact U),rfl⟩,U⟩,⟨_,db.2 ⟨b,P,λe=>n2 (by rw[<-e];exact V),rfl⟩,V⟩⟩
def aY.dropL{h:ab}{E:List Int}{i k:Nat}(d:aY h E)(S:i<h.O.length)(y:k<h.M.length)(G:(nth h.O i).Addr=16*(nth h.M k).R) :
  ∃o,dN (eQ h) h.q ⟨(nth h.M k).R,(nth h.M k).a4⟩ = some o/\aY {h with G:=unmN h.G (nth h.M k).R (nth h.M k).a4.toNat,M:=dele h.M k,q:=o,O:=dele h.O i} E:=by
 have A:=d.L;have T:=aO (A.lok _ (am y));have C:∀q,q∈pgs h.K (dele h.M k)↔q∈pgs h.K h.M/\¬((nth h.M k).R<=q/\q<(nth h.M k).R+((nth h.M k).a4.toNat:Nat)):=λq=>by
  rw[qb,qb];constructor
  ·rintro(⟨s,B,rfl⟩|⟨l,f,D⟩)
   ·refine⟨.inl ⟨s,B,rfl⟩,λe=>A.dis s B _ (am y) (s.R - (nth h.M k).R).toNat ω ω⟩
   obtain⟨j,c,t,rfl⟩:=db.1 f;refine⟨.inr ⟨_,am c,D⟩,λe=>?_⟩;obtain⟨m,N,rfl⟩:=dy.1 D;exact t (A.one j k c y m ((nth h.M j).R+(m:Int) - (nth h.M k).R).toNat N ω ω)
  rintro⟨⟨s,B,rfl⟩|⟨l,f,D⟩,g⟩
  ·exact .inl ⟨s,B,rfl⟩
  obtain⟨j,c,rfl⟩:=aL f;refine .inr ⟨_,db.2 ⟨j,c,λe=>g ?_,rfl⟩,D⟩;subst e;obtain⟨m,N,rfl⟩:=dy.1 D;omega
 obtain⟨o,O,U,V,W,X⟩:=y3 d (sp:=h.K) (la:=dele h.M k) (p:=(nth h.M k).R) (n:=(nth h.M k).a4.toNat) ω (List.Sublist.refl _) (fQ ..) (λq q1 q2=>gt (am y) (dy.2 ⟨(q - (nth h.M k).R).toNat,ω,ω⟩)) T.2.2.1 C;rw[Int.toNat_of_nonneg ω]at O;have P:(E++holders h).Perm ((nth h.O i).Addr::(E++holders {h with O:=dele h.O i})):=by
  have Y:=(A7 S).map (·.Addr);refine List.perm_iff_count.2 λa=>?_
  have r:=Y.count_eq a;simp only[Z5,List.count_cons]at r;simp only[holders,cG,C6,List.count_cons];omega
 have u:=P.nodup_iff.1 d.nd;obtain⟨K,u⟩:=List.nodup_cons.1 u;have w:∀b,(b=(nth h.O i).Addr\/b∈E++holders {h with O:=dele h.O i})↔mV h.K h.M b:=λb=>by rw[<-d.mem b,P.mem_iff,List.mem_cons]
 have g:∀b,b∈E++holders {h with O:=dele h.O i}->b≠(nth h.O i).Addr:=λb H e=>K (by rw[<-e];exact H)
 refine⟨o,O,{d with
   ker:=U
   rng:=V
   lay:=W
   srl:=d.srl.sublist (fQ ..)
   pg:=X
   osr:=d.osr.sublist (fQ ..)
   onu:=λF J=>d.onu F ((fQ ..).subset J)
   oid:=d.oid.sublist ((fQ ..).map _)
   oow:=λF J=>?_
   nd:=u
   mem:=λb=>?_}⟩
 ·rcases d.oow F ((fQ ..).subset J) with r|⟨l,f,Q,Z⟩
  ·exact .inl r
  obtain⟨j,c,rfl⟩:=aL f;refine .inr ⟨_,db.2 ⟨j,c,λe=>?_,rfl⟩,Q,Z⟩;subst e;refine g F.Addr (z3.2 (.inr ?_)) (by rw[G];exact Q);unfold holders;simp only[z3];exact .inl (.inl (.inl (O4.2 ⟨F,J,rfl⟩)))
 constructor
 ·intro H
  rcases(w b).1 (.inr H) with r|⟨l,f,rfl⟩
  ·exact .inl r
  obtain⟨j,c,rfl⟩:=aL f;exact .inr ⟨_,db.2 ⟨j,c,λe=>g _ H (by rw[G,e]),rfl⟩,rfl⟩
 rintro(r|⟨l,f,rfl⟩)
 ·refine((w b).2 (.inl r)).resolve_left λe=>?_
  obtain⟨s,B,⟨M,R,-⟩,-⟩:=r;exact(wX A (am y)).1 s B (by rw[e,G]at M R;exact⟨M,R⟩)
 obtain⟨j,c,t,rfl⟩:=db.1 f;refine((w _).2 (.inr ⟨_,am c,rfl⟩)).resolve_left λe=>t ?_
 have M:=aO (A.lok _ (am c));rw[G]at e;exact A.one j k c y 0 0 ω ω ω
def gq(h:ab)(p:Int):Bool:=h.o&&(decide (p=h.Y.W.a2) || decide (p=h.Y.W.a0))
def giveP(h:ab)(i:Nat):ab:={h with G:=ed h.G (nth h.K i).R,K:=dele h.K i,q:=(dN (eQ h) h.q ⟨(nth h.K i).R,1⟩).getD h.q}
def clrS(h:ab)(i:Nat)(a:Int):ab:={h with K:=h.K.set i (mW (nth h.K i) (dB (nth h.K i) a))}
def freeS(h:ab)(i:Nat)(a:Int):ab:=if(mW (nth h.K i) (dB (nth h.K i) a)).b2=0/\gq h (nth h.K i).R=false then giveP (clrS h i a) i else clrS h i a
def ux(h:ab)(a:Int):Nat:=(gQ h (a / 16)).toNat
def freeA(h:ab)(a:Int):ab:=freeS h (ux h a) a
def cput(c:aE)(k a:Int):Option aE:=if bA c=true/\0<=k/\k<=3/\bA (od c k.toNat a)=true then some (od c k.toNat a) else none
def recyc(t:Nat)(h:ab)(a:Int):ab:=match cput (nth h.T t) (nth h.K (ux h a)).d a with
 | some c=>{h with T:=h.T.set t c}
 | none=>freeA h a
def aY.at{h:ab}{E:List Int}{a:Int}(e:aY h E)(f:k6 h.K a (-1)):ux h a<h.K.length/\eM (nth h.K (ux h a)) a/\gQ h (a / 16)=(ux h a:Nat):=by
 obtain⟨s,g,c,-⟩:=f;obtain⟨i,d,rfl⟩:=aL g;have j:(nth h.K i).R=a / 16:=by have l:=c.1;have n:=c.2.1;omega
 have b:=tX e.L d;rw[j]at b;have k:ux h a=i:=by unfold ux;rw[b];rfl
 rw[k];exact⟨d,c,b⟩
def yc{h:ab}{p:Int}(e:gq h p=false)(a:h.o=true):p≠h.Y.W.a2/\p≠h.Y.W.a0:=by
 unfold gq at e;rw[a]at e;simpa using e
def aY.freeS{h:ab}{E:List Int}{a:Int}{i:Nat}(f:aY h (a::E))(b:i<h.K.length)(g:eM (nth h.K i) a):aY (freeS h i a) E:=by
 have c:=f.give b g;unfold Ab.freeS;split
 ·rename_i e
  have d:nth (clrS h i a).K i=mW (nth h.K i) (dB (nth h.K i) a):=by unfold clrS;simp only[bz,true_and];rw[CB b]
  obtain⟨o,j,k⟩:=aY.giveSpan (h:=clrS h i a) c (i:=i) (by unfold clrS;simp only[U1];exact b) (by rw[d];exact e.1) (λl=>by rw[d];exact yc e.2 l);unfold giveP;rw[j];exact k
 exact c
def aY.freeA{h:ab}{E:List Int}{a:Int}(b:aY h (a::E)):aY (freeA h a) E:=by
 obtain⟨c,d,-⟩:=b.at (b.hin a (W1 ..));exact b.freeS c d
def pJ{c:aE}(h:bA c=true):c.b.length=4:=by
 unfold bA at h;simp only[I0,C0]at h;exact h.1
def aY.recyc{h:ab}{E:List Int}{a:Int}{t:Nat}(b:aY h (a::E))(f:t<h.T.length):aY (recyc t h a) E:=by
 obtain⟨g,i,-⟩:=b.at (b.hin a (W1 ..));unfold Ab.recyc;split
 ·rename_i c d
  unfold cput at d;split at d
  ·rename_i e
   cases d;obtain⟨j,l,n,k⟩:=e;exact b.put f (by rw[pJ j];omega) ⟨_,am g,i,.inr ω⟩ k
  cases d
 exact b.freeA
def yz(h:ab)(i:Nat)(a:Int):(freeS h i a).T=h.T/\(freeS h i a).O=h.O/\(freeS h i a).G.Calls=h.G.Calls/\(freeS h i a).y=h.y/\(freeS h i a).Y=h.Y/\(freeS h i a).b3=h.b3/\(freeS h i a).a9=h.a9/\(freeS h i a).G.w=h.G.w:=by
 unfold freeS;split
 ·obtain⟨-,b,c⟩:=lG (clrS h i a).G (nth (clrS h i a).K i).R
  exact⟨rfl,rfl,b,rfl,rfl,rfl,rfl,c⟩
 exact⟨rfl,rfl,rfl,rfl,rfl,rfl,rfl,rfl⟩
def nS(t:Nat)(h:ab)(a:Int):(recyc t h a).T.length=h.T.length/\(recyc t h a).O=h.O/\(recyc t h a).G.Calls=h.G.Calls/\(recyc t h a).y=h.y/\(recyc t h a).Y=h.Y/\(recyc t h a).b3=h.b3/\(recyc t h a).a9=h.a9/\(recyc t h a).G.w=h.G.w:=by
 unfold recyc;split
 ·exact⟨U1 ..,rfl,rfl,rfl,rfl,rfl,rfl,rfl⟩
 obtain⟨b,c⟩:=yz h (ux h a) a;exact⟨X0 _ b,c⟩
def recycs(t:Nat)(h:ab)(az:List Int):ab:=az.foldl (recyc t) h
def f8(t:Nat):∀(az:List Int)(h:ab),(recycs t h az).T.length=h.T.length/\(recycs t h az).O=h.O/\(recycs t h az).G.Calls=h.G.Calls/\(recycs t h az).y=h.y/\(recycs t h az).Y=h.Y/\(recycs t h az).b3=h.b3/\(recycs t h az).a9=h.a9/\(recycs t h az).G.w=h.G.w
 | [],h=>⟨rfl,rfl,rfl,rfl,rfl,rfl,rfl,rfl⟩
 | a::az,h=>by
  obtain⟨b,c,d,e,f,g,i,j⟩:=f8 t az (recyc t h a);obtain⟨k,l,n,o,p,q,r,u⟩:=nS t h a;exact⟨b.trans k,c.trans l,d.trans n,e.trans o,f.trans p,g.trans q,i.trans r,j.trans u⟩
def aY.recycs{t:Nat}{E:List Int} : ∀{az:List Int}{h:ab},aY h (az++E)->t<h.T.length->aY (recycs t h az) E
 | [],h,b,_=>b
 | a::az,h,b,c=>aY.recycs (az:=az) (h:=Ab.recyc t h a) (b.recyc c) (by rw[(nS t h a).1];exact c)
def qc(l:List aQ):Int:=quarCells l l.length
def oG(room:Int):List aQ->Nat
 | []=>0
 | x::xs=>if room<qc (x::xs) then oG room xs+1 else 0
def LK(q:bL)(x:aQ):bL:=⟨q.c1,(q.a6++[x]).drop (oG q.c1 (q.a6++[x]))⟩
def zv(q:bL)(x:aQ):List aQ:=(q.a6++[x]).take (oG q.c1 (q.a6++[x]))
def FY(room:Int):∀l,oG room l<=l.length
 | []=>C3 _
 | x::xs=>by unfold oG;split;(have:=FY room xs;simp only[List.length_cons];omega);omega
def Em{room:Int}(a:0<=room):∀l:List aQ,qc (l.drop (oG room l))<=room
 | []=>a
 | x::xs=>by
  unfold oG;split
  ·exact Em a xs
  rename_i h;show qc (x::xs)<=room;omega
def AX{room:Int} : ∀{l:List aQ}{k:Nat},k<oG room l->room<qc (l.drop k)
 | [],k,h=>by cases h
 | x::xs,0,h=>by
  unfold oG at h;split at h
  ·assumption
  omega
 | x::xs,k+1,h=>by
  unfold oG at h;split at h
  ·exact AX (l:=xs) ω
  omega
def ki{q:bL} : gC q=true↔(∀x∈q.a6,0<=x.d/\x.d<=3/\0<=x.Addr/\0<=x.b7)/\(q.a6.Pairwise λa b=>a.b7<=b.b7)/\(q.a6.map (·.Addr)).Nodup/\0<=q.c1/\q.c1<=500/\qc q.a6<=q.c1:=by
 refine Iff.trans ?_ (and_congr Iff.rfl (and_congr (wK (λa b:Int=>a<=b) (λa b c=>t5) (λs:aQ=>s.b7) q.a6) (and_congr (A2 (λs:aQ=>s.Addr) q.a6) Iff.rfl)));unfold gC qc;simp only[I0,C0,cA,kL,Bool.not_eq_true',List.any_eq_false,eU];constructor
 ·rintro⟨e,f⟩
  refine⟨λx l=>?_,λi d=>(e i d).1.2.2.2.2,λi d=>(e i d).2,f⟩;obtain⟨i,d,rfl⟩:=aL l;obtain⟨⟨g,h,j,k,-⟩,-⟩:=e i d;exact⟨g,h,j,k⟩
 rintro⟨e,f,n,o⟩
 refine⟨λi d=>?_,o⟩;obtain⟨g,h,j,k⟩:=e _ (am d);exact⟨⟨g,h,j,k,f i d⟩,n i d⟩
def QN{q:bL}{x:aQ}(h:gC q=true)(i:0<=x.d/\x.d<=3/\0<=x.Addr/\0<=x.b7)(j:∀y∈q.a6,y.b7<=x.b7)(k:∀y∈q.a6,y.Addr≠x.Addr):gC (LK q x)=true:=by
 obtain⟨l,n,o,g,p,r⟩:=ki.1 h;have c:(LK q x).a6.Sublist (q.a6++[x]):=List.drop_sublist ..;refine ki.2 ⟨λy d=>?_,List.Pairwise.sublist c ?_,List.Nodup.sublist (c.map _) ?_,g,p,Em g _⟩
 ·rcases z3.1 (c.subset d) with d|d
  ·exact l y d
  rw[O1.1 d];exact i
 ·exact List.pairwise_append.2 ⟨n,List.pairwise_singleton ..,λa f b e=>by rw[O1.1 e];exact j a f⟩
 rw[X5];refine List.nodup_append.2 ⟨o,by simp,λa f b e=>?_⟩;obtain⟨y,d,rfl⟩:=O4.1 f;simp only[Z5,List.map_nil,O1]at e;rw[e];exact k y d
def lP(r:List Int)(o:Nat):Nat->List Int
 | 0=>r
 | n+1=>(lP r o n).set (o+n) 0
def cU(k:af)(a:Int):Nat:=(ac k.F.Q (a / 16)).e.toNat
def f6(k:af)(a:Int)(n:Nat):af:={k with F:=⟨⟨k.F.V.S.set (cU k a) (lP (nth k.F.V.S (cU k a)) (a % 16).toNat n),k.F.V.a3⟩,k.F.Q⟩}
def na(r:List Int)(o:Nat):∀n,(lP r o n).length=r.length
 | 0=>rfl
 | n+1=>by unfold lP;rw[U1,na r o n]
def Bi{r:List Int}{o:Nat} : ∀{n:Nat}{v:Int},v∈lP r o n->v∈r\/v=0
 | 0,v,h=>.inl h
 | n+1,v,h=>by
  rcases V6 h with h|h
  ·exact Bi h
  exact .inr h
def Eu{k:af}(h:ay k=true)(a:Int)(n:Nat):ay (f6 k a n)=true:=by
 obtain⟨g,i,l,o,p⟩:=a8.1 h;obtain⟨q,r,t,f⟩:=aS.1 i;refine a8.2 ⟨g,aS.2 ⟨?_,?_,?_,λj c=>?_⟩,l,o,p⟩
 ·simp only[f6,U1];exact q
 ·simp only[f6,U1];exact r
 ·simp only[f6,U1];exact t
 simp only[f6,U1]at c |-;simp only[bz];split
 ·rename_i e
  have b:=f j c;unfold gY at b |-;simp only[I0,C0,v4]at b |-;rw[e.1]at *;refine⟨by rw[na];exact b.1,λv d=>?_⟩;rcases Bi d with d|rfl
  ·exact b.2 v d
  unfold iT;simp
 exact f j c
def zR(h:ab)(a:Int):Nat:=(h.M.findIdx? λl=>decide (l.R*16=a)).getD 0
def freeL(h:ab)(i k:Nat):ab:={h with G:=unmN h.G (nth h.M k).R (nth h.M k).a4.toNat,M:=dele h.M k,q:=(dN (eQ h) h.q ⟨(nth h.M k).R,(nth h.M k).a4⟩).getD h.q,O:=dele h.O i}
def lB(h:ab)(o:bt):aQ:=⟨o.Addr,aJ o.u,h.b3⟩
def inQuar(h:ab)(i:Nat):ab:={h with G:=f6 h.G (nth h.O i).Addr (csz (aJ (nth h.O i).u)).toNat,O:=dele h.O i,a9:=LK h.a9 (lB h (nth h.O i))}
def EL(h:ab)(t i:Nat):ab:=recycs t (inQuar h i) ((zv h.a9 (lB h (nth h.O i))).map (·.Addr))
def freeOb(h:ab)(t i:Nat):ab × Int:=
 if aJ (nth h.O i).u<0 then(freeL h i (zR h (nth h.O i).Addr),0)
 else if(ac (tbl h) ((nth h.O i).Addr / 16)).j=1 then(h,5)
 else(EL h t i,0)
def wz{h:ab}{l:aB}(d:l∈h.M){a:Int}(e:a=16*l.R):zR h a<h.M.length/\a=16*(nth h.M (zR h a)).R/\(∀j,j<zR h a->(nth h.M j).R*16≠a)/\h.M.findIdx? (λl=>decide (l.R*16=a))=some (zR h a):=by
 cases b:h.M.findIdx? λl=>decide (l.R*16=a) with
 | none=>
  have:=List.findIdx?_eq_none_iff.1 b l d;rw[X4]at this;omega
 | some k=>
  obtain⟨c,f,g⟩:=C7.1 b;have i:zR h a=k:=by unfold zR;rw[b];rfl
  rw[i];rw[<-bm (I2 c),C0]at f;refine⟨c,ω,λj n=>?_,rfl⟩;have:=g j n;rw[<-bm (I2 (show j<h.M.length by omega))]at this;simpa using this
def dX{h:ab}{E:List Int}(a:aY h E){o:bt}(g:o∈h.O):(aJ o.u<0->TT h.M o.Addr o.u)/\(¬aJ o.u<0->(∃s∈h.K,eM s o.Addr/\s.d=aJ o.u)/\aJ o.u<=3):=by
 rcases a.oow o g with⟨s,d,b,c⟩|⟨l,f,b,c⟩
 ·have i:=aF (a.L.sok s d)
  exact⟨λe=>ω,λ_=>⟨⟨s,d,b,c⟩,ω⟩⟩
 have j:=cS (a.L.lok l f);refine⟨λ_=>⟨l,f,b,c⟩,λe=>absurd ?_ e⟩;unfold aJ;rw[C9 ω,C9 ω,C9 ω,C9 ω,C9 ω]
 decide
def aY.inQuar{h:ab}{i:Nat}(a:aY h [])(j:i<h.O.length)(r:¬aJ (nth h.O i).u<0):aY (inQuar h i) ((zv h.a9 (lB h (nth h.O i))).map (·.Addr)):=by
 obtain⟨⟨s,l,n,t⟩,u⟩:=(dX a (am j)).2 r;have b:k6 h.K (nth h.O i).Addr (aJ (nth h.O i).u):=⟨s,l,n,.inr t⟩
 have d:=a.nums;unfold cj at d;rw[C0]at d;have w:=aF (a.L.sok s l);have o:=a.dropO j b.any;have A:=o.cells (k:=f6 h.G (nth h.O i).Addr (csz (aJ (nth h.O i).u)).toNat) (Eu a.ker _ _) rfl;have f:∀y∈h.a9.a6,y.Addr≠(nth h.O i).Addr:=λy g e=>by
  have c:=o.nd;rw[List.cons_append,List.nil_append]at c;refine(List.nodup_cons.1 c).1 ?_;rw[<-e];unfold holders;simp only[z3];exact .inl (.inr (O4.2 ⟨y,g,rfl⟩))
 have p:=aY.toQuar (x:=lB h (nth h.O i)) (q:=LK h.a9 (lB h (nth h.O i))) (out:=zv h.a9 (lB h (nth h.O i))) A (QN a.quar ⟨by show 0<=aJ _;omega,u,by show 0<=(nth h.O i).Addr;have:=n.1;omega,d.2.2.1⟩ (λy g=>a.snc y g) f) (by unfold zv LK;simp only[List.take_append_drop]) (v5 _) b;rw[List.append_nil]at p;exact p
def aY.freeOb{h:ab}{t i:Nat}(a:aY h [])(b:i<h.O.length)(e:t<h.T.length):aY (freeOb h t i).1 []:=by
 unfold Ab.freeOb;split
 ·rename_i c
  obtain⟨l,f,d,-⟩:=(dX a (am b)).1 c;obtain⟨g,j,-⟩:=wz f d;obtain⟨o,k,n⟩:=a.dropL b g j;unfold Ab.freeL;rw[k];exact n
 rename_i c;split
 ·exact a
 have d:=a.inQuar b c;refine aY.recycs (E:=[]) ?_ e;rw[List.append_nil];exact d
def HV:∀{H L:List Int},H.Nodup->(∀x∈H,x∈L)->H.length<=L.length
 | [],L,_,_=>W0 _
 | y::H,L,f,b=>by
  have c:y∈L:=b y (W1 ..);have a:=List.nodup_cons.1 f;have:=HV (L:=L.erase y) a.2 λz d=>(List.mem_erase_of_ne (λe:z=y=>a.1 (by rw[<-e];exact d))).2 (b z (O5 _ d))
  rw[List.length_erase_of_mem c]at this;have g:=List.length_pos_of_mem c;simp only[List.length_cons];omega
def xI{H:List Int}{n:Nat}(c:H.Nodup)(a:∀x∈H,0<=x/\x<n):H.length<=n:=by
 have:=HV (L:=(List.range n).map λ(i:Nat)=>(i:Int)) c λx b=>O4.2 ⟨x.toNat,List.mem_range.2 (by have:=a x b;omega),by have:=a x b;omega⟩
 simpa using this
def dq{α:Type}{f:α->Int}{xs:List α}(h:xs.Pairwise λa b=>f a<f b):(xs.map f).Nodup:=by
 unfold List.Nodup;rw[List.pairwise_map];exact h.imp λh e=>ω
def Nq:∀(b:List (List Int))(k:Nat)(s:List Int),(gL k s b).isSome=true->∀l∈b,l.length<=8
 | [],_,_,_,l,a=>by cases a
 | x::b,k,s,h,l,a=>by
  simp only[gL]at h;cases e:fm k s x with
  | none=>rw[e]at h;cases h
  | some d=>
   rw[e]at h;rcases List.mem_cons.1 a with rfl|a
   ·unfold fm at e
    split at e
    ·rename_i c;exact c.1
    cases e
   exact Nq b (k+1) d h l a
def fB{c:aE}(h:bA c=true):c.b.length=4/\∀l∈c.b,l.length<=8:=by
 have a:=h;unfold bA at h;simp only[I0,C0]at h;exact⟨h.1,Nq _ _ _ h.2⟩
structure KN(h:ab):Prop where
 cells:h.G.F.V.S.length<=32
 row:∀r∈h.G.F.V.S,r.length=16
 used:h.G.F.V.a3.length<=32
 ents:h.G.F.Q.J.length<=32
 ref:h.G.w.length<=40
 free:h.q.length<=32
 spans:h.K.length<=32
 larges:h.M.length<=32
 objs:h.O.length<=512
 caches:h.T.length<=4
 lists:∀c∈h.T,c.b.length=4/\∀l∈c.b,l.length<=8
 quar:h.a9.a6.length<=512
def k6.bd{h:ab}{E:List Int}(b:aY h E){a c:Int}(d:k6 h.K a c):0<=a/\a<512:=by
 obtain⟨s,e,⟨f,g,-⟩,-⟩:=d;have i:=aF (b.L.sok s e);omega
def aY.lens{h:ab}{E:List Int}(d:aY h E):KN h:=by
 obtain⟨O,t,u,P,Q,R,w⟩:=a8.1 d.ker;obtain⟨S,A,T,B⟩:=aS.1 t;obtain⟨U,V,C⟩:=br.1 u;obtain⟨p,D,W⟩:=fG.1 d.rng;obtain⟨X,Y,F,Z⟩:=ki.1 d.quar;have q:=d.mail;unfold bO at q;simp only[I0,C0]at q;have G:=d.nc;refine⟨A,λr g=>?_,ω,C,w,?_,?_,?_,?_,ω,λc J=>fB (d.cach c J),?_⟩
 ·obtain⟨j,K,rfl⟩:=aL g
  have:=B j K;unfold gY at this;simp only[I0,C0]at this;exact this.1
 ·have:=xI (H:=h.q.map (·.At)) (n:=32) (dq (p.1.imp_of_mem fun {a b} ha hb h=>by have:=p.2 a ha;omega)) λx f=>by
   obtain⟨r,g,rfl⟩:=O4.1 f;have:=D r g;omega
  simpa using this
 ·have:=xI (H:=h.K.map (·.R)) (n:=32) d.L.nd λx f=>by
   obtain⟨s,i,rfl⟩:=O4.1 f;have:=aF (d.L.sok s i);omega
  simpa using this
 ·have:=xI (H:=h.M.map (·.R)) (n:=32) (dq d.srl) λx f=>by
   obtain⟨l,k,rfl⟩:=O4.1 f;have:=aO (d.L.lok l k);omega
  simpa using this
 ·have:=xI (H:=h.O.map (·.Addr)) (n:=512) (dq d.osr) λx f=>by
   obtain⟨o,M,rfl⟩:=O4.1 f;rcases d.oow o M with⟨s,i,⟨k1,k2,-⟩,-⟩|⟨l,k,e,-⟩
   ·have:=aF (d.L.sok s i);omega
   have:=aO (d.L.lok l k);omega
  simpa using this
 have:=xI (H:=h.a9.a6.map (·.Addr)) (n:=512) F λx f=>by
  obtain⟨y,N,rfl⟩:=O4.1 f;exact(d.hqu y N).bd d
 simpa using this
def KN.sml{h:ab}(a:KN h)(d:ay h.G=true)(e:aK.sml h.y)(f:cn.sml h.Y):ab.sml h:=
 ⟨bk d,⟨by have:=a.free;omega,λ_ _=>trivial⟩,⟨by have:=a.spans;omega,λ_ _=>trivial⟩,⟨by have:=a.larges;omega,λ_ _=>trivial⟩,⟨by have:=a.objs;omega,λ_ _=>trivial⟩,⟨by have:=a.caches;omega,λc b=>⟨by have:=(a.lists c b).1;omega,λl g=>by have:=(a.lists c b).2 l g;show l.length<=1048576;omega⟩⟩,e,⟨by have:=a.quar;omega,λ_ _=>trivial⟩,f⟩
def m7(a:Int)(o:bt):Bool:=decide (o.Addr=a)
def pA(h:ab)(a:Int):Nat:=(dH (m7 a) h.O).toNat
def aY.objAt{h:ab}{E:List Int}(k:aY h E){o:bt}(l:o∈h.O):pA h o.Addr<h.O.length/\nth h.O (pA h o.Addr)=o/\dH (m7 o.Addr) h.O=(pA h o.Addr:Nat):=by
 obtain⟨i,a,rfl⟩:=aL l;have d:dH (m7 (nth h.O i).Addr) h.O=(i:Nat):=dI (ao a) (by unfold m7;simp) λj z p g=>by
  have b:=bm g;have c:=(O2.1 g).1;subst b;unfold m7;refine U0 λe=>?_
  have:=cM (f:=(·.Addr)) (dq k.osr) c a e;omega
 have n:pA h (nth h.O i).Addr=i:=by unfold pA;rw[d];rfl
 rw[n];exact⟨a,rfl,d⟩
def lh(k:af)(p:Int)(n:Nat):(unmN k p n).Calls=k.Calls/\(unmN k p n).w=k.w:=(fV k p n).2
open Go.RowKit
set_option maxRecDepth 20000
set_option maxHeartbeats 4000000
def Pv(y:aA)(a:List aA):dr [] (y::a)=dr [y] a:=by rw[dr];rfl
def FV{α:Type}[Inhabited α]{xs:List α}(h:xs≠[]):xs.getLast? = some (nth xs (xs.length - 1)):=by
 have a:0<xs.length:=List.length_pos_iff.2 h;rw[List.getLast?_eq_getElem?,ao ω]
def Pf{α:Type}{xs:List α}(h:xs≠[])(v:α):xs.dropLast++[v]=xs.set (xs.length - 1) v:=by
 have b:0<xs.length:=List.length_pos_iff.2 h;refine List.ext_getElem (by simp;omega) λi a c=>?_
 rw[List.getElem_set];by_cases e:xs.length - 1=i
 ·subst e
  rw[CB rfl,List.getElem_append_right (by simp)];simp
 rw[C9 e,List.getElem_append_left (by simp at a |-;omega),List.getElem_dropLast]
def Pm{out:List aA}{y:aA}{a:List aA}(h:out≠[])(e:(nth out (out.length - 1)).At+(nth out (out.length - 1)).b0=y.At):dr out (y::a)=dr (out.set (out.length - 1) ⟨(nth out (out.length - 1)).At,(nth out (out.length - 1)).b0+y.b0⟩) a:=by
 rw[dr,FV h];simp only;rw[CB e,Pf h]
def PX{out:List aA}{y:aA}{a:List aA}(h:out≠[])(e:¬(nth out (out.length - 1)).At+(nth out (out.length - 1)).b0=y.At):dr out (y::a)=dr (out++[y]) a:=by
 rw[dr,FV h];simp only;rw[C9 e]
def sA(xs:List aA)(B:xs.length<=4194304)(o:∀y∈xs,0<=y.At/\1<=y.b0/\y.At+y.b0<=1048576):ar Tryz.prog 584 false [.val none (bN .X xs)] .one (bN .own (dr [] xs)):=by
 refine fO 63 [(6,21,[15,16,17,18,19,20,21,22,23,24,25,26,27,28,29,30,31,32,33,34,35]),(7,15,[38,39,40,41,42,43,44,45,46,47,48,49,50,51,52])] Tryz.func584 rfl ?_ (.inr (mt _))
 repeat'(first|refine gP ?_|fail)
 (conv=>whnf)
 refine CF (ι:=Nat × List aA) (λq=>[(0,.H .one (bN .X xs)),(3,.H .one (bN .own q.2)),(4,.H .one [I ((q.1:Nat):Int)])]) (λq=>q.1<=xs.length/\dr q.2 (xs.drop q.1)=dr [] xs/\q.2.length<=q.1/\∀y∈q.2,0<=y.At/\1<=y.b0/\y.At+y.b0<=1048576) (λq=>xs.length - q.1) ((0,[])) ?_ (⟨W0 _,rfl,C3 _,λy g=>by cases g⟩) λq p=>?_
 ·exact wB
 obtain⟨i,out⟩:=q;obtain⟨t,b,j,c⟩:=p;simp only at t b j c |-;by_cases k:i<xs.length
 ·have l:=ao k
  have g:=o _ (am k);rw[jb k]at b;by_cases h:out=[]
  ·subst h
   rw[Pv]at b;have D:([]:List aA).length=0:=rfl
   repeat'(first|refine gE ?_|(conv=>whnf);refine Ap.sm (λr u=>by cases u) rfl (by simp) (by decide) rfl ?_)
   ((conv=>whnf)
    refine CE (i+1,[nth xs i]) ⟨(by simp only;omega),b,(by simp),(λy a=>by rw[O1.1 a];exact g)⟩ (by simp only;omega) ?_
    (repeat'(first|exact trivial|rfl|exact CL rfl (CL (X0 (C.s dY.own) (by simp[aA.enc])) trivial)|refine CL ?_ ?_)))
  have n:0<out.length:=List.length_pos_iff.2 h;have d:out[((out.length:Int) - 1).toNat]? = some (nth out (out.length - 1)):=by
   rw[show((out.length:Int) - 1).toNat=out.length - 1 by omega];exact ao ω
  have w:=c _ (am (xs:=out) (i:=out.length - 1) ω);by_cases e:(nth out (out.length - 1)).At+(nth out (out.length - 1)).b0=(nth xs i).At
  ·rw[Pm h e]at b
   repeat'(first|refine gB ?_|(conv=>whnf);first|refine CM ω (aa d) ?_|refine CQ rfl rfl (aa d) rfl (I1 rfl) rfl ?_)
   ((conv=>whnf)
    refine CE (i+1,out.set (out.length - 1) ⟨(nth out (out.length - 1)).At,(nth out (out.length - 1)).b0+(nth xs i).b0⟩) ⟨(by simp only;omega),b,(by simp only;rw[U1];omega),(λy a=>?_)⟩ (by simp only;omega) ?_)
   ·rcases V6 a with a|rfl
    ·exact c y a
    simp only;omega
   (repeat'(first|exact trivial|rfl|exact CL rfl (CL (X0 (C.s dY.own) (by rw[show((out.length:Int) - 1).toNat=out.length - 1 by omega,I6];rfl)) trivial)|refine CL ?_ ?_))
  rw[PX h e]at b
  repeat'(first|refine gB ?_|(conv=>whnf);first|refine CM ω (aa d) ?_|refine Ap.sm (aP λ_=>rfl) rfl (by simp;omega) (by decide) rfl ?_)
  ((conv=>whnf)
   refine CE (i+1,out++[nth xs i]) ⟨(by simp only;omega),b,(by simp;omega),(λy a=>?_)⟩ (by simp only;omega) ?_)
  ·rcases z3.1 a with a|a
   ·exact c y a
   rw[O1.1 a];exact g
  (repeat'(first|exact trivial|rfl|exact CL rfl (CL (X0 (C.s dY.own) (by simp[aA.enc])) trivial)|refine CL ?_ ?_))
 obtain rfl:i=xs.length:=ω
 rw[List.drop_length]at b
 repeat'(first|refine gE ?_|fail)
 rw[<-b];rfl
def Ax(r y:aA)(a:List aA)(put:Bool):mZ r (y::a) put=if ovl y r then none else if !put&&decide (y.At > r.At) then(mZ r a true).map λt=>r::y::t else(mZ r a put).map λt=>y::t:=by rw[mZ]
def mK(pages:Int)(xs:List aA)(r:aA)(H:0<=pages/\pages<=1048576)(J:iH xs):ar Tryz.prog 568 false [.val none [I pages],.val none (bN .X xs),.val (some 2) (aA.enc .X r)] (.tup [none,none]) (HG xs (dN pages xs r)):=by
 have w:=J.1;have n:=mE pages xs H J;have E:=xB pages r H;cases o:bC pages xs<;>rw[o]at n
 ·rw[show dN pages xs r=none by unfold dN;rw[C9 (by rw[o];simp)]]
  refine fO 82 [] Tryz.func568 rfl ?_ (.inr (uU _ _))
  repeat'(first|refine gP ?_|(conv=>whnf);refine CP (λ_=>rfl) (λ_=>rfl) w (by decide) ?_)
  rfl
 cases k:rangeIn pages r<;>rw[k]at E
 ·rw[show dN pages xs r=none by unfold dN;rw[C9 (by rw[k];simp)]]
  refine fO 82 [] Tryz.func568 rfl ?_ (.inr (uU _ _))
  repeat'(first|refine gP ?_|(conv=>whnf);refine CP (λ_=>rfl) (λ_=>rfl) w (by decide) ?_)
  rfl
 obtain⟨K,L⟩:=Ea o;have p:0<=r.At/\1<=r.b0/\r.At+r.b0<=pages:=by
  unfold rangeIn at k;rw[C0]at k;omega
 rw[show dN pages xs r=(mZ r xs false).map (dr []) by unfold dN;rw[CB ⟨o,k⟩,Bg (pages:=pages) K p.2.1 λz M=>by simp at M]];refine fO 82 [] Tryz.func568 rfl ?_ (.inr (uU _ _))
 repeat'(first|refine gP ?_|(conv=>whnf);refine CP (λ_=>rfl) (λ_=>rfl) w (by decide) ?_)
 (conv=>whnf)
 refine CF (ι:=Nat × List aA × Bool) (λq=>[(1,.H .one (bN .X xs)),(5,.H .box (aA.enc .X r)),(8,.H .one (bN .own xs)),(9,.H .one (bN .own q.2.1)),(10,.H .one [B (q.2.2)]),(11,.H .one [I ((q.1:Nat):Int)])]) (λq=>q.1<=xs.length/\(mZ r (xs.drop q.1) q.2.2).map (q.2.1++·)=mZ r xs false/\q.2.1.length<=q.1+q.2.2.toNat/\(∀y∈q.2.1,0<=y.At/\1<=y.b0/\y.At+y.b0<=1048576)) (λq=>xs.length - q.1) ((0,[],false)) ?_ (⟨W0 _,by simp,by simp,by simp⟩) λq g=>?_
 ·exact wB
 obtain⟨i,out,put⟩:=q;obtain⟨N,b,d,e⟩:=g;simp only at N b d e |-;have l:0<=r.At/\1<=r.b0/\r.At+r.b0<=1048576:=ω
 by_cases F:i<xs.length
 ·have u:=ao F
  have O:=L _ (am F);have h:0<=(nth xs i).At/\1<=(nth xs i).b0/\(nth xs i).At+(nth xs i).b0<=1048576:=ω
  rw[jb F]at b;by_cases j:ovl (nth xs i) r=true
  ·rw[<-b]
   rw[Ax,CB j];unfold ovl at j;rw[C0]at j
   repeat'(first|refine gE ?_|(conv=>whnf);first|with_reducible (first|refine CD (aa u) ?_|refine Bf.D (λg=>?_) (λg=>?_)))
   rfl
  rw[Ax,C9 j]at b;unfold ovl at j;rw[C0]at j;cases put with
  | false=>
   have d:out.length<=i:=by simpa using d
   by_cases P:(nth xs i).At > r.At
   ·rw[CB (by simp;omega),Option.map_map]at b
    repeat'(first|refine gE ?_|(conv=>whnf);first|refine Ap.sm (aP λ_=>rfl) rfl (by simp;omega) (by decide) rfl ?_|refine Ap.sm (λr p=>by simp at p;rcases p with⟨a,_,rfl⟩|rfl<;>rfl) rfl (by simp;omega) (by decide) rfl ?_)
    ((conv=>whnf)
     refine CE (i+1,out++[r,nth xs i],true) ⟨(by simp only;omega),(by rw[<-b];congr 1;funext t;simp),(by simp;omega),(λy c=>?_)⟩ (by simp only;omega) ?_)
    ·rcases z3.1 c with c|c
     ·exact e y c
     rcases List.mem_cons.1 c with rfl|c
     ·exact l
     rw[O1.1 c];exact h
    (repeat'(first|exact trivial|rfl|exact CL rfl (CL (X0 (C.s dY.own) (by simp[aA.enc])) trivial)|refine CL ?_ ?_))
   rw[C9 (by simp;omega),Option.map_map]at b
   repeat'(first|refine gE ?_|(conv=>whnf);refine Ap.sm (aP λ_=>rfl) rfl (by simp;omega) (by decide) rfl ?_)
   ((conv=>whnf)
    refine CE (i+1,out++[nth xs i],false) ⟨(by simp only;omega),(by rw[<-b];congr 1;funext t;simp),(by simp;omega),(λy c=>?_)⟩ (by simp only;omega) ?_)
   ·rcases z3.1 c with c|c
    ·exact e y c
    rw[O1.1 c];exact h
   (repeat'(first|exact trivial|rfl|exact CL rfl (CL (X0 (C.s dY.own) (by simp[aA.enc])) trivial)|refine CL ?_ ?_))
  | true=>
   have d:out.length<=i+1:=d;rw[C9 (by simp),Option.map_map]at b;by_cases Q:(nth xs i).At<r.At+r.b0
   all_goals
    repeat'(first|refine gE ?_|(conv=>whnf);refine Ap.sm (aP λ_=>rfl) rfl (by simp;omega) (by decide) rfl ?_)
    ((conv=>whnf)
     refine CE (i+1,out++[nth xs i],true) ⟨(by simp only;omega),(by rw[<-b];congr 1;funext t;simp),(by simp;omega),(λy c=>?_)⟩ (by simp only;omega) ?_)
    ·rcases z3.1 c with c|c
     ·exact e y c
     rw[O1.1 c];exact h
    (repeat'(first|exact trivial|rfl|exact CL rfl (CL (X0 (C.s dY.own) (by simp[aA.enc])) trivial)|refine CL ?_ ?_))
 obtain rfl:i=xs.length:=ω
 rw[List.drop_length]at b;cases put with
 | false=>
  have d:out.length<=xs.length:=by simpa using d
  rw[<-b];have G:=sA (out++[r]) (by simp;omega) (λy c=>by
    rcases z3.1 c with c|c
    · exact e y c
    rw[O1.1 c];exact l)
  repeat'(first|refine gE ?_|(conv=>whnf);first|refine Ap.sm (aP λ_=>rfl) rfl (by simp;omega) (by decide) (show(out++[r]).map (aA.enc .own)=_ by simp[aA.enc]) ?_|refine CG (G) ⟨⟨rfl,eR _⟩,trivial⟩ ?_)
  rfl
 | true=>
  have d:out.length<=xs.length+1:=d;rw[<-b];have G:=sA out ω e
  repeat'(first|refine gE ?_|(conv=>whnf);refine CG (G) ⟨⟨rfl,eR _⟩,trivial⟩ ?_)
  simp[mZ,HG]
  rfl
def shl64{i:Int}(d:0<=i/\i<=15):IntKind.i64.wrap (1*2 ^ min i.toNat IntKind.i64.bits)=2 ^ i.toNat/\0<=(2:Int) ^ i.toNat/\(2:Int) ^ i.toNat<=32768:=by
 have a:min i.toNat IntKind.i64.bits=i.toNat:=Nat.min_eq_left (show i.toNat<=64 by omega);have b:(0:Int)<=2 ^ i.toNat/\(2:Int) ^ i.toNat<=32768:=by
  have:(2:Nat) ^ i.toNat<=2 ^ 15:=Nat.pow_le_pow_right (by decide) ω;have c:((2 ^ i.toNat:Nat):Int)=(2:Int) ^ i.toNat:=Int.natCast_pow 2 i.toNat;rw[<-c];exact⟨Int.natCast_nonneg _,Int.ofNat_le.2 this⟩
 rw[a,Int.one_mul];exact⟨eP ω ω,b⟩
def clr64{b i:Int}(a:0<=b/\b<=65535):IntKind.i64.wrap ((BitVec.ofInt IntKind.i64.bits b &&& ~~~BitVec.ofInt IntKind.i64.bits (2 ^ i.toNat)).toNat:Nat)=Aj b i:=by
 have:=BQ (i:=i) a;unfold Aj at this |-;exact eP ω ω
def uJ(b i:Int)(c:0<=b/\b<=65535)(d:0<=i/\i<=15):ar Tryz.prog 579 false [.val none [I b],.val none [I i]] .one [I (Aj b i)]:=by
 have a:=qd b i;rw[O0 ω]at a;have e:IntKind.u64.wrap i=i:=by unfold IntKind.wrap;simp[IntKind.signed,IntKind.bits];omega
 refine fO 15 [] Tryz.func579 rfl ?_
 repeat'(first|refine gP ?_|(conv=>whnf);first|refine CO ω ?_|refine CN e ?_|refine CN (shl64 d).1 ?_|refine CN (clr64 c) ?_)
 rfl
def PS{s:ax}{k:Int}(a:aU s.b2 k=true):0<=k/\k<=15:=by
 have:=(eB _ _).1 a;omega
def zB(s:ax)(k:Int)(a:bg s=true)(b:aU s.b2 k=true):ar Tryz.prog 553 false [.val (some 3) (ax.enc .X s),.val none [I k]] (.tup [some 3,none]) (ax.enc .own (mW s k)++[B true]):=by
 have e:=eX a;have g:=PS b;have c:=gM s;have d:=iY s.b2 k ω;rw[a]at c;rw[b]at d;refine fO 23 [] Tryz.func553 rfl ?_ (.inr (aI (ax.enc_fr _) ⟨trivial,trivial⟩))
 repeat'(first|refine gP ?_|(conv=>whnf);refine C8 (uJ s.b2 k e g) ?_)
 rfl
def y9(c:aE)(k:Int)(b:aE.sml c):ar Tryz.prog 480 false [.val (some 1) (aE.enc .X c),.val none [I k]] .one [B (bA c&&decide (0<=k/\k<=3))]:=by
 have a:=nO c b;cases e:bA c<;>rw[e]at a
 all_goals
  refine fO 11 [] Tryz.func480 rfl ?_
  repeat'(first|refine gP ?_|(conv=>whnf);refine C8 (aH k 0 3) ?_)
  all_goals rfl
def uI{c:aE}{k:Nat}(a:k<c.b.length):c.b[k]? = some (nth c.b k):=ao a
def Pw{c:aE}(h:bA c=true)(k:Nat)(a:Int):aE.sml (od c k a):=by
 obtain⟨f,d⟩:=fB h;refine⟨by simp only[od,U1];omega,λl b=>?_⟩;rcases V6 b with b|rfl
 ·have:=d l b;show l.length<=1048576;omega
 show(nth c.b k++[a]).length<=1048576;by_cases e:k<c.b.length
 ·have:=d _ (am e);simp;omega
 have:nth c.b k=[]:=by unfold nth;rw[W2,U2 ω];rfl
 rw[this];simp
def MR(c:aE)(k:Nat)(a:Int):aE.enc .own (od c k a)=[.s .own ((c.b.map (aD .own)).set k (aD .own (nth c.b k++[a])))]:=by simp[aE.enc,od,I6]
def gT{α:Type}{f:α->List C}{xs:List α}{k:Nat}{y:α}{r:List C}(h:xs[k]? = some y):((xs.map f).set k r)[k]? = some r:=by
 rw[W3 (by rw[C1];exact(O2.1 h).1)]
def gu{α β:Type}(f:α->β)(xs:List α)(y:α):(xs++[y]).map f=xs.map f++[f y]:=by simp
def Jq(c:aE)(k a:Int):List C:=aE.enc .own ((cput c k a).getD c)++[B (cput c k a).isSome]
def Mv(c:aE)(k a:Int):ia (Jq c k a):=aI (aE.enc_fr _) ⟨trivial,trivial⟩
def zF(c:aE)(k:Nat)(a:Int)(h:bA c=true)(B:k<=3):ar Tryz.prog 583 false [.val (some 1) (aE.enc .X c),.val none [I (k:Nat)],.val none [I a]] (.tup [some 1,none]) (Jq c k a):=by
 obtain⟨D,q⟩:=fB h;have r:aE.sml c:=⟨ω,λl u=>by have:=q l u;show l.length<=1048576;omega⟩
 have n:=y9 c k r;rw[h,O0 ω]at n;have t:=jq c r;have d:=Pw h k a;have o:=nO (od c k a) d;have w:=jq (od c k a) d;have b:=uI (c:=c) (k:=k) ω;have y:=q _ (am (xs:=c.b) (i:=k) ω);have j:=aE.enc_fz (od c k a);rw[MR]at j;have g:=Mv c k a;unfold Jq at g |-;cases e:bA (od c k a)<;>rw[e]at o
 ·have p:cput c k a=none:=by unfold cput;rw[C9 λx=>by have:=x.2.2.2;rw[X2,e]at this;cases this]
  rw[p]at g |-;refine fO 35 [(4,267,[16,17,18,19,20,21,22,23,24,25,27,0,1,2,3,4,5,6,7,8,9,10,1000,1001,1002,11,12])] Tryz.func583 rfl ?_ (.inr g)
  repeat'(first|refine gP ?_|(conv=>whnf);first|refine CD (gT b) ?_|refine Lq.one rfl rfl (aa b) rfl (I1 rfl) rfl rfl ?_|refine CQ rfl rfl (gT b) rfl (I1 rfl) (show [C.s dY.own ((c.b.map (aD .own)).set k (aD .own (nth c.b k++[a])))]=_ from by simp only[List.set_cons_zero,List.set_set,X2];rfl) ?_|refine Ap.sm (aP λ_=>rfl) rfl (by simp;omega) (by decide) (gu _ _ _) ?_|refine CG (o) ⟨⟨rfl,j⟩,trivial⟩ ?_)
  rfl
 have p:cput c k a=some (od c k a):=by unfold cput;rw[CB ⟨h,ω,ω,by rw[X2];exact e⟩,X2]
 rw[p]at g |-;refine fO 35 [(4,267,[16,17,18,19,20,21,22,23,24,25,27,0,1,2,3,4,5,6,7,8,9,10,1000,1001,1002,11,12])] Tryz.func583 rfl ?_ (.inr g)
 repeat'(first|refine gP ?_|(conv=>whnf);first|refine CD (gT b) ?_|refine Lq.one rfl rfl (aa b) rfl (I1 rfl) rfl rfl ?_|refine CQ rfl rfl (gT b) rfl (I1 rfl) (show [C.s dY.own ((c.b.map (aD .own)).set k (aD .own (nth c.b k++[a])))]=_ from by simp only[List.set_cons_zero,List.set_set,X2];rfl) ?_|refine Ap.sm (aP λ_=>rfl) rfl (by simp;omega) (by decide) (gu _ _ _) ?_|refine CG (o) ⟨⟨rfl,j⟩,trivial⟩ ?_|refine CG (w) ⟨⟨rfl,j⟩,trivial⟩ ?_)
 rfl
def bB(x:ab):List C:=[.s .own (x.G.F.V.S.map (aD .own)),.s .own (x.G.F.V.a3.map (rB .own)),.s .own (x.G.F.Q.J.map (bh.enc .own)),I x.G.Calls,.s .own (x.G.w.map (rI .own)),.s .own (x.q.map (aA.enc .own)),.s .own (x.K.map (ax.enc .own)),.s .own (x.M.map (aB.enc .own)),.s .own (x.O.map (bt.enc .own)),.s .own (x.T.map (aE.enc .own)),.s .own (x.y.U.map (cN .own)),.s .own (x.y.a1.map (aD .own)),I x.a9.c1,.s .own (x.a9.a6.map (aQ.enc .own)),I x.c0,I x.b3,I x.c3,I x.a,B x.o,I x.Y.W.a2,I x.Y.W.a0,.s .X (x.Y.W.S.map (rI .X)),I x.Y.b1,I x.Y.a]
def bF(x:ab):eG (bB x)=ab.enc .X x:=by simp[eG,bB,ab.enc,aE.enc_fz,bh.enc_fz,aB.enc_fz,bt.enc_fz,aA.enc_fz,ax.enc_fz,aQ.enc_fz,rB,rx,rI,eg,<-cw,Y5]
def xu(x:cn):List C:=[I x.W.a2,I x.W.a0,.s .X (x.W.S.map (rI .X)),I x.b1,I x.a]
def Pu.two{g a:List C}{off i k j h l c:Nat}{cs:List C}{K:List C->Prop}{o d:dY}{rows rows2:List (List C)}{r f:List C}(h1:g[off]? = some (.s o rows))(u:o.mine=true)(n:rows[i]? = some r)(w:r.length=k)(p:r[j]? = some (.s d rows2))(y:d.mine=true)(q:rows2[h]? = some f)(A:f.length=l)(E:c+cs.length<=l)(B:a=g.set off (.s o (rows.set i (r.set j (.s d (rows2.set h (splice f c cs)))))))(D:K a):Pu g off [(i,k,j),(h,l,c)] cs K:=by
 have t:o≠.X:=λe=>by subst e;cases u
 have b:d≠.X:=λe=>by subst e;cases y
 refine Pu.mk (r:=f) (j:=c) (by simp[ch,h1,n,w,p,q,A]) (by simp[kG,h1,n,t,p,q,b]) ω (by rw[B];simp[gr,h1,n,p,q]) D
def xA(x:List ax):fz (.s .own (x.map (ax.enc .own)))=.s .X (x.map (ax.enc .X)):=(List.cons.inj (rQ x)).1
def uY(x:List aB):fz (.s .own (x.map (aB.enc .own)))=.s .X (x.map (aB.enc .X)):=(List.cons.inj (EO x)).1
def w6(x:List bt):fz (.s .own (x.map (bt.enc .own)))=.s .X (x.map (bt.enc .X)):=(List.cons.inj (La x)).1
def Ap.dele{α:Type}{e:α->List C}{xs:List α}{i sz by_:Nat}{K:List (List C)->Prop}(a:∀y,(e y).length=sz)(b:∀y,aZ (e y)=true)(h:xs.length<=1048576)(c:by_<=1000)(d:K ((Ab.dele xs i).map e)):Ap true ((xs.take i).map e) ((xs.drop (i+1)).map e) sz by_ K:=by
 have f:(xs.take i).length+(xs.drop (i+1)).length<=2097152:=by rw[V1,U3];omega
 refine CU (aP a) (aP a) (λ_ r g=>by obtain⟨y,-,rfl⟩:=O4.1 g;exact b y) (by rw[C1,C1];omega) (by rw[C1,C1];exact Z4 (Nat.mul_le_mul f c) (by decide)) ?_ d;unfold Ab.dele;rw[X5]
def Ku(h:ab)(p:Int)(a:aG.sml h.G.F.Q):ar Tryz.prog 488 false [.ptr (ab.enc .X h),.val none [I p]] .one [I (ac h.G.F.Q p).j]:=by
 refine fO 13 [] Tryz.func488 rfl ?_
 repeat'(first|refine gP ?_|(conv=>whnf);refine C8 (cR h.G.F.Q p a) ?_)
 rfl
def Rc(h:ab):List C:=(bB h).drop 5
def T0(h:ab)(k:af):bB {h with G:=k} = af.enc .own k++Rc h:=rfl
def Gy(h:ab):Rc h=[.s .own (h.q.map (aA.enc .own)),.s .own (h.K.map (ax.enc .own)),.s .own (h.M.map (aB.enc .own)),.s .own (h.O.map (bt.enc .own)),.s .own (h.T.map (aE.enc .own)),.s .own (h.y.U.map (cN .own)),.s .own (h.y.a1.map (aD .own)),I h.a9.c1,.s .own (h.a9.a6.map (aQ.enc .own)),I h.c0,I h.b3,I h.c3,I h.a,B h.o,I h.Y.W.a2,I h.Y.W.a0,.s .X (h.Y.W.S.map (rI .X)),I h.Y.b1,I h.Y.a]:=rfl
def KW(h:ab)(f:Int)(a:aG.sml h.G.F.Q)(b:0<=f/\f<h.G.F.V.S.length/\f<h.G.F.V.a3.length) :
  aT Tryz.prog 489 false [.ptr (bB h),.val none [I f]] [.ptr (bB {h with G:=gg h.G f}),.val none [I f]] (.tup []) []:=by
 have c:=ao (xs:=h.G.F.V.S) (i:=f.toNat) ω;have d:=ao (xs:=h.G.F.V.a3) (i:=f.toNat) ω;rw[T0 h (gg h.G f)];by_cases e:(pagesOn h.G.F.Q f).length=0
 ·rw[uD e,Gy]
  refine fM 30 [] [(2,8,[21,22,23,24,25,26,27,28])] [(0,0),(0,0)] Tryz.func489 rfl (λu q=>?_) (.inr trivial)
  repeat'(first|refine gB ?_|(conv=>whnf);first|with_reducible (first|refine CM b.1 (aa d) ?_|refine CM b.1 (aa c) ?_)|refine CG (ig h.G.F.Q f a) ⟨⟨rfl,Ca h.G.F.Q⟩,⟨rfl,rfl⟩,trivial⟩ ?_|refine CQ rfl rfl (aa c) rfl (I1 rfl) rfl ?_|refine CQ rfl rfl (aa d) rfl (I1 rfl) rfl ?_|refine Mk.mk 16 rfl rfl (by decide) (by decide) rfl ?_)
  refine CH rfl rfl ?_;exact wB
 rw[x9 e];show aT _ _ _ [.ptr (bB h),_] [.ptr (bB h),_] _ _;refine fM 30 [] [(2,8,[21,22,23,24,25,26,27,28])] [(0,0),(0,0)] Tryz.func489 rfl (λu q=>?_) (.inr trivial)
 repeat'(first|refine gB ?_|(conv=>whnf);refine CG (ig h.G.F.Q f a) ⟨⟨rfl,Ca h.G.F.Q⟩,⟨rfl,rfl⟩,trivial⟩ ?_)
 refine CH rfl rfl ?_;exact wB
def oh(h:ab)(p:Int)(b:ay h.G=true) :
  aT Tryz.prog 388 false [.ptr (bB h),.val none [I p]] [.ptr (bB {h with G:=ed h.G p}),.val none [I p]] .one [B (decide ((ac h.G.F.Q p).j≠0))]:=by
 have k:=bk b;have c:=Ku h p k.1.2;by_cases a:(ac h.G.F.Q p).j=0
 ·rw[show ed h.G p=h.G by unfold ed;rw[CB a]]
  refine fM 32 [(489,[2,0])] [] [(0,0),(0,0)] Tryz.func388 rfl (λu q=>?_)
  repeat'(first|refine gB ?_|(conv=>whnf);refine CG (c) ⟨bF h,⟨rfl,rfl⟩,trivial⟩ ?_)
  refine CH rfl ?_ ?_
  ·exact X0 (λz=>[B z]) ((by simp[a]))
  exact wB
 obtain⟨l,r,n,d,o⟩:=bI b a;have j:=(aS.1 (a8.1 b).2.1).2.2.1;rw[show ed h.G p=gg (qz h.G p) (ac h.G.F.Q p).e by unfold ed;rw[C9 a]];have e:=KW {h with G:=qz h.G p} (ac h.G.F.Q p).e (M5 b) ⟨d,by simp only[qz];omega,by simp only[qz];omega⟩;rw[T0 h (qz h.G p),LV,Gy]at e;have g:=ao (xs:=h.G.F.Q.J) (i:=p.toNat) ω;rw[n]at c e a |-;refine fM 32 [(489,[2,0])] [] [(0,0),(0,0)] Tryz.func388 rfl (λu q=>?_)
 repeat'(first|refine gB ?_|(conv=>whnf);first|with_reducible refine CM l (aa g) ?_|refine CG (c) ⟨bF h,⟨rfl,rfl⟩,trivial⟩ ?_|refine CQ rfl rfl (aa g) rfl (I1 rfl) rfl ?_|refine CK (e) (.inl rfl) ?_)
 refine CH rfl ?_ ?_
 ·exact X0 (λz=>[B z]) ((by simp[a]))
 exact wB
def vG(h:ab)(p:Int):ar Tryz.prog 381 false [.ptr (ab.enc .X h),.val none [I p]] .one [B (gq h p)]:=by
 cases e:h.o
 all_goals
  have b:ab.enc .X h=(ab.enc .X h).set 18 (B h.o):=rfl;rw[e]at b;rw[b];refine fO 29 [] Tryz.func381 rfl ?_
  repeat'(first|refine gP ?_|(conv=>whnf);with_reducible refine Bf.E (λa=>?_) (λa=>?_))
  all_goals exact X0 (λz=>[B z]) ((by unfold gq;rw[e];first|(simp[*];done)|(simp[*];rw[Y4];simp)))
def i7(h:ab):ar Tryz.prog 386 false [.ptr (ab.enc .X h)] .one [I (eQ h:Nat)]:=by
 refine fO 11 [] Tryz.func386 rfl ?_
 repeat'(first|refine gP ?_|(conv=>whnf);refine CC ?_)
 rfl
def rC(h:ab)(a:Int)(k:h.O.length<=1048576):ar Tryz.prog 558 false [.val (some 24) (ab.enc .X h),.val none [I a]] .one [I (dH (m7 a) h.O)]:=by
 refine fO 22 [] Tryz.func558 rfl ?_
 repeat'(first|(conv=>whnf);refine CC ?_)
 (conv=>whnf)
 refine CF (ι:=Nat) (λi=>[(1,.H .one [I (a)]),(2,.H .box (ab.enc .X h)),(5,.H .one [I ((i:Nat):Int)])]) (λi=>i<=h.O.length/\∀(j:Nat)(z:bt),j<i->h.O[j]? = some z->m7 a z=false) (λi=>h.O.length - i) (0) ?_ (⟨W0 _,λj z l=>ω⟩) λi d=>?_
 ·exact wB
 obtain⟨d,c⟩:=d;by_cases g:i<h.O.length
 ·have b:=ao g
  by_cases e:(nth h.O i).Addr=a
  ·repeat'(first|refine gB ?_|(conv=>whnf);first|with_reducible refine CD (aa b) ?_|refine CC ?_)
   exact X0 (λz=>[I z]) (dI b (by unfold m7;simp[e]) c).symm
  repeat'(first|refine gB ?_|(conv=>whnf);first|with_reducible refine CD (aa b) ?_|refine CC ?_)
  ((conv=>whnf);refine CE (i+1) ⟨ω,dz b (by unfold m7;simp[e]) c⟩ ω ?_;(exact wB))
 repeat'(first|refine gE ?_|(conv=>whnf);refine CC ?_)
 exact X0 (λz=>[I z]) (gv ω c).symm
def nM(h:ab)(i:Nat)(b:i<h.O.length)(a:h.O.length<=1048576):aT Tryz.prog 562 false [.ptr (bB h),.val none [I (i:Nat)]] [.ptr (bB {h with O:=dele h.O i}),.val none [I (i:Nat)]] (.tup []) []:=by
 refine fM 23 [] [(0,273,[4,5,6,7,8,9,10,11,13,14,15,16,17,18,19,21,22,0,1,2,3,4,5,6,7,9,10,11,12,13,14,15,8,1000,1009,1010,1011,1012,1013,1014,1015,16,1000,17,18,19]),(1048576,0,[8])] [(0,0),(0,0)] Tryz.func562 rfl (λu q=>?_) (.inr trivial)
 repeat'(first|refine gP ?_|(conv=>whnf);first|refine G7.mk rfl (w6 h.O) rfl ?_|refine CV i rfl (by rw[C1];omega) (aP λ_=>rfl) C4 ?_|refine Sl.suf (i+1) rfl (by rw[C1];omega) (aP λ_=>rfl) I4 ?_|refine CX (λ_=>rfl) (λ_=>rfl) (by rw[V1];omega) (by decide) ?_|refine Ap.dele (λ_=>rfl) (λ_=>rfl) a (by decide) ?_|refine CP (λ_=>rfl) (λ_=>rfl) (by rw[V1];omega) (by decide) ?_)
 refine CH rfl rfl ?_;exact wB
def DZ(h:ab)(E:List Int)(i:Nat)(b:aY h E)(e:i<h.K.length):aT Tryz.prog 554 false [.ptr (bB h),.val none [I (i:Nat)]] [.ptr (bB (giveP h i)),.val none [I (i:Nat)]] (.tup []) []:=by
 have a:=b.lens;have g:=a.spans;have c:=ao e;have j:=oh {h with K:=dele h.K i} (nth h.K i).R b.ker;have d:=i7 {h with G:=ed h.G (nth h.K i).R,K:=dele h.K i};rw[show eQ {h with G:=ed h.G (nth h.K i).R,K:=dele h.K i} = eQ h from(lG _ _).1]at d;have k:eQ h<=32:=a.ents;have l:=mK (eQ h:Nat) h.q ⟨(nth h.K i).R,1⟩ ⟨ω,ω⟩ ⟨by have:=a.free;omega,λ_ _=>trivial⟩;refine fM 52 [(388,[2,0])] [(1,273,[13,14,15,16,17,18,19,20,22,23,24,25,26,27,28,30,31,0,1,2,3,4,5,6,7,9,10,11,12,13,14,15,8,1000,1009,1010,1011,1012,1013,1014,1015,16,1000,17,18,19]),(1048577,0,[6]),(3,270,[38,39,40,41,42,43,44,45,47,37,48,49,50,51,0,1,2,3,4,5,6,7,8,1000,1001,1002,1003,1004,1005,1006,9,10,11,12,13,14,15,1012])] [(0,0),(0,0)] Tryz.func554 rfl (λu q=>?_) (.inr trivial)
 repeat'(first|refine gP ?_|(conv=>whnf);first|refine G7.mk rfl (xA h.K) rfl ?_|refine CV i rfl (by rw[C1];omega) (aP λ_=>rfl) C4 ?_|refine Sl.suf (i+1) rfl (by rw[C1];omega) (aP λ_=>rfl) I4 ?_|refine CX (λ_=>rfl) (λ_=>rfl) (by rw[V1];omega) (by decide) ?_|refine Ap.dele (λ_=>rfl) (λ_=>rfl) ω (by decide) ?_|refine CP (λ_=>rfl) (λ_=>rfl) (by rw[V1];omega) (by decide) ?_|refine CK (j) (.inl rfl) ?_|refine CG (d) ⟨bF _,trivial⟩ ?_|refine CG (l) ⟨⟨rfl,rfl⟩,⟨rfl,eR h.q⟩,⟨rfl,rfl⟩,trivial⟩ ?_)
 refine CH rfl rfl ?_;exact wB
def xv(h:ab)(i:Nat)(a:Int):bB (clrS h i a)=(bB h).set 6 (.s .own ((h.K.map (ax.enc .own)).set i (ax.enc .own (mW (nth h.K i) (dB (nth h.K i) a))))):=by
 simp[bB,clrS,I6]
def td{α β:Type}{f:α->β}{xs:List α}{i:Nat}{y:β}(a:i<xs.length):((xs.map f).set i y)[i]? = some y:=by
 rw[W3 (by rw[C1];exact a)]
def Kn{s:ax}(c:bg s=true){a:Int}(b:eM s a):jf s a=(dB s a,0):=by
 unfold jf;rw[CB ((gS c).2 ⟨b.1,b.2.1⟩),b.2.2.1];rfl
def nH(h:ab)(E:List Int)(a:Int)(c:aY h (a::E)):aT Tryz.prog 511 false [.ptr (bB h),.val none [I a]] [.ptr (bB (freeA h a)),.val none [I a]] (.tup []) []:=by
 obtain⟨g,n,t⟩:=c.at (c.hin a (W1 ..));have d:=(c.hin a (W1 ..)).bd c;have B:=c.lens;have C:=B.spans;have e:=c.L.sok _ (am g);have k:=kv h (a / 16) ω;rw[t]at k;unfold freeA;generalize ux h a=i at g n k e;have b:=ao g;have o:=vR (nth h.K i) a ⟨ω,ω⟩;rw[Kn e n]at o;have w:=zB (nth h.K i) (dB (nth h.K i) a) e n.2.2.2;have D:=c.give g n;have l:=vG (clrS h i a) (nth h.K i).R;rw[show gq (clrS h i a) (nth h.K i).R=gq h (nth h.K i).R from rfl]at l;have p:=DZ (clrS h i a) E i D (by unfold clrS;simp only[U1];exact g);have r:=bF (clrS h i a);rw[xv]at p r;have j:((h.K.map (ax.enc .own)).set i (ax.enc .own (mW (nth h.K i) (dB (nth h.K i) a))))[i]? = some (ax.enc .own (mW (nth h.K i) (dB (nth h.K i) a))):=td g;unfold freeS;by_cases y:(mW (nth h.K i) (dB (nth h.K i) a)).b2=0
 ·cases F:gq h (nth h.K i).R<;>rw[F]at l
  ·rw[CB ⟨y,rfl⟩]
   refine fM 68 [(554,[2,0])] [(2,274,[26,27,28,29,30,31,32,33,34,35,36,37,38,39,25,40,41,42,0,1,2,3,4,5,6,7,8,9,10,11,12,13,14,15,16,17,18,1016])] [(0,0),(0,0)] Tryz.func511 rfl (λu q=>?_) (.inr trivial)
   repeat'(first|refine gB ?_|(conv=>whnf);first|with_reducible refine CN ((X0 _ (tdiv16 d.1)).trans (eP ω ω)) ?_|refine CO (by decide) ?_|refine CG (k) ⟨⟨rfl,bF h⟩,⟨rfl,rfl⟩,trivial⟩ ?_|refine CD j ?_|refine CJ rfl j rfl ?_|refine CQ rfl rfl (aa b) rfl (I1 rfl) rfl ?_|refine CG (l) ⟨r,⟨rfl,rfl⟩,trivial⟩ ?_|refine CK (p) (.inl rfl) ?_)
   refine CH rfl rfl ?_;exact wB
  rw[C9 λx=>by cases x.2];rw[xv];refine fM 68 [(554,[2,0])] [(2,274,[26,27,28,29,30,31,32,33,34,35,36,37,38,39,25,40,41,42,0,1,2,3,4,5,6,7,8,9,10,11,12,13,14,15,16,17,18,1016])] [(0,0),(0,0)] Tryz.func511 rfl (λu q=>?_) (.inr trivial)
  repeat'(first|refine gB ?_|(conv=>whnf);first|with_reducible refine CN ((X0 _ (tdiv16 d.1)).trans (eP ω ω)) ?_|refine CO (by decide) ?_|refine CG (k) ⟨⟨rfl,bF h⟩,⟨rfl,rfl⟩,trivial⟩ ?_|refine CD j ?_|refine CJ rfl j rfl ?_|refine CQ rfl rfl (aa b) rfl (I1 rfl) rfl ?_|refine CG (l) ⟨r,⟨rfl,rfl⟩,trivial⟩ ?_)
  refine CH rfl rfl ?_;exact wB
 rw[C9 λx=>y x.1];rw[xv];refine fM 68 [(554,[2,0])] [(2,274,[26,27,28,29,30,31,32,33,34,35,36,37,38,39,25,40,41,42,0,1,2,3,4,5,6,7,8,9,10,11,12,13,14,15,16,17,18,1016])] [(0,0),(0,0)] Tryz.func511 rfl (λu q=>?_) (.inr trivial)
 repeat'(first|refine gB ?_|(conv=>whnf);first|with_reducible refine CN ((X0 _ (tdiv16 d.1)).trans (eP ω ω)) ?_|refine CO (by decide) ?_|refine CG (k) ⟨⟨rfl,bF h⟩,⟨rfl,rfl⟩,trivial⟩ ?_|refine CD j ?_|refine CJ rfl j rfl ?_|refine CQ rfl rfl (aa b) rfl (I1 rfl) rfl ?_)
 refine CH rfl rfl ?_;exact wB
def NJ(h:ab)(t:Nat)(c:aE):bB {h with T:=h.T.set t c} = (bB h).set 9 (.s .own ((h.T.map (aE.enc .own)).set t (aE.enc .own c))):=by
 simp[bB,I6]
def o8(h:ab)(E:List Int)(t:Nat)(a:Int)(b:aY h (a::E))(w:t<h.T.length):aT Tryz.prog 564 false [.ptr (bB h),.val none [I (t:Nat)],.val none [I a]] [.ptr (bB (recyc t h a)),.val none [I (t:Nat)],.val none [I a]] (.tup []) []:=by
 obtain⟨o,y,p⟩:=b.at (b.hin a (W1 ..));have g:=(b.hin a (W1 ..)).bd b;have B:=b.lens;have C:=B.spans;have j:=aF (b.L.sok _ (am o));have r:=b.cach _ (am w);have l:=kv h (a / 16) ω;rw[p]at l;have D:=nH h E a b;unfold recyc;generalize ux h a=i at o y l j;have n:=ao o;have k:=ao w;have d:=zF (nth h.T t) (nth h.K i).d.toNat a r ω;rw[Int.toNat_of_nonneg j.2.2.1]at d;unfold Jq at d;cases e:cput (nth h.T t) (nth h.K i).d a with
 | none=>
  rw[e]at d;refine fM 46 [(511,[2,0])] [(1,277,[16,17,18,19,20,21,22,23,24,25,26,27,28,29,30,31,32,15,33,34,7,0,1,2,3,4,5,6,7,8,9,10,11,12,13,14,15,16,17,18,19,20,21,1019,22]),(3,6,[36,37,38,39,40,41])] [(0,0),(0,0),(0,0)] Tryz.func564 rfl (λu q=>?_) (.inr trivial)
  repeat'(first|refine gP ?_|(conv=>whnf);first|with_reducible refine CN ((X0 _ (tdiv16 g.1)).trans (eP ω ω)) ?_|refine CO (by decide) ?_|refine CG (l) ⟨⟨rfl,bF h⟩,⟨rfl,rfl⟩,trivial⟩ ?_|refine CG (d) ⟨⟨rfl,aE.enc_fz _⟩,⟨rfl,rfl⟩,⟨rfl,rfl⟩,trivial⟩ ?_|refine CK (D) (.inl rfl) ?_)
  refine CH rfl rfl ?_;exact wB
 | some c=>
  rw[e]at d;simp only;rw[NJ];refine fM 46 [(511,[2,0])] [(1,277,[16,17,18,19,20,21,22,23,24,25,26,27,28,29,30,31,32,15,33,34,7,0,1,2,3,4,5,6,7,8,9,10,11,12,13,14,15,16,17,18,19,20,21,1019,22]),(3,6,[36,37,38,39,40,41])] [(0,0),(0,0),(0,0)] Tryz.func564 rfl (λu q=>?_) (.inr trivial)
  repeat'(first|refine gP ?_|(conv=>whnf);first|with_reducible refine CN ((X0 _ (tdiv16 g.1)).trans (eP ω ω)) ?_|refine CO (by decide) ?_|refine CG (l) ⟨⟨rfl,bF h⟩,⟨rfl,rfl⟩,trivial⟩ ?_|refine CG (d) ⟨⟨rfl,aE.enc_fz _⟩,⟨rfl,rfl⟩,⟨rfl,rfl⟩,trivial⟩ ?_|refine CQ rfl rfl (aa k) rfl (I1 rfl) rfl ?_)
  refine CH rfl rfl ?_;exact wB
def qJ(h:ab)(i:Nat)(d:aY h [])(o:i<h.O.length)(t:aJ (nth h.O i).u<0):aT Tryz.prog 560 false [.ptr (bB h),.val none [I (i:Nat)]] [.ptr (bB (freeL h i (zR h (nth h.O i).Addr))),.val none [I (i:Nat)]] (.tup []) []:=by
 obtain⟨l,w,y,-⟩:=(dX d (am o)).1 t;obtain⟨p,B,c,-⟩:=wz w y;generalize zR h (nth h.O i).Addr=g at p B c;have a:=d.lens;have C:=a.larges;have D:=a.objs;have b:=ao o;have N:=aO (d.L.lok _ (am p));have E:eQ h<=32:=a.ents;refine fM 89 [(388,[2,0]),(562,[2,0])] [(4,11,[23,24,25,26,27,28,29,30,31,32,33]),(8,7,[41,42,43,44,45,46,47]),(9,273,[50,51,52,53,54,55,56,57,58,59,60,62,49,63,64,65,66,0,1,2,3,4,5,6,7,8,9,10,11,1000,1001,1002,1003,1004,1005,1006,12,13,14,15,16,17,18,1015]),(10,273,[67,68,69,70,71,72,73,74,76,77,78,79,80,81,82,84,85,0,1,2,3,4,5,6,7,9,10,11,12,13,14,15,8,1000,1009,1010,1011,1012,1013,1014,1015,16,1000,17,18,19]),(1048586,0,[7])] [(0,0),(0,0)] Tryz.func560 rfl (λu q=>?_) (.inr trivial)
 repeat'(first|(conv=>whnf);refine CC ?_)
 (conv=>whnf)
 refine CF (ι:=Nat) (λk=>[(0,.H .box (bB h)),(1,.H .one [I ((i:Nat):Int)]),(4,.H .one [I ((k:Nat):Int)])]) (λk=>k<=g) (λk=>g - k) (0) ?_ (W0 _) λk O=>?_
 ·exact wB
 have j:=ao (xs:=h.M) (i:=k) ω;have F:=aO (d.L.lok _ (am (xs:=h.M) (i:=k) ω));have G:0<=(nth h.O i).Addr/\(nth h.O i).Addr<=512:=ω
 by_cases e:k=g
 ·subst e
  repeat'(first|refine gB ?_|(conv=>whnf);first|with_reducible refine CD (aa j) ?_|refine CC ?_|refine CJ rfl (aa j) rfl ?_|refine CJ rfl (aa b) rfl ?_|refine CD (aa b) ?_)
  (conv=>whnf)
  refine CF (ι:=Nat) (λn=>[(0,.H .box (bB {h with G:=unmN h.G (nth h.M k).R n})),(1,.H .one [I ((i:Nat):Int)]),(4,.H .one [I ((k:Nat):Int)]),(5,.H .box (aB.enc .own (nth h.M k))),(6,.H .one [I ((n:Nat):Int)])]) (λn=>n<=(nth h.M k).a4.toNat) (λn=>(nth h.M k).a4.toNat - n) (0) ?_ (W0 _) λn P=>?_
  ·exact wB
  by_cases Q:n<(nth h.M k).a4.toNat
  ·have H:=oh {h with G:=unmN h.G (nth h.M k).R n} ((nth h.M k).R+n) (jh d.ker _ _)
   repeat'(first|refine gE ?_|(conv=>whnf);refine CK (H) (.inl rfl) ?_)
   ((conv=>whnf);refine CE (n+1) ω ω ?_;(exact wB))
  obtain rfl:n=(nth h.M k).a4.toNat:=ω
  have r:=i7 {h with G:=unmN h.G (nth h.M k).R (nth h.M k).a4.toNat};rw[show eQ {h with G:=unmN h.G (nth h.M k).R (nth h.M k).a4.toNat} = eQ h from(fV _ _ _).1]at r;have J:=mK (eQ h:Nat) h.q ⟨(nth h.M k).R,(nth h.M k).a4⟩ ⟨ω,ω⟩ ⟨by have:=a.free;omega,λ_ _=>trivial⟩;have K:=nM {h with G:=unmN h.G (nth h.M k).R (nth h.M k).a4.toNat,M:=dele h.M k,q:=(dN (eQ h) h.q ⟨(nth h.M k).R,(nth h.M k).a4⟩).getD h.q} i o (by show h.O.length<=_;omega)
  repeat'(first|refine gE ?_|(conv=>whnf);first|refine G7.mk rfl (uY h.M) rfl ?_|refine CV k rfl (by rw[C1];omega) (aP λ_=>rfl) C4 ?_|refine Sl.suf (k+1) rfl (by rw[C1];omega) (aP λ_=>rfl) I4 ?_|refine CX (λ_=>rfl) (λ_=>rfl) (by rw[V1];omega) (by decide) ?_|refine Ap.dele (λ_=>rfl) (λ_=>rfl) ω (by decide) ?_|refine CP (λ_=>rfl) (λ_=>rfl) (by rw[V1];omega) (by decide) ?_|refine CG (r) ⟨bF _,trivial⟩ ?_|refine CG (J) ⟨⟨rfl,rfl⟩,⟨rfl,eR h.q⟩,⟨rfl,rfl⟩,trivial⟩ ?_|refine CK (K) (.inl rfl) ?_)
  refine CH rfl rfl ?_;exact wB
 have M:=c k ω
 repeat'(first|refine gB ?_|(conv=>whnf);first|with_reducible refine CD (aa j) ?_|refine CC ?_|refine CJ rfl (aa j) rfl ?_|refine CJ rfl (aa b) rfl ?_|refine CD (aa b) ?_)
 ((conv=>whnf);refine CE (k+1) ω ω ?_;(exact wB))
def R8(q:bL)(x:aQ):List C:=bL.enc .own (LK q x)++cY .own (zv q x)
def QI(q:bL)(x:aQ):ia (R8 q x):=aI (bL.enc_fr _) (vt _)
def Dl(q:bL)(a:aQ)(K:q.a6.length<=4096)(e:gC q=true)(r:0<=a.d/\a.d<=3/\0<=a.Addr/\0<=a.b7)(t:∀y∈q.a6,y.b7<=a.b7)(u:∀y∈q.a6,y.Addr≠a.Addr) :
  ar Tryz.prog 563 false [.val (some 2) (bL.enc .X q),.val (some 3) (aQ.enc .X a)] (.tup [some 2,none]) (R8 q a):=by
 have b:bL.sml q:=⟨ω,λ_ _=>trivial⟩
 have w:=tN q b;have l:=pF q b;rw[e]at l;have n:=Bw a;rw[O0 r]at n;have o:=sv q a.Addr b;rw[show q.a6.any (eU a.Addr)=false by rw[List.any_eq_false];intro y B;unfold eU;simpa using u y B]at o;have C:=(ki.1 e).2.2.2;have g:=QI q a;have L:(aQ.mk a.Addr a.d a.b7)=a:=rfl;have c:=FY q.c1 (q.a6++[a]);simp only[O3,List.length_singleton]at c;by_cases E:q.a6.length=0
 all_goals
  try have h:(nth q.a6 (q.a6.length - 1)).b7<=a.b7:=t _ (am ω)
  try have j:=ao (xs:=q.a6) (i:=q.a6.length - 1) ω
  try have d:q.a6[((q.a6.length:Int) - 1).toNat]? = some (nth q.a6 (q.a6.length - 1)):=by rw[show((q.a6.length:Int) - 1).toNat=q.a6.length - 1 by omega];exact j
  refine fO 74 [(3,27,[15,16,17,18,19,20,21,22,23,24,25,26,27,28,29,30,31,32,33,34,35,36,37,38,39,40,41]),(7,6,[52,53,54,55,56,57]),(9,268,[61,62,63,64,65,66,67,69,70,71,72,73,0,1,2,3,4,5,6,8,9,10,11,12,7,1008,1009,1010,1011,1012,13,14])] Tryz.func563 rfl ?_ (.inr g)
  repeat'(first|refine gE ?_|(conv=>whnf);first|refine CM ω (aa d) ?_|refine Ap.sm (aP λ_=>rfl) rfl (by simp;omega) (by decide) (gu (aQ.enc .own) q.a6 a) ?_)
  (conv=>whnf)
  refine Lp.fz 8 (ι:=Nat) (λk=>[(2,.H .box (bL.enc .X q)),(4,.H .box [I 0,.z]),(8,.H .one (cY .X (q.a6++[a]))),(9,.H .one [I (k:Nat)])]) (λk=>k<=oG q.c1 (q.a6++[a])) (λk=>oG q.c1 (q.a6++[a]) - k) 0 ?_ (W0 _) λk M=>?_
  ·(repeat'(first|exact trivial|rfl|exact CL rfl (show M0 (eG (cY .own (q.a6++[a]))) (cY .X (q.a6++[a])) by rw[Gh];exact mP _)|refine CL ?_ ?_))
  have N:(q.a6++[a]).length=q.a6.length+1:=by simp
  have F:((q.a6++[a]).drop k).length<=5000:=by rw[U3];omega
  have G:((q.a6++[a]).take k).length<=5000:=by rw[V1];omega
  have p:=vA ((q.a6++[a]).drop k) ⟨ω,λ_ _=>trivial⟩;by_cases H:k<oG q.c1 (q.a6++[a])
  ·have J:q.c1<quarCells ((q.a6++[a]).drop k) ((q.a6++[a]).drop k).length:=AX H
   repeat'(first|refine gE ?_|(conv=>whnf);refine Sl.suf k rfl (by rw[C1];omega) (aP λ_=>rfl) I4 ?_)
   ((conv=>whnf);refine CE (k+1) ω ω ?_;(exact wB))
  obtain rfl:k=oG q.c1 (q.a6++[a]):=ω
  have J:quarCells ((q.a6++[a]).drop (oG q.c1 (q.a6++[a]))) ((q.a6++[a]).drop (oG q.c1 (q.a6++[a]))).length<=q.c1:=Em C.1 _
  repeat'(first|refine gE ?_|(conv=>whnf);first|refine Sl.suf (oG q.c1 (q.a6++[a])) rfl (by rw[C1];omega) (aP λ_=>rfl) I4 ?_|refine CV (oG q.c1 (q.a6++[a])) rfl (by rw[C1];omega) (aP λ_=>rfl) C4 ?_|refine CX (λ_=>rfl) (λ_=>rfl) ω (by decide) ?_)
  rfl
def pW{z:Int}(h:0<=z/\z<512):IntKind.i64.wrap (z.tdiv 16)=z / 16:=(X0 _ (tdiv16 h.1)).trans (eP ω ω)
def tY{h:ab}{E:List Int}(a:aY h E){o:bt}(b:o∈h.O):0<=o.Addr/\o.Addr<512:=by
 rcases a.oow o b with⟨s,c,⟨f,g,-⟩,-⟩|⟨l,d,e,-⟩
 ·have:=aF (a.L.sok s c);omega
 have:=aO (a.L.lok l d);omega
def Pq{k:Int}(h:0<=k/\k<=3):1<=csz k/\csz k<=8:=by
 rcases bP h with e|e|e|e<;>rw[e]<;>decide
structure TB(h:ab)(o:bt):Prop where
 cl:0<=aJ o.u/\aJ o.u<=3
 fr:0<=(ac h.G.F.Q (o.Addr / 16)).e/\(ac h.G.F.Q (o.Addr / 16)).e<h.G.F.V.S.length
 fit:o.Addr % 16+csz (aJ o.u)<=16
 row:(nth h.G.F.V.S (cU h.G o.Addr)).length=16
def TB.of{h:ab}{E:List Int}(b:aY h E){o:bt}(l:o∈h.O)(q:¬aJ o.u<0):TB h o:=by
 obtain⟨⟨s,d,f,r⟩,B⟩:=(dX b l).2 q;have t:=aF (b.L.sok s d);have u:=tY b l;have n:s.R=o.Addr / 16:=by have C:=f.1;have D:=f.2.1;omega
 have c:(o.Addr / 16).toNat<(tbl h).J.length:=by have:=b.pg.bnd _ (dC (la:=h.M) d);omega
 have a:(((o.Addr / 16).toNat:Nat):Int)=o.Addr / 16:=ω
 have p:=(b.pg.own _ c).2 (by rw[a,<-n];exact dC d);have g:(ac h.G.F.Q (o.Addr / 16)).j≠0:=by rw[<-a];unfold tbl at p c;rw[mw c];exact p
 obtain⟨-,-,-,i,w⟩:=bI b.ker g;have y:=(aS.1 (a8.1 b.ker).2.1).2.2.1;have j:cU h.G o.Addr<h.G.F.V.S.length:=by unfold cU;omega
 refine⟨ω,⟨i,ω⟩,?_,b.lens.row _ (am j)⟩;have A:=f.2.2.1;rw[n,<-r]at *;rcases bP (k:=s.d) ⟨ω,ω⟩ with e|e|e|e<;>rw[e]at A |-<;>omega
def J9(h:ab)(a:Int)(b:cU h.G a<h.G.F.V.S.length):({h with G:=f6 h.G a 0} : ab)=h:=by
 have e:h.G.F.V.S.set (cU h.G a) (nth h.G.F.V.S (cU h.G a))=h.G.F.V.S:=by
  refine List.ext_getElem? λi=>?_
  rw[Z3];split
  ·rename_i e
   subst e;exact(ao b).symm
  rfl
 unfold f6 lP;rw[e]
def FQ(h:ab)(a:Int)(k:Nat)(v:Int)(_:0<=a):bB {h with G:=f6 h.G a (k+1)} = (bB {h with G:=f6 h.G a k}).set 0 (.s .own (((f6 h.G a k).F.V.S.map (aD .own)).set (ac h.G.F.Q (a / 16)).e.toNat ((aD .own (lP (nth h.G.F.V.S (cU h.G a)) (a % 16).toNat k)).set 0 (.s .own (((lP (nth h.G.F.V.S (cU h.G a)) (a % 16).toNat k).map (rI .own)).set (a % 16+k).toNat (splice (rI .own v) 0 [I 0])))))):=by
 have e:(a % 16+k).toNat=(a % 16).toNat+k:=ω
 rw[e];simp[bB,f6,I6,lP,aD,splice,cU]
 rfl
def EE(t:Nat)(h:ab)(xs:List aQ)(k:Nat)(a:k<xs.length):recycs t h ((xs.take (k+1)).map (·.Addr))=recyc t (recycs t h ((xs.take k).map (·.Addr))) (nth xs k).Addr:=by
 unfold recycs;rw[V5,ao a];simp
def GA(h:ab)(o:bt)(t:Nat)(a:aY h [])(P:o∈h.O)(ht:o.a5=t)(hlc:h.T.length<=4):aT Tryz.prog 527 false [.ptr (bB h),.val none [I (t:Nat)],.val none [I o.Addr]] [.ptr (bB (freeOb h t (pA h o.Addr)).1),.val none [I (t:Nat)],.val none [I o.Addr]] .one [I (freeOb h t (pA h o.Addr)).2]:=by
 obtain⟨l,B,C⟩:=a.objAt P;have b:=tY a P;have hon:=a.onu o P;have d:=a.lens;have hno:=d.objs;have E:t<h.T.length:=ω
 have M:=aH (t:Nat) 0 (h.T.length - 1:Int);rw[O0 ω]at M;have F:=rC h o.Addr ω;rw[C]at F;generalize pA h o.Addr=i at l B F;subst B;have r:=ao l;have Q:=kK (nth h.O i).u;unfold freeOb;have R:=bk a.ker;have Z:=cR h.G.F.Q ((nth h.O i).Addr / 16) R.1.2;by_cases w:aJ (nth h.O i).u<0
 ·rw[CB w]
  have c3:=qJ h i a l w;refine fM 148 [(560,[2,0]),(562,[2,0]),(564,[2,0,0]),(559,[2,0])] [(15,269,[68,69,70,71,72,73,74,75,77,67,78,79,11,0,1,2,3,4,5,6,7,13,8,1000,1001,1002,1003,1004,1013,9,10,11,12,14,1012,15]),(22,15,[92,93,94,95,96,97,98,99,100,101,102,103,104,105,106]),(25,271,[116,117,118,119,120,121,122,123,124,125,127,115,128,129,14,0,1,2,3,4,5,6,7,8,9,15,10,1000,1001,1002,1003,1015,11,12,13,14,16,1014,17])] [(0,0),(0,0),(0,0)] Tryz.func527 rfl (λu q=>?_)
  repeat'(first|refine gE ?_|(conv=>whnf);first|refine CG (F) ⟨⟨rfl,bF h⟩,⟨rfl,rfl⟩,trivial⟩ ?_|refine CK (c3) (.inl rfl) ?_)
  refine CH rfl rfl ?_;exact wB
 rw[C9 w];obtain⟨S,s2,s3,s4⟩:=TB.of a (am l) w;by_cases N:(ac (tbl h) ((nth h.O i).Addr / 16)).j=1
 ·rw[CB N]
  unfold tbl at N;refine fM 148 [(560,[2,0]),(562,[2,0]),(564,[2,0,0]),(559,[2,0])] [(15,269,[68,69,70,71,72,73,74,75,77,67,78,79,11,0,1,2,3,4,5,6,7,13,8,1000,1001,1002,1003,1004,1013,9,10,11,12,14,1012,15]),(22,15,[92,93,94,95,96,97,98,99,100,101,102,103,104,105,106]),(25,271,[116,117,118,119,120,121,122,123,124,125,127,115,128,129,14,0,1,2,3,4,5,6,7,8,9,15,10,1000,1001,1002,1003,1015,11,12,13,14,16,1014,17])] [(0,0),(0,0),(0,0)] Tryz.func527 rfl (λu q=>?_)
  repeat'(first|refine gB ?_|(conv=>whnf);first|refine CO (by decide) ?_|refine CN (pW b) ?_|refine CG (F) ⟨⟨rfl,bF h⟩,⟨rfl,rfl⟩,trivial⟩ ?_|refine CG (Z) ⟨⟨rfl,Ca _⟩,⟨rfl,rfl⟩,trivial⟩ ?_)
  refine CH rfl rfl ?_;exact wB
 rw[C9 N];unfold tbl at N;have G:cU h.G (nth h.O i).Addr<h.G.F.V.S.length:=by unfold cU;omega
 have hcz:=Pq S;have g:=a.inQuar l w;have H:=ef (aJ (nth h.O i).u);refine fM 148 [(560,[2,0]),(562,[2,0]),(564,[2,0,0]),(559,[2,0])] [(15,269,[68,69,70,71,72,73,74,75,77,67,78,79,11,0,1,2,3,4,5,6,7,13,8,1000,1001,1002,1003,1004,1013,9,10,11,12,14,1012,15]),(22,15,[92,93,94,95,96,97,98,99,100,101,102,103,104,105,106]),(25,271,[116,117,118,119,120,121,122,123,124,125,127,115,128,129,14,0,1,2,3,4,5,6,7,8,9,15,10,1000,1001,1002,1003,1015,11,12,13,14,16,1014,17])] [(0,0),(0,0),(0,0)] Tryz.func527 rfl (λu q=>?_)
 repeat'(first|refine gB ?_|(conv=>whnf);first|refine CO (by decide) ?_|refine CN (pW b) ?_|refine CG (F) ⟨⟨rfl,bF h⟩,⟨rfl,rfl⟩,trivial⟩ ?_|refine CG (Z) ⟨⟨rfl,Ca _⟩,⟨rfl,rfl⟩,trivial⟩ ?_)
 rw[show bB h=bB {h with G:=f6 h.G (nth h.O i).Addr 0} by rw[J9 h _ G]]
 (conv=>whnf)
 refine CF (ι:=Nat) (λk=>[(0,.H .box (bB {h with G:=f6 h.G (nth h.O i).Addr k})),(1,.H .one [I ((t:Nat):Int)]),(2,.H .one [I ((nth h.O i).Addr)]),(7,.H .one [I ((i:Nat):Int)]),(8,.H .box (bt.enc .own (nth h.O i))),(9,.H .one [I (aJ (nth h.O i).u)]),(10,.H .box (bh.enc .own (ac h.G.F.Q ((nth h.O i).Addr / 16)))),(13,.H .one [I ((k:Nat):Int)])]) (λk=>k<=(csz (aJ (nth h.O i).u)).toNat) (λk=>(csz (aJ (nth h.O i).u)).toNat - k) (0) ?_ (W0 _) λk hk=>?_
 ·exact wB
 have hmod:IntKind.i64.wrap 0=0:=rfl;have T:(nth h.O i).Addr.tmod 16=(nth h.O i).Addr % 16:=dM b.1;have p:(f6 h.G (nth h.O i).Addr k).F.V.S[(ac h.G.F.Q ((nth h.O i).Addr / 16)).e.toNat]? = some (lP (nth h.G.F.V.S (cU h.G (nth h.O i).Addr)) ((nth h.O i).Addr % 16).toNat k):=W3 G;by_cases O:k<(csz (aJ (nth h.O i).u)).toNat
 ·have J:=ao (xs:=lP (nth h.G.F.V.S (cU h.G (nth h.O i).Addr)) ((nth h.O i).Addr % 16).toNat k) (i:=((nth h.O i).Addr % 16+k).toNat) (by rw[na,s4];omega)
  repeat'(first|refine gE ?_|(conv=>whnf);first|refine CO (by decide) ?_|refine CR T ?_|refine CM s2.1 (aa p) ?_|refine CM ω (aa J) ?_|refine Pu.two rfl rfl (aa p) rfl rfl rfl (aa J) rfl (C3 _) (FQ h _ k _ b.1) ?_)
  ((conv=>whnf);refine CE (k+1) ω ω ?_;(exact wB))
 obtain rfl:k=(csz (aJ (nth h.O i).u)).toNat:=ω
 have c5:=nM {h with G:=f6 h.G (nth h.O i).Addr (csz (aJ (nth h.O i).u)).toNat} i l (by show h.O.length<=_;omega);have j:=a.nums;unfold cj at j;rw[C0]at j;have K:=(a.dropO l (k6.any (c:=aJ (nth h.O i).u) (by obtain⟨⟨s,hs,k1,k2⟩,-⟩:=(dX a (am l)).2 w;exact⟨s,hs,k1,.inr k2⟩))).nd;rw[List.cons_append,List.nil_append]at K;have c6:=Dl h.a9 (lB h (nth h.O i)) (by have:=d.quar;omega) a.quar ⟨S.1,S.2,b.1,j.2.2.1⟩ (λy U=>a.snc y U) (λy U e=>(List.nodup_cons.1 K).1 (by rw[show(nth h.O i).Addr=y.Addr from e.symm];unfold holders;simp only[z3];exact .inl (.inr (O4.2 ⟨y,U,rfl⟩))));unfold R8 at c6;have V:(zv h.a9 (lB h (nth h.O i))).length<=513:=by have:=d.quar;unfold zv;rw[V1,O3];simp only[List.length_singleton];omega
 repeat'(first|refine gB ?_|(conv=>whnf);first|refine CK (c5) (.inl rfl) ?_|refine CG (c6) ⟨⟨rfl,bL.enc_fz h.a9⟩,⟨rfl,rfl⟩,trivial⟩ ?_)
 have W:EL h t i=recycs t (inQuar h i) ((zv h.a9 (lB h (nth h.O i))).map (·.Addr)):=rfl;simp only;rw[W];have hqn:(inQuar h i).T.length=h.T.length:=rfl;generalize zv h.a9 (lB h (nth h.O i))=out at g V
 (conv=>whnf)
 refine CF (ι:=Nat) (λk=>[(0,.H .box (bB (recycs t (inQuar h i) ((out.take k).map (·.Addr))))),(1,.H .one [I ((t:Nat):Int)]),(15,.H .one (cY .own out)),(16,.H .one [I ((k:Nat):Int)])]) (λk=>k<=out.length) (λk=>out.length - k) (0) ?_ (W0 _) λk hk=>?_
 ·exact wB
 by_cases O:k<out.length
 ·have L:=ao O
  have X:out.map (·.Addr)=(out.take k).map (·.Addr)++(nth out k).Addr::(out.drop (k+1)).map (·.Addr):=by
   conv=>lhs;rw[<-List.take_append_drop k out,jb O]
   simp
  have Y:aY (recycs t (inQuar h i) ((out.take k).map (·.Addr))) ((nth out k).Addr::(out.drop (k+1)).map (·.Addr)):=aY.recycs (by rw[<-X];exact g) E;have c7:=o8 _ _ t _ Y (by rw[(f8 t _ _).1];exact E)
  repeat'(first|refine gE ?_|(conv=>whnf);refine CK (c7) (.inl rfl) ?_)
  ((conv=>whnf);refine CE (k+1) ω ω ?_)
  rw[EE t _ out k O];exact wB
 obtain rfl:k=out.length:=ω
 rw[C5]
 repeat'(first|refine gE ?_|(conv=>whnf);refine CC ?_)
 refine CH rfl rfl ?_;exact wB
def oE(rows:List (List C)):C:=match rows with|[]=>.s .X []|_=>.s .own rows
set_option maxRecDepth 100000
def eA(c:C):Qu c c:=(mP [c]).1
def cE(h:ab)(s l o:C):List C:=[.s .own (h.G.F.V.S.map (aD .own)),.s .own (h.G.F.V.a3.map (rB .own)),.s .own (h.G.F.Q.J.map (bh.enc .own)),I h.G.Calls,.s .own (h.G.w.map (rI .own)),.s .own (h.q.map (aA.enc .own)),s,l,o,.s .own (h.T.map (aE.enc .own)),.s .own (h.y.U.map (cN .own)),.s .own (h.y.a1.map (aD .own)),I h.a9.c1,.s .own (h.a9.a6.map (aQ.enc .own)),I h.c0,I h.b3,I h.c3,I h.a,B h.o,I h.Y.W.a2,I h.Y.W.a0,.s .own (h.Y.W.S.map (rI .own)),I h.Y.b1,I h.Y.a]
def oS(h:ab):C:=oE (h.K.map (ax.enc .own))
def oL(h:ab):C:=oE (h.M.map (aB.enc .own))
def oO(h:ab):C:=oE (h.O.map (bt.enc .own))
def kx(h:ab):List C:=cE h (oS h) (oL h) (oO h)
def NP(rows:List (List C)):fz (oE rows)=fz (.s .own rows):=by cases rows<;>rfl
def Tm{rows:List (List C)} : oE rows=.s .own rows\/(rows=[]/\oE rows=.s .X []):=by cases rows with|nil=>exact .inr ⟨rfl,rfl⟩|cons=>exact .inl rfl
def Tu(h:ab){s l o:C}(a:fz s=.s .X (h.K.map (ax.enc .X)))(b:fz l=.s .X (h.M.map (aB.enc .X)))(c:fz o=.s .X (h.O.map (bt.enc .X))):eG (cE h s l o)=ab.enc .X h:=by
 have d:=ab.enc_fz h;have e:eG (cE h s l o)=(((eG (ab.enc .own h)).set 6 (fz s)).set 7 (fz l)).set 8 (fz o):=rfl;rw[e,d,a,b,c];rfl
def Te(h:ab):fz (oS h)=.s .X (h.K.map (ax.enc .X)):=(NP _).trans (xA _)
def T3(h:ab):fz (oL h)=.s .X (h.M.map (aB.enc .X)):=(NP _).trans (uY _)
def RU(h:ab):fz (oO h)=.s .X (h.O.map (bt.enc .X)):=(NP _).trans (w6 _)
def wG(h:ab):eG (kx h)=ab.enc .X h:=Tu h (Te h) (T3 h) (RU h)
def H1{rows:List (List C)}(h:QZ rows):R5 (oE rows):=by cases rows with|nil=>exact⟨.inr rfl,trivial⟩|cons r a=>exact⟨.inl λe=>(by cases e),h⟩
def qp(h:ab):ia (kx h):=by
 have a:=ab.enc_fr h;simp only[ab.enc,ia]at a;unfold kx cE;simp only[ia];refine⟨a.1,a.2.1,a.2.2.1,a.2.2.2.1,a.2.2.2.2.1,a.2.2.2.2.2.1,H1 ?_,H1 ?_,H1 ?_,a.2.2.2.2.2.2.2.2.2⟩
 ·exact a.2.2.2.2.2.2.1.2
 ·exact a.2.2.2.2.2.2.2.1.2
 exact a.2.2.2.2.2.2.2.2.1.2
def vb{w:World}{S Y:ah}{rows:List (List C)}{v:Value}(h:fg w S Y (.s .own rows) v):fg w S Y (oE rows) v:=by
 cases rows with
 | cons=>exact h
 | nil=>
  cases h with
  | nil _ o a d=>exact .nil _ .X a trivial
  | own _ o g k n e rows u f d i j b c l p q r t=>simp at i;omega
def NQ{w:World}{S Y:ah}{h:ab}{u:Nat->Value}(d:cV w S Y (ab.enc .own h) u):cV w S Y (kx h) u:=by
 obtain⟨f,b,e,g⟩:=d;refine⟨f,λj c a=>?_,e,g⟩;have i:kx h=(((ab.enc .own h).set 6 (oS h)).set 7 (oL h)).set 8 (oO h):=rfl;rw[i]at a;by_cases k:j=8
 ·subst k
  have:c=oO h:=by simpa[ab.enc] using a.symm
  rw[this];exact vb (b 8 _ rfl)
 by_cases l:j=7
 ·subst l
  have:c=oL h:=by simpa[ab.enc] using a.symm
  rw[this];exact vb (b 7 _ rfl)
 by_cases n:j=6
 ·subst n
  have:c=oS h:=by simpa[ab.enc] using a.symm
  rw[this];exact vb (b 6 _ rfl)
 rw[List.getElem?_set_ne ω,List.getElem?_set_ne ω,List.getElem?_set_ne ω]at a;exact b j c a
def rS(h:ab)(a:ab.sml h):ar Tryz.prog 59 false [.val (some 24) (ab.enc .X h)] .agg (kx h):=by
 obtain⟨b,c⟩:=rd h a;refine⟨b,λw S d g i=>(c w S d g i).mono λe w1 j=>?_⟩;obtain⟨v,k,l,X,n,o,p,q,r,t⟩:=j;exact⟨v,k,l,X,n,o,p,q,r,NQ t⟩
def n6{c a:C}(h:a=c):Qu c a:=by subst h;exact eA _
def Lf(c:aE)(k:Nat):aE:=⟨c.b.set k []⟩
def Qm(c:aE)(k:Nat):aE.enc .own (Lf c k)=[.s .own ((c.b.map (aD .own)).set k (aD .own []))]:=by simp[aE.enc,Lf,I6]
def MH(xs:List Int):([]:List Int).map (rI .X)=(xs.map (rI .X)).drop xs.length:=by rw[List.drop_eq_nil_of_le (by rw[C1];omega)];rfl
def Nh(xs:List Int):xs.map (rI .X)=(xs.map (rI .X)).take xs.length:=by rw[I7 (by rw[C1];omega)]
def TP(c:aE)(k:Nat):List C:=aE.enc .own (Lf c k)++aD .own (nth c.b k)
def R6(c:aE)(k:Nat):ia (TP c k):=aI (aE.enc_fr _) (bH _)
def wj(c:aE)(k:Nat)(d:bA c=true)(p:k<=3):ar Tryz.prog 510 false [.val (some 1) (aE.enc .X c),.val none [I (k:Nat)],.val none [I 8]] (.tup [some 1,none]) (TP c k):=by
 obtain⟨q,e⟩:=fB d;have g:aE.sml c:=⟨ω,λl j=>by have:=e l j;show l.length<=1048576;omega⟩
 have h:=y9 c k g;rw[d,O0 ω]at h;have n:=jq c g;have a:=uI (c:=c) (k:=k) ω;have o:=e _ (am (xs:=c.b) (i:=k) ω);have b:=R6 c k;unfold TP at b |-;rw[Qm]at b |-;refine fO 52 [(5,268,[29,30,31,32,33,34,35,36,37,38,39,41,0,1,2,3,4,5,6,7,8,9,10,11,1000,1001,1002,12,13]),(6,265,[42,43,44,45,46,47,48,49,50,0,1,2,3,4,5,6,7,8,9,1000,10,11])] Tryz.func510 rfl ?_ (.inr b)
 repeat'(first|refine gP ?_|(conv=>whnf);first|refine CR (z:=((nth c.b k).length:Int)) (by simp;omega) ?_|refine Sl.suf (nth c.b k).length rfl (by rw[C1];omega) (aP λ_=>rfl) (MH _) ?_|refine CV (nth c.b k).length rfl (by rw[C1];omega) (aP λ_=>rfl) (Nh _) ?_|refine CP (λ_=>rfl) (λ_=>rfl) (by simp) (by decide) ?_|refine CP (λ_=>rfl) (λ_=>rfl) ω (by decide) ?_|refine CQ rfl rfl (aa a) rfl (I1 rfl) rfl ?_)
 rfl
def pN{k:Int} : ∀{l s s2 c:List Int},(∀x∈s2,x∈s)->rY k s l=some c->(∀x∈s,x∈c)/\∃d,rY k s2 l=some d/\∀x∈d,x∈c
 | [],s,s2,c,h,e=>by
  simp only[rY,Z0]at e |-;subst e;exact⟨λ_ h=>h,s2,rfl,h⟩
 | a::l,s,s2,c,h,e=>by
  simp only[rY]at e |-;split at e
  ·rename_i g
   rw[CB (show good k s2 a from⟨g.1,g.2.1,g.2.2.1,λx=>g.2.2.2 (h a x)⟩)];obtain⟨f,i⟩:=pN (l:=l) (s:=s++[a]) (s2:=s2++[a]) (λx b=>by
     rcases z3.1 b with b|b
     · exact z3.2 (.inl (h x b))
     exact z3.2 (.inr b)) e
   exact⟨λx b=>f x (z3.2 (.inl b)),i⟩
  cases e
def uk:∀{a:List (List Int)}{k:Nat}{s s2:List Int},(∀x∈s2,x∈s)->(gL k s a).isSome=true->(gL k s2 a).isSome=true
 | [],_,_,_,_,_=>rfl
 | l::a,k,s,s2,h,e=>by
  simp only[gL,fm]at e |-;split at e
  ·rename_i g
   rw[CB g];cases b:rY k s l with
   | none=>rw[b]at e;cases e
   | some i=>
    rw[b]at e;obtain⟨-,c,d,f⟩:=pN h b;rw[d];exact uk f e
  cases e
def E2:∀{a:List (List Int)}{k:Nat}{s s2:List Int}(i:Nat),(∀x∈s2,x∈s)->(gL k s a).isSome=true->(gL k s2 (a.set i [])).isSome=true
 | [],_,_,_,_,_,_=>rfl
 | l::a,k,s,s2,i,h,e=>by
  simp only[gL,fm]at e;split at e
  ·rename_i g
   cases b:rY k s l with
   | none=>rw[b]at e;cases e
   | some o=>
    rw[b]at e;obtain⟨c,d,f,j⟩:=pN h b;cases i with
    | zero=>
     simp only[List.set_cons_zero,gL,fm];rw[CB ⟨by simp,g.2⟩];exact uk (λx n=>c x (h x n)) e
    | succ i=>
     simp only[List.set_cons_succ,gL,fm];rw[CB g,f];exact E2 i j e
  cases e
def RK{c:aE}(h:bA c=true)(k:Nat):bA (Lf c k)=true:=by
 unfold bA at h |-;simp only[I0,C0]at h |-;exact⟨by simp only[Lf,U1];exact h.1,E2 k (λ_ h=>h) h.2⟩
def spilt(h:ab)(t k:Nat):ab:={h with T:=h.T.set t (Lf (nth h.T t) k)}
def aY.spilt{h:ab}{E:List Int}{t k:Nat}(f:aY h E)(i:t<h.T.length)(n:k<(nth h.T t).b.length):aY (spilt h t k) (nth (nth h.T t).b k++E):=by
 have p:(E++holders h).Perm (nth (nth h.T t).b k++E++holders (Ab.spilt h t k)):=by
  refine List.perm_iff_count.2 λb=>?_
  have r:=ju (λc:aE=>c.b.flatten) b h.T t (Lf (nth h.T t) k) i;have q:=ju (λx:List Int=>x) b (nth h.T t).b k [] n;rw[<-l8,<-l8]at q;simp only[List.count_nil]at q;simp only[Lf]at r;simp only[holders,cG,Ab.spilt,Lf,C6];omega
 have g:∀c∈(Ab.spilt h t k).T,c∈h.T\/c=Lf (nth h.T t) k:=λc u=>V6 u
 exact {f with
   nc:=by show(h.T.set ..).length=_;rw[U1];exact f.nc
   cach:=λc a=>by
     rcases g c a with a|rfl
     · exact f.cach c a
     exact RK (f.cach _ (am i)) k
   onu:=by show ∀o∈h.O,1<=o.Id/\o.Id<=h.a - 1/\0<=o.a5/\o.a5<=(h.T.set t _).length - 1;rw[U1];exact f.onu
   hca:=λc a j l b d=>by
     rcases g c a with a|rfl
     · exact f.hca c a j l b d
     simp only[Lf,U1]at l;simp only[Lf,bz]at d;by_cases e:k=j
     · subst e
       rw[CB ⟨rfl,l⟩]at d;cases d
     rw[C9 λx=>e x.1]at d;exact f.hca _ (am i) _ l b d
   hin:=λb d=>by
     rcases z3.1 d with d|d
     · exact(f.hca _ (am i) k n b d).any
     exact f.hin b d
   nd:=p.nodup_iff.1 f.nd
   mem:=λb=>by rw[<-p.mem_iff];exact f.mem b}
def freeAs(h:ab)(az:List Int):ab:=az.foldl freeA h
def gd:∀(az:List Int)(h:ab),(freeAs h az).T=h.T/\(freeAs h az).O=h.O/\(freeAs h az).G.Calls=h.G.Calls/\(freeAs h az).y=h.y/\(freeAs h az).Y=h.Y/\(freeAs h az).b3=h.b3/\(freeAs h az).a9=h.a9/\(freeAs h az).G.w=h.G.w
 | [],h=>⟨rfl,rfl,rfl,rfl,rfl,rfl,rfl,rfl⟩
 | a::az,h=>by
  obtain⟨b,c,d,e,f,g,i,j⟩:=gd az (freeA h a);obtain⟨k,l,n,o,p,q,r,t⟩:=yz h (ux h a) a;exact⟨b.trans k,c.trans l,d.trans n,e.trans o,f.trans p,g.trans q,i.trans r,j.trans t⟩
def aY.freeAs{E:List Int} : ∀{az:List Int}{h:ab},aY h (az++E)->aY (freeAs h az) E
 | [],_,b=>b
 | a::az,h,b=>aY.freeAs (az:=az) (h:=Ab.freeA h a) b.freeA
def vm(h:ab)(az:List Int)(k:Nat)(a:k<az.length):freeAs h (az.take (k+1))=freeA (freeAs h (az.take k)) (nth az k):=by
 rw[V5,ao a];simp[freeAs]
def flushN(t:Nat)(h:ab):Nat->ab × Nat
 | 0=>(h,0)
 | k+1=>(freeAs (spilt (flushN t h k).1 t k) (nth (nth (flushN t h k).1.T t).b k),(flushN t h k).2+(nth (nth (flushN t h k).1.T t).b k).length)
def jH{t:Nat}{h:ab}(c:aY h [])(e:t<h.T.length):∀{k:Nat},k<=4->aY (flushN t h k).1 []/\(flushN t h k).1.T.length=h.T.length/\(flushN t h k).1.G.Calls=h.G.Calls/\(flushN t h k).1.O=h.O/\(flushN t h k).1.y=h.y/\(flushN t h k).1.Y=h.Y/\(flushN t h k).2<=8*k
 | 0,_=>⟨c,rfl,rfl,rfl,rfl,rfl,W0 _⟩
 | k+1,y=>by
  obtain⟨d,f,g,i,j,l,A⟩:=jH c e (k:=k) ω;have a:t<(flushN t h k).1.T.length:=ω
  obtain⟨B,n⟩:=fB (d.cach _ (am a));have b:k<(nth (flushN t h k).1.T t).b.length:=ω
  have o:=d.spilt a b;have C:=n _ (am b);obtain⟨p,q,r,u,w,-⟩:=gd (nth (nth (flushN t h k).1.T t).b k) (Ab.spilt (flushN t h k).1 t k);refine⟨aY.freeAs o,?_,r.trans g,q.trans i,u.trans j,w.trans l,?_⟩
  ·show(Ab.freeAs _ _).T.length=_
   rw[p];simp only[Ab.spilt,U1];exact f
  simp only[flushN];omega
def Fc{h:ab}{t k:Nat}(d:aY h [])(e:t<h.T.length)(j:k<4):t<(flushN t h k).1.T.length/\bA (nth (flushN t h k).1.T t)=true/\k<(nth (flushN t h k).1.T t).b.length/\(nth (nth (flushN t h k).1.T t).b k).length<=8/\(flushN t h k).2<=8*k:=by
 obtain⟨f,l,-,-,-,-,g⟩:=jH d e (k:=k) ω;have a:t<(flushN t h k).1.T.length:=ω
 have c:=f.cach _ (am a);obtain⟨n,i⟩:=fB c;have b:k<(nth (flushN t h k).1.T t).b.length:=ω
 exact⟨a,c,b,i _ (am b),g⟩
def N9{h:ab}{t k j:Nat}(a:aY h [])(b:t<h.T.length)(d:k<4)(e:j<(nth (nth (flushN t h k).1.T t).b k).length):aY (freeAs (spilt (flushN t h k).1 t k) ((nth (nth (flushN t h k).1.T t).b k).take j)) (nth (nth (nth (flushN t h k).1.T t).b k) j::(nth (nth (flushN t h k).1.T t).b k).drop (j+1)):=by
 obtain⟨f,g⟩:=Fc a b d;have c:=((jH a b (k:=k) ω).1).spilt f g.2.1;rw[List.append_nil]at c;refine aY.freeAs ?_;rw[<-jb e,List.take_append_drop];exact c
def Ae(h:ab)(t:Nat)(i:aY h [])(l:t<h.T.length):aT Tryz.prog 433 false [.ptr (bB h),.val none [I (t:Nat)]] [.ptr (bB (flushN t h 4).1),.val none [I (t:Nat)]] .one [I ((flushN t h 4).2:Nat)]:=by
 refine fM 48 [(511,[2,0])] [(6,6,[26,27,28,29,30,31])] [(0,0),(0,0)] Tryz.func433 rfl (λu q=>?_)
 repeat'(first|refine gP ?_|fail)
 (conv=>whnf)
 refine CF (ι:=Nat) (λk=>[(0,.H .box (bB (flushN t h k).1)),(1,.H .one [I ((t:Nat):Int)]),(5,.H .one [I (((flushN t h k).2:Nat):Int)]),(6,.H .one [I ((k:Nat):Int)])]) (λk=>k<=4) (λk=>4 - k) (0) ?_ (W0 _) λk D=>?_
 ·repeat'(first|exact trivial|rfl |refine CL ?_ ?_)
 by_cases n:k<4
 ·obtain⟨o,p,E,F,G⟩:=Fc i l n
  have r:=wj (nth (flushN t h k).1.T t) k p ω;have c:=λj=>N9 i l n (j:=j)
  have e:=ao o;have w:(flushN t h (k+1)).1=freeAs (spilt (flushN t h k).1 t k) (nth (nth (flushN t h k).1.T t).b k):=rfl;have y:(flushN t h (k+1)).2=(flushN t h k).2+(nth (nth (flushN t h k).1.T t).b k).length:=rfl;have a:C.s dY.own ((spilt (flushN t h k).1 t k).T.map (aE.enc .own))=C.s dY.own (((flushN t h k).1.T.map (aE.enc .own)).set t (aE.enc .own (Lf (nth (flushN t h k).1.T t) k))):=by simp[spilt,I6]
  repeat'(first|refine gE ?_|(conv=>whnf);first|refine CG (r) ⟨⟨rfl,aE.enc_fz _⟩,⟨rfl,rfl⟩,⟨rfl,rfl⟩,trivial⟩ ?_|refine CQ rfl rfl (aa e) rfl (I1 rfl) rfl ?_)
  generalize (flushN t h k).1=d at *;generalize (flushN t h k).2=m at *
  (conv=>whnf)
  refine CF (ι:=Nat) (λj=>[(0,.H .box (bB (freeAs (spilt d t k) ((nth (nth d.T t).b k).take j)))),(1,.H .one [I ((t:Nat):Int)]),(5,.H .one [I (((m+j):Nat):Int)]),(6,.H .one [I ((k:Nat):Int)]),(8,.H .one (aD .own (nth (nth d.T t).b k))),(9,.H .one [I ((j:Nat):Int)])]) (λj=>j<=(nth (nth d.T t).b k).length) (λj=>(nth (nth d.T t).b k).length - j) (0) ?_ (W0 _) λj H=>?_
  ·repeat'(first|exact trivial|rfl |exact n6 a|refine CL ?_ ?_)
  by_cases g:j<(nth (nth d.T t).b k).length
  ·have b:=ao g
   have B:=nH _ _ _ (c j g)
   repeat'(first|refine gE ?_|(conv=>whnf);refine CK (B) (.inl rfl) ?_)
   ((conv=>whnf);refine CE (j+1) ω ω ?_)
   rw[vm _ _ _ g];exact wC
  obtain rfl:j=(nth (nth d.T t).b k).length:=ω
  rw[C5]
  repeat'(first|refine gE ?_|fail)
  ((conv=>whnf);refine CE (k+1) ω ω ?_)
  rw[w,y];exact wC
 obtain rfl:k=4:=ω
 repeat'(first|refine gE ?_|fail)
 refine CH rfl rfl ?_;exact wC
def zw(s:Int):Int:=(1103515245*s+12345) % 1073741824
def Dm(s:Int):0<=zw s/\zw s<=1073741823:=by unfold zw;omega
def zP(s:Int)(b:0<=s/\s<=1073741823):ar Tryz.prog 540 false [.val none [I s]] .one [I (zw s)]:=by
 have a:=aH s 0 1073741823;rw[O0 b]at a;refine fO 10 [] Tryz.func540 rfl ?_
 repeat'(first|refine gP ?_|(conv=>whnf);first|refine CR (z:=zw s) (dM ω) ?_|refine CO (by decide) ?_)
 rfl
def sJ(s:Int)(b:0<=s/\s<=1073741823):ar Tryz.prog 80 false [.val none [I s]] .one [B true]:=by
 have a:=aM s 0 1073741823;rw[O0 b]at a;refine fO 5 [] Tryz.func80 rfl ?_
 repeat'(first|refine gP ?_|(conv=>whnf);first|refine CC ?_|refine C8 (a) ?_)
 rfl
def zq(s:Int)(a:0<=s/\s<=1073741823):ar Tryz.prog 460 false [.val none [I s]] .one [I (zw s)]:=by
 refine fO 10 [] Tryz.func460 rfl ?_
 repeat'(first|refine gP ?_|(conv=>whnf);first|refine CR (z:=zw s) (dM ω) ?_|refine C8 (sJ s a) ?_|refine CO (by decide) ?_)
 rfl
def FZ(s n:Int):Int:=zw s / 1024 % n
def r7(s:Int){n:Int}(h:1<=n):0<=FZ s n/\FZ s n<n:=⟨Int.emod_nonneg _ ω,Int.emod_lt_of_pos _ ω⟩
def v6(s n:Int)(b:0<=s/\s<=1073741823)(c:1<=n/\n<=1000):ar Tryz.prog 483 false [.val none [I s],.val none [I n]] (.tup [none,none]) [I (FZ s n),I (zw s)]:=by
 have d:=aH s 0 1073741823;have e:=aH n 1 1000;rw[O0 b]at d;rw[O0 c]at e;have g:=Dm s;have i:=r7 s c.1;have a:(zw s).tdiv 1024=zw s / 1024:=Int.tdiv_eq_ediv_of_nonneg g.1;have h:((zw s).tdiv 1024).tmod n=FZ s n:=by rw[a];exact dM ω
 refine fO 23 [] Tryz.func483 rfl ?_ (.inr ⟨trivial,trivial,trivial⟩)
 repeat'(first|refine gP ?_|(conv=>whnf);first|refine C8 (zP s b) ?_|refine CO (by decide) ?_|refine CO ω ?_|refine CR h ?_)
 rfl
def E7(s n:Int)(b:0<=s/\s<=1073741823)(c:1<=n/\n<=1000):ar Tryz.prog 351 false [.val none [I s],.val none [I n]] (.tup [none,none]) [I (FZ s n),I (zw s)]:=by
 have d:=aM n 1 1000;rw[O0 c]at d;have e:=Dm s;have h:=r7 s c.1;have a:(zw s).tdiv 1024=zw s / 1024:=Int.tdiv_eq_ediv_of_nonneg e.1;have g:((zw s).tdiv 1024).tmod n=FZ s n:=by rw[a];exact dM ω
 refine fO 23 [] Tryz.func351 rfl ?_ (.inr ⟨trivial,trivial,trivial⟩)
 repeat'(first|refine gP ?_|(conv=>whnf);first|refine C8 (sJ s b) ?_|refine C8 (zq s b) ?_|refine CO (by decide) ?_|refine CO ω ?_|refine CR g ?_)
 rfl
def pf(n:Nat):List Int:=(List.range n).map λ(i:Nat)=>(i:Int)
def xb(n:Nat):pf (n+1)=pf n++[(n:Int)]:=by unfold pf;rw[List.range_succ,X5];rfl
def tV(n:Nat):(pf n).length=n:=by simp[pf]
def vQ(xs:List Int)(i k:Nat):List Int:=(xs.set i (nth xs k)).set k (nth xs i)
def Ko(xs:List Int)(i k:Nat):(vQ xs i k).length=xs.length:=by simp[vQ]
def fj(n:Nat)(s:Int):Nat->List Int × Int
 | 0=>(pf n,s)
 | j+1=>(vQ (fj n s j).1 (n - 1 - j) (FZ (fj n s j).2 ((n - 1 - j:Nat)+1:Int)).toNat,zw (fj n s j).2)
def kb(n:Nat){s:Int}(a:0<=s/\s<=1073741823):∀j,(fj n s j).1.length=n/\0<=(fj n s j).2/\(fj n s j).2<=1073741823
 | 0=>⟨tV n,a⟩
 | j+1=>⟨by simp only[fj,Ko];exact(kb n a j).1,Dm _⟩
def shuf(n:Nat)(s:Int):List Int × Int:=fj n s (n - 1)
def Et(xs:List Int)(i k:Nat):(vQ xs i k).map (rI .own)=((xs.map (rI .own)).set i (rI .own (nth xs k))).set k (rI .own (nth xs i)):=by simp[vQ,I6]
def AC{xs:List Int}{i k:Nat}(v:Int)(a:k<xs.length):((xs.map (rI .own)).set i (rI .own v))[k]? = some (rI .own (nth (xs.set i v) k)):=by
 rw[<-I6];exact aa (ao (by rw[U1];exact a))
def zx(n:Nat)(s:Int)(d:0<=s/\s<=1073741823)(w:n<=64):ar Tryz.prog 425 false [.val none [I s],.val none [I (n:Nat)]] (.tup [none,none]) (aD .own (shuf n s).1++[I (shuf n s).2]):=by
 have e:=aH s 0 1073741823;have g:=aH (n:Nat) 0 64;rw[O0 d]at e;rw[O0 ω]at g;refine fO 63 [] Tryz.func425 rfl ?_ (.inr (aI (bH _) ⟨trivial,trivial⟩))
 repeat'(first|refine gP ?_|(conv=>whnf);first|refine CC ?_|refine C8 (e) ?_|refine C8 (g) ?_)
 (conv=>whnf)
 refine CF (ι:=Nat) (λk=>[(0,.H .one [I (s)]),(1,.H .one [I ((n:Nat):Int)]),(6,.H .one (aD .own (pf k))),(7,.H .one [I ((k:Nat):Int)])]) (λk=>k<=n) (λk=>n - k) (0) ?_ (W0 _) λk y=>?_
 ·exact wB
 have h:=tV k;by_cases B:k<n
 ·repeat'(first|refine gE ?_|(conv=>whnf);refine Ap.sm (aP λ_=>rfl) rfl (by simp;omega) (by decide) (gu (rI .own) (pf k) (k:Int)) ?_)
  ((conv=>whnf);refine CE (k+1) ω ω ?_)
  rw[xb];exact wB
 obtain rfl:k=n:=ω
 repeat'(first|refine gE ?_|(conv=>whnf);refine CC ?_)
 (conv=>whnf)
 refine CF (ι:=Nat) (λj=>[(0,.H .one [I ((fj k s j).2)]),(6,.H .one (aD .own (fj k s j).1)),(8,.H .one [I (((k:Int) - 1 - j))])]) (λj=>(j<=k - 1/\j<=k)) (λj=>k - j) (0) ?_ (⟨W0 _,W0 _⟩) λj C=>?_
 ·exact wB
 obtain⟨D,l,o⟩:=kb k d j;by_cases E:j<k - 1
 ·have q:(k:Int) - 1 - j=((k - 1 - j:Nat):Int):=ω
  have r:=r7 (fj k s j).2 (n:=((k - 1 - j:Nat)+1:Int)) ω;have t:=v6 (fj k s j).2 ((k - 1 - j:Nat)+1:Int) ⟨l,o⟩ ω;have u:fj k s (j+1)=(vQ (fj k s j).1 (k - 1 - j) (FZ (fj k s j).2 ((k - 1 - j:Nat)+1:Int)).toNat,zw (fj k s j).2):=rfl;rw[q];generalize fj k s j=p at *;obtain⟨xs,z⟩:=p;simp only at *;generalize k - 1 - j=i at *;have a:=ao (xs:=xs) (i:=i) ω;have b:=ao (xs:=xs) (i:=(FZ z (i+1)).toNat) ω;have c:=AC (xs:=xs) (i:=i) (k:=(FZ z (i+1)).toNat) (nth xs (FZ z (i+1)).toNat) ω
  repeat'(first|refine gE ?_|(conv=>whnf);first|refine CM ω (aa b) ?_|refine CQ rfl rfl (aa a) rfl (I1 rfl) rfl ?_|refine CM ω c ?_|refine CQ rfl rfl c rfl (I1 rfl) rfl ?_)
  ((conv=>whnf);refine CE (j+1) ω ω ?_)
  rw[u];simp only[aD,Et];exact wB
 obtain rfl:j=k - 1:=ω
 repeat'(first|refine gE ?_|(conv=>whnf);refine CC ?_)
 rfl
def zQ(n:Nat)(s:Int)(d:0<=s/\s<=1073741823)(w:n<=64):ar Tryz.prog 286 false [.val none [I s],.val none [I (n:Nat)]] (.tup [none,none]) (aD .own (shuf n s).1++[I (shuf n s).2]):=by
 have g:=sJ s d;have e:=aM (n:Nat) 0 64;rw[O0 ω]at e;refine fO 60 [(12,270,[43,44,45,46,47,48,49,50,51,52,53,54,55,56,0,1,2,3,4,5,6,7,8,9,10,11,12,13,1002,1003,14,15])] Tryz.func286 rfl ?_ (.inr (aI (bH _) ⟨trivial,trivial⟩))
 repeat'(first|refine gP ?_|(conv=>whnf);first|refine CC ?_|refine C8 (g) ?_|refine C8 (e) ?_)
 (conv=>whnf)
 refine CF (ι:=Nat) (λk=>[(0,.H .one [I (s)]),(1,.H .one [I ((n:Nat):Int)]),(6,.H .one (aD .own (pf k))),(7,.H .one [I ((k:Nat):Int)])]) (λk=>k<=n) (λk=>n - k) (0) ?_ (W0 _) λk y=>?_
 ·exact wB
 have h:=tV k;by_cases B:k<n
 ·repeat'(first|refine gE ?_|(conv=>whnf);refine Ap.sm (aP λ_=>rfl) rfl (by simp;omega) (by decide) (gu (rI .own) (pf k) (k:Int)) ?_)
  ((conv=>whnf);refine CE (k+1) ω ω ?_)
  rw[xb];exact wB
 obtain rfl:k=n:=ω
 repeat'(first|refine gE ?_|(conv=>whnf);refine CC ?_)
 (conv=>whnf)
 refine CF (ι:=Nat) (λj=>[(0,.H .one [I ((fj k s j).2)]),(6,.H .one (aD .own (fj k s j).1)),(8,.H .one [I (((k:Int) - 1 - j))])]) (λj=>(j<=k - 1/\j<=k)) (λj=>k - j) (0) ?_ (⟨W0 _,W0 _⟩) λj C=>?_
 ·exact wB
 obtain⟨D,l,o⟩:=kb k d j;by_cases E:j<k - 1
 ·have q:(k:Int) - 1 - j=((k - 1 - j:Nat):Int):=ω
  have r:=r7 (fj k s j).2 (n:=((k - 1 - j:Nat)+1:Int)) ω;have t:=E7 (fj k s j).2 ((k - 1 - j:Nat)+1:Int) ⟨l,o⟩ ω;have u:fj k s (j+1)=(vQ (fj k s j).1 (k - 1 - j) (FZ (fj k s j).2 ((k - 1 - j:Nat)+1:Int)).toNat,zw (fj k s j).2):=rfl;rw[q];generalize fj k s j=p at *;obtain⟨xs,z⟩:=p;simp only at *;generalize k - 1 - j=i at *;have a:=ao (xs:=xs) (i:=i) ω;have b:=ao (xs:=xs) (i:=(FZ z (i+1)).toNat) ω;have c:=AC (xs:=xs) (i:=i) (k:=(FZ z (i+1)).toNat) (nth xs (FZ z (i+1)).toNat) ω
  repeat'(first|refine gE ?_|(conv=>whnf);first|refine CM ω (aa b) ?_|refine CQ rfl rfl (aa a) rfl (I1 rfl) rfl ?_|refine CM ω c ?_|refine CQ rfl rfl c rfl (I1 rfl) rfl ?_)
  ((conv=>whnf);refine CE (j+1) ω ω ?_)
  rw[u];simp only[aD,Et];exact wB
 obtain rfl:j=k - 1:=ω
 repeat'(first|refine gE ?_|(conv=>whnf);refine CC ?_)
 rfl
def sG(b:Int):Nat->Nat
 | 0=>0
 | n+1=>sG b n+(if aU b (n:Nat)=true then 1 else 0)
def t6(b:Int):∀n,sG b n<=n
 | 0=>C3 _
 | n+1=>by have:=t6 b n;simp only[sG];split<;>omega
def wo(b:Int)(d:b<=9223372036854775807):ar Tryz.prog 424 false [.val none [I b]] .one [I (sG b 16:Nat)]:=by
 refine fO 15 [] Tryz.func424 rfl ?_
 repeat'(first|refine gP ?_|fail)
 (conv=>whnf)
 refine CF (ι:=Nat) (λk=>[(0,.H .one [I (b)]),(3,.H .one [I ((sG b k:Nat):Int)]),(4,.H .one [I ((k:Nat):Int)])]) (λk=>k<=16) (λk=>16 - k) (0) ?_ (W0 _) λk g=>?_
 ·exact wB
 have h:=t6 b k;by_cases i:k<16
 ·have a:=iY b (k:Nat) d
  have c:sG b (k+1)=sG b k+(if aU b (k:Nat)=true then 1 else 0):=rfl;cases e:aU b (k:Nat)<;>rw[e]at a c
  all_goals
   repeat'(first|refine gE ?_|(conv=>whnf);refine C8 (a) ?_)
   ((conv=>whnf);refine CE (k+1) ω ω ?_)
   rw[c];exact wB
 obtain rfl:k=16:=ω
 repeat'(first|refine gE ?_|fail)
 rfl
def wn(b:Int)(d:b<=9223372036854775807):ar Tryz.prog 285 false [.val none [I b]] .one [I (sG b 16:Nat)]:=by
 refine fO 15 [] Tryz.func285 rfl ?_
 repeat'(first|refine gP ?_|fail)
 (conv=>whnf)
 refine CF (ι:=Nat) (λk=>[(0,.H .one [I (b)]),(3,.H .one [I ((sG b k:Nat):Int)]),(4,.H .one [I ((k:Nat):Int)])]) (λk=>k<=16) (λk=>16 - k) (0) ?_ (W0 _) λk g=>?_
 ·exact wB
 have h:=t6 b k;by_cases i:k<16
 ·have a:=kR b (k:Nat) d
  have c:sG b (k+1)=sG b k+(if aU b (k:Nat)=true then 1 else 0):=rfl;cases e:aU b (k:Nat)<;>rw[e]at a c
  all_goals
   repeat'(first|refine gE ?_|(conv=>whnf);refine C8 (a) ?_)
   ((conv=>whnf);refine CE (k+1) ω ω ?_)
   rw[c];exact wB
 obtain rfl:k=16:=ω
 repeat'(first|refine gE ?_|fail)
 rfl
def qK(h:ab)(s:ax):Bool:=decide (0<sG s.b2 16)&&decide ((aX h s.R).length=1)
def jw(h:ab):Nat->List ax
 | 0=>[]
 | n+1=>if qK h (nth h.K n)=true then jw h n++[nth h.K n] else jw h n
def iw(h:ab):List ax:=jw h h.K.length
def pD(h:ab):∀n,(jw h n).length<=n
 | 0=>C3 _
 | n+1=>by have:=pD h n;simp only[jw];split<;>simp<;>omega
def ni(h:ab):∀{n:Nat},n<=h.K.length->∀s∈jw h n,s∈h.K
 | 0,_,s,a=>by cases a
 | n+1,b,s,a=>by
  simp only[jw]at a;split at a
  ·rcases z3.1 a with a|a
   ·exact ni h ω s a
   rw[O1.1 a];exact am ω
  exact ni h ω s a
def xD(h:ab)(j:yN h)(q:h.K.length<=1000)(r:eQ h<=1000)(l:∀s∈h.K,s.b2<=9223372036854775807):ar Tryz.prog 289 false [.val (some 24) (ab.enc .X h)] .one (bX .own (iw h)):=by
 refine fO 42 [(5,16,[13,14,15,16,17,18,19,20,21,22,23,24,25,26,27,28])] Tryz.func289 rfl ?_ (.inr (xw _))
 repeat'(first|refine gP ?_|fail)
 (conv=>whnf)
 refine CF (ι:=Nat) (λk=>[(1,.H .box (ab.enc .X h)),(3,.H .one (bX .own (jw h k))),(4,.H .one [I ((k:Nat):Int)])]) (λk=>k<=h.K.length) (λk=>h.K.length - k) (0) ?_ (W0 _) λk t=>?_
 ·exact wB
 have n:=pD h k;by_cases e:k<h.K.length
 ·have c:=ao e
  have d:=wo (nth h.K k).b2 (l _ (am e));have b:=iF h (nth h.K k).R j;have o:=gw h (nth h.K k).R;have p:=t6 (nth h.K k).b2 16;have a:jw h (k+1)=if qK h (nth h.K k)=true then jw h k++[nth h.K k] else jw h k:=rfl
  by_cases g:0<sG (nth h.K k).b2 16
  ·by_cases i:(aX h (nth h.K k).R).length=1
   ·rw[CB (by unfold qK;simp[g,i])]at a
    repeat'(first|refine gB ?_|(conv=>whnf);refine Ap.sm (aP λ_=>rfl) rfl (by simp;omega) (by decide) (gu (ax.enc .own) (jw h k) (nth h.K k)) ?_)
    ((conv=>whnf);refine CE (k+1) ω ω ?_)
    rw[a];exact wB
   rw[C9 (by unfold qK;simp[i])]at a
   repeat'(first|refine gB ?_|(conv=>whnf);first|refine CD (aa c) ?_|refine C8 (d) ?_|refine C8 (b) ?_|refine CC ?_)
   ((conv=>whnf);refine CE (k+1) ω ω ?_)
   rw[a];exact wB
  rw[C9 (by unfold qK;simp[g])]at a
  repeat'(first|refine gE ?_|(conv=>whnf);first|refine CD (aa c) ?_|refine C8 (d) ?_|refine C8 (b) ?_|refine CC ?_)
  ((conv=>whnf);refine CE (k+1) ω ω ?_)
  rw[a];exact wB
 obtain rfl:k=h.K.length:=ω
 repeat'(first|refine gE ?_|fail)
 rfl
def yF(h:ab)(j:yN h)(q:h.K.length<=1000)(r:eQ h<=1000)(l:∀s∈h.K,s.b2<=9223372036854775807):ar Tryz.prog 126 false [.val (some 24) (ab.enc .X h)] .one (bX .own (iw h)):=by
 refine fO 32 [] Tryz.func126 rfl ?_ (.inr (xw _))
 repeat'(first|refine gP ?_|fail)
 (conv=>whnf)
 refine CF (ι:=Nat) (λk=>[(1,.H .box (ab.enc .X h)),(3,.H .one (bX .own (jw h k))),(8,.H .one (bX .X h.K)),(9,.H .one [I (h.K.length)]),(10,.H .one [I ((k:Nat):Int)])]) (λk=>k<=h.K.length) (λk=>h.K.length - k) (0) ?_ (W0 _) λk t=>?_
 ·exact wB
 have n:=pD h k;by_cases e:k<h.K.length
 ·have b:=ao e
  have c:=wn (nth h.K k).b2 (l _ (am e));have d:=oC h (nth h.K k).R j;have o:=gw h (nth h.K k).R;have p:=t6 (nth h.K k).b2 16;have a:jw h (k+1)=if qK h (nth h.K k)=true then jw h k++[nth h.K k] else jw h k:=rfl
  by_cases g:0<sG (nth h.K k).b2 16
  ·by_cases i:(aX h (nth h.K k).R).length=1
   ·rw[CB (by unfold qK;simp[g,i])]at a
    repeat'(first|refine gB ?_|(conv=>whnf);refine Ap.sm (aP λ_=>rfl) rfl (by simp;omega) (by decide) (gu (ax.enc .own) (jw h k) (nth h.K k)) ?_)
    ((conv=>whnf);refine CE (k+1) ω ω ?_)
    rw[a];exact wB
   rw[C9 (by unfold qK;simp[i])]at a
   repeat'(first|refine gB ?_|(conv=>whnf);first|refine CD (aa b) ?_|refine C8 (c) ?_|refine C8 (d) ?_|refine CC ?_)
   ((conv=>whnf);refine CE (k+1) ω ω ?_)
   rw[a];exact wB
  rw[C9 (by unfold qK;simp[g])]at a
  repeat'(first|refine gE ?_|(conv=>whnf);first|refine CD (aa b) ?_|refine C8 (c) ?_|refine C8 (d) ?_|refine CC ?_)
  ((conv=>whnf);refine CE (k+1) ω ω ?_)
  rw[a];exact wB
 obtain rfl:k=h.K.length:=ω
 repeat'(first|refine gE ?_|fail)
 rfl
def rE(s:ax)(c:Nat):Bool:=aU s.b2 (((c:Nat):Int) / csz s.d)
def tp(s:ax)(n:Nat):List Int:=((List.range n).filter (rE s)).map λ(i:Nat)=>(i:Int)
def HU{s:ax}{n:Nat}(h:rE s n=true):tp s (n+1)=tp s n++[(n:Int)]:=by
 unfold tp;rw[List.range_succ,List.filter_append,X5];simp[h]
def Nc{s:ax}{n:Nat}(h:rE s n=false):tp s (n+1)=tp s n:=by
 unfold tp;rw[List.range_succ,List.filter_append,X5];simp[h]
def mb(s:ax)(n:Nat):(tp s n).length<=n:=by
 unfold tp;rw[C1];exact Z4 (List.length_filter_le _ _) (by simp)
def Jk{s:ax}(a:bg s=true){c:Nat}(d:c<16):0<=((c:Nat):Int) / csz s.d/\((c:Nat):Int) / csz s.d<=15:=by
 have f:=aF a;have b:csz s.d=1\/csz s.d=2\/csz s.d=4\/csz s.d=8:=bP ω;rcases b with e|e|e|e<;>rw[e]<;>omega
def oX(s:ax)(a:bg s=true):ar Tryz.prog 426 false [.val (some 3) (ax.enc .X s)] .one (aD .own (tp s 16)):=by
 have b:=gM s;rw[a]at b;have g:=aF a;have n:=bP g.2.2;refine fO 27 [(5,7,[14,15,16,17,18,19,20])] Tryz.func426 rfl ?_ (.inr (bH _))
 repeat'(first|refine gP ?_|fail)
 (conv=>whnf)
 refine CF (ι:=Nat) (λi=>[(1,.H .box (ax.enc .X s)),(3,.H .one (aD .own (tp s i))),(4,.H .one [I ((i:Nat):Int)])]) (λi=>i<=16) (λi=>16 - i) (0) ?_ (W0 _) λi o=>?_
 ·exact wB
 have h:=mb s i;by_cases j:i<16
 ·have k:=Jk a j
  have d:IntKind.i64.wrap (((i:Nat):Int).tdiv (csz s.d))=((i:Nat):Int) / csz s.d:=by rw[ko ω];exact eP ω ω
  have c:=iY s.b2 (((i:Nat):Int) / csz s.d) (f9 a).2;cases e:rE s i
  ·rw[show aU s.b2 (((i:Nat):Int) / csz s.d)=false from e]at c
   repeat'(first|refine gE ?_|(conv=>whnf);first|refine C8 (ef _) ?_|refine CO ω ?_|refine CN d ?_)
   ((conv=>whnf);refine CE (i+1) ω ω ?_)
   rw[Nc e];exact wB
  rw[show aU s.b2 (((i:Nat):Int) / csz s.d)=true from e]at c
  repeat'(first|refine gE ?_|(conv=>whnf);first|refine C8 (ef _) ?_|refine CO ω ?_|refine CN d ?_|refine CU co (λr l=>by rw[O1.1 l];rfl) (by simp[aZ,eD]) (by simp;omega) (by simp only[C1];exact zh (by simp;omega) (by decide)) rfl ?_)
  ((conv=>whnf);refine CE (i+1) ω ω ?_)
  rw[HU e]
  (repeat'(first|exact trivial|rfl|exact CL rfl (CL (X0 (C.s dY.own) (by simp[rI])) trivial)|refine CL ?_ ?_))
 obtain rfl:i=16:=ω
 repeat'(first|refine gE ?_|(conv=>whnf);refine C8 (b) ?_)
 rfl
def pB(s:ax)(a:bg s=true):ar Tryz.prog 258 false [.val (some 3) (ax.enc .X s)] .one (aD .own (tp s 16)):=by
 have c:=iQ s;rw[a]at c;have g:=aF a;have n:=bP g.2.2;refine fO 26 [(7,7,[13,14,15,16,17,18,19])] Tryz.func258 rfl ?_ (.inr (bH _))
 repeat'(first|refine gP ?_|(conv=>whnf);refine C8 (c) ?_)
 (conv=>whnf)
 refine CF (ι:=Nat) (λi=>[(1,.H .box (ax.enc .X s)),(3,.H .one (aD .own (tp s i))),(4,.H .one [I ((i:Nat):Int)])]) (λi=>i<=16) (λi=>16 - i) (0) ?_ (W0 _) λi o=>?_
 ·exact wB
 have h:=mb s i;by_cases j:i<16
 ·have k:=Jk a j
  have d:IntKind.i64.wrap (((i:Nat):Int).tdiv (csz s.d))=((i:Nat):Int) / csz s.d:=by rw[ko ω];exact eP ω ω
  have b:=kR s.b2 (((i:Nat):Int) / csz s.d) (f9 a).2;cases e:rE s i
  ·rw[show aU s.b2 (((i:Nat):Int) / csz s.d)=false from e]at b
   repeat'(first|refine gE ?_|(conv=>whnf);first|refine C8 (ee _) ?_|refine CO ω ?_|refine CN d ?_)
   ((conv=>whnf);refine CE (i+1) ω ω ?_)
   rw[Nc e];exact wB
  rw[show aU s.b2 (((i:Nat):Int) / csz s.d)=true from e]at b
  repeat'(first|refine gE ?_|(conv=>whnf);first|refine C8 (ee _) ?_|refine CO ω ?_|refine CN d ?_|refine CU co (λr l=>by rw[O1.1 l];rfl) (by simp[aZ,eD]) (by simp;omega) (by simp only[C1];exact zh (by simp;omega) (by decide)) rfl ?_)
  ((conv=>whnf);refine CE (i+1) ω ω ?_)
  rw[HU e]
  (repeat'(first|exact trivial|rfl|exact CL rfl (CL (X0 (C.s dY.own) (by simp[rI])) trivial)|refine CL ?_ ?_))
 obtain rfl:i=16:=ω
 repeat'(first|refine gE ?_|fail)
 rfl
structure dO where
 A:Int
 B:Int
deriving DecidableEq,Inhabited
def dO.enc(_:dY)(x:dO):List C:=[I x.A,I x.B]
def fh(o:dY)(x:List dO):List C:=[.s o (x.map (dO.enc o))]
def yk(x:List dO):ia (fh .own x):=⟨⟨.inl λh=>(by cases h),bf _ _ λ_ _=>⟨trivial,trivial,trivial⟩⟩,trivial⟩
def yB(xs:List dO)(pr:dO->Bool)(g:xs.length<=9223372036854775807):ar Tryz.prog 507 false [.val none (fh .X xs),.fn (oH Tryz.prog (Al (some 2) (dO.enc .X) pr xs))] .one [I (dH pr xs)]:=by
 refine fO 19 [] Tryz.func507 rfl ?_
 repeat'(first|refine gP ?_|fail)
 (conv=>whnf)
 refine CF (ι:=Nat) (λi=>[(0,.H .one (fh .X xs)),(1,.fv (oH Tryz.prog (Al (some 2) (dO.enc .X) pr xs))),(7,.H .one [I xs.length]),(8,.H .one [I (i:Nat)])]) (λi=>i<=xs.length/\∀(j:Nat)(z:dO),j<i->xs[j]? = some z->pr z=false) (λi=>xs.length - i) 0 ?_ ⟨W0 _,λj z h=>ω⟩ λi d=>?_
 ·exact wB
 obtain⟨d,b⟩:=d;by_cases c:i<xs.length
 ·obtain⟨y,a⟩ : ∃y,xs[i]? = some y:=⟨_,I2 c⟩
  repeat'(first|refine gE ?_|(conv=>whnf);first|refine Fv.mk (k:=.one) (rcs:=[B (pr y)]) ⟨y,Z1 a,rfl,rfl,rfl⟩ ?_|refine Bf.P (λe=>?_) (λe=>?_))
  ·exact X0 (λz=>[I z]) (dI a ‹_› b).symm
  (conv=>whnf)
  refine CE (i+1) ⟨ω,dz a (by assumption) b⟩ ω ?_;exact wB
 repeat'(first|refine gE ?_|fail)
 exact X0 (λz=>[I z]) (gv ω b).symm
def sI(xs:List dO)(pr:dO->Bool)(a:xs.length<=9223372036854775807):ar Tryz.prog 421 false [.val none (fh .X xs),.fn (oH Tryz.prog (Al (some 2) (dO.enc .X) pr xs))] .one [B (xs.any pr)]:=by
 refine fO 9 [] Tryz.func421 rfl ?_
 repeat'(first|refine gP ?_|(conv=>whnf);refine C8 (yB xs pr a) ?_)
 exact X0 (λz=>[B z]) (jC pr xs)
def Df(i:Int)(p:dO):Bool:=decide (p.A=i) || decide (p.B=i)
def FM(p:dO)(i:Int):ar Tryz.prog 422 false [.val (some 2) (dO.enc .X p),.ptr [I i]] .one [B (Df i p)]:=by
 refine fO 14 [] Tryz.func422 rfl ?_
 repeat'(first|refine gP ?_|(conv=>whnf);with_reducible refine Bf.E (λa=>?_) (λa=>?_))
 all_goals exact X0 (λz=>[B z]) ((by unfold Df;first|(simp[*];done)|(simp[*];rw[Y4];simp)))
def xe(xs:List dO)(i:Int)(b:xs.length<=1048576):ar Tryz.prog 287 false [.val none (fh .X xs),.val none [I i]] .one [B (xs.any (Df i))]:=by
 refine fO 8 [] Tryz.func287 rfl ?_
 repeat'(first|refine gP ?_|(conv=>whnf);first|refine Cq.mk (Al (some 2) (dO.enc .X) (Df i) xs) (FM default i).has (λL k rcs a=>?_) ?_|refine C8 (sI xs (Df i) ω) ?_)
 ·obtain⟨y,-,rfl,rfl,rfl⟩:=a
  exact FM y i
 rfl
def cX(a b:ax):bY:=if(tp a 16).length<(tp b 16).length then⟨b.R,a.R,tp a 16⟩ else⟨a.R,b.R,tp b 16⟩
def zM(a b:ax)(g:meshable a b=true)(h:bg a=true)(i:bg b=true):ar Tryz.prog 291 false [.val (some 3) (ax.enc .X a),.val (some 3) (ax.enc .X b)] (.tup [some 3,none]) (bY.enc .own (cX a b)++[B true]):=by
 have c:=mI a b;rw[g]at c;have d:=oX a h;have e:=oX b i;have j:=mb a 16;have k:=mb b 16;unfold cX;split
 ·refine fO 27 [(3,6,[11,12,13,14,15,16]),(5,6,[20,21,22,23,24,25])] Tryz.func291 rfl ?_ (.inr (aI (bY.enc_fr _) ⟨trivial,trivial⟩))
  repeat'(first|refine gE ?_|(conv=>whnf);first|refine C8 (c) ?_|refine C8 (d) ?_|refine C8 (e) ?_|refine CC ?_)
  rfl
 refine fO 27 [(3,6,[11,12,13,14,15,16]),(5,6,[20,21,22,23,24,25])] Tryz.func291 rfl ?_ (.inr (aI (bY.enc_fr _) ⟨trivial,trivial⟩))
 repeat'(first|refine gE ?_|(conv=>whnf);first|refine C8 (c) ?_|refine C8 (d) ?_|refine C8 (e) ?_|refine CC ?_)
 rfl
def zW(a b:ax)(g:meshable a b=true)(h:bg a=true)(i:bg b=true):ar Tryz.prog 128 false [.val (some 3) (ax.enc .X a),.val (some 3) (ax.enc .X b)] (.tup [some 3,none]) (bY.enc .own (cX a b)++[B true]):=by
 have c:=m0 a b;rw[g]at c;have d:=pB a h;have e:=pB b i;have j:=mb a 16;have k:=mb b 16;unfold cX;split
 ·refine fO 34 [(3,3,[13,14,15])] Tryz.func128 rfl ?_ (.inr (aI (bY.enc_fr _) ⟨trivial,trivial⟩))
  repeat'(first|refine gE ?_|(conv=>whnf);first|refine C8 (c) ?_|refine C8 (d) ?_|refine C8 (e) ?_|refine CC ?_)
  rfl
 refine fO 34 [(3,3,[13,14,15])] Tryz.func128 rfl ?_ (.inr (aI (bY.enc_fr _) ⟨trivial,trivial⟩))
 repeat'(first|refine gE ?_|(conv=>whnf);first|refine C8 (c) ?_|refine C8 (d) ?_|refine C8 (e) ?_|refine CC ?_)
 rfl
def sY(p:bY):cn:=⟨p,0,0⟩
def Fr(p:bY)(c:eO p=true)(a:bY.sml p):ar Tryz.prog 292 false [.val (some 3) (bY.enc .X p)] (.tup [some 5,none]) (cn.enc .own (sY p)++[B true]):=by
 have b:=vH p a;rw[c]at b;have d:=ta (sY p) a;refine fO 11 [] Tryz.func292 rfl ?_ (.inr (aI (cn.enc_fr _) ⟨trivial,trivial⟩))
 repeat'(first|refine gP ?_|(conv=>whnf);first|refine C8 (b) ?_|refine C8 (d) ?_)
 rfl
def Fz(p:bY)(c:eO p=true)(a:bY.sml p):ar Tryz.prog 129 false [.val (some 3) (bY.enc .X p)] (.tup [some 5,none]) (cn.enc .own (sY p)++[B true]):=by
 have b:=vr p a;rw[c]at b;have d:=qT p a;refine fO 11 [] Tryz.func129 rfl ?_ (.inr (aI (cn.enc_fr _) ⟨trivial,trivial⟩))
 repeat'(first|refine gP ?_|(conv=>whnf);first|refine C8 (b) ?_|refine C8 (d) ?_)
 rfl
def qg(n:Nat){s:Int}(c:0<=s/\s<=1073741823):∀{j:Nat},j<=n - 1->∀x∈(fj n s j).1,0<=x/\x<n
 | 0,_,x,a=>by
  simp only[fj,pf,O4,List.mem_range]at a;obtain⟨i,d,rfl⟩:=a;omega
 | j+1,e,x,a=>by
  have f:=(kb n c j).1;have b:=qg n c (j:=j) ω;have g:=r7 (fj n s j).2 (n:=((n - 1 - j:Nat)+1:Int)) ω;simp only[fj,vQ]at a;rcases V6 a with a|rfl
  ·rcases V6 a with a|rfl
   ·exact b x a
   exact b _ (am ω)
  exact b _ (am ω)
def tkn(out:List dO)(a:Int):Bool:=out.any (Df a)
def stp(a:List ax)(p:List Int)(t i:Nat)(out:List dO):List dO:=
 if tkn out (nth p i)=false/\tkn out (nth p (p.length / 2+(i+t) % (p.length - p.length / 2)))=false/\meshable (nth a (nth p i).toNat) (nth a (nth p (p.length / 2+(i+t) % (p.length - p.length / 2))).toNat)=true then out++[⟨nth p i,nth p (p.length / 2+(i+t) % (p.length - p.length / 2))⟩] else out
def q7(a:List ax)(p:List Int)(t:Nat)(out:List dO):Nat->List dO
 | 0=>out
 | i+1=>stp a p t i (q7 a p t out i)
def lV(a:List ax)(p:List Int):Nat->List dO
 | 0=>[]
 | t+1=>q7 a p t (lV a p t) (p.length / 2)
def Qa(a:List ax)(p:List Int)(t i:Nat)(out:List dO):(stp a p t i out).length<=out.length+1:=by unfold stp;split<;>simp
def sM(a:List ax)(p:List Int)(t:Nat)(out:List dO):∀i,(q7 a p t out i).length<=out.length+i
 | 0=>C3 _
 | i+1=>by have b:=sM a p t out i;have c:=Qa a p t i (q7 a p t out i);simp only[q7];omega
def xn(a:List ax)(p:List Int):∀t,(lV a p t).length<=t*(p.length / 2)
 | 0=>W0 _
 | t+1=>by have b:=xn a p t;have c:=sM a p t (lV a p t) (p.length / 2);simp only[lV];rw[Nat.add_mul];omega
def iX(a:List ax)(s:Int):List dO:=lV a (shuf a.length s).1 3
def ox(n:Nat)(out:List dO):List Bool:=(List.range n).map λ(i:Nat)=>tkn out (i:Nat)
def Kl{n:Nat}{out:List dO}{a:Int}(h:0<=a/\a<n):(ox n out)[a.toNat]? = some (tkn out a):=by
 unfold ox;rw[I3,Y6 ω];show some (tkn out ((a.toNat:Nat):Int))=_;rw[Int.toNat_of_nonneg h.1]
def Nj{n:Nat}{out:List dO}{a b:Int}(f:0<=a/\a<n)(g:0<=b/\b<n):ox n (out++[⟨a,b⟩])=((ox n out).set a.toNat true).set b.toNat true:=by
 unfold ox;apply List.ext_getElem?;intro i;by_cases c:i<n
 ·rw[I3,Y6 c]
  by_cases d:b.toNat=i
  ·subst d
   rw[W3 (by simp;omega)];simp only[I5,tkn,List.any_append,List.any_cons,List.any_nil,Df];rw[Int.toNat_of_nonneg g.1];simp
  rw[List.getElem?_set_ne d];by_cases e:a.toNat=i
  ·subst e
   rw[W3 (by simp;omega)];simp only[I5,tkn,List.any_append,List.any_cons,List.any_nil,Df];rw[Int.toNat_of_nonneg f.1];simp
  rw[List.getElem?_set_ne e,I3,Y6 c];simp only[I5,tkn,List.any_append,List.any_cons,List.any_nil,Df];rw[U0 ω,U0 ω];simp
 rw[U2 (by simp;omega),U2 (by simp;omega)]
def QK(n:Nat):(ox n []).map (rB .own)=List.replicate n [B false]:=by
 unfold ox;rw[List.map_map];apply List.ext_getElem?;intro i;rw[I3];by_cases a:i<n
 ·rw[Y6 a,List.getElem?_replicate];simp[a];rfl
 rw[U2 (by simp;omega),List.getElem?_replicate];simp[a]
def Kv{xs:List Bool}{i k:Nat}(v:Bool)(a:k<xs.length):((xs.map (rB .own)).set i (rB .own v))[k]? = some (rB .own (nth (xs.set i v) k)):=by
 rw[<-I6];exact aa (ao (by rw[U1];exact a))
def wh(c:List ax)(s:Int)(u:0<=s/\s<=1073741823)(V:c.length<=16):ar Tryz.prog 290 false [.val none (bX .X c),.val none [I s],.val none [I 3]] (.tup [none,none]) (fh .own (iX c s)++[I (shuf c.length s).2]):=by
 have J:=aH s 0 1073741823;rw[O0 u]at J;have K:=aH 3 0 16;rw[O0 ω]at K;have Q:=zx c.length s u ω;have D:=(kb c.length u (c.length - 1)).1;have e:=qg c.length u (C3 _);unfold iX;change (shuf c.length s).1.length=_ at D;change ∀x∈(shuf c.length s).1,_ at e
 have E:ia (fh .own (lV c (shuf c.length s).1 3)++[I (shuf c.length s).2]):=aI (yk _) ⟨trivial,trivial⟩;generalize shuf c.length s=q at *;obtain⟨p,z⟩:=q;simp only at *;have F:((p.length:Nat):Int).tdiv 2=((p.length / 2:Nat):Int):=by rw[Int.tdiv_eq_ediv_of_nonneg ω];omega
 have g:C.s dY.own ((ox c.length []).map (rB .own))=C.s dY.own (List.replicate c.length [B false]):=by rw[QK]
 have h:∀i:Nat,i<p.length->0<=nth p i/\nth p i<c.length:=λi R=>e _ (am R)
 refine fO 110 [(15,21,[73,74,75,76,77,78,79,80,81,82,83,84,85,86,87,88,89,90,91,92,93])] Tryz.func290 rfl ?_ (.inr E)
 repeat'(first|refine gE ?_|(conv=>whnf);first|refine CO (by decide) ?_|refine Mk.mk c.length rfl rfl ω (zh ω (by decide)) rfl ?_)
 (conv=>whnf)
 refine CF (ι:=Nat) (λt=>[(0,.H .one (bX .X c)),(2,.H .one [I (3)]),(8,.H .one (fh .own (lV c p t))),(9,.H .one (aD .own p)),(10,.H .one [I (z)]),(11,.H .one [I (((p.length / 2):Nat):Int)]),(12,.H .one (xJ .own (ox c.length (lV c p t)))),(13,.H .one [I ((t:Nat):Int)])]) (λt=>t<=3) (λt=>3 - t) (0) ?_ (W0 _) λt S=>?_
 ·repeat'(first|exact trivial|rfl |exact n6 g|refine CL ?_ ?_)
 have W:=xn c p t;have ol2:t*(p.length / 2)<=3*8:=Nat.mul_le_mul S ω;by_cases X:t<3
 ·repeat'(first|refine gE ?_|fail)
  (conv=>whnf)
  refine CF (ι:=Nat) (λj=>[(0,.H .one (bX .X c)),(2,.H .one [I (3)]),(8,.H .one (fh .own (q7 c p t (lV c p t) j))),(9,.H .one (aD .own p)),(10,.H .one [I (z)]),(11,.H .one [I (((p.length / 2):Nat):Int)]),(12,.H .one (xJ .own (ox c.length (q7 c p t (lV c p t) j)))),(13,.H .one [I ((t:Nat):Int)]),(14,.H .one [I ((j:Nat):Int)])]) (λj=>j<=p.length / 2) (λj=>p.length / 2 - j) (0) ?_ (W0 _) λj Y=>?_
  ·repeat'(first|exact trivial|rfl |refine CL ?_ ?_)
  have Z:=sM c p t (lV c p t) j;by_cases lj:j<p.length / 2
  ·have L:(j+t) % (p.length - p.length / 2)<p.length - p.length / 2:=Nat.mod_lt _ ω
   have G:((j:Int)+t).tmod ((p.length:Int) - (p.length / 2:Nat))=(((j+t) % (p.length - p.length / 2):Nat):Int):=by
    rw[dM ω,Int.natCast_emod];congr 1;omega
   have d:q7 c p t (lV c p t) (j+1)=stp c p t j (q7 c p t (lV c p t) j):=rfl;unfold stp at d;generalize q7 c p t (lV c p t) j=out at *;have l:p.length / 2+(j+t) % (p.length - p.length / 2)<p.length:=ω
   generalize hk:(j+t) % (p.length - p.length / 2)=k at *;have n:=ao (xs:=p) (i:=j) ω;have o:=ao (xs:=p) (i:=p.length / 2+k) l;have w:=h j ω;have r:=h _ l;generalize nth p j=a at *;generalize nth p (p.length / 2+k)=b at *;have y:=Kl (out:=out) w;have H:=Kl (out:=out) r;have T:=ao (xs:=c) (i:=a.toNat) ω;have U:=ao (xs:=c) (i:=b.toNat) ω;have M:=mI (nth c a.toNat) (nth c b.toNat);have ub2:=Kv (xs:=ox c.length out) (i:=a.toNat) (k:=b.toNat) true (by simp[ox];omega);cases N:tkn out a<;>cases O:tkn out b<;>cases P:meshable (nth c a.toNat) (nth c b.toNat)
   all_goals
    rw[N]at y;rw[O]at H;rw[P]at M;rw[N,O,P]at d;simp only[and_true,true_and,if_true,Bool.false_eq_true,Bool.true_eq_false,and_false,false_and,if_false]at d
    repeat'(first|refine gE ?_|(conv=>whnf);first|refine CR G ?_|refine CO ω ?_|refine CM w.1 (aa y) ?_|refine CM r.1 (aa H) ?_|refine CM w.1 (aa T) ?_|refine CM r.1 (aa U) ?_|refine CQ rfl rfl (aa y) rfl (I1 rfl) rfl ?_|refine CM r.1 ub2 ?_|refine CQ rfl rfl ub2 rfl (I1 rfl) rfl ?_|refine Ap.sm (aP λ_=>rfl) rfl (by simp;omega) (by decide) (gu (dO.enc .own) out ⟨a,b⟩) ?_)
    ((conv=>whnf);refine CE (j+1) ω ω ?_)
    rw[d]
    first|(rw[Nj w r];simp only[xJ,I6])|skip
    exact wB
  obtain rfl:j=p.length / 2:=ω
  repeat'(first|refine gE ?_|fail)
  ((conv=>whnf);refine CE (t+1) ω ω ?_;(exact wB))
 obtain rfl:t=3:=ω
 repeat'(first|refine gE ?_|fail)
 rfl
def ro(x:List dO):eG (fh .own x)=fh .X x:=by simp[eG,fh,dO.enc,<-cw,Y5]
def wy(c:List ax)(s:Int)(r:0<=s/\s<=1073741823)(Y:c.length<=16):ar Tryz.prog 127 false [.val none (bX .X c),.val none [I s],.val none [I 3]] (.tup [none,none]) (fh .own (iX c s)++[I (shuf c.length s).2]):=by
 have O:=sJ s r;have H:=aM 3 0 16;rw[O0 ω]at H;have P:=zQ c.length s r ω;have g:=(kb c.length r (c.length - 1)).1;have h:=qg c.length r (C3 _);unfold iX;change (shuf c.length s).1.length=_ at g;change ∀x∈(shuf c.length s).1,_ at h
 have y:ia (fh .own (lV c (shuf c.length s).1 3)++[I (shuf c.length s).2]):=aI (yk _) ⟨trivial,trivial⟩;generalize shuf c.length s=q at *;obtain⟨p,z⟩:=q;simp only at *;have B:((p.length:Nat):Int).tdiv 2=((p.length / 2:Nat):Int):=by rw[Int.tdiv_eq_ediv_of_nonneg ω];omega
 have D:fz (C.s dY.own (p.map (rI .own)))=C.s dY.X (p.map (rI .X)):=(List.cons.inj (eg p)).1;have l:(p.drop (p.length / 2)).length=p.length - p.length / 2:=U3 ..;have Q:(p.take (p.length / 2)).length=p.length / 2:=by rw[V1];omega
 have n:∀i:Nat,i<p.length->0<=nth p i/\nth p i<c.length:=λi R=>h _ (am R)
 have d:((c.length:Nat):Int).tdiv 2=((p.length / 2:Nat):Int):=by rw[<-g];exact B
 refine fO 99 [(5,264,[39,40,41,42,43,44,45,46,0,1,2,3,4,5,6,7,8,1004,1005,1006,1007,9]),(14,19,[69,70,71,72,73,74,75,76,77,78,79,80,81,82,83,84,85,86,87]),(1048581,9,[0])] Tryz.func127 rfl ?_ (.inr y)
 repeat'(first|refine gE ?_|(conv=>whnf);first|refine CO (by decide) ?_|refine G7.mk rfl D rfl ?_|refine CV (p.length / 2) d (by rw[C1];omega) (aP λ_=>rfl) C4 ?_|refine Sl.suf (p.length / 2) d (by rw[C1];omega) (aP λ_=>rfl) I4 ?_)
 (conv=>whnf)
 refine CF (ι:=Nat) (λt=>[(0,.H .one (bX .X c)),(2,.H .one [I (3)]),(10,.H .one [I (z)]),(11,.H .one (aD .X (p.take (p.length / 2)))),(12,.H .one (aD .X (p.drop (p.length / 2)))),(13,.H .one (fh .own (lV c p t))),(14,.H .one [I ((t:Nat):Int)])]) (λt=>t<=3) (λt=>3 - t) (0) ?_ (W0 _) λt S=>?_
 ·exact wB
 have Z:=xn c p t;have ol2:t*(p.length / 2)<=3*8:=Nat.mul_le_mul S ω;by_cases lt:t<3
 ·repeat'(first|refine gE ?_|(conv=>whnf);refine CC ?_)
  (conv=>whnf)
  refine CF (ι:=Nat) (λj=>[(0,.H .one (bX .X c)),(2,.H .one [I (3)]),(10,.H .one [I (z)]),(11,.H .one (aD .X (p.take (p.length / 2)))),(12,.H .one (aD .X (p.drop (p.length / 2)))),(13,.H .one (fh .own (q7 c p t (lV c p t) j))),(14,.H .one [I ((t:Nat):Int)]),(53,.H .one (aD .X (p.take (p.length / 2)))),(54,.H .one [I (((p.length / 2):Nat):Int)]),(55,.H .one [I ((j:Nat):Int)])]) (λj=>j<=p.length / 2) (λj=>p.length / 2 - j) (0) ?_ (W0 _) λj hj=>?_
  ·exact wB
  have rl:=sM c p t (lV c p t) j;by_cases T:j<p.length / 2
  ·have J:(j+t) % (p.length - p.length / 2)<p.length - p.length / 2:=Nat.mod_lt _ ω
   have E:((j:Int)+t).tmod ((p.length - p.length / 2:Nat):Int)=(((j+t) % (p.length - p.length / 2):Nat):Int):=by
    rw[dM ω,Int.natCast_emod];congr 1
   have e:q7 c p t (lV c p t) (j+1)=stp c p t j (q7 c p t (lV c p t) j):=rfl;unfold stp at e;generalize q7 c p t (lV c p t) j=out at *;have o:p.length / 2+(j+t) % (p.length - p.length / 2)<p.length:=ω
   generalize hk:(j+t) % (p.length - p.length / 2)=k at *;have F:(p.take (p.length / 2))[j]? = some (nth p j):=by rw[List.getElem?_take,CB T];exact ao ω
   have G:(p.drop (p.length / 2))[k]? = some (nth p (p.length / 2+k)):=by rw[List.getElem?_drop];exact ao o
   have U:=n j ω;have V:=n _ o;generalize nth p j=a at *;generalize nth p (p.length / 2+k)=b at *;have K:=xe out a ω;have L:=xe out b ω;have W:=ao (xs:=c) (i:=a.toNat) ω;have X:=ao (xs:=c) (i:=b.toNat) ω;have M:=m0 (nth c a.toNat) (nth c b.toNat);cases u:tkn out a<;>cases w:tkn out b<;>cases N:meshable (nth c a.toNat) (nth c b.toNat)
   all_goals
    unfold tkn at u w;rw[u]at K;rw[w]at L;change (tkn out a)=_ at u;change (tkn out b)=_ at w;rw[N]at M;rw[u,w,N]at e;simp only[and_true,true_and,if_true,Bool.false_eq_true,Bool.true_eq_false,and_false,false_and,if_false]at e
    repeat'(first|refine gE ?_|(conv=>whnf);first|refine CR (z:=(k:Int)) (by rw[l];exact E) ?_|refine Ln.mk (show List.length (List.map _ (p.drop (p.length / 2)))=p.length - p.length / 2 by rw[C1];exact l) ?_|refine CO ω ?_|refine CM U.1 (aa W) ?_|refine CM V.1 (aa X) ?_|refine CG (K) ⟨⟨rfl,ro _⟩,⟨rfl,rfl⟩,trivial⟩ ?_|refine CG (L) ⟨⟨rfl,ro _⟩,⟨rfl,rfl⟩,trivial⟩ ?_|refine Ap.sm (aP λ_=>rfl) rfl (by simp;omega) (by decide) (gu (dO.enc .own) out ⟨a,b⟩) ?_)
    ((conv=>whnf);refine CE (j+1) ω ω ?_)
    rw[e];exact wB
  obtain rfl:j=p.length / 2:=ω
  repeat'(first|refine gE ?_|(conv=>whnf);refine CC ?_)
  ((conv=>whnf);refine CE (t+1) ω ω ?_;(exact wB))
 obtain rfl:t=3:=ω
 repeat'(first|refine gE ?_|(conv=>whnf);refine CC ?_)
 rfl
def ar.fzR{P:Program}{f:Nat}{sh:Bool}{A:List RA}{k:Kd}{rcs:List C}(h:ar P f sh A k rcs):ar P f sh A k (eG rcs):=by
 obtain⟨c,d⟩:=h;refine⟨c,λw S g i j=>(d w S g i j).mono λe w1 l=>?_⟩;obtain⟨v,n,p,X,q,r,t,B,u,y⟩:=l;refine⟨v,n,p,NO,λb o=>q b o\/X b o,λ_ _ h=>h.elim,λb o a=>?_,λ_ _ h=>h.elim,by rw[cw,C1];exact u,y.freeze⟩;rcases a with a|a
 ·exact t b o a
 exact .inr (r b o a)
structure PJ(ls:List ax)(q:dO):Prop where
 a:0<=q.A/\q.A<ls.length
 b:0<=q.B/\q.B<ls.length
 m:meshable (nth ls q.A.toNat) (nth ls q.B.toNat)=true
def J5{b:List ax}{p:List Int}(c:∀x∈p,0<=x/\x<b.length)(t:Nat){out:List dO}(d:∀q∈out,PJ b q):∀{i:Nat},i<=p.length / 2->∀q∈q7 b p t out i,PJ b q
 | 0,_=>d
 | i+1,h=>λq a=>by
  have e:=J5 c t d (i:=i) ω;simp only[q7,stp]at a;split at a
  ·rename_i g
   rcases z3.1 a with a|a
   ·exact e q a
   obtain rfl:=O1.1 a;have f:(i+t) % (p.length - p.length / 2)<p.length - p.length / 2:=Nat.mod_lt _ ω;exact⟨c _ (am ω),c _ (am ω),g.2.2⟩
  exact e q a
def Ju{a:List ax}{p:List Int}(b:∀x∈p,0<=x/\x<a.length):∀t,∀q∈lV a p t,PJ a q
 | 0=>λq c=>by cases c
 | t+1=>J5 b t (Ju b t) (C3 _)
def lF(a:List ax){s:Int}(b:0<=s/\s<=1073741823):∀q∈iX a s,PJ a q:=Ju (qg a.length b (C3 _)) 3
def Q9(s:ax)(n:Nat):(tp s n).Pairwise (· < ·):=by
 unfold tp;rw[List.pairwise_map];exact(List.pairwise_lt_range.sublist List.filter_sublist).imp λh=>ω
def Rf{s:ax}{n:Nat} : ∀z∈tp s n,0<=z/\z<n:=λz a=>by
 unfold tp at a;simp only[O4,U4,List.mem_range]at a;obtain⟨c,⟨b,-⟩,rfl⟩:=a;omega
def wZ(s:ax):df (tp s 16).length (mF (tp s 16))=true:=by
 refine cA.2 λj a=>?_
 have c:=Rf _ (am a);unfold mF;refine O0 ⟨ω,ω,?_⟩;by_cases e:j=0
 ·exact .inl e
 refine .inr ?_;have b:=List.pairwise_iff_getElem.1 (Q9 s 16) (j - 1) j ω a ω;rw[show nth (tp s 16) (j - 1)=(tp s 16)[j - 1] from bm (I2 ω),show nth (tp s 16) j=(tp s 16)[j] from bm (I2 a)];exact b
def qt{a b:ax}(c:meshable a b=true):eO (cX a b)=true/\bg a=true/\bg b=true:=by
 unfold meshable at c;simp only[I0,C0]at c;have d:=aF c.1.1;have e:=aF c.1.2;refine⟨?_,c.1⟩;unfold cX eO;split
 ·simp only[I0,C0];exact⟨wZ a,ω⟩
 simp only[I0,C0];exact⟨wZ b,ω⟩
def wV(a b:ax):bY.sml (cX a b):=by
 have c:=mb a 16;have d:=mb b 16;unfold cX bY.sml sN;split<;>simp only<;>omega
def bi(h:ab):List ax:=(iw h).take 16
def started(h:ab):ab × Bool:=match iX (bi h) h.c0 with
 | []=>({h with c0:=(shuf (bi h).length h.c0).2},false)
 | q::_=>({h with c0:=(shuf (bi h).length h.c0).2,o:=true,Y:=sY (cX (nth (bi h) q.A.toNat) (nth (bi h) q.B.toNat))},true)
def Fy{h:ab}{E:List Int}(a:aY h E):h.K.length<=32/\eQ h<=32/\yN h/\∀s∈h.K,s.b2<=9223372036854775807:=by
 have b:=a.lens;refine⟨b.spans,b.ents,?_,λs c=>by have:=eX (a.L.sok s c);omega⟩;have:=(bk a.ker).1.2;exact this
def yO(h:ab):(bi h).length<=16:=by unfold bi;rw[V1];omega
def N4(x:List dO)(z:Int):eG (fh .own x++[I z])=fh .X x++[I z]:=by
 have h:=ro x;rw[cw]at h |-;rw[X5,h];simp[fz]
def Rh(h:ab):(bi h).map (ax.enc .X)=((iw h).map (ax.enc .X)).take 16:=C4
def Hk(p:bY)(b:eO p=true)(c:bY.sml p):ar Tryz.prog 292 false [.val (some 3) (bY.enc .X p)] (.tup [some 5,none]) (xu (sY p)++[B true]):=by
 have h:=(Fr p b c).fzR;have e:eG (cn.enc .own (sY p)++[B true])=xu (sY p)++[B true]:=by
  have a:=cn.enc_fz (sY p);rw[cw]at a |-;rw[X5,a];simp[fz,cn.enc,xu]
 rwa [e]at h
def Ai(h:ab)(w:aY h []):aT Tryz.prog 130 false [.ptr (bB h)] [.ptr (bB (started h).1)] .one [B (started h).2]:=by
 obtain⟨w1,Q,H,J⟩:=Fy w;have a:=w.nums;unfold cj at a;rw[C0]at a;have e:=(xD h H ω ω J).fzR;rw[rQ]at e;have o:=yO h;have b:=(wh (bi h) h.c0 ⟨a.1,a.2.1⟩ o).fzR;rw[N4]at b;have g:=lF (bi h) ⟨a.1,a.2.1⟩;have K:=pD h h.K.length;have y:(iw h).length<=32:=by unfold iw;omega
 have j:=Rh h;unfold started;cases C:iX (bi h) h.c0 with
 | nil=>
  rw[C]at b;by_cases L:16<(iw h).length
  ·refine fM 62 [] [(8,275,[34,35,36,37,38,39,40,41,42,43,44,45,46,47,48,33,49,50,6,0,1,2,3,4,5,6,7,8,9,10,11,12,13,14,15,16,17,18,19,1017,20])] [(0,0)] Tryz.func130 rfl (λu q=>?_)
   repeat'(first|refine gE ?_|(conv=>whnf);first|refine CG (e) ⟨⟨rfl,bF h⟩,trivial⟩ ?_|refine CV 16 rfl (by rw[C1];omega) (aP λ_=>rfl) j ?_)
   refine CH rfl rfl ?_;exact wC
  have k:bi h=iw h:=by unfold bi;exact I7 ω
  rw[k]at b;refine fM 62 [] [(8,275,[34,35,36,37,38,39,40,41,42,43,44,45,46,47,48,33,49,50,6,0,1,2,3,4,5,6,7,8,9,10,11,12,13,14,15,16,17,18,19,1017,20])] [(0,0)] Tryz.func130 rfl (λu q=>?_);rw[k]
  repeat'(first|refine gE ?_|(conv=>whnf);refine CG (e) ⟨⟨rfl,bF h⟩,trivial⟩ ?_)
  refine CH rfl rfl ?_;exact wC
 | cons q M=>
  rw[C]at b g;obtain⟨E,F,G⟩:=g q (W1 ..);obtain⟨N,O,P⟩:=qt G;have p:=zM _ _ G O P;have t:=Hk _ N (wV _ _);have c:=ao (xs:=bi h) (i:=q.A.toNat) ω;have d:=ao (xs:=bi h) (i:=q.B.toNat) ω;have l:(q::M)[0]? = some q:=rfl;by_cases L:16<(iw h).length
  ·refine fM 62 [] [(8,275,[34,35,36,37,38,39,40,41,42,43,44,45,46,47,48,33,49,50,6,0,1,2,3,4,5,6,7,8,9,10,11,12,13,14,15,16,17,18,19,1017,20])] [(0,0)] Tryz.func130 rfl (λu r=>?_)
   repeat'(first|refine gE ?_|(conv=>whnf);first|refine CG (e) ⟨⟨rfl,bF h⟩,trivial⟩ ?_|refine CV 16 rfl (by rw[C1];omega) (aP λ_=>rfl) j ?_|refine CM E.1 (aa c) ?_|refine CM F.1 (aa d) ?_|refine CG (t) ⟨⟨rfl,bY.enc_fz _⟩,trivial⟩ ?_)
   refine CH rfl rfl ?_;exact wC
  have k:bi h=iw h:=by unfold bi;exact I7 ω
  rw[k]at b p t c d;refine fM 62 [] [(8,275,[34,35,36,37,38,39,40,41,42,43,44,45,46,47,48,33,49,50,6,0,1,2,3,4,5,6,7,8,9,10,11,12,13,14,15,16,17,18,19,1017,20])] [(0,0)] Tryz.func130 rfl (λu r=>?_);rw[k]
  repeat'(first|refine gE ?_|(conv=>whnf);first|refine CG (e) ⟨⟨rfl,bF h⟩,trivial⟩ ?_|refine CM E.1 (aa c) ?_|refine CM F.1 (aa d) ?_|refine CG (t) ⟨⟨rfl,bY.enc_fz _⟩,trivial⟩ ?_)
  refine CH rfl rfl ?_;exact wC
def meshSt(h:ab):ab × Bool:=if h.o=false/\dA h=true then started h else(h,false)
def Dg(h:ab)(g:ab.sml h)(i:¬(h.o=false/\dA h=true)):ar Tryz.prog 42 false [.val (some 24) (ab.enc .X h)] (.tup [some 24,none]) (kx h++[B false]):=by
 have a:=gX h g;rw[jM]at a;have b:=rS h g;have c:ab.enc .X h=(ab.enc .X h).set 18 (B h.o):=rfl;cases d:h.o
 ·have j:dA h=false:=by
   rcases Bool.eq_false_or_eq_true (dA h) with e|e
   ·exact absurd ⟨d,e⟩ i
   exact e
  rw[j]at a;rw[d]at c;rw[c]at a b |-;refine fO 66 [(10,275,[41,42,43,44,45,46,47,48,49,50,51,52,53,54,55,40,56,57,8,0,1,2,3,4,5,6,7,8,9,10,11,12,13,14,15,16,17,18,19,1017,20])] Tryz.func42 rfl ?_ (.inr (aI (qp _) ⟨trivial,trivial⟩))
  repeat'(first|refine gP ?_|(conv=>whnf);first|refine CC ?_|refine C8 (a) ?_|refine C8 (b) ?_)
  rfl
 rw[d]at c;rw[c]at a b |-;refine fO 66 [(10,275,[41,42,43,44,45,46,47,48,49,50,51,52,53,54,55,40,56,57,8,0,1,2,3,4,5,6,7,8,9,10,11,12,13,14,15,16,17,18,19,1017,20])] Tryz.func42 rfl ?_ (.inr (aI (qp _) ⟨trivial,trivial⟩))
 repeat'(first|refine gP ?_|(conv=>whnf);first|refine CC ?_|refine C8 (a) ?_|refine C8 (b) ?_)
 rfl
def zI(h:ab)(t:ab.sml h)(H:h.o=false)(u:dA h=true):ar Tryz.prog 42 false [.val (some 24) (ab.enc .X h)] (.tup [some 24,none]) (kx (started h).1++[B (started h).2]):=by
 have w:=aY.of u;obtain⟨w1,U,J,K⟩:=Fy w;have a:=w.nums;unfold cj at a;rw[C0]at a;have j:=gX h t;rw[jM,u]at j;have l:=rS h t;have k:=(yF h J ω ω K).fzR;rw[rQ]at k;have n:=yO h;have c:=(wy (bi h) h.c0 ⟨a.1,a.2.1⟩ n).fzR;rw[N4]at c;have d:=lF (bi h) ⟨a.1,a.2.1⟩;have L:=pD h h.K.length;have y:(iw h).length<=32:=by unfold iw;omega
 have g:(bi h).map (ax.enc .X)=((iw h).map (ax.enc .X)).take (bi h).length:=by
  unfold bi;rw[C4,V1];by_cases e:16<=(iw h).length
  ·rw[Nat.min_eq_left e]
  rw[Nat.min_eq_right ω,I7 (by rw[C1];omega),I7 (by rw[C1];omega)]
 have b:(bi h).length=if(iw h).length<=16 then(iw h).length else 16:=by unfold bi;rw[V1];split<;>omega
 have C:ab.enc .X h=(ab.enc .X h).set 18 (B h.o):=rfl;rw[H]at C;rw[C]at j l k |-;unfold started;cases E:iX (bi h) h.c0 with
 | nil=>
  rw[E]at c;refine fO 66 [(10,275,[41,42,43,44,45,46,47,48,49,50,51,52,53,54,55,40,56,57,8,0,1,2,3,4,5,6,7,8,9,10,11,12,13,14,15,16,17,18,19,1017,20])] Tryz.func42 rfl ?_ (.inr (aI (qp _) ⟨trivial,trivial⟩))
  repeat'(first|refine gP ?_|(conv=>whnf);first|refine CR (z:=((bi h).length:Int)) (by rw[b];simp;split<;>split<;>omega) ?_|refine CV (bi h).length rfl (by rw[C1,b];split<;>omega) (aP λ_=>rfl) g ?_)
  rfl
 | cons q M=>
  rw[E]at c d;obtain⟨N,O,F⟩:=d q (W1 ..);obtain⟨P,Q,R⟩:=qt F;have S:=zW _ _ F Q R;have T:=Fz _ P (wV _ _);have o:=ao (xs:=bi h) (i:=q.A.toNat) ω;have p:=ao (xs:=bi h) (i:=q.B.toNat) ω;have r:(q::M)[0]? = some q:=rfl;refine fO 66 [(10,275,[41,42,43,44,45,46,47,48,49,50,51,52,53,54,55,40,56,57,8,0,1,2,3,4,5,6,7,8,9,10,11,12,13,14,15,16,17,18,19,1017,20])] Tryz.func42 rfl ?_ (.inr (aI (qp _) ⟨trivial,trivial⟩))
  repeat'(first|refine gP ?_|(conv=>whnf);first|refine CR (z:=((bi h).length:Int)) (by rw[b];simp;split<;>split<;>omega) ?_|refine CV (bi h).length rfl (by rw[C1,b];split<;>omega) (aP λ_=>rfl) g ?_|refine CM N.1 (aa o) ?_|refine CM O.1 (aa p) ?_|refine CG (T) ⟨⟨rfl,bY.enc_fz _⟩,trivial⟩ ?_)
  rfl
def xL(h:ab)(a:ab.sml h):ar Tryz.prog 42 false [.val (some 24) (ab.enc .X h)] (.tup [some 24,none]) (kx (meshSt h).1++[B (meshSt h).2]):=by
 unfold meshSt;split
 ·rename_i e;exact zI h a e.1 e.2
 rename_i e;exact Dg h a e
end Go.Proofs.YtecefhjnejfheaaGreat.Ab
