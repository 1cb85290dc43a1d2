/- What holds of a heap of which addresses are in hand: all that holds of a valid one, the holders and the addresses together. No condition. -/
import Derived.Test.YtecefhjnejfheaaGreatKtd
import Derived.Test.YtecefhjnejfheaaGreatKte
import Derived.Deep.LoopGhost
import Derived.Deep.RegionLaw
import Derived.Lib.Walk
import Derived.Sort.WalkB12
import Derived.Lib.SliceRun
import Derived.Shelf.RegionOpenPlain
set_option linter.unusedVariables false
set_option linter.unusedSimpArgs false
set_option linter.constructorNameAsVariable false
namespace Go.Proofs.YtecefhjnejfheaaGreat.Ab
theorem wa{α:Type}[Inhabited α](R:Int->Int->Prop)(n:∀a b c,R a b->R b c->R a c)(f:α->Int)(xs:List α):(∀i,i<xs.length->i=0\/R (f (nth xs (i - 1))) (f (nth xs i)))↔xs.Pairwise (λa b=>R (f a) (f b)):=by
 constructor
 ·intro h
  have o:∀j i,i<j->j<xs.length->R (f (nth xs i)) (f (nth xs j)):=λj=>by
   induction j with
   | zero=>intro i d;omega
   | succ j p=>
    intro i d g;have k:=(h (j+1) g).resolve_left ω;rw[show j+1 - 1=j from rfl]at k;by_cases e:i=j
    ·subst e;exact k
    exact n _ _ _ (p i ω ω) k
  rw[List.pairwise_iff_getElem];intro i j d g l;have:=o j i l g
  rwa [bm (C2 d),bm (C2 g)]at this
 intro h i d;by_cases e:i=0
 ·exact .inl e
 right
 have:=List.pairwise_iff_getElem.1 h (i - 1) i ω d ω
 rwa [<-bm (C2 (show i - 1<xs.length by omega)),<-bm (C2 d)]at this
theorem AY{α:Type}[Inhabited α](f:α->Int)(xs:List α):(∀i,i<xs.length->∀o∈xs.take i,f o≠f (nth xs i))↔(xs.map f).Nodup:=by
 unfold List.Nodup;rw[List.pairwise_map,List.pairwise_iff_getElem];constructor
 ·intro h i j a b c
  have:=h j b xs[i] (List.mem_take_iff_getElem.2 ⟨i,ω,rfl⟩)
  rwa [bm (C2 b)]at this
 intro h i a o d;obtain⟨j,b,rfl⟩:=List.mem_take_iff_getElem.1 d;rw[bm (C2 a)];exact h j i ω a ω
def eL(s:ax)(a:Int):Prop:=16*s.R<=a/\a<=16*s.R+15/\(a - 16*s.R) % csz s.d=0/\aS s.b2 ((a - 16*s.R) / csz s.d)=true
def kh(sp:List ax)(a c:Int):Prop:=∃s∈sp,eL s a/\(c<0\/s.d=c)
def Tb(la:List a8)(a z:Int):Prop:=∃l∈la,a=16*l.R/\l.q=z
def LN(sp:List ax)(la:List a8)(o:bu):Prop:=(∃s∈sp,eL s o.Addr/\s.d=aJ o.q)\/Tb la o.Addr o.q
def m9(sp:List ax)(la:List a8)(a:Int):Prop:=kh sp a (-1)\/∃l∈la,a=16*l.R
theorem mK{sp:List ax}{la:List a8}(f:sf sp la)(a:Int):(∃i,i<sp.length/\(16*(nth sp i).R<=a/\a<=16*(nth sp i).R+15)/\denotes sp la a=ow i (nth sp i) a)\/((∀s∈sp,¬(16*s.R<=a/\a<=16*s.R+15))/\((∃i,i<la.length/\bq (nth la i) a=true/\denotes sp la a = ⟨3,i,0,a - 16*(nth la i).R⟩)\/((∀l∈la,bq l a=false)/\denotes sp la a = ⟨0,0,0,0⟩))):=by
 cases c:sp.findIdx? (cz · a) with
 | some i=>
  obtain⟨b,d,-⟩:=V6.1 c;rw[<-bm (C2 b)]at d;exact .inl ⟨i,b,(gH (f.sok _ (am b))).1 d,by unfold denotes;rw[c]⟩
 | none=>
  have h:=List.findIdx?_eq_none_iff.1 c;refine .inr ⟨λs g j=>?_,?_⟩
  ·have:=h s g
   rw[(gH (f.sok _ g)).2 j]at this;cases this
  cases e:la.findIdx? (bq · a) with
  | some i=>
   obtain⟨b,d,-⟩:=V6.1 e;rw[<-bm (C2 b)]at d;exact .inl ⟨i,b,d,by unfold denotes;rw[c,e]⟩
  | none=>exact .inr ⟨List.findIdx?_eq_none_iff.1 e,by unfold denotes;rw[c,e]⟩
theorem LP{h:ab}(k:sf h.K h.M){a c:Int} : dt h a c=true↔kh h.K a c:=by
 unfold dt;simp only[I0,Y5,C0];constructor
 ·rintro⟨⟨b,j⟩,d⟩
  rcases mK k a with⟨i,g,l,f⟩|⟨-,⟨i,g,-,f⟩|⟨-,f⟩⟩
  ·rw[f]at b j d
   simp only[ow]at b j d;refine⟨_,am g,⟨l.1,l.2,j,?_⟩,by simpa using d⟩;cases e:aS (nth h.K i).b2 ((a - 16*(nth h.K i).R) / csz (nth h.K i).d) with
   | true=>rfl
   | false=>rw[e]at b;simp at b
  ·rw[f]at b;simp at b
  rw[f]at b;simp at b
 rintro⟨s,n,⟨o,p,q,r⟩,d⟩
 obtain⟨i,g,rfl⟩:=aL n;rw[jH k g ⟨o,p⟩];simp only[ow,q,r,if_true,true_and];simpa using d
theorem xW{sp:List ax}{la:List a8}(a:sf sp la){l:a8}(b:l∈la):(∀s∈sp,¬(16*s.R<=16*l.R/\16*l.R<=16*s.R+15))/\bq l (16*l.R)=true/\∀i,i<la.length->bq (nth la i) (16*l.R)=true->nth la i=l:=by
 have k:=aP (a.lok _ b);have f:=cQ (a.lok _ b);refine⟨λs g n=>?_,?_,λi d e=>?_⟩
 ·exact a.dis s g l b 0 ω ω
 ·unfold bq;rw[a.lok _ b,O0 ω];rfl
 obtain⟨j,h,rfl⟩:=aL b;have o:=aP (a.lok _ (am d));have c:=a.lok _ (am d);unfold bJ at c;rw[C0]at c;unfold bq at e;rw[I0,C0]at e;rw[a.one i j d h ((nth la j).R - (nth la i).R).toNat 0 ω ω ω]
theorem L8{h:ab}(f:sf h.K h.M){o:bu} : jg h o=true↔LN h.K h.M o:=by
 unfold jg;simp only[I0,Y5,C0];constructor
 ·rintro⟨d,a⟩
  rcases mK f o.Addr with⟨i,b,g,c⟩|⟨-,⟨i,b,-,c⟩|⟨-,c⟩⟩
  ·rw[c]at a d
   simp only[ow]at a d;have j:aS (nth h.K i).b2 ((o.Addr - 16*(nth h.K i).R) / csz (nth h.K i).d)=true:=by
    cases e:aS (nth h.K i).b2 ((o.Addr - 16*(nth h.K i).R) / csz (nth h.K i).d) with
    | true=>rfl
    | false=>rw[e]at a;simp at a
   rw[j]at a;exact .inl ⟨_,am b,⟨g.1,g.2,d,j⟩,by simpa using a⟩
  ·rw[c]at a d
   simp only at a d;exact .inr ⟨_,am b,ω,by simpa using a⟩
  rw[c]at a;simp at a
 rintro(⟨s,j,⟨p,q,r,t⟩,u⟩|⟨l,k,w,y⟩)
 ·obtain⟨i,b,rfl⟩:=aL j
  rw[jH f b ⟨p,q⟩];simp only[ow,r,t,if_true,true_and];simp[u]
 obtain⟨A,n,B⟩:=xW f k;rw[w];rcases mK f (16*l.R) with⟨i,b,g,c⟩|⟨-,⟨i,b,C,c⟩|⟨D,c⟩⟩
 ·exact absurd g (A _ (am b))
 ·rw[c]
  have:=B i b C;simp only[this,W2];exact⟨ω,.inr ⟨trivial,y⟩⟩
 rw[D l k]at n;cases n
theorem F5{sp:List ax}{la:List a8}(d:sf sp la)(a:Int):a∈jb sp la↔m9 sp la a:=by
 constructor
 ·intro h
  unfold jb lO at h;obtain⟨n,o,rfl⟩:=C4.1 h;have g:=(I4.1 o).2;unfold kr at g;simp only[I0,Y5,C0]at g;obtain⟨j,f⟩:=g;rcases mK d (n:Int) with⟨i,c,k,b⟩|⟨-,⟨i,c,-,b⟩|⟨-,b⟩⟩
  ·rw[b]at f j
   simp only[ow]at f j;refine .inl ⟨_,am c,⟨k.1,k.2,j,?_⟩,.inl ω⟩;cases e:aS (nth sp i).b2 (((n:Int) - 16*(nth sp i).R) / csz (nth sp i).d) with
   | true=>rfl
   | false=>rw[e]at f;simp at f
  ·rw[b]at j
   simp only at j;exact .inr ⟨_,am c,ω⟩
  rw[b]at f;simp at f
 rintro(⟨s,r,⟨t,g,u,w⟩,-⟩|⟨l,p,rfl⟩)
 ·obtain⟨i,c,rfl⟩:=aL r
  have b:=jH d c ⟨t,g⟩;exact wi d (by rw[b];exact u) (.inl (by rw[b];simp only[ow,w,if_true]))
 obtain⟨y,q,A⟩:=xW d p;rcases mK d (16*l.R) with⟨i,c,k,b⟩|⟨-,⟨i,c,B,b⟩|⟨o,b⟩⟩
 ·exact absurd k (y _ (am c))
 ·have:=A i c B
  exact wi d (by rw[b];simp only[this];omega) (.inr (by rw[b]))
 rw[o l p]at q;cases q
def RH(xs:List aA)(p:Int):Prop:=∃r∈xs,r.At<=p/\p<r.At+r.b1
theorem gd{pages:Int}{xs:List aA} : bC pages xs=true↔oH xs/\(∀y∈xs,0<=y.At/\1<=y.b1/\y.At+y.b1<=pages)/\1<=pages/\pages<=32:=by
 constructor
 ·intro h
  obtain⟨a,b⟩:=BM h;unfold bC at h;simp only[I0,C0]at h;exact⟨a,b,h.2⟩
 rintro⟨a,b,d⟩
 unfold bC;simp only[I0,C0];refine⟨cx.2 λi c=>?_,d⟩;have f:=b _ (am c);unfold gx rangeIn;simp only[I0,C0];refine⟨ω,?_⟩;by_cases e:i=0
 ·exact .inl e
 right
 have:=List.pairwise_iff_getElem.1 a.1 (i - 1) i ω c ω
 rwa [<-bm (C2 (show i - 1<xs.length by omega)),<-bm (C2 c)]at this
theorem F9{pages:Int}{xs:List aA}(h:bC pages xs=true)(p:Int):xs.any (rj p)=true↔RH xs p:=by
 obtain⟨-,c,d⟩:=gd.1 h;rw[Y3];refine⟨λ⟨r,a,b⟩=>⟨r,a,?_⟩,λ⟨r,a,b⟩=>⟨r,a,?_⟩⟩
 ·have:=c r a
  unfold rj at b;rw[eN ω ω]at b;simpa using b
 have:=c r a;unfold rj;rw[eN ω ω];simpa using b
theorem wc(u:Int):∀(h:List aA)(r:aA)(out:List aA),oH h->1<=r.b1->(∀y∈h,ovl y r=false)->(∀z∈out,z.At+z.b1<r.At/\∀y∈h,z.At+z.b1<y.At)->oH out->(∀y∈r::(out++h),0<=y.At/\y.At+y.b1<=u)->∃o,kj h r out false=some o/\oH o/\(∀y∈o,0<=y.At/\y.At+y.b1<=u)/\∀p,RH o p↔RH out p\/RH h p\/(r.At<=p/\p<r.At+r.b1)
 | [],r,out,_,A,_,k,l,f=>by
  refine⟨out++[r],by simp[kj],⟨List.pairwise_append.2 ⟨l.1,List.pairwise_singleton ..,λa B b f=>by rw[I1.1 f];exact(k a B).1⟩,λy n=>?_⟩,λy n=>f y (by simp at n |-;grind),λp=>by unfold RH;simp[or_and_right,exists_or]⟩;rcases Z2.1 n with n|n
  ·exact l.2 y n
  rw[I1.1 n];exact A
 | y::h,r,out,g,A,H,k,l,f=>by
  have K:=g.2 y (V1 ..);have q:=H y (V1 ..);have j:=g.head;have O:=f y (by simp);have P:=f r (by simp);have C:∀w∈h,¬(w.At<r.At+r.b1/\r.At<w.At+w.b1):=λw d=>by
   have:=H w (z5 _ d);unfold ovl at this;simpa using this
  have t:∀w∈h,1<=w.b1:=λw d=>g.2 w (z5 _ d)
  rw[JA,C8 (by rw[q];simp)];unfold ovl at q;rw[U4]at q;by_cases L:y.At+y.b1=r.At
  ·rw[C9 L]
   obtain⟨o,D,E,F,G⟩:=wc u h ⟨y.At,y.b1+r.b1⟩ out g.tail (by simp only;omega) (λw d=>by
     have a:=j w d;have b:=C w d;have c:=t w d;unfold ovl;rw[U4];simp only;omega) (λz i=>⟨(k z i).2 y (V1 ..),λw d=>(k z i).2 w (z5 _ d)⟩) l (λw d=>by
     rcases List.mem_cons.1 d with rfl|d
     · simp only;omega
     exact f w (by simp at d |-;grind))
   refine⟨o,D,E,F,λp=>?_⟩;rw[G];unfold RH;simp only[List.mem_cons,exists_eq_or_imp]
   grind
  rw[C8 L];by_cases M:r.At+r.b1=y.At
  ·rw[C9 M]
   obtain⟨o,D,E,F,G⟩:=wc u h ⟨r.At,r.b1+y.b1⟩ out g.tail (by simp only;omega) (λw d=>by
     have a:=j w d;have b:=C w d;have c:=t w d;unfold ovl;rw[U4];simp only;omega) (λz i=>⟨(k z i).1,λw d=>(k z i).2 w (z5 _ d)⟩) l (λw d=>by
     rcases List.mem_cons.1 d with rfl|d
     · simp only;omega
     exact f w (by simp at d |-;grind))
   refine⟨o,D,E,F,λp=>?_⟩;rw[G];unfold RH;simp only[List.mem_cons,exists_eq_or_imp]
   grind
  rw[C8 M];by_cases N:y.At > r.At
  ·have J:r.At+r.b1<y.At:=ω
   rw[C9 ⟨N,rfl⟩,pG g.tail A λw d=>by have:=j w d;omega];refine⟨_,rfl,⟨?_,λw d=>?_⟩,λw d=>f w (by simp at d |-;grind),λp=>by unfold RH;simp[or_and_right,exists_or];grind⟩
   ·rw[O5]
    refine List.pairwise_append.2 ⟨l.1,?_,λa B b f=>?_⟩
    ·show(r::y::h).Pairwise _
     refine List.pairwise_cons.2 ⟨λw d=>?_,g.1⟩;rcases List.mem_cons.1 d with rfl|d
     ·exact J
     have:=j w d;omega
    obtain⟨Q,R⟩:=k a B;have f:b∈r::y::h:=f;rcases List.mem_cons.1 f with rfl|f
    ·exact Q
    exact R b f
   simp only[Z2,List.mem_cons,List.not_mem_nil,or_false]at d;rcases d with(d|rfl|rfl)|d
   ·exact l.2 w d
   ·exact A
   ·exact K
   exact t w d
  rw[C8 λe=>N e.1];obtain⟨o,D,E,F,G⟩:=wc u h r (out++[y]) g.tail A (λw d=>H w (z5 _ d)) (λz i=>by
    rcases Z2.1 i with i|i
    · exact⟨(k z i).1,λw d=>(k z i).2 w (z5 _ d)⟩
    rw[I1.1 i];exact⟨ω,j⟩) ⟨List.pairwise_append.2 ⟨l.1,List.pairwise_singleton ..,λa B b f=>by rw[I1.1 f];exact(k a B).2 y (V1 ..)⟩,λw d=>by
    rcases Z2.1 d with d|d
    · exact l.2 w d
    rw[I1.1 d];exact K⟩ (λw d=>f w (by simp at d |-;grind))
  refine⟨o,D,E,F,λp=>?_⟩;rw[G];unfold RH;simp[or_and_right,exists_or]
  grind
theorem uW{pages:Int}{xs:List aA}{r:aA}(h:bC pages xs=true)(j:0<=r.At/\1<=r.b1/\r.At+r.b1<=pages)(c:∀p,r.At<=p->p<r.At+r.b1->¬RH xs p):∃o,dL pages xs r=some o/\bC pages o=true/\∀p,RH o p↔RH xs p\/(r.At<=p/\p<r.At+r.b1):=by
 obtain⟨k,d,l⟩:=gd.1 h;have b:rangeIn pages r=true:=by unfold rangeIn;rw[C0];omega
 unfold dL;rw[C9 ⟨h,b⟩];obtain⟨o,n,f,g,q⟩:=wc pages xs r [] k j.2.1 (λy a=>by
   have:=d y a;unfold ovl;rw[U4];intro i;by_cases e:r.At<=y.At
   · exact c y.At e i.1 ⟨y,a,ω,ω⟩
   · exact c r.At ω ω ⟨y,a,ω,i.2⟩) (λz t=>by cases t) ⟨List.Pairwise.nil,λy a=>by cases a⟩ (λy a=>by
   rcases List.mem_cons.1 a with rfl|a
   · omega
   have:=d y (by simpa using a);omega)
 refine⟨o,n,gd.2 ⟨f,λy a=>⟨(g y a).1,f.2 y a,(g y a).2⟩,l⟩,λp=>?_⟩;rw[q];unfold RH;simp
structure Pg(t:aH)(fr:List aA)(sp:List ax)(la:List a8):Prop where
 one:∀l∈la,∀p:Nat,(p:Int)∈lpgs l l.a3.toNat->∀q:Nat,q<t.J.length->(nth t.J q).j≠0->(nth t.J q).e=(nth t.J p).e->q=p
 bnd:∀p∈pgs sp la,p<t.J.length
 own:∀p:Nat,p<t.J.length->((nth t.J p).j≠0↔(p:Int)∈pgs sp la)
 fre:∀p:Nat,p<t.J.length->((nth t.J p).j≠0↔¬RH fr p)
 mesh:∀s∈sp,∀u∈sp,s.R≠u.R->(nth t.J s.R.toNat).e=(nth t.J u.R.toNat).e->meshable s u=true
structure aX(h:ab)(E:List Int):Prop where
 ker:a7 h.G=true
 rng:bC (eY h) h.u=true
 lay:bn h.K h.M=true
 srs:h.K.Pairwise λa b=>a.R<b.R
 srl:h.M.Pairwise λa b=>a.R<b.R
 pg:Pg (tbl h) h.u h.K h.M
 mail:bN h.y=true
 nc:h.T.length=h.y.U.length
 quar:gv h.a9=true
 snc:∀x∈h.a9.a6,x.b7<=h.b3
 cach:∀c∈h.T,bA c=true
 nums:cj h=true
 osr:h.O.Pairwise λa b=>a.Addr<b.Addr
 onu:∀o∈h.O,1<=o.Id/\o.Id<=h.a - 1/\0<=o.a4/\o.a4<=h.T.length - 1
 oid:(h.O.map (·.Id)).Nodup
 oow:∀o∈h.O,LN h.K h.M o
 hca:∀c∈h.T,∀k:Nat,k<c.b.length->∀a∈nth c.b k,kh h.K a k
 hqu:∀x∈h.a9.a6,kh h.K x.Addr x.d
 hfl:∀a∈aN h.y,kh h.K a (-1)
 hin:∀a∈E,kh h.K a (-1)
 nd:(E++holders h).Nodup
 mem:∀a,a∈E++holders h↔m9 h.K h.M a
 job:h.o=true->ju h.Y=true/\(∃s∈h.K,s.R=h.Y.V.a2)/\∃s∈h.K,s.R=h.Y.V.w
 noj:h.o=false->rJ h.Y=true
theorem aX.L{h:ab}{E:List Int}(a:aX h E):sf h.K h.M:=sf.of a.lay
theorem yL(t:aH)(f:Int):(pagesOn t f).Nodup:=by
 unfold pagesOn jU List.Nodup;rw[List.pairwise_map];exact(List.nodup_range.sublist List.filter_sublist).imp λh e=>h ω
theorem PS{l:List Int}{a:Int}(b:l.Nodup)(d:a∈l)(c:∀x∈l,x=a):l.length=1:=by
 match l with
 | []=>cases d
 | [_]=>rfl
 | x::y::r=>
  exfalso;have e:=c x (by simp);have f:=c y (by simp);rw[e,f]at b;simp at b
theorem dC{sp:List ax}{la:List a8}{s:ax}(a:s∈sp):s.R∈pgs sp la:=by
 unfold pgs;exact Z2.2 (.inl (C4.2 ⟨s,a,rfl⟩))
theorem gl{sp:List ax}{la:List a8}{l:a8}(a:l∈la){p:Int}(b:p∈lpgs l l.a3.toNat):p∈pgs sp la:=by
 unfold pgs;exact Z2.2 (.inr (List.mem_flatMap.2 ⟨l,a,b⟩))
theorem Rm{h:ab}(n:bn h.K h.M=true)(P:bC (eY h) h.u=true)(J:pages0 h=true)(t:og h=true):Pg (tbl h) h.u h.K h.M:=by
 have Q:=sf.of n;obtain⟨R,y,K⟩:=sJ J;have S:∀p:Nat,p<eY h->((nth (tbl h).J p).j≠0↔¬RH h.u p):=λp a=>by
  have d:=J;unfold pages0 at d;simp only[I0]at d;have A:=dS d.2 a;unfold vG at A;rw[I0]at A;have L:=A.2;rw[<-F9 P];cases e:h.u.any (rj (p:Int))<;>rw[e]at L<;>simpa using L
 refine⟨λl B p f q T C D=>?_,y,K,S,λs U u V E M=>?_⟩
 ·obtain⟨i,o,rfl⟩:=aL B
  obtain⟨k,w,F⟩:=dx.1 f;have a:p<eY h:=by have:=y _ (gl (sp:=h.K) B f);omega
  have r:=(K p a).2 (gl B f);have b:=R i o k w;rw[<-F,fD a r]at b;have N:(p:Int)∈pagesOn (tbl h) (nth (tbl h).J p).e:=ew.2 ⟨a,r,rfl⟩;have O:(q:Int)∈pagesOn (tbl h) (nth (tbl h).J p).e:=ew.2 ⟨T,C,D⟩;obtain⟨z,W⟩:=List.length_eq_one_iff.1 b;rw[W]at N O;simp only[I1]at N O;omega
 obtain⟨i,o,rfl⟩:=aL U;obtain⟨j,G,rfl⟩:=aL V;have c:∀k,k<h.K.length->ac (tbl h) (nth h.K k).R=nth (tbl h).J (nth h.K k).R.toNat:=λk w=>by
  have X:=aF (Q.sok _ (am w));have Y:=y _ (dC (la:=h.M) (am w));rw[show(nth h.K k).R=(((nth h.K k).R.toNat:Nat):Int) by omega];exact yi ω
 unfold og at t;rw[cx]at t;rcases Nat.lt_trichotomy i j with g|H|g
 ·have b:=dS (t j G) g
  unfold lg at b;rw[c i o,c j G,Y5,C0]at b;rw[gW];exact b.resolve_left λe=>e M.symm
 ·subst H;exact absurd rfl E
 have b:=dS (t i o) g;unfold lg at b;rw[c i o,c j G,Y5,C0]at b;exact b.resolve_left λe=>e M
theorem A5(sp:List ax):cY sp.length (xC sp)=true↔sp.Pairwise λa b=>a.R<b.R:=by
 rw[cx];refine Iff.trans ?_ (wa (λa b:Int=>a<b) (λa b c=>Int.lt_trans) (λs:ax=>s.R) sp);unfold xC;simp only[C0]
theorem AZ(la:List a8):cY la.length (yv la)=true↔la.Pairwise λa b=>a.R<b.R:=by
 rw[cx];refine Iff.trans ?_ (wa (λa b:Int=>a<b) (λa b c=>Int.lt_trans) (λs:a8=>s.R) la);unfold yv;simp only[C0]
theorem Rn{h:ab}(r:bn h.K h.M=true)(D:bC (eY h) h.u=true)(h1:h.K.Pairwise λa b=>a.R<b.R)(E:h.M.Pairwise λa b=>a.R<b.R)(c:Pg (tbl h) h.u h.K h.M):pages0 h=true/\og h=true:=by
 have A:=sf.of r;constructor
 ·unfold pages0
  simp only[I0];refine⟨⟨⟨(A5 _).2 h1,cx.2 λi o=>?_⟩,Z3.2 λp d=>O0 (c.bnd p d)⟩,cx.2 λp d=>?_⟩
  ·unfold sg
   rw[I0];refine⟨dS ((AZ _).2 E) o,cx.2 λk w=>?_⟩;have y:=am o;have L:=aP (A.lok _ y);obtain⟨p,d⟩ : ∃p:Nat,(nth h.M i).R+(k:Nat)=(p:Nat):=⟨((nth h.M i).R+k).toNat,ω⟩
   have g:(p:Int)∈lpgs (nth h.M i) (nth h.M i).a3.toNat:=dx.2 ⟨k,w,d.symm⟩;have l:p<eY h:=by have:=c.bnd _ (gl (sp:=h.K) y g);exact Int.ofNat_lt.1 this
   have t:=(c.own p l).2 (gl y g);unfold wE;rw[C0,d,fD l t];refine PS (yL ..) (ew.2 ⟨l,t,rfl⟩) λx C=>?_
   obtain⟨q,rfl⟩:=vj C;obtain⟨F,G,H⟩:=ew.1 C;rw[c.one _ y p g q F G H]
  unfold vG;rw[I0,C0];refine⟨c.own p d,?_⟩;have B:=c.fre p d;rw[<-F9 D]at B;cases e:h.u.any (rj (p:Int))<;>rw[e]at B<;>simpa using B
 unfold og;refine cx.2 λi o=>cx.2 λj M=>?_
 have n:j<h.K.length:=ω
 have u:∀k,k<h.K.length->ac (tbl h) (nth h.K k).R=nth (tbl h).J (nth h.K k).R.toNat:=λk w=>by
  have N:=aF (A.sok _ (am w));have J:=c.bnd _ (dC (la:=h.M) (am w));rw[show(nth h.K k).R=(((nth h.K k).R.toNat:Nat):Int) by omega];exact yi (by unfold eY;unfold tbl at J;omega)
 unfold lg;rw[u i o,u j n,Y5,C0];by_cases e:(nth (tbl h).J (nth h.K i).R.toNat).e=(nth (tbl h).J (nth h.K j).R.toNat).e
 ·refine .inr (c.mesh _ (am o) _ (am n) (λK=>?_) e)
  have:=cJ (f:=(·.R)) A.nd o n K;omega
 exact .inl e
theorem Ez{h:ab}(n:cj h=true)(q:sf h.K h.M):fF h=true↔(h.O.Pairwise λa b=>a.Addr<b.Addr)/\(∀o∈h.O,1<=o.Id/\o.Id<=h.a - 1/\0<=o.a4/\o.a4<=h.T.length - 1)/\(h.O.map (·.Id)).Nodup/\∀o∈h.O,LN h.K h.M o:=by
 unfold cj at n;rw[C0]at n;refine Iff.trans ?_ (and_congr (wa (λa b:Int=>a<b) (λa b c=>Int.lt_trans) (λo:bu=>o.Addr) h.O) (and_congr Iff.rfl (and_congr (AY (λo:bu=>o.Id) h.O) Iff.rfl)));unfold fF;rw[eN ω ω,cx];have p:∀i,i<h.O.length->(objAt (h.a - 1) h i=true↔(i=0\/(nth h.O (i - 1)).Addr<(nth h.O i).Addr)/\(1<=(nth h.O i).Id/\(nth h.O i).Id<=h.a - 1/\0<=(nth h.O i).a4/\(nth h.O i).a4<=h.T.length - 1)/\(∀o∈h.O.take i,o.Id≠(nth h.O i).Id)/\LN h.K h.M (nth h.O i)):=λi d=>by
  unfold objAt gS;rw[I0,I0,C0,L8 q,Bool.not_eq_true',List.any_eq_false];simp only[fh,C0];constructor
  ·rintro⟨⟨⟨e,f⟩,g⟩,j⟩;exact⟨e,f,g,j⟩
  rintro⟨e,f,g,j⟩;exact⟨⟨⟨e,f⟩,g⟩,j⟩
 constructor
 ·intro r
  have k:=λi d=>(p i d).1 (r i d)
  refine⟨λi d=>(k i d).1,λo l=>?_,λi d=>(k i d).2.2.1,λo l=>?_⟩
  ·obtain⟨i,d,rfl⟩:=aL l;exact(k i d).2.1
  obtain⟨i,d,rfl⟩:=aL l;exact(k i d).2.2.2
 rintro⟨e,f,g,j⟩ i d
 exact(p i d).2 ⟨e i d,f _ (am d),g i d,j _ (am d)⟩
theorem xL{h:ab}(b:sf h.K h.M):iv h=true↔(∀c∈h.T,∀k:Nat,k<c.b.length->∀a∈nth c.b k,kh h.K a k)/\(∀x∈h.a9.a6,kh h.K x.Addr x.d)/\∀a∈aN h.y,kh h.K a (-1):=by
 rw[lX];simp only[Z3,fk,cx,rQ,ik,kA,LP b,and_assoc]
theorem D6{p:Int}{h:ab} : 0<=gI h p↔∃s∈h.K,s.R=p:=by
 unfold gI;rw[show(0<=d9 (ko p) h.K)↔(decide (d9 (ko p) h.K≥0)=true) by simp,jA,Y3];simp[ko]
theorem aX.of{h:ab}(n:dy h=true):aX h []:=by
 unfold dy lf at n;simp only[I0]at n;obtain⟨⟨⟨⟨⟨⟨⟨⟨⟨⟨B,t⟩,k⟩,o⟩,u⟩,f⟩,w⟩,C⟩,y⟩,d,e⟩,b⟩:=n;have g:=sf.of k;rw[tM k o]at u;have l:=o;unfold pages0 at l;simp only[I0]at l;unfold dr at f;simp only[I0,C0]at f;unfold ja at e;simp only[I0,C0]at e;obtain⟨⟨p,A⟩,O⟩:=e;obtain⟨D,E,F,G⟩:=(Ez y g).1 d;obtain⟨H,J,K⟩:=(xL g).1 p;unfold kG at w;have q:=cx.1 l.1.1.2;refine⟨B,t,k,(A5 _).1 l.1.1.1,(AZ _).1 (cx.2 λi L=>?_),Rm k t o u,f.1.1,f.1.2,f.2,λx M=>by simpa using Z3.1 w x M,λc N=>Z3.1 C c N,y,D,E,F,G,H,J,K,λa j=>(by cases j),(by simpa using A),λa=>?_,λr=>?_,λr=>?_⟩
 ·have:=q i L
  unfold sg at this;rw[I0]at this;exact this.1
 ·rw[List.nil_append,<-F5 g]
  exact⟨λj=>kC g d p a j,λj=>qW A (kC g d p) ω a j⟩
 ·unfold qE at b
  rw[C9 r]at b;simp only[I0,C0,D6]at b;exact⟨b.1.1,b.1.2,b.2⟩
 unfold qE at b;rw[C8 (by rw[r];simp)]at b;exact b
theorem aX.to{h:ab}(b:aX h []):dy h=true:=by
 have d:=b.L;obtain⟨g,j⟩:=Rn b.lay b.rng b.srs b.srl b.pg;have e:=(Ez b.nums d).2 ⟨b.osr,b.onu,b.oid,b.oow⟩;have f:=(xL d).2 ⟨b.hca,b.hqu,b.hfl⟩;unfold dy lf;simp only[I0];refine⟨⟨⟨⟨⟨⟨⟨⟨⟨⟨b.ker,b.rng⟩,b.lay⟩,g⟩,by rw[tM b.lay g];exact j⟩,?_⟩,?_⟩,Z3.2 b.cach⟩,b.nums⟩,e,?_⟩,?_⟩
 ·unfold dr
  rw[b.mail,b.quar,O0 b.nc];rfl
 ·unfold kG
  exact Z3.2 λx k=>O0 (b.snc x k)
 ·unfold ja
  have i:(holders h).Nodup:=by simpa using b.nd
  have c:∀a,a∈holders h↔a∈jb h.K h.M:=λa=>by rw[F5 d,<-b.mem a];simp
  have l:(holders h).Perm (jb h.K h.M):=(List.perm_ext_iff_of_nodup i (oB ..)).2 c;rw[f,O0 i,O0 l.length_eq];rfl
 unfold qE;cases c:h.o with
 | true=>
  obtain⟨n,o,p⟩:=b.job c;rw[C9 rfl,n,O0 (D6.2 o),O0 (D6.2 p)];rfl
 | false=>rw[C8 (by simp)];exact b.noj c
def dele{α:Type}(xs:List α)(i:Nat):List α:=xs.take i++xs.drop (i+1)
theorem fR{α:Type}(xs:List α)(i:Nat):(dele xs i).Sublist xs:=by
 unfold dele;rw[<-List.eraseIdx_eq_take_drop_succ];exact List.eraseIdx_sublist ..
theorem AW{α:Type}[Inhabited α]{xs:List α}{i:Nat}(a:i<xs.length):xs.Perm (nth xs i::dele xs i):=by
 have:xs=xs.take i++nth xs i::xs.drop (i+1):=by rw[<-iP a,List.take_append_drop]
 conv=>lhs;rw[this]
 exact List.perm_middle
theorem iT{α:Type}[Inhabited α](f:α->List Int)(a:Int):∀(xs:List α)(i:Nat)(y:α),i<xs.length->((xs.set i y).flatMap f).count a+(f (nth xs i)).count a=(xs.flatMap f).count a+(f y).count a
 | [],i,_,h=>by cases h
 | x::xs,0,y,_=>by
  show((y::xs).flatMap f).count a+(f x).count a=((x::xs).flatMap f).count a+(f y).count a;rw[O6,O6,W5,W5];omega
 | x::xs,i+1,y,h=>by
  have:=iT f a xs i y (by simpa using h);show((x::xs.set i y).flatMap f).count a+(f (nth xs i)).count a=((x::xs).flatMap f).count a+(f y).count a;rw[O6,O6,W5,W5];omega
theorem lw(a:List (List Int)):a.flatten=a.flatMap λx=>x:=by
 induction a with
 | nil=>rfl
 | cons x xs b=>rw[List.flatten_cons,O6,b]
theorem kh.any{sp:List ax}{a c:Int}(h:kh sp a c):kh sp a (-1):=by
 obtain⟨s,b,d,-⟩:=h;exact⟨s,b,d,.inl (by decide)⟩
theorem aX.cells{h:ab}{E:List Int}(a:aX h E){k:af}(c:a7 k=true)(b:k.F.Q=h.G.F.Q):aX {h with G:=k} E:=
 {a with
   ker:=c
   rng:=by show bC ((k.F.Q.J.length:Nat):Int) h.u=true;rw[b];exact a.rng
   pg:=by show Pg k.F.Q h.u h.K h.M;rw[b];exact a.pg}
theorem aX.dropO{h:ab}{E:List Int}{i:Nat}(b:aX h E)(g:i<h.O.length)(j:kh h.K (nth h.O i).Addr (-1)):aX {h with O:=dele h.O i} ((nth h.O i).Addr::E):=by
 have f:(E++holders h).Perm (((nth h.O i).Addr::E)++holders {h with O:=dele h.O i}):=by
  have k:=(AW g).map (·.Addr);refine List.perm_iff_count.2 λa=>?_
  have l:=k.count_eq a;simp only[V5,List.count_cons]at l;simp only[holders,cC,W5,List.cons_append,List.count_cons];omega
 have c:(dele h.O i).Sublist h.O:=fR ..;exact {b with
   osr:=b.osr.sublist c
   onu:=λo d=>b.onu o (c.subset d)
   oid:=b.oid.sublist (c.map _)
   oow:=λo d=>b.oow o (c.subset d)
   hin:=λa e=>by
     rcases List.mem_cons.1 e with rfl|e
     · exact j
     exact b.hin a e
   nd:=f.nodup_iff.1 b.nd
   mem:=λa=>by rw[<-f.mem_iff];exact b.mem a}
def mU(c:aE)(k:Nat)(a:Int):aE:=⟨c.b.set k (nth c.b k++[a])⟩
theorem aX.put{h:ab}{E:List Int}{a:Int}{t k:Nat}(g:aX h (a::E))(l:t<h.T.length)(q:k<(nth h.T t).b.length)(r:kh h.K a k)(u:bA (mU (nth h.T t) k a)=true):aX {h with T:=h.T.set t (mU (nth h.T t) k a)} E:=by
 have n:(a::E++holders h).Perm (E++holders {h with T:=h.T.set t (mU (nth h.T t) k a)}):=by
  refine List.perm_iff_count.2 λb=>?_
  have w:=iT (λc:aE=>c.b.flatten) b h.T t (mU (nth h.T t) k a) l;have p:=iT (λx:List Int=>x) b (nth h.T t).b k (nth (nth h.T t).b k++[a]) q;rw[<-lw,<-lw]at p;simp only[W5,List.count_singleton]at p;simp only[mU]at w;simp only[holders,cC,mU,W5,List.cons_append,List.count_cons];omega
 exact {g with
   nc:=by show(h.T.set ..).length=_;rw[O1];exact g.nc
   cach:=λc d=>by
     rcases C6 d with d|rfl
     · exact g.cach c d
     exact u
   onu:=by show ∀o∈h.O,1<=o.Id/\o.Id<=h.a - 1/\0<=o.a4/\o.a4<=(h.T.set t _).length - 1;rw[O1];exact g.onu
   hca:=λc d j i b f=>by
     rcases C6 d with d|rfl
     · exact g.hca c d j i b f
     simp only[mU,O1]at i;simp only[mU,bz]at f;by_cases e:k=j
     · subst e
       rw[C9 ⟨rfl,i⟩]at f;rcases Z2.1 f with f|f
       · exact g.hca _ (am l) _ i b f
       rw[I1.1 f];exact r
     rw[C8 λx=>e x.1]at f;exact g.hca _ (am l) _ i b f
   hin:=λb f=>g.hin b (z5 _ f)
   nd:=n.nodup_iff.1 g.nd
   mem:=λb=>by rw[<-n.mem_iff];exact g.mem b}
theorem aX.toQuar{h:ab}{E:List Int}{x:aQ}{q:bL}{out:List aQ}(d:aX h (x.Addr::E))(i:gv q=true)(f:h.a9.a6++[x]=out++q.a6)(j:x.b7<=h.b3)(k:kh h.K x.Addr x.d):aX {h with a9:=q} (out.map (·.Addr)++E):=by
 have c:∀y∈out++q.a6,y.b7<=h.b3/\kh h.K y.Addr y.d:=λy a=>by
  rw[<-f]at a;rcases Z2.1 a with a|a
  ·exact⟨d.snc y a,d.hqu y a⟩
  rw[I1.1 a];exact⟨j,k⟩
 have g:(x.Addr::E++holders h).Perm ((out.map (·.Addr)++E)++holders {h with a9:=q}):=by
  refine List.perm_iff_count.2 λb=>?_
  have n:=W0 (λl:List aQ=>(l.map (·.Addr)).count b) f;simp only[T5,W5,V5,List.map_nil,List.count_singleton]at n;simp only[holders,cC,W5,List.cons_append,List.count_cons];omega
 exact {d with
   quar:=i
   snc:=λy a=>(c y (Z2.2 (.inr a))).1
   hqu:=λy a=>(c y (Z2.2 (.inr a))).2
   hin:=λb e=>by
     rcases Z2.1 e with e|e
     · obtain⟨y,a,rfl⟩:=C4.1 e
       exact(c y (Z2.2 (.inl a))).2.any
     exact d.hin b (z5 _ e)
   nd:=g.nodup_iff.1 d.nd
   mem:=λb=>by rw[<-g.mem_iff];exact d.mem b}
def zv(b i:Int):Int:=((BitVec.ofInt IntKind.i64.bits b &&& ~~~BitVec.ofInt IntKind.i64.bits (2 ^ i.toNat)).toNat:Nat)
def mQ(s:ax)(i:Int):ax:={s with b2:=zv s.b2 i}
theorem ee(b i:Int):aS b i=true↔0<=b/\0<=i/\i<=15/\b.toNat.testBit i.toNat=true:=by
 unfold aS;rw[C0];refine and_congr_right λa=>and_congr_right λc=>and_congr_right λ_=>?_
 obtain⟨n,rfl⟩:=X2 a;rw[Nat.testBit_eq_decide_div_mod_eq,C0,W2]
 norm_cast
theorem EW{b i:Int}(f:0<=b/\b<=65535)(a:0<=i/\i<=15)(j:Nat):(zv b i).toNat.testBit j=(b.toNat.testBit j&&decide (i.toNat≠j)):=by
 have g:(2:Int) ^ i.toNat<=32768/\0<=(2:Int) ^ i.toNat:=by
  obtain⟨n,rfl⟩:=X2 a.1;rw[W2];have:(2:Nat) ^ n<=2 ^ 15:=Nat.pow_le_pow_right (by decide) ω;have c:((2 ^ n:Nat):Int)=(2:Int) ^ n:=Int.natCast_pow 2 n;rw[<-c];exact⟨Int.ofNat_le.2 this,Int.natCast_nonneg _⟩
 unfold zv;rw[W2,BitVec.testBit_toNat,BitVec.getLsbD_and,BitVec.getLsbD_not,<-BitVec.testBit_toNat,<-BitVec.testBit_toNat,nh ω,nh ω];rw[show((2:Int) ^ i.toNat).toNat=2 ^ i.toNat by rw[show(2:Int) ^ i.toNat=((2 ^ i.toNat:Nat):Int) by norm_cast,W2],Nat.testBit_two_pow];by_cases d:j<64
 ·rw[show decide (j<IntKind.i64.bits)=true from O0 d,Bool.true_and]
  congr 1
  by_cases e:i.toNat=j
  ·rw[O0 e,T0 (λx=>x e)];rfl
  rw[T0 e,O0 e];rfl
 rw[Nat.testBit_lt_two_pow (x:=b.toNat) (i:=j) (W3 (show b.toNat<2 ^ 16 by omega) (Nat.pow_le_pow_right (by decide) ω))]
 rfl
theorem B2{b i:Int}(a:0<=b/\b<=65535):0<=zv b i/\zv b i<=b:=by
 unfold zv;refine⟨ω,?_⟩;rw[BitVec.toNat_and,nh ω];have:=Nat.and_le_left (n:=b.toNat) (m:=(~~~BitVec.ofInt IntKind.i64.bits (2 ^ i.toNat)).toNat);omega
theorem FT{b i:Int}(a:0<=b/\b<=65535)(h:0<=i/\i<=15)(j:Int):aS (zv b i) j=true↔aS b j=true/\j≠i:=by
 rw[ee,ee,EW a h,I0,C0];have:=B2 (i:=i) a;constructor
 ·rintro⟨k,c,d,f,g⟩;exact⟨⟨a.1,c,d,f⟩,λe=>g (by rw[e])⟩
 rintro⟨⟨k,c,d,f⟩,g⟩;exact⟨this.1,c,d,f,λe=>g ω⟩
theorem eQ{s:ax}(h:bf s=true):0<=s.b2/\s.b2<=65535:=by
 unfold bf at h;simp only[C0]at h;have:=GB s.d;omega
theorem HZ{s:ax}(h:bf s=true)(i:Int):bf (mQ s i)=true:=by
 have b:=eQ h;have a:=B2 (i:=i) b;unfold bf at h;rw[C0]at h;obtain⟨c,d,e,f,j,g⟩:=h;exact O0 ⟨c,d,e,f,a.1,X4 a.2 g⟩
theorem uG{s u:ax}(a:bf s=true){i:Int}(b:0<=i/\i<=15)(h:meshable s u=true):meshable (mQ s i) u=true:=by
 unfold meshable at h |-;simp only[I0,C0]at h |-;obtain⟨⟨c,d⟩,e,f,g⟩:=h;refine⟨⟨HZ c i,d⟩,e,f,?_⟩;refine Nat.eq_of_testBit_eq λj=>?_
 have:=W0 (λn=>Nat.testBit n j) g;simp only[Nat.testBit_and,Nat.zero_testBit,mQ,EW (eQ a) b]at this |-;cases k:s.b2.toNat.testBit j<;>cases l:u.b2.toNat.testBit j<;>rw[k,l]at this<;>simp_all
def dz(s:ax)(a:Int):Int:=(a - 16*s.R) / csz s.d
theorem pX{s:ax}(h:bf s=true){a:Int}(c:16*s.R<=a/\a<=16*s.R+15):0<=dz s a/\dz s a<=15:=by
 have b:=aF h;unfold dz;rcases bO ⟨b.2.2.1,b.2.2.2⟩ with e|e|e|e<;>rw[e]<;>omega
theorem wT{s:ax}(h:bf s=true){a b:Int}(d:(a - 16*s.R) % csz s.d=0)(f:(b - 16*s.R) % csz s.d=0)(e:dz s a=dz s b):a=b:=by
 have c:=aF h;unfold dz at e;rcases bO ⟨c.2.2.1,c.2.2.2⟩ with z|z|z|z<;>rw[z]at d f e<;>omega
theorem A4{s:ax}(h:bf s=true){a:Int}(k:eL s a)(b:Int):eL (mQ s (dz s a)) b↔eL s b/\b≠a:=by
 obtain⟨l,n,o,p⟩:=k;have d:=pX h ⟨l,n⟩;unfold eL;simp only[mQ];rw[FT (eQ h) d];constructor
 ·rintro⟨f,g,c,i,j⟩
  exact⟨⟨f,g,c,i⟩,λe=>j (by rw[e];rfl)⟩
 rintro⟨⟨f,g,c,i⟩,j⟩
 exact⟨f,g,c,i,λe=>j (wT h c o e)⟩
theorem dY{α:Type}[Inhabited α]{xs:List α}{i:Nat}{y z:α}(h:z∈xs.set i y):z=y\/∃j,j<xs.length/\j≠i/\nth xs j=z:=by
 obtain⟨j,a,rfl⟩:=List.mem_iff_getElem.1 h;rw[List.getElem_set];by_cases e:i=j
 ·subst e;simp
 rw[C8 e];rw[O1]at a;exact .inr ⟨j,a,λx=>e x.symm,bm (C2 a)⟩
theorem jM{α:Type}[Inhabited α]{xs:List α}{i j:Nat}(y:α)(a:j<xs.length)(e:j≠i):nth xs j∈xs.set i y:=by
 have:nth (xs.set i y) j=nth xs j:=by rw[bz,C8 λx=>e x.1.symm]
 rw[<-this];exact am (by rw[O1];exact a)
theorem iV{α:Type}{xs:List α}{i:Nat}(y:α)(a:i<xs.length):y∈xs.set i y:=by
 refine List.mem_iff_getElem.2 ⟨i,by rw[O1];exact a,by simp⟩
theorem N3{sp:List ax}{i:Nat}(k:Int)(a:i<sp.length):(sp.set i (mQ (nth sp i) k)).map (·.R)=sp.map (·.R):=by
 rw[X5];refine List.ext_getElem (by simp) λj b c=>?_
 rw[List.getElem_set];split
 ·rename_i e;subst e
  rw[List.getElem_map];show(nth sp i).R=_;rw[bm (C2 a)]
 rfl
theorem kh.set{sp:List ax}{la:List a8}(q:sf sp la){i:Nat}(k:i<sp.length){a:Int}(l:eL (nth sp i) a)(b c:Int):kh (sp.set i (mQ (nth sp i) (dz (nth sp i) a))) b c↔kh sp b c/\b≠a:=by
 have g:=q.sok _ (am k);constructor
 ·rintro⟨s,o,d,h⟩
  rcases dY o with rfl|⟨j,n,r,rfl⟩
  ·have:=(A4 g l b).1 d
   exact⟨⟨_,am k,this.1,h⟩,this.2⟩
  refine⟨⟨_,am n,d,h⟩,λe=>?_⟩;subst e;have:=cJ (f:=(·.R)) q.nd k n (by have t:=l.1;have u:=l.2.1;have w:=d.1;have y:=d.2.1;omega);omega
 rintro⟨⟨s,o,d,h⟩,p⟩
 obtain⟨j,n,rfl⟩:=aL o;by_cases e:j=i
 ·subst e
  exact⟨_,iV _ k,(A4 g l b).2 ⟨d,p⟩,h⟩
 exact⟨_,jM _ n e,d,h⟩
theorem aX.give{h:ab}{E:List Int}{a:Int}{i:Nat}(d:aX h (a::E))(J:i<h.K.length)(K:eL (nth h.K i) a):aX {h with K:=h.K.set i (mQ (nth h.K i) (dz (nth h.K i) a))} E:=by
 have G:=d.L;have Q:=G.sok _ (am J);have M:=pX Q ⟨K.1,K.2.1⟩;have f:=λb c=>kh.set G J K b c
 have A:=N3 (dz (nth h.K i) a) J;generalize R:h.K.set i (mQ (nth h.K i) (dz (nth h.K i) a))=sp at f A;have q:pgs sp h.M=pgs h.K h.M:=by unfold pgs;rw[A]
 have B:=d.nd;rw[List.cons_append]at B;obtain⟨S,B⟩:=List.nodup_cons.1 B;have r:∀b,b∈E++holders h->b≠a:=λb g e=>S (by rw[<-e];exact g)
 have C:∀b,b∈holders h->b≠a:=λb g=>r b (Z2.2 (.inr g))
 have T:∀l∈h.M,16*l.R≠a:=λl O e=>(xW G O).1 _ (am J) (by have a1:=K.1;have a2:=K.2.1;omega)
 have t:∀s∈sp,∃u∈h.K,u.R=s.R/\(s=u\/s=mQ u (dz (nth h.K i) a)):=λs p=>by
  rw[<-R]at p;rcases dY p with rfl|⟨j,hj,hji,rfl⟩
  ·exact⟨_,am J,rfl,.inr rfl⟩
  exact⟨_,am hj,rfl,.inl rfl⟩
 have N:∀u∈h.K,∃s∈sp,s.R=u.R:=λu y=>by
  have:u.R∈sp.map (·.R):=by rw[A];exact C4.2 ⟨u,y,rfl⟩
  obtain⟨s,p,e⟩:=C4.1 this;exact⟨s,p,e⟩
 exact {d with
   lay:=by
     obtain⟨l1,l2,l3⟩:=dA d.lay;unfold bn;simp only[I0,C0];refine⟨⟨Z3.2 λs p=>?_,l2⟩,by rw[q];exact l3⟩;obtain⟨u,y,-,rfl|rfl⟩:=t s p
     · exact G.sok _ y
     exact HZ (G.sok _ y) _
   srs:=by
     have n:(h.K.map (·.R)).Pairwise (λa b=>a<b):=List.pairwise_map.2 d.srs;rw[<-A]at n;exact List.pairwise_map.1 n
   pg:=⟨d.pg.one,by rw[q];exact d.pg.bnd,by rw[q];exact d.pg.own,d.pg.fre,λs p u y r hf=>by
     obtain⟨U,D,Z,V⟩:=t s p;obtain⟨P,F,eu,W⟩:=t u y;have n:=d.pg.mesh U D P F (by rw[Z,eu];exact r) (by rw[Z,eu];exact hf);have w:meshable s P=true:=by
       rcases V with rfl|rfl
       · exact n
       exact uG (G.sok _ D) M n
     rcases W with rfl|rfl
     · exact w
     rw[gW]at w |-;exact uG (G.sok _ F) M w⟩
   oow:=λo ho=>by
     have X:o.Addr≠a:=C _ (by unfold holders;simp only[Z2];exact .inl (.inl (.inl (C4.2 ⟨o,ho,rfl⟩))));rcases d.oow o ho with⟨s,p,n,w⟩|n
     · obtain⟨u,y,Y,H⟩:=(f o.Addr (aJ o.q)).2 ⟨⟨s,p,n,.inr w⟩,X⟩
       refine .inl ⟨u,y,Y,?_⟩;rcases H with H|H
       · have:=aF (G.sok _ p);omega
       exact H
     exact .inr n
   hca:=λc hc k hk b g=>(f b k).2 ⟨d.hca c hc k hk b g,C b (by
     unfold holders cC;simp only[Z2];exact .inl (.inl (.inr (List.mem_flatMap.2 ⟨c,hc,List.mem_flatten.2 ⟨_,am hk,g⟩⟩))))⟩
   hqu:=λx hx=>(f _ _).2 ⟨d.hqu x hx,C _ (by unfold holders;simp only[Z2];exact .inl (.inr (C4.2 ⟨x,hx,rfl⟩)))⟩
   hfl:=λb g=>(f _ _).2 ⟨d.hfl b g,C _ (by unfold holders;simp only[Z2];exact .inr g)⟩
   hin:=λb g=>(f _ _).2 ⟨d.hin b (z5 _ g),r b (Z2.2 (.inl g))⟩
   nd:=B
   mem:=λb=>by
     show b∈E++holders h↔m9 sp h.M b;have n:=d.mem b;rw[List.cons_append,List.mem_cons]at n;unfold m9 at n |-;rw[f];constructor
     · intro g
       rcases n.1 (.inr g) with w|w
       · exact .inl ⟨w,r b g⟩
       exact .inr w
     rintro(⟨w,h3⟩|⟨l,O,rfl⟩)
     · exact(n.2 (.inl w)).resolve_left h3
     exact(n.2 (.inr ⟨l,O,rfl⟩)).resolve_left (T l O)
   job:=λhm=>by
     obtain⟨j1,⟨s,p,e1⟩,⟨u,y,e2⟩⟩:=d.job hm;obtain⟨U,D,Y⟩:=N s p;obtain⟨P,F,H⟩:=N u y;exact⟨j1,⟨U,D,Y.trans e1⟩,⟨P,F,H.trans e2⟩⟩}
def unmN(k:af)(p:Int):Nat->af
 | 0=>k
 | n+1=>dU (unmN k p n) (p+n)
theorem iY{k:af}(h:a7 k=true)(p:Int):∀n,a7 (unmN k p n)=true
 | 0=>h
 | n+1=>yk _ (iY h p n)
theorem fS(k:af)(p:Int):∀n,(unmN k p n).F.Q.J.length=k.F.Q.J.length/\(unmN k p n).Calls=k.Calls/\(unmN k p n).a0=k.a0
 | 0=>⟨rfl,rfl,rfl⟩
 | n+1=>by
  obtain⟨a,b,c⟩:=fS k p n;obtain⟨d,e,f⟩:=l7 (unmN k p n) (p+n);exact⟨d.trans a,e.trans b,f.trans c⟩
theorem r7{k:af}(h:a7 k=true){p:Int}(d:0<=p/\p<k.F.Q.J.length)(q:Nat):nth (dU k p).F.Q.J q=if(q:Int)=p then⟨0,0⟩ else nth k.F.Q.J q:=by
 have g:ac k.F.Q p=nth k.F.Q.J p.toNat:=by unfold ac;rw[C9 d]
 unfold dU;split
 ·rename_i a
  split
  ·rename_i i
   rw[g]at a;have b:=(bv.1 (aB.1 h).2.2.1).1 p.toNat ω;unfold ky at b;rw[C0]at b;have c:=b.2.2.1 a;rw[show q=p.toNat by omega];generalize nth k.F.Q.J p.toNat=e at a c;obtain⟨m,f⟩:=e;simp only at a c;rw[a,c]
  rfl
 rw[(mJ _ _).1];simp only[qg,bz];by_cases e:(q:Int)=p
 ·rw[C9 ⟨ω,ω⟩,C9 e]
 rw[C8 λx=>e ω,C8 e]
theorem mR{k:af}(h:a7 k=true){p:Int}(b:0<=p):∀n:Nat,p+n<=k.F.Q.J.length->∀q:Nat,nth (unmN k p n).F.Q.J q=if p<=q/\(q:Int)<p+n then⟨0,0⟩ else nth k.F.Q.J q
 | 0,_,q=>by rw[C8 ω];rfl
 | n+1,f,q=>by
  have c:=mR h b n ω q;have d:=r7 (iY h p n) (p:=p+n) ⟨ω,by rw[(fS k p n).1];omega⟩ q;show nth (dU (unmN k p n) (p+n)).F.Q.J q=_;rw[d,c];by_cases e:(q:Int)=p+n
  ·rw[C9 e,C9 ⟨ω,ω⟩]
  rw[C8 e];by_cases a:p<=q/\(q:Int)<p+n
  ·rw[C9 a,C9 ⟨ω,ω⟩]
  rw[C8 a,C8 ω]
theorem EJ{α β:Type}(f:α->List β){xs c:List α}(h:xs.Sublist c):(xs.flatMap f).Sublist (c.flatMap f):=by
 induction h with
 | slnil=>exact List.Sublist.refl _
 | cons a _ b=>rw[O6];exact b.trans (List.sublist_append_right ..)
 | cons_cons a _ b=>rw[O6,O6];exact List.Sublist.append (List.Sublist.refl _) b
theorem xI{h:ab}{E:List Int}(c:aX h E){sp:List ax}{la:List a8}{p:Int}{n:Nat}(Y:1<=n)(w:sp.Sublist h.K)(D:la.Sublist h.M)(j:∀q:Int,p<=q->q<p+n->q∈pgs h.K h.M)(K:0<=p)(F:∀q,q∈pgs sp la↔q∈pgs h.K h.M/\¬(p<=q/\q<p+n)) :
  ∃o,dL (eY h) h.u ⟨p,n⟩ = some o/\a7 (unmN h.G p n)=true/\bC ((unmN h.G p n).F.Q.J.length:Nat) o=true/\bn sp la=true/\Pg (unmN h.G p n).F.Q o sp la:=by
 have t:=c.pg.bnd _ (j (p+n - 1) ω ω);have a:=(fS h.G p n).1;have y:p+n<=h.G.F.Q.J.length:=by unfold tbl at t;omega
 have g:=mR c.ker K n y;obtain⟨o,Q,R,S⟩:=uW (r:=⟨p,n⟩) c.rng ⟨K,by simp only;omega,y⟩ λq M N=>by
  simp only at M N;obtain⟨m,rfl⟩:=X2 (show 0<=q by omega);have A:m<(tbl h).J.length:=by unfold tbl;omega
  exact(c.pg.fre m A).1 ((c.pg.own m A).2 (j _ M N))
 refine⟨o,Q,iY c.ker p n,by rw[a];exact R,?_,?_⟩
 ·obtain⟨T,U,V⟩:=dA c.lay
  unfold bn;simp only[I0,C0];exact⟨⟨Z3.2 λs d=>Z3.1 T s (w.subset d),Z3.2 λl d=>Z3.1 U l (D.subset d)⟩,V.sublist ((w.map _).append (EJ _ D))⟩
 have i:∀q:Nat,(q:Int)∈pgs sp la->nth (unmN h.G p n).F.Q.J q=nth (tbl h).J q:=λq f=>by rw[g,C8 ((F q).1 f).2];rfl
 have b:∀q:Nat,(nth (unmN h.G p n).F.Q.J q).j≠0↔(nth (tbl h).J q).j≠0/\¬(p<=q/\(q:Int)<p+n):=λq=>by
  rw[g];by_cases e:p<=q/\(q:Int)<p+n
  ·rw[C9 e];exact⟨λx=>absurd rfl x,λx=>absurd e x.2⟩
  rw[C8 e];exact⟨λx=>⟨x,e⟩,λx=>x.1⟩
 refine⟨λl d q f r O G B=>?_,λq f=>?_,λq f=>?_,λq f=>?_,λs d u H J P=>?_⟩
 ·have C:=(b r).1 G
  rw[a]at O;rw[i q (gl d f),g,C8 C.2]at B;exact c.pg.one l (D.subset d) q f r O C.1 B
 ·rw[a];exact c.pg.bnd q ((F q).1 f).1
 ·rw[a]at f
  rw[b,F,c.pg.own q f]
 ·rw[a]at f
  rw[b,S,c.pg.fre q f];simp only
  grind
 have k:∀s∈sp,0<=s.R:=λs d=>(aF (c.L.sok s (w.subset d))).1
 have W:=i s.R.toNat (by rw[Int.toNat_of_nonneg (k s d)];exact dC d);have X:=i u.R.toNat (by rw[Int.toNat_of_nonneg (k u H)];exact dC H);rw[W,X]at P;exact c.pg.mesh s (w.subset d) u (w.subset H) J P
theorem cU{α:Type}[Inhabited α]{xs:List α}{k:Nat}{z:α} : z∈dele xs k↔∃j,j<xs.length/\j≠k/\nth xs j=z:=by
 unfold dele;rw[Z2];constructor
 ·rintro(h|h)
  ·obtain⟨j,a,rfl⟩:=List.mem_take_iff_getElem.1 h
   exact⟨j,ω,ω,bm (C2 ω)⟩
  obtain⟨j,a,rfl⟩:=List.mem_drop_iff_getElem.1 h;exact⟨k+1+j,ω,ω,bm (C2 ω)⟩
 rintro⟨j,a,b,rfl⟩
 rw[bm (C2 a)];by_cases e:j<k
 ·exact .inl (List.mem_take_iff_getElem.2 ⟨j,ω,rfl⟩)
 refine .inr (List.mem_drop_iff_getElem.2 ⟨j - (k+1),ω,?_⟩)
 congr 1;omega
theorem pT{sp:List ax}{la:List a8}{q:Int} : q∈pgs sp la↔(∃s∈sp,s.R=q)\/∃l∈la,q∈lpgs l l.a3.toNat:=by
 unfold pgs;simp only[Z2,C4,List.mem_flatMap]
theorem wl{s:ax}(h:s.b2=0)(a:Int):¬eL s a:=by
 rintro⟨-,-,-,b⟩
 rw[ee,h]at b;simp at b
theorem aX.giveSpan{h:ab}{E:List Int}{i:Nat}(g:aX h E)(B:i<h.K.length)(y:(nth h.K i).b2=0)(W:h.o=true->(nth h.K i).R≠h.Y.V.a2/\(nth h.K i).R≠h.Y.V.w) :
  ∃o,dL (eY h) h.u ⟨(nth h.K i).R,1⟩ = some o/\aX {h with G:=dU h.G (nth h.K i).R,K:=dele h.K i,u:=o} E:=by
 have F:=g.L;have G:=aF (F.sok _ (am B));have A:∀q,q∈pgs (dele h.K i) h.M↔q∈pgs h.K h.M/\¬((nth h.K i).R<=q/\q<(nth h.K i).R+(1:Nat)):=λq=>by
  rw[pT,pT];constructor
  ·rintro(⟨s,r,rfl⟩|⟨l,C,D⟩)
   ·obtain⟨j,d,H,rfl⟩:=cU.1 r
    refine⟨.inl ⟨_,am d,rfl⟩,λe=>H (cJ (f:=(·.R)) F.nd d B ω)⟩
   refine⟨.inr ⟨l,C,D⟩,λe=>?_⟩;obtain⟨k,J,rfl⟩:=dx.1 D;exact F.dis _ (am B) l C k J ω
  rintro⟨⟨s,r,rfl⟩|⟨l,C,D⟩,K⟩
  ·obtain⟨j,d,rfl⟩:=aL r
   refine .inl ⟨_,cU.2 ⟨j,d,λe=>K (by subst e;omega),rfl⟩,rfl⟩
  exact .inr ⟨l,C,D⟩
 obtain⟨o,X,Q,R,Y,S⟩:=xI g (sp:=dele h.K i) (la:=h.M) (p:=(nth h.K i).R) (n:=1) (z3 _) (fR ..) (List.Sublist.refl _) (λq q1 q2=>by rw[show q=(nth h.K i).R by omega];exact dC (am B)) G.1 A;have M:unmN h.G (nth h.K i).R 1=dU h.G (nth h.K i).R:=by show dU h.G ((nth h.K i).R+((0:Nat):Int))=_;rw[show(nth h.K i).R+((0:Nat):Int)=(nth h.K i).R by omega]
 rw[M]at Q R S;have t:∀b c,kh (dele h.K i) b c↔kh h.K b c:=λb c=>by
  constructor
  ·rintro⟨s,r,w⟩;exact⟨s,(fR ..).subset r,w⟩
  rintro⟨s,r,w,N⟩
  obtain⟨j,d,rfl⟩:=aL r;exact⟨_,cU.2 ⟨j,d,λe=>wl y b (by rw[<-e];exact w),rfl⟩,w,N⟩
 refine⟨o,X,{g with
   ker:=Q
   rng:=R
   lay:=Y
   srs:=g.srs.sublist (fR ..)
   pg:=S
   oow:=λZ ho=>?_
   hca:=λc G k J b y=>(t b k).2 (g.hca c G k J b y)
   hqu:=λx hx=>(t _ _).2 (g.hqu x hx)
   hfl:=λb y=>(t _ _).2 (g.hfl b y)
   hin:=λb y=>(t _ _).2 (g.hin b y)
   mem:=λb=>(g.mem b).trans ?_
   job:=λT=>?_}⟩
 ·rcases g.oow Z ho with⟨s,r,w,N⟩|w
  ·obtain⟨j,d,rfl⟩:=aL r
   exact .inl ⟨_,cU.2 ⟨j,d,λe=>wl y _ (by rw[<-e];exact w),rfl⟩,w,N⟩
  exact .inr w
 ·unfold m9;rw[t]
 obtain⟨j1,⟨s,r,U⟩,⟨u,M,V⟩⟩:=g.job T;obtain⟨n1,n2⟩:=W T;obtain⟨a,O,rfl⟩:=aL r;obtain⟨b,P,rfl⟩:=aL M;exact⟨j1,⟨_,cU.2 ⟨a,O,λe=>n1 (by rw[<-e];exact U),rfl⟩,U⟩,⟨_,cU.2 ⟨b,P,λe=>n2 (by rw[<-e];exact V),rfl⟩,V⟩⟩
theorem aX.dropL{h:ab}{E:List Int}{i k:Nat}(d:aX h E)(S:i<h.O.length)(y:k<h.M.length)(G:(nth h.O i).Addr=16*(nth h.M k).R) :
  ∃o,dL (eY h) h.u ⟨(nth h.M k).R,(nth h.M k).a3⟩ = some o/\aX {h with G:=unmN h.G (nth h.M k).R (nth h.M k).a3.toNat,M:=dele h.M k,u:=o,O:=dele h.O i} E:=by
 have A:=d.L;have T:=aP (A.lok _ (am y));have C:∀q,q∈pgs h.K (dele h.M k)↔q∈pgs h.K h.M/\¬((nth h.M k).R<=q/\q<(nth h.M k).R+((nth h.M k).a3.toNat:Nat)):=λq=>by
  rw[pT,pT];constructor
  ·rintro(⟨s,B,rfl⟩|⟨l,f,D⟩)
   ·refine⟨.inl ⟨s,B,rfl⟩,λe=>A.dis s B _ (am y) (s.R - (nth h.M k).R).toNat ω ω⟩
   obtain⟨j,c,t,rfl⟩:=cU.1 f;refine⟨.inr ⟨_,am c,D⟩,λe=>?_⟩;obtain⟨m,N,rfl⟩:=dx.1 D;exact t (A.one j k c y m ((nth h.M j).R+(m:Int) - (nth h.M k).R).toNat N ω ω)
  rintro⟨⟨s,B,rfl⟩|⟨l,f,D⟩,g⟩
  ·exact .inl ⟨s,B,rfl⟩
  obtain⟨j,c,rfl⟩:=aL f;refine .inr ⟨_,cU.2 ⟨j,c,λe=>g ?_,rfl⟩,D⟩;subst e;obtain⟨m,N,rfl⟩:=dx.1 D;omega
 obtain⟨o,O,U,V,W,X⟩:=xI d (sp:=h.K) (la:=dele h.M k) (p:=(nth h.M k).R) (n:=(nth h.M k).a3.toNat) ω (List.Sublist.refl _) (fR ..) (λq q1 q2=>gl (am y) (dx.2 ⟨(q - (nth h.M k).R).toNat,ω,ω⟩)) T.2.2.1 C;rw[Int.toNat_of_nonneg ω]at O;have P:(E++holders h).Perm ((nth h.O i).Addr::(E++holders {h with O:=dele h.O i})):=by
  have Y:=(AW S).map (·.Addr);refine List.perm_iff_count.2 λa=>?_
  have r:=Y.count_eq a;simp only[V5,List.count_cons]at r;simp only[holders,cC,W5,List.count_cons];omega
 have u:=P.nodup_iff.1 d.nd;obtain⟨K,u⟩:=List.nodup_cons.1 u;have w:∀b,(b=(nth h.O i).Addr\/b∈E++holders {h with O:=dele h.O i})↔m9 h.K h.M b:=λb=>by rw[<-d.mem b,P.mem_iff,List.mem_cons]
 have g:∀b,b∈E++holders {h with O:=dele h.O i}->b≠(nth h.O i).Addr:=λb H e=>K (by rw[<-e];exact H)
 refine⟨o,O,{d with
   ker:=U
   rng:=V
   lay:=W
   srl:=d.srl.sublist (fR ..)
   pg:=X
   osr:=d.osr.sublist (fR ..)
   onu:=λF J=>d.onu F ((fR ..).subset J)
   oid:=d.oid.sublist ((fR ..).map _)
   oow:=λF J=>?_
   nd:=u
   mem:=λb=>?_}⟩
 ·rcases d.oow F ((fR ..).subset J) with r|⟨l,f,Q,Z⟩
  ·exact .inl r
  obtain⟨j,c,rfl⟩:=aL f;refine .inr ⟨_,cU.2 ⟨j,c,λe=>?_,rfl⟩,Q,Z⟩;subst e;refine g F.Addr (Z2.2 (.inr ?_)) (by rw[G];exact Q);unfold holders;simp only[Z2];exact .inl (.inl (.inl (C4.2 ⟨F,J,rfl⟩)))
 constructor
 ·intro H
  rcases(w b).1 (.inr H) with r|⟨l,f,rfl⟩
  ·exact .inl r
  obtain⟨j,c,rfl⟩:=aL f;exact .inr ⟨_,cU.2 ⟨j,c,λe=>g _ H (by rw[G,e]),rfl⟩,rfl⟩
 rintro(r|⟨l,f,rfl⟩)
 ·refine((w b).2 (.inl r)).resolve_left λe=>?_
  obtain⟨s,B,⟨M,R,-⟩,-⟩:=r;exact(xW A (am y)).1 s B (by rw[e,G]at M R;exact⟨M,R⟩)
 obtain⟨j,c,t,rfl⟩:=cU.1 f;refine((w _).2 (.inr ⟨_,am c,rfl⟩)).resolve_left λe=>t ?_
 have M:=aP (A.lok _ (am c));rw[G]at e;exact A.one j k c y 0 0 ω ω ω
def gm(h:ab)(p:Int):Bool:=h.o&&(decide (p=h.Y.V.a2) || decide (p=h.Y.V.w))
def giveP(h:ab)(i:Nat):ab:={h with G:=dU h.G (nth h.K i).R,K:=dele h.K i,u:=(dL (eY h) h.u ⟨(nth h.K i).R,1⟩).getD h.u}
def clrS(h:ab)(i:Nat)(a:Int):ab:={h with K:=h.K.set i (mQ (nth h.K i) (dz (nth h.K i) a))}
def freeS(h:ab)(i:Nat)(a:Int):ab:=if(mQ (nth h.K i) (dz (nth h.K i) a)).b2=0/\gm h (nth h.K i).R=false then giveP (clrS h i a) i else clrS h i a
def ui(h:ab)(a:Int):Nat:=(gI h (a / 16)).toNat
def freeA(h:ab)(a:Int):ab:=freeS h (ui h a) a
def cput(c:aE)(k a:Int):Option aE:=if bA c=true/\0<=k/\k<=3/\bA (mU c k.toNat a)=true then some (mU c k.toNat a) else none
def recyc(t:Nat)(h:ab)(a:Int):ab:=match cput (nth h.T t) (nth h.K (ui h a)).d a with
 | some c=>{h with T:=h.T.set t c}
 | none=>freeA h a
theorem aX.at{h:ab}{E:List Int}{a:Int}(e:aX h E)(f:kh h.K a (-1)):ui h a<h.K.length/\eL (nth h.K (ui h a)) a/\gI h (a / 16)=(ui h a:Nat):=by
 obtain⟨s,g,c,-⟩:=f;obtain⟨i,d,rfl⟩:=aL g;have j:(nth h.K i).R=a / 16:=by have l:=c.1;have n:=c.2.1;omega
 have b:=uy e.L d;rw[j]at b;have k:ui h a=i:=by unfold ui;rw[b];rfl
 rw[k];exact⟨d,c,b⟩
theorem y1{h:ab}{p:Int}(e:gm h p=false)(a:h.o=true):p≠h.Y.V.a2/\p≠h.Y.V.w:=by
 unfold gm at e;rw[a]at e;simpa using e
theorem aX.freeS{h:ab}{E:List Int}{a:Int}{i:Nat}(f:aX h (a::E))(b:i<h.K.length)(g:eL (nth h.K i) a):aX (freeS h i a) E:=by
 have c:=f.give b g;unfold Ab.freeS;split
 ·rename_i e
  have d:nth (clrS h i a).K i=mQ (nth h.K i) (dz (nth h.K i) a):=by unfold clrS;simp only[bz,true_and];rw[C9 b]
  obtain⟨o,j,k⟩:=aX.giveSpan (h:=clrS h i a) c (i:=i) (by unfold clrS;simp only[O1];exact b) (by rw[d];exact e.1) (λl=>by rw[d];exact y1 e.2 l);unfold giveP;rw[j];exact k
 exact c
theorem aX.freeA{h:ab}{E:List Int}{a:Int}(b:aX h (a::E)):aX (freeA h a) E:=by
 obtain⟨c,d,-⟩:=b.at (b.hin a (V1 ..));exact b.freeS c d
theorem pv{c:aE}(h:bA c=true):c.b.length=4:=by
 unfold bA at h;simp only[I0,C0]at h;exact h.1
theorem aX.recyc{h:ab}{E:List Int}{a:Int}{t:Nat}(b:aX h (a::E))(f:t<h.T.length):aX (recyc t h a) E:=by
 obtain⟨g,i,-⟩:=b.at (b.hin a (V1 ..));unfold Ab.recyc;split
 ·rename_i c d
  unfold cput at d;split at d
  ·rename_i e
   cases d;obtain⟨j,l,n,k⟩:=e;exact b.put f (by rw[pv j];omega) ⟨_,am g,i,.inr ω⟩ k
  cases d
 exact b.freeA
theorem wJ(h:ab)(i:Nat)(a:Int):(freeS h i a).T=h.T/\(freeS h i a).O=h.O/\(freeS h i a).G.Calls=h.G.Calls/\(freeS h i a).y=h.y/\(freeS h i a).Y=h.Y/\(freeS h i a).b3=h.b3/\(freeS h i a).a9=h.a9/\(freeS h i a).G.a0=h.G.a0:=by
 unfold freeS;split
 ·obtain⟨-,b,c⟩:=l7 (clrS h i a).G (nth (clrS h i a).K i).R
  exact⟨rfl,rfl,b,rfl,rfl,rfl,rfl,c⟩
 exact⟨rfl,rfl,rfl,rfl,rfl,rfl,rfl,rfl⟩
theorem nE(t:Nat)(h:ab)(a:Int):(recyc t h a).T.length=h.T.length/\(recyc t h a).O=h.O/\(recyc t h a).G.Calls=h.G.Calls/\(recyc t h a).y=h.y/\(recyc t h a).Y=h.Y/\(recyc t h a).b3=h.b3/\(recyc t h a).a9=h.a9/\(recyc t h a).G.a0=h.G.a0:=by
 unfold recyc;split
 ·exact⟨O1 ..,rfl,rfl,rfl,rfl,rfl,rfl,rfl⟩
 obtain⟨b,c⟩:=wJ h (ui h a) a;exact⟨W0 _ b,c⟩
def recycs(t:Nat)(h:ab)(az:List Int):ab:=az.foldl (recyc t) h
theorem fo(t:Nat):∀(az:List Int)(h:ab),(recycs t h az).T.length=h.T.length/\(recycs t h az).O=h.O/\(recycs t h az).G.Calls=h.G.Calls/\(recycs t h az).y=h.y/\(recycs t h az).Y=h.Y/\(recycs t h az).b3=h.b3/\(recycs t h az).a9=h.a9/\(recycs t h az).G.a0=h.G.a0
 | [],h=>⟨rfl,rfl,rfl,rfl,rfl,rfl,rfl,rfl⟩
 | a::az,h=>by
  obtain⟨b,c,d,e,f,g,i,j⟩:=fo t az (recyc t h a);obtain⟨k,l,n,o,p,q,r,u⟩:=nE t h a;exact⟨b.trans k,c.trans l,d.trans n,e.trans o,f.trans p,g.trans q,i.trans r,j.trans u⟩
theorem aX.recycs{t:Nat}{E:List Int} : ∀{az:List Int}{h:ab},aX h (az++E)->t<h.T.length->aX (recycs t h az) E
 | [],h,b,_=>b
 | a::az,h,b,c=>aX.recycs (az:=az) (h:=Ab.recyc t h a) (b.recyc c) (by rw[(nE t h a).1];exact c)
def qc(l:List aQ):Int:=quarCells l l.length
def ox(room:Int):List aQ->Nat
 | []=>0
 | x::xs=>if room<qc (x::xs) then ox room xs+1 else 0
def KK(q:bL)(x:aQ):bL:=⟨q.c1,(q.a6++[x]).drop (ox q.c1 (q.a6++[x]))⟩
def zm(q:bL)(x:aQ):List aQ:=(q.a6++[x]).take (ox q.c1 (q.a6++[x]))
theorem DX(room:Int):∀l,ox room l<=l.length
 | []=>z3 _
 | x::xs=>by unfold ox;split;(have:=DX room xs;simp only[List.length_cons];omega);omega
theorem Dr{room:Int}(a:0<=room):∀l:List aQ,qc (l.drop (ox room l))<=room
 | []=>a
 | x::xs=>by
  unfold ox;split
  ·exact Dr a xs
  rename_i h;show qc (x::xs)<=room;omega
theorem zP{room:Int} : ∀{l:List aQ}{k:Nat},k<ox room l->room<qc (l.drop k)
 | [],k,h=>by cases h
 | x::xs,0,h=>by
  unfold ox at h;split at h
  ·assumption
  omega
 | x::xs,k+1,h=>by
  unfold ox at h;split at h
  ·exact zP (l:=xs) ω
  omega
theorem kg{q:bL} : gv q=true↔(∀x∈q.a6,0<=x.d/\x.d<=3/\0<=x.Addr/\0<=x.b7)/\(q.a6.Pairwise λa b=>a.b7<=b.b7)/\(q.a6.map (·.Addr)).Nodup/\0<=q.c1/\q.c1<=500/\qc q.a6<=q.c1:=by
 refine Iff.trans ?_ (and_congr Iff.rfl (and_congr (wa (λa b:Int=>a<=b) (λa b c=>X4) (λs:aQ=>s.b7) q.a6) (and_congr (AY (λs:aQ=>s.Addr) q.a6) Iff.rfl)));unfold gv qc;simp only[I0,C0,cx,kJ,Bool.not_eq_true',List.any_eq_false,eR];constructor
 ·rintro⟨e,f⟩
  refine⟨λx l=>?_,λi d=>(e i d).1.2.2.2.2,λi d=>(e i d).2,f⟩;obtain⟨i,d,rfl⟩:=aL l;obtain⟨⟨g,h,j,k,-⟩,-⟩:=e i d;exact⟨g,h,j,k⟩
 rintro⟨e,f,n,o⟩
 refine⟨λi d=>?_,o⟩;obtain⟨g,h,j,k⟩:=e _ (am d);exact⟨⟨g,h,j,k,f i d⟩,n i d⟩
theorem P4{q:bL}{x:aQ}(h:gv q=true)(i:0<=x.d/\x.d<=3/\0<=x.Addr/\0<=x.b7)(j:∀y∈q.a6,y.b7<=x.b7)(k:∀y∈q.a6,y.Addr≠x.Addr):gv (KK q x)=true:=by
 obtain⟨l,n,o,g,p,r⟩:=kg.1 h;have c:(KK q x).a6.Sublist (q.a6++[x]):=List.drop_sublist ..;refine kg.2 ⟨λy d=>?_,List.Pairwise.sublist c ?_,List.Nodup.sublist (c.map _) ?_,g,p,Dr g _⟩
 ·rcases Z2.1 (c.subset d) with d|d
  ·exact l y d
  rw[I1.1 d];exact i
 ·exact List.pairwise_append.2 ⟨n,List.pairwise_singleton ..,λa f b e=>by rw[I1.1 e];exact j a f⟩
 rw[T5];refine List.nodup_append.2 ⟨o,by simp,λa f b e=>?_⟩;obtain⟨y,d,rfl⟩:=C4.1 f;simp only[V5,List.map_nil,I1]at e;rw[e];exact k y d
def kW(r:List Int)(o:Nat):Nat->List Int
 | 0=>r
 | n+1=>(kW r o n).set (o+n) 0
def cR(k:af)(a:Int):Nat:=(ac k.F.Q (a / 16)).e.toNat
def f8(k:af)(a:Int)(n:Nat):af:={k with F:=⟨⟨k.F.W.S.set (cR k a) (kW (nth k.F.W.S (cR k a)) (a % 16).toNat n),k.F.W.a5⟩,k.F.Q⟩}
theorem mO(r:List Int)(o:Nat):∀n,(kW r o n).length=r.length
 | 0=>rfl
 | n+1=>by unfold kW;rw[O1,mO r o n]
theorem zW{r:List Int}{o:Nat} : ∀{n:Nat}{v:Int},v∈kW r o n->v∈r\/v=0
 | 0,v,h=>.inl h
 | n+1,v,h=>by
  rcases C6 h with h|h
  ·exact zW h
  exact .inr h
theorem FE{k:af}(h:a7 k=true)(a:Int)(n:Nat):a7 (f8 k a n)=true:=by
 obtain⟨g,i,l,o,p⟩:=aB.1 h;obtain⟨q,r,t,f⟩:=aU.1 i;refine aB.2 ⟨g,aU.2 ⟨?_,?_,?_,λj c=>?_⟩,l,o,p⟩
 ·simp only[f8,O1];exact q
 ·simp only[f8,O1];exact r
 ·simp only[f8,O1];exact t
 simp only[f8,O1]at c |-;simp only[bz];split
 ·rename_i e
  have b:=f j c;unfold gZ at b |-;simp only[I0,C0,Z3]at b |-;rw[e.1]at *;refine⟨by rw[mO];exact b.1,λv d=>?_⟩;rcases zW d with d|rfl
  ·exact b.2 v d
  unfold iH;simp
 exact f j c
def yQ(h:ab)(a:Int):Nat:=(h.M.findIdx? λl=>decide (l.R*16=a)).getD 0
def freeL(h:ab)(i k:Nat):ab:={h with G:=unmN h.G (nth h.M k).R (nth h.M k).a3.toNat,M:=dele h.M k,u:=(dL (eY h) h.u ⟨(nth h.M k).R,(nth h.M k).a3⟩).getD h.u,O:=dele h.O i}
def lc(h:ab)(o:bu):aQ:=⟨o.Addr,aJ o.q,h.b3⟩
def inQuar(h:ab)(i:Nat):ab:={h with G:=f8 h.G (nth h.O i).Addr (csz (aJ (nth h.O i).q)).toNat,O:=dele h.O i,a9:=KK h.a9 (lc h (nth h.O i))}
def FH(h:ab)(t i:Nat):ab:=recycs t (inQuar h i) ((zm h.a9 (lc h (nth h.O i))).map (·.Addr))
def freeOb(h:ab)(t i:Nat):ab × Int:=
 if aJ (nth h.O i).q<0 then(freeL h i (yQ h (nth h.O i).Addr),0)
 else if(ac (tbl h) ((nth h.O i).Addr / 16)).j=1 then(h,5)
 else(FH h t i,0)
theorem vW{h:ab}{l:a8}(d:l∈h.M){a:Int}(e:a=16*l.R):yQ h a<h.M.length/\a=16*(nth h.M (yQ h a)).R/\(∀j,j<yQ h a->(nth h.M j).R*16≠a)/\h.M.findIdx? (λl=>decide (l.R*16=a))=some (yQ h a):=by
 cases b:h.M.findIdx? λl=>decide (l.R*16=a) with
 | none=>
  have:=List.findIdx?_eq_none_iff.1 b l d;rw[U4]at this;omega
 | some k=>
  obtain⟨c,f,g⟩:=V6.1 b;have i:yQ h a=k:=by unfold yQ;rw[b];rfl
  rw[i];rw[<-bm (C2 c),C0]at f;refine⟨c,ω,λj n=>?_,rfl⟩;have:=g j n;rw[<-bm (C2 (show j<h.M.length by omega))]at this;simpa using this
theorem dR{h:ab}{E:List Int}(a:aX h E){o:bu}(g:o∈h.O):(aJ o.q<0->Tb h.M o.Addr o.q)/\(¬aJ o.q<0->(∃s∈h.K,eL s o.Addr/\s.d=aJ o.q)/\aJ o.q<=3):=by
 rcases a.oow o g with⟨s,d,b,c⟩|⟨l,f,b,c⟩
 ·have i:=aF (a.L.sok s d)
  exact⟨λe=>ω,λ_=>⟨⟨s,d,b,c⟩,ω⟩⟩
 have j:=cQ (a.L.lok l f);refine⟨λ_=>⟨l,f,b,c⟩,λe=>absurd ?_ e⟩;unfold aJ;rw[C8 ω,C8 ω,C8 ω,C8 ω,C8 ω]
 decide
theorem aX.inQuar{h:ab}{i:Nat}(a:aX h [])(j:i<h.O.length)(r:¬aJ (nth h.O i).q<0):aX (inQuar h i) ((zm h.a9 (lc h (nth h.O i))).map (·.Addr)):=by
 obtain⟨⟨s,l,n,t⟩,u⟩:=(dR a (am j)).2 r;have b:kh h.K (nth h.O i).Addr (aJ (nth h.O i).q):=⟨s,l,n,.inr t⟩
 have d:=a.nums;unfold cj at d;rw[C0]at d;have w:=aF (a.L.sok s l);have o:=a.dropO j b.any;have A:=o.cells (k:=f8 h.G (nth h.O i).Addr (csz (aJ (nth h.O i).q)).toNat) (FE a.ker _ _) rfl;have f:∀y∈h.a9.a6,y.Addr≠(nth h.O i).Addr:=λy g e=>by
  have c:=o.nd;rw[List.cons_append,List.nil_append]at c;refine(List.nodup_cons.1 c).1 ?_;rw[<-e];unfold holders;simp only[Z2];exact .inl (.inr (C4.2 ⟨y,g,rfl⟩))
 have p:=aX.toQuar (x:=lc h (nth h.O i)) (q:=KK h.a9 (lc h (nth h.O i))) (out:=zm h.a9 (lc h (nth h.O i))) A (P4 a.quar ⟨by show 0<=aJ _;omega,u,by show 0<=(nth h.O i).Addr;have:=n.1;omega,d.2.2.1⟩ (λy g=>a.snc y g) f) (by unfold zm KK;simp only[List.take_append_drop]) (Y4 _) b;rw[List.append_nil]at p;exact p
theorem aX.freeOb{h:ab}{t i:Nat}(a:aX h [])(b:i<h.O.length)(e:t<h.T.length):aX (freeOb h t i).1 []:=by
 unfold Ab.freeOb;split
 ·rename_i c
  obtain⟨l,f,d,-⟩:=(dR a (am b)).1 c;obtain⟨g,j,-⟩:=vW f d;obtain⟨o,k,n⟩:=a.dropL b g j;unfold Ab.freeL;rw[k];exact n
 rename_i c;split
 ·exact a
 have d:=a.inQuar b c;refine aX.recycs (E:=[]) ?_ e;rw[List.append_nil];exact d
theorem Jv:∀{H L:List Int},H.Nodup->(∀x∈H,x∈L)->H.length<=L.length
 | [],L,_,_=>U0 _
 | y::H,L,f,b=>by
  have c:y∈L:=b y (V1 ..);have a:=List.nodup_cons.1 f;have:=Jv (L:=L.erase y) a.2 λz d=>(List.mem_erase_of_ne (λe:z=y=>a.1 (by rw[<-e];exact d))).2 (b z (z5 _ d))
  rw[List.length_erase_of_mem c]at this;have g:=List.length_pos_of_mem c;simp only[List.length_cons];omega
theorem x6{H:List Int}{n:Nat}(c:H.Nodup)(a:∀x∈H,0<=x/\x<n):H.length<=n:=by
 have:=Jv (L:=(List.range n).map λ(i:Nat)=>(i:Int)) c λx b=>C4.2 ⟨x.toNat,List.mem_range.2 (by have:=a x b;omega),by have:=a x b;omega⟩
 simpa using this
theorem df{α:Type}{f:α->Int}{xs:List α}(h:xs.Pairwise λa b=>f a<f b):(xs.map f).Nodup:=by
 unfold List.Nodup;rw[List.pairwise_map];exact h.imp λh e=>ω
theorem LQ:∀(b:List (List Int))(k:Nat)(s:List Int),(gB k s b).isSome=true->∀l∈b,l.length<=8
 | [],_,_,_,l,a=>by cases a
 | x::b,k,s,h,l,a=>by
  simp only[gB]at h;cases e:fj k s x with
  | none=>rw[e]at h;cases h
  | some d=>
   rw[e]at h;rcases List.mem_cons.1 a with rfl|a
   ·unfold fj at e
    split at e
    ·rename_i c;exact c.1
    cases e
   exact LQ b (k+1) d h l a
theorem f6{c:aE}(h:bA c=true):c.b.length=4/\∀l∈c.b,l.length<=8:=by
 have a:=h;unfold bA at h;simp only[I0,C0]at h;exact⟨h.1,LQ _ _ _ h.2⟩
structure Py(h:ab):Prop where
 cells:h.G.F.W.S.length<=32
 row:∀r∈h.G.F.W.S,r.length=16
 used:h.G.F.W.a5.length<=32
 ents:h.G.F.Q.J.length<=32
 ref:h.G.a0.length<=40
 free:h.u.length<=32
 spans:h.K.length<=32
 larges:h.M.length<=32
 objs:h.O.length<=512
 caches:h.T.length<=4
 lists:∀c∈h.T,c.b.length=4/\∀l∈c.b,l.length<=8
 quar:h.a9.a6.length<=512
theorem kh.bd{h:ab}{E:List Int}(b:aX h E){a c:Int}(d:kh h.K a c):0<=a/\a<512:=by
 obtain⟨s,e,⟨f,g,-⟩,-⟩:=d;have i:=aF (b.L.sok s e);omega
theorem aX.lens{h:ab}{E:List Int}(d:aX h E):Py h:=by
 obtain⟨O,t,u,P,Q,R,w⟩:=aB.1 d.ker;obtain⟨S,A,T,B⟩:=aU.1 t;obtain⟨U,V,C⟩:=bv.1 u;obtain⟨p,D,W⟩:=gd.1 d.rng;obtain⟨X,Y,F,Z⟩:=kg.1 d.quar;have q:=d.mail;unfold bN at q;simp only[I0,C0]at q;have G:=d.nc;refine⟨A,λr g=>?_,ω,C,w,?_,?_,?_,?_,ω,λc J=>f6 (d.cach c J),?_⟩
 ·obtain⟨j,K,rfl⟩:=aL g
  have:=B j K;unfold gZ at this;simp only[I0,C0]at this;exact this.1
 ·have:=x6 (H:=h.u.map (·.At)) (n:=32) (df (p.1.imp_of_mem fun {a b} ha hb h=>by have:=p.2 a ha;omega)) λx f=>by
   obtain⟨r,g,rfl⟩:=C4.1 f;have:=D r g;omega
  simpa using this
 ·have:=x6 (H:=h.K.map (·.R)) (n:=32) d.L.nd λx f=>by
   obtain⟨s,i,rfl⟩:=C4.1 f;have:=aF (d.L.sok s i);omega
  simpa using this
 ·have:=x6 (H:=h.M.map (·.R)) (n:=32) (df d.srl) λx f=>by
   obtain⟨l,k,rfl⟩:=C4.1 f;have:=aP (d.L.lok l k);omega
  simpa using this
 ·have:=x6 (H:=h.O.map (·.Addr)) (n:=512) (df d.osr) λx f=>by
   obtain⟨o,M,rfl⟩:=C4.1 f;rcases d.oow o M with⟨s,i,⟨k1,k2,-⟩,-⟩|⟨l,k,e,-⟩
   ·have:=aF (d.L.sok s i);omega
   have:=aP (d.L.lok l k);omega
  simpa using this
 have:=x6 (H:=h.a9.a6.map (·.Addr)) (n:=512) F λx f=>by
  obtain⟨y,N,rfl⟩:=C4.1 f;exact(d.hqu y N).bd d
 simpa using this
theorem Py.sml{h:ab}(a:Py h)(d:a7 h.G=true)(e:aK.sml h.y)(f:cg.sml h.Y):ab.sml h:=
 ⟨bp d,⟨by have:=a.free;omega,λ_ _=>trivial⟩,⟨by have:=a.spans;omega,λ_ _=>trivial⟩,⟨by have:=a.larges;omega,λ_ _=>trivial⟩,⟨by have:=a.objs;omega,λ_ _=>trivial⟩,⟨by have:=a.caches;omega,λc b=>⟨by have:=(a.lists c b).1;omega,λl g=>by have:=(a.lists c b).2 l g;show l.length<=1048576;omega⟩⟩,e,⟨by have:=a.quar;omega,λ_ _=>trivial⟩,f⟩
def my(a:Int)(o:bu):Bool:=decide (o.Addr=a)
def pc(h:ab)(a:Int):Nat:=(d9 (my a) h.O).toNat
theorem aX.objAt{h:ab}{E:List Int}(k:aX h E){o:bu}(l:o∈h.O):pc h o.Addr<h.O.length/\nth h.O (pc h o.Addr)=o/\d9 (my o.Addr) h.O=(pc h o.Addr:Nat):=by
 obtain⟨i,a,rfl⟩:=aL l;have d:d9 (my (nth h.O i).Addr) h.O=(i:Nat):=dE (ao a) (by unfold my;simp) λj z p g=>by
  have b:=bm g;have c:=(I2.1 g).1;subst b;unfold my;refine T0 λe=>?_
  have:=cJ (f:=(·.Addr)) (df k.osr) c a e;omega
 have n:pc h (nth h.O i).Addr=i:=by unfold pc;rw[d];rfl
 rw[n];exact⟨a,rfl,d⟩
theorem kQ(k:af)(p:Int)(n:Nat):(unmN k p n).Calls=k.Calls/\(unmN k p n).a0=k.a0:=(fS k p n).2
open Go.RowKit
set_option maxRecDepth 20000
set_option maxHeartbeats 4000000
theorem Nk(y:aA)(a:List aA):dl [] (y::a)=dl [y] a:=by rw[dl];rfl
theorem Fz{α:Type}[Inhabited α]{xs:List α}(h:xs≠[]):xs.getLast? = some (nth xs (xs.length - 1)):=by
 have a:0<xs.length:=List.length_pos_iff.2 h;rw[List.getLast?_eq_getElem?,ao ω]
theorem Mp{α:Type}{xs:List α}(h:xs≠[])(v:α):xs.dropLast++[v]=xs.set (xs.length - 1) v:=by
 have b:0<xs.length:=List.length_pos_iff.2 h;refine List.ext_getElem (by simp;omega) λi a c=>?_
 rw[List.getElem_set];by_cases e:xs.length - 1=i
 ·subst e
  rw[C9 rfl,List.getElem_append_right (by simp)];simp
 rw[C8 e,List.getElem_append_left (by simp at a |-;omega),List.getElem_dropLast]
theorem Md{out:List aA}{y:aA}{a:List aA}(h:out≠[])(e:(nth out (out.length - 1)).At+(nth out (out.length - 1)).b1=y.At):dl out (y::a)=dl (out.set (out.length - 1) ⟨(nth out (out.length - 1)).At,(nth out (out.length - 1)).b1+y.b1⟩) a:=by
 rw[dl,Fz h];simp only;rw[C9 e,Mp h]
theorem PW{out:List aA}{y:aA}{a:List aA}(h:out≠[])(e:¬(nth out (out.length - 1)).At+(nth out (out.length - 1)).b1=y.At):dl out (y::a)=dl (out++[y]) a:=by
 rw[dl,Fz h];simp only;rw[C8 e]
theorem tq(xs:List aA)(B:xs.length<=4194304)(o:∀y∈xs,0<=y.At/\1<=y.b1/\y.At+y.b1<=1048576):ar Tryz.prog 584 false [.val none (bM .X xs)] .one (bM .own (dl [] xs)):=by
 refine fO 63 [(6,21,[15,16,17,18,19,20,21,22,23,24,25,26,27,28,29,30,31,32,33,34,35]),(7,15,[38,39,40,41,42,43,44,45,46,47,48,49,50,51,52])] Tryz.func584 rfl ?_ (.inr (lW _))
 repeat'(first|refine gO ?_|fail)
 (conv=>whnf)
 refine CE (ι:=Nat × List aA) (λq=>[(0,.H .one (bM .X xs)),(3,.H .one (bM .own q.2)),(4,.H .one [I ((q.1:Nat):Int)])]) (λq=>q.1<=xs.length/\dl q.2 (xs.drop q.1)=dl [] xs/\q.2.length<=q.1/\∀y∈q.2,0<=y.At/\1<=y.b1/\y.At+y.b1<=1048576) (λq=>xs.length - q.1) ((0,[])) ?_ (⟨U0 _,rfl,z3 _,λy g=>by cases g⟩) λq p=>?_
 ·exact wB
 obtain⟨i,out⟩:=q;obtain⟨t,b,j,c⟩:=p;simp only at t b j c |-;by_cases k:i<xs.length
 ·have l:=ao k
  have g:=o _ (am k);rw[iP k]at b;by_cases h:out=[]
  ·subst h
   rw[Nk]at b;have D:([]:List aA).length=0:=rfl
   repeat'(first|refine gD ?_|(conv=>whnf);first|with_reducible refine CC (aa l) ?_|refine Ap.sm (λr u=>by cases u) rfl (by simp) (by decide) rfl ?_)
   ((conv=>whnf)
    refine CD (i+1,[nth xs i]) ⟨(by simp only;omega),b,(by simp),(λy a=>by rw[I1.1 a];exact g)⟩ (by simp only;omega) ?_
    (repeat'(first|exact trivial|rfl|exact CK rfl (CK (W0 (C.s dQ.own) (by simp[aA.enc])) trivial)|refine CK ?_ ?_)))
  have n:0<out.length:=List.length_pos_iff.2 h;have d:out[((out.length:Int) - 1).toNat]? = some (nth out (out.length - 1)):=by
   rw[show((out.length:Int) - 1).toNat=out.length - 1 by omega];exact ao ω
  have w:=c _ (am (xs:=out) (i:=out.length - 1) ω);by_cases e:(nth out (out.length - 1)).At+(nth out (out.length - 1)).b1=(nth xs i).At
  ·rw[Md h e]at b
   repeat'(first|refine gA ?_|(conv=>whnf);first|with_reducible refine CC (aa l) ?_|refine CL ω (aa d) ?_|refine CH rfl (aa d) rfl ?_|refine CP rfl rfl (aa d) rfl (C1 rfl) rfl ?_)
   ((conv=>whnf)
    refine CD (i+1,out.set (out.length - 1) ⟨(nth out (out.length - 1)).At,(nth out (out.length - 1)).b1+(nth xs i).b1⟩) ⟨(by simp only;omega),b,(by simp only;rw[O1];omega),(λy a=>?_)⟩ (by simp only;omega) ?_)
   ·rcases C6 a with a|rfl
    ·exact c y a
    simp only;omega
   (repeat'(first|exact trivial|rfl|exact CK rfl (CK (W0 (C.s dQ.own) (by rw[show((out.length:Int) - 1).toNat=out.length - 1 by omega,X5];rfl)) trivial)|refine CK ?_ ?_))
  rw[PW h e]at b
  repeat'(first|refine gA ?_|(conv=>whnf);first|with_reducible refine CC (aa l) ?_|refine CL ω (aa d) ?_|refine CH rfl (aa d) rfl ?_|refine Ap.sm (aO λ_=>rfl) rfl (by simp;omega) (by decide) rfl ?_)
  ((conv=>whnf)
   refine CD (i+1,out++[nth xs i]) ⟨(by simp only;omega),b,(by simp;omega),(λy a=>?_)⟩ (by simp only;omega) ?_)
  ·rcases Z2.1 a with a|a
   ·exact c y a
   rw[I1.1 a];exact g
  (repeat'(first|exact trivial|rfl|exact CK rfl (CK (W0 (C.s dQ.own) (by simp[aA.enc])) trivial)|refine CK ?_ ?_))
 obtain rfl:i=xs.length:=ω
 rw[List.drop_length]at b
 repeat'(first|refine gD ?_|fail)
 rw[<-b];rfl
theorem Aq(r y:aA)(a:List aA)(put:Bool):mD r (y::a) put=if ovl y r then none else if !put&&decide (y.At > r.At) then(mD r a true).map λt=>r::y::t else(mD r a put).map λt=>y::t:=by rw[mD]
theorem mb(pages:Int)(xs:List aA)(r:aA)(H:0<=pages/\pages<=1048576)(J:iC xs):ar Tryz.prog 568 false [.val none [I pages],.val none (bM .X xs),.val (some 2) (aA.enc .X r)] (.tup [none,none]) (G6 xs (dL pages xs r)):=by
 have w:=J.1;have n:=mh pages xs H J;have E:=xT pages r H;cases o:bC pages xs<;>rw[o]at n
 ·rw[show dL pages xs r=none by unfold dL;rw[C8 (by rw[o];simp)]]
  refine fO 82 [] Tryz.func568 rfl ?_ (.inr (tF _ _))
  repeat'(first|refine gO ?_|(conv=>whnf);first|refine C7 (n) ?_|refine CO (λ_=>rfl) (λ_=>rfl) w (by decide) ?_)
  rfl
 cases k:rangeIn pages r<;>rw[k]at E
 ·rw[show dL pages xs r=none by unfold dL;rw[C8 (by rw[k];simp)]]
  refine fO 82 [] Tryz.func568 rfl ?_ (.inr (tF _ _))
  repeat'(first|refine gO ?_|(conv=>whnf);first|refine C7 (n) ?_|refine C7 (E) ?_|refine CO (λ_=>rfl) (λ_=>rfl) w (by decide) ?_)
  rfl
 obtain⟨K,L⟩:=BM o;have p:0<=r.At/\1<=r.b1/\r.At+r.b1<=pages:=by
  unfold rangeIn at k;rw[C0]at k;omega
 rw[show dL pages xs r=(mD r xs false).map (dl []) by unfold dL;rw[C9 ⟨o,k⟩,AX (pages:=pages) K p.2.1 λz M=>by simp at M]];refine fO 82 [] Tryz.func568 rfl ?_ (.inr (tF _ _))
 repeat'(first|refine gO ?_|(conv=>whnf);first|refine C7 (n) ?_|refine C7 (E) ?_|refine CO (λ_=>rfl) (λ_=>rfl) w (by decide) ?_)
 (conv=>whnf)
 refine CE (ι:=Nat × List aA × Bool) (λq=>[(1,.H .one (bM .X xs)),(5,.H .box (aA.enc .X r)),(8,.H .one (bM .own xs)),(9,.H .one (bM .own q.2.1)),(10,.H .one [B (q.2.2)]),(11,.H .one [I ((q.1:Nat):Int)])]) (λq=>q.1<=xs.length/\(mD r (xs.drop q.1) q.2.2).map (q.2.1++·)=mD r xs false/\q.2.1.length<=q.1+q.2.2.toNat/\(∀y∈q.2.1,0<=y.At/\1<=y.b1/\y.At+y.b1<=1048576)) (λq=>xs.length - q.1) ((0,[],false)) ?_ (⟨U0 _,by simp,by simp,by simp⟩) λq g=>?_
 ·exact wB
 obtain⟨i,out,put⟩:=q;obtain⟨N,b,d,e⟩:=g;simp only at N b d e |-;have l:0<=r.At/\1<=r.b1/\r.At+r.b1<=1048576:=ω
 by_cases F:i<xs.length
 ·have u:=ao F
  have O:=L _ (am F);have h:0<=(nth xs i).At/\1<=(nth xs i).b1/\(nth xs i).At+(nth xs i).b1<=1048576:=ω
  rw[iP F]at b;by_cases j:ovl (nth xs i) r=true
  ·rw[<-b]
   rw[Aq,C9 j];unfold ovl at j;rw[C0]at j
   repeat'(first|refine gD ?_|(conv=>whnf);with_reducible refine CC (aa u) ?_)
   rfl
  rw[Aq,C8 j]at b;unfold ovl at j;rw[C0]at j;cases put with
  | false=>
   have d:out.length<=i:=by simpa using d
   by_cases P:(nth xs i).At > r.At
   ·rw[C9 (by simp;omega),Option.map_map]at b
    repeat'(first|refine gD ?_|(conv=>whnf);first|with_reducible refine CC (aa u) ?_|refine Ap.sm (aO λ_=>rfl) rfl (by simp;omega) (by decide) rfl ?_|refine Ap.sm (λr p=>by simp at p;rcases p with⟨a,_,rfl⟩|rfl<;>rfl) rfl (by simp;omega) (by decide) rfl ?_)
    ((conv=>whnf)
     refine CD (i+1,out++[r,nth xs i],true) ⟨(by simp only;omega),(by rw[<-b];congr 1;funext t;simp),(by simp;omega),(λy c=>?_)⟩ (by simp only;omega) ?_)
    ·rcases Z2.1 c with c|c
     ·exact e y c
     rcases List.mem_cons.1 c with rfl|c
     ·exact l
     rw[I1.1 c];exact h
    (repeat'(first|exact trivial|rfl|exact CK rfl (CK (W0 (C.s dQ.own) (by simp[aA.enc])) trivial)|refine CK ?_ ?_))
   rw[C8 (by simp;omega),Option.map_map]at b
   repeat'(first|refine gD ?_|(conv=>whnf);first|with_reducible refine CC (aa u) ?_|refine Ap.sm (aO λ_=>rfl) rfl (by simp;omega) (by decide) rfl ?_)
   ((conv=>whnf)
    refine CD (i+1,out++[nth xs i],false) ⟨(by simp only;omega),(by rw[<-b];congr 1;funext t;simp),(by simp;omega),(λy c=>?_)⟩ (by simp only;omega) ?_)
   ·rcases Z2.1 c with c|c
    ·exact e y c
    rw[I1.1 c];exact h
   (repeat'(first|exact trivial|rfl|exact CK rfl (CK (W0 (C.s dQ.own) (by simp[aA.enc])) trivial)|refine CK ?_ ?_))
  | true=>
   have d:out.length<=i+1:=d;rw[C8 (by simp),Option.map_map]at b;by_cases Q:(nth xs i).At<r.At+r.b1
   all_goals
    repeat'(first|refine gD ?_|(conv=>whnf);first|with_reducible refine CC (aa u) ?_|refine Ap.sm (aO λ_=>rfl) rfl (by simp;omega) (by decide) rfl ?_)
    ((conv=>whnf)
     refine CD (i+1,out++[nth xs i],true) ⟨(by simp only;omega),(by rw[<-b];congr 1;funext t;simp),(by simp;omega),(λy c=>?_)⟩ (by simp only;omega) ?_)
    ·rcases Z2.1 c with c|c
     ·exact e y c
     rw[I1.1 c];exact h
    (repeat'(first|exact trivial|rfl|exact CK rfl (CK (W0 (C.s dQ.own) (by simp[aA.enc])) trivial)|refine CK ?_ ?_))
 obtain rfl:i=xs.length:=ω
 rw[List.drop_length]at b;cases put with
 | false=>
  have d:out.length<=xs.length:=by simpa using d
  rw[<-b];have G:=tq (out++[r]) (by simp;omega) (λy c=>by
    rcases Z2.1 c with c|c
    · exact e y c
    rw[I1.1 c];exact l)
  repeat'(first|refine gD ?_|(conv=>whnf);first|refine Ap.sm (aO λ_=>rfl) rfl (by simp;omega) (by decide) (show(out++[r]).map (aA.enc .own)=_ by simp[aA.enc]) ?_|refine CG (G) ⟨⟨rfl,eM _⟩,trivial⟩ ?_)
  rfl
 | true=>
  have d:out.length<=xs.length+1:=d;rw[<-b];have G:=tq out ω e
  repeat'(first|refine gD ?_|(conv=>whnf);refine CG (G) ⟨⟨rfl,eM _⟩,trivial⟩ ?_)
  simp[mD,G6]
  rfl
theorem shl64{i:Int}(d:0<=i/\i<=15):IntKind.i64.wrap (1*2 ^ min i.toNat IntKind.i64.bits)=2 ^ i.toNat/\0<=(2:Int) ^ i.toNat/\(2:Int) ^ i.toNat<=32768:=by
 have a:min i.toNat IntKind.i64.bits=i.toNat:=Nat.min_eq_left (show i.toNat<=64 by omega);have b:(0:Int)<=2 ^ i.toNat/\(2:Int) ^ i.toNat<=32768:=by
  have:(2:Nat) ^ i.toNat<=2 ^ 15:=Nat.pow_le_pow_right (by decide) ω;have c:((2 ^ i.toNat:Nat):Int)=(2:Int) ^ i.toNat:=Int.natCast_pow 2 i.toNat;rw[<-c];exact⟨Int.natCast_nonneg _,Int.ofNat_le.2 this⟩
 rw[a,Int.one_mul];exact⟨eN ω ω,b⟩
theorem clr64{b i:Int}(a:0<=b/\b<=65535):IntKind.i64.wrap ((BitVec.ofInt IntKind.i64.bits b &&& ~~~BitVec.ofInt IntKind.i64.bits (2 ^ i.toNat)).toNat:Nat)=zv b i:=by
 have:=B2 (i:=i) a;unfold zv at this |-;exact eN ω ω
theorem tA(b i:Int)(c:0<=b/\b<=65535)(d:0<=i/\i<=15):ar Tryz.prog 579 false [.val none [I b],.val none [I i]] .one [I (zv b i)]:=by
 have a:=pL b i;rw[O0 ω]at a;have e:IntKind.u64.wrap i=i:=by unfold IntKind.wrap;simp[IntKind.signed,IntKind.bits];omega
 refine fO 15 [] Tryz.func579 rfl ?_
 repeat'(first|refine gO ?_|(conv=>whnf);first|refine C7 (a) ?_|refine CN ω ?_|refine CM e ?_|refine CM (shl64 d).1 ?_|refine CM (clr64 c) ?_)
 rfl
theorem Pq{s:ax}{k:Int}(a:aS s.b2 k=true):0<=k/\k<=15:=by
 have:=(ee _ _).1 a;omega
theorem zA(s:ax)(k:Int)(a:bf s=true)(b:aS s.b2 k=true):ar Tryz.prog 553 false [.val (some 3) (ax.enc .X s),.val none [I k]] (.tup [some 3,none]) (ax.enc .own (mQ s k)++[B true]):=by
 have e:=eQ a;have g:=Pq b;have c:=gK s;have d:=iW s.b2 k ω;rw[a]at c;rw[b]at d;refine fO 23 [] Tryz.func553 rfl ?_ (.inr (aI (ax.enc_fr _) ⟨trivial,trivial⟩))
 repeat'(first|refine gO ?_|(conv=>whnf);first|refine C7 (c) ?_|refine C7 (d) ?_|refine C7 (tA s.b2 k e g) ?_)
 rfl
theorem wW(c:aE)(k:Int)(b:aE.sml c):ar Tryz.prog 480 false [.val (some 1) (aE.enc .X c),.val none [I k]] .one [B (bA c&&decide (0<=k/\k<=3))]:=by
 have a:=nJ c b;cases e:bA c<;>rw[e]at a
 all_goals
  refine fO 11 [] Tryz.func480 rfl ?_
  repeat'(first|refine gO ?_|(conv=>whnf);first|refine C7 (a) ?_|refine C7 (aG k 0 3) ?_)
  all_goals rfl
theorem uN{c:aE}{k:Nat}(a:k<c.b.length):c.b[k]? = some (nth c.b k):=ao a
theorem LE{c:aE}(h:bA c=true)(k:Nat)(a:Int):aE.sml (mU c k a):=by
 obtain⟨f,d⟩:=f6 h;refine⟨by simp only[mU,O1];omega,λl b=>?_⟩;rcases C6 b with b|rfl
 ·have:=d l b;show l.length<=1048576;omega
 show(nth c.b k++[a]).length<=1048576;by_cases e:k<c.b.length
 ·have:=d _ (am e);simp;omega
 have:nth c.b k=[]:=by unfold nth;rw[U2,O2 ω];rfl
 rw[this];simp
theorem Mx(c:aE)(k:Nat)(a:Int):aE.enc .own (mU c k a)=[.s .own ((c.b.map (aD .own)).set k (aD .own (nth c.b k++[a])))]:=by simp[aE.enc,mU,X5]
theorem gE{α:Type}{f:α->List C}{xs:List α}{k:Nat}{y:α}{r:List C}(h:xs[k]? = some y):((xs.map f).set k r)[k]? = some r:=by
 rw[U3 (by rw[Z0];exact(I2.1 h).1)]
theorem gi{α β:Type}(f:α->β)(xs:List α)(y:α):(xs++[y]).map f=xs.map f++[f y]:=by simp
def H6(c:aE)(k a:Int):List C:=aE.enc .own ((cput c k a).getD c)++[B (cput c k a).isSome]
theorem Lg(c:aE)(k a:Int):hC (H6 c k a):=aI (aE.enc_fr _) ⟨trivial,trivial⟩
theorem zc(c:aE)(k:Nat)(a:Int)(h:bA c=true)(B:k<=3):ar Tryz.prog 583 false [.val (some 1) (aE.enc .X c),.val none [I (k:Nat)],.val none [I a]] (.tup [some 1,none]) (H6 c k a):=by
 obtain⟨D,q⟩:=f6 h;have r:aE.sml c:=⟨ω,λl u=>by have:=q l u;show l.length<=1048576;omega⟩
 have n:=wW c k r;rw[h,O0 ω]at n;have t:=iQ c r;have d:=LE h k a;have o:=nJ (mU c k a) d;have w:=iQ (mU c k a) d;have b:=uN (c:=c) (k:=k) ω;have y:=q _ (am (xs:=c.b) (i:=k) ω);have j:=aE.enc_fz (mU c k a);rw[Mx]at j;have g:=Lg c k a;unfold H6 at g |-;cases e:bA (mU c k a)<;>rw[e]at o
 ·have p:cput c k a=none:=by unfold cput;rw[C8 λx=>by have:=x.2.2.2;rw[W2,e]at this;cases this]
  rw[p]at g |-;refine fO 35 [(4,267,[16,17,18,19,20,21,22,23,24,25,27,0,1,2,3,4,5,6,7,8,9,10,1000,1001,1002,11,12])] Tryz.func583 rfl ?_ (.inr g)
  repeat'(first|refine gO ?_|(conv=>whnf);first|with_reducible refine CC (aa b) ?_|refine CB ?_|refine CC (gE b) ?_|refine C7 (n) ?_|refine C7 (t) ?_|refine Lq.one rfl rfl (aa b) rfl (C1 rfl) rfl rfl ?_|refine CH rfl (aa b) rfl ?_|refine CP rfl rfl (gE b) rfl (C1 rfl) (show [C.s dQ.own ((c.b.map (aD .own)).set k (aD .own (nth c.b k++[a])))]=_ from by simp only[List.set_cons_zero,List.set_set,W2];rfl) ?_|refine Ap.sm (aO λ_=>rfl) rfl (by simp;omega) (by decide) (gi _ _ _) ?_|refine CG (o) ⟨⟨rfl,j⟩,trivial⟩ ?_)
  rfl
 have p:cput c k a=some (mU c k a):=by unfold cput;rw[C9 ⟨h,ω,ω,by rw[W2];exact e⟩,W2]
 rw[p]at g |-;refine fO 35 [(4,267,[16,17,18,19,20,21,22,23,24,25,27,0,1,2,3,4,5,6,7,8,9,10,1000,1001,1002,11,12])] Tryz.func583 rfl ?_ (.inr g)
 repeat'(first|refine gO ?_|(conv=>whnf);first|with_reducible refine CC (aa b) ?_|refine CB ?_|refine CC (gE b) ?_|refine C7 (n) ?_|refine C7 (t) ?_|refine Lq.one rfl rfl (aa b) rfl (C1 rfl) rfl rfl ?_|refine CH rfl (aa b) rfl ?_|refine CP rfl rfl (gE b) rfl (C1 rfl) (show [C.s dQ.own ((c.b.map (aD .own)).set k (aD .own (nth c.b k++[a])))]=_ from by simp only[List.set_cons_zero,List.set_set,W2];rfl) ?_|refine Ap.sm (aO λ_=>rfl) rfl (by simp;omega) (by decide) (gi _ _ _) ?_|refine CG (o) ⟨⟨rfl,j⟩,trivial⟩ ?_|refine CG (w) ⟨⟨rfl,j⟩,trivial⟩ ?_)
 rfl
def bB(x:ab):List C:=[.s .own (x.G.F.W.S.map (aD .own)),.s .own (x.G.F.W.a5.map (rB .own)),.s .own (x.G.F.Q.J.map (bi.enc .own)),I x.G.Calls,.s .own (x.G.a0.map (rI .own)),.s .own (x.u.map (aA.enc .own)),.s .own (x.K.map (ax.enc .own)),.s .own (x.M.map (a8.enc .own)),.s .own (x.O.map (bu.enc .own)),.s .own (x.T.map (aE.enc .own)),.s .own (x.y.U.map (cK .own)),.s .own (x.y.a1.map (aD .own)),I x.a9.c1,.s .own (x.a9.a6.map (aQ.enc .own)),I x.c0,I x.b3,I x.c3,I x.a,B x.o,I x.Y.V.a2,I x.Y.V.w,.s .X (x.Y.V.S.map (rI .X)),I x.Y.b0,I x.Y.a]
theorem bG(x:ab):eB (bB x)=ab.enc .X x:=by simp[eB,bB,ab.enc,aE.enc_fz,bi.enc_fz,a8.enc_fz,bu.enc_fz,aA.enc_fz,ax.enc_fz,aQ.enc_fz,rB,rE,rI,dX,<-co,U5]
def xE(x:cg):List C:=[I x.V.a2,I x.V.w,.s .X (x.V.S.map (rI .X)),I x.b0,I x.a]
theorem Pu.two{g a:List C}{off i k j h l c:Nat}{cs:List C}{K:List C->Prop}{o d:dQ}{rows rows2:List (List C)}{r f:List C}(h1:g[off]? = some (.s o rows))(u:o.mine=true)(n:rows[i]? = some r)(w:r.length=k)(p:r[j]? = some (.s d rows2))(y:d.mine=true)(q:rows2[h]? = some f)(A:f.length=l)(E:c+cs.length<=l)(B:a=g.set off (.s o (rows.set i (r.set j (.s d (rows2.set h (splice f c cs)))))))(D:K a):Pu g off [(i,k,j),(h,l,c)] cs K:=by
 have t:o≠.X:=λe=>by subst e;cases u
 have b:d≠.X:=λe=>by subst e;cases y
 refine Pu.mk (r:=f) (j:=c) (by simp[ce,h1,n,w,p,q,A]) (by simp[kv,h1,n,t,p,q,b]) ω (by rw[B];simp[gj,h1,n,p,q]) D
theorem xq(x:List ax):fz (.s .own (x.map (ax.enc .own)))=.s .X (x.map (ax.enc .X)):=(List.cons.inj (rx x)).1
theorem tS(x:List a8):fz (.s .own (x.map (a8.enc .own)))=.s .X (x.map (a8.enc .X)):=(List.cons.inj (EA x)).1
theorem we(x:List bu):fz (.s .own (x.map (bu.enc .own)))=.s .X (x.map (bu.enc .X)):=(List.cons.inj (KE x)).1
theorem Ap.dele{α:Type}{e:α->List C}{xs:List α}{i sz by_:Nat}{K:List (List C)->Prop}(a:∀y,(e y).length=sz)(b:∀y,aY (e y)=true)(h:xs.length<=1048576)(c:by_<=1000)(d:K ((Ab.dele xs i).map e)):Ap true ((xs.take i).map e) ((xs.drop (i+1)).map e) sz by_ K:=by
 have f:(xs.take i).length+(xs.drop (i+1)).length<=2097152:=by rw[U1,O3];omega
 refine CT (aO a) (aO a) (λ_ r g=>by obtain⟨y,-,rfl⟩:=C4.1 g;exact b y) (by rw[Z0,Z0];omega) (by rw[Z0,Z0];exact W4 (Nat.mul_le_mul f c) (by decide)) ?_ d;unfold Ab.dele;rw[T5]
theorem KI(h:ab)(p:Int)(a:aH.sml h.G.F.Q):ar Tryz.prog 488 false [.ptr (ab.enc .X h),.val none [I p]] .one [I (ac h.G.F.Q p).j]:=by
 refine fO 13 [] Tryz.func488 rfl ?_
 repeat'(first|refine gO ?_|(conv=>whnf);refine C7 (cM h.G.F.Q p a) ?_)
 rfl
def Qn(h:ab):List C:=(bB h).drop 5
theorem RB(h:ab)(k:af):bB {h with G:=k} = af.enc .own k++Qn h:=rfl
theorem Gd(h:ab):Qn h=[.s .own (h.u.map (aA.enc .own)),.s .own (h.K.map (ax.enc .own)),.s .own (h.M.map (a8.enc .own)),.s .own (h.O.map (bu.enc .own)),.s .own (h.T.map (aE.enc .own)),.s .own (h.y.U.map (cK .own)),.s .own (h.y.a1.map (aD .own)),I h.a9.c1,.s .own (h.a9.a6.map (aQ.enc .own)),I h.c0,I h.b3,I h.c3,I h.a,B h.o,I h.Y.V.a2,I h.Y.V.w,.s .X (h.Y.V.S.map (rI .X)),I h.Y.b0,I h.Y.a]:=rfl
theorem JH(h:ab)(f:Int)(a:aH.sml h.G.F.Q)(b:0<=f/\f<h.G.F.W.S.length/\f<h.G.F.W.a5.length) :
  aW Tryz.prog 489 false [.ptr (bB h),.val none [I f]] [.ptr (bB {h with G:=fU h.G f}),.val none [I f]] (.tup []) []:=by
 have c:=ao (xs:=h.G.F.W.S) (i:=f.toNat) ω;have d:=ao (xs:=h.G.F.W.a5) (i:=f.toNat) ω;rw[RB h (fU h.G f)];by_cases e:(pagesOn h.G.F.Q f).length=0
 ·rw[uB e,Gd]
  refine fM 30 [] [(2,8,[21,22,23,24,25,26,27,28])] [(0,0),(0,0)] Tryz.func489 rfl (λu q=>?_) (.inr trivial)
  repeat'(first|refine gA ?_|(conv=>whnf);first|with_reducible (first|refine CL b.1 (aa d) ?_|refine CL b.1 (aa c) ?_)|refine CG (gP h.G.F.Q f a) ⟨⟨rfl,CY h.G.F.Q⟩,⟨rfl,rfl⟩,trivial⟩ ?_|refine CP rfl rfl (aa c) rfl (C1 rfl) rfl ?_|refine CP rfl rfl (aa d) rfl (C1 rfl) rfl ?_|refine Mk.mk 16 rfl rfl (by decide) (by decide) rfl ?_)
  refine CF rfl rfl ?_;exact wB
 rw[wO e];show aW _ _ _ [.ptr (bB h),_] [.ptr (bB h),_] _ _;refine fM 30 [] [(2,8,[21,22,23,24,25,26,27,28])] [(0,0),(0,0)] Tryz.func489 rfl (λu q=>?_) (.inr trivial)
 repeat'(first|refine gA ?_|(conv=>whnf);refine CG (gP h.G.F.Q f a) ⟨⟨rfl,CY h.G.F.Q⟩,⟨rfl,rfl⟩,trivial⟩ ?_)
 refine CF rfl rfl ?_;exact wB
theorem ng(h:ab)(p:Int)(b:a7 h.G=true) :
  aW Tryz.prog 388 false [.ptr (bB h),.val none [I p]] [.ptr (bB {h with G:=dU h.G p}),.val none [I p]] .one [B (decide ((ac h.G.F.Q p).j≠0))]:=by
 have k:=bp b;have c:=KI h p k.1.2;by_cases a:(ac h.G.F.Q p).j=0
 ·rw[show dU h.G p=h.G by unfold dU;rw[C9 a]]
  refine fM 32 [(489,[2,0])] [] [(0,0),(0,0)] Tryz.func388 rfl (λu q=>?_)
  repeat'(first|refine gA ?_|(conv=>whnf);refine CG (c) ⟨bG h,⟨rfl,rfl⟩,trivial⟩ ?_)
  refine CF rfl ?_ ?_
  ·exact W0 (λz=>[B z]) ((by simp[a]))
  exact wB
 obtain⟨l,r,n,d,o⟩:=bI b a;have j:=(aU.1 (aB.1 b).2.1).2.2.1;rw[show dU h.G p=fU (qg h.G p) (ac h.G.F.Q p).e by unfold dU;rw[C8 a]];have e:=JH {h with G:=qg h.G p} (ac h.G.F.Q p).e (My b) ⟨d,by simp only[qg];omega,by simp only[qg];omega⟩;rw[RB h (qg h.G p),LJ,Gd]at e;have g:=ao (xs:=h.G.F.Q.J) (i:=p.toNat) ω;rw[n]at c e a |-;refine fM 32 [(489,[2,0])] [] [(0,0),(0,0)] Tryz.func388 rfl (λu q=>?_)
 repeat'(first|refine gA ?_|(conv=>whnf);first|with_reducible refine CL l (aa g) ?_|refine CG (c) ⟨bG h,⟨rfl,rfl⟩,trivial⟩ ?_|refine CP rfl rfl (aa g) rfl (C1 rfl) rfl ?_|refine CH rfl (aa g) rfl ?_|refine CJ (e) (.inl rfl) ?_)
 refine CF rfl ?_ ?_
 ·exact W0 (λz=>[B z]) ((by simp[a]))
 exact wB
theorem vd(h:ab)(p:Int):ar Tryz.prog 381 false [.ptr (ab.enc .X h),.val none [I p]] .one [B (gm h p)]:=by
 cases e:h.o
 all_goals
  have b:ab.enc .X h=(ab.enc .X h).set 18 (B h.o):=rfl;rw[e]at b;rw[b];refine fO 29 [] Tryz.func381 rfl ?_
  repeat'(first|refine gO ?_|(conv=>whnf);with_reducible refine Bf.E (λa=>?_) (λa=>?_))
  all_goals exact W0 (λz=>[B z]) ((by unfold gm;rw[e];first|(simp[*];done)|(simp[*];rw[V4];simp)))
theorem iq(h:ab):ar Tryz.prog 386 false [.ptr (ab.enc .X h)] .one [I (eY h:Nat)]:=by
 refine fO 11 [] Tryz.func386 rfl ?_
 repeat'(first|refine gO ?_|(conv=>whnf);refine CB ?_)
 rfl
theorem rD(h:ab)(a:Int)(k:h.O.length<=1048576):ar Tryz.prog 558 false [.val (some 24) (ab.enc .X h),.val none [I a]] .one [I (d9 (my a) h.O)]:=by
 refine fO 22 [] Tryz.func558 rfl ?_
 repeat'(first|(conv=>whnf);refine CB ?_)
 (conv=>whnf)
 refine CE (ι:=Nat) (λi=>[(1,.H .one [I (a)]),(2,.H .box (ab.enc .X h)),(5,.H .one [I ((i:Nat):Int)])]) (λi=>i<=h.O.length/\∀(j:Nat)(z:bu),j<i->h.O[j]? = some z->my a z=false) (λi=>h.O.length - i) (0) ?_ (⟨U0 _,λj z l=>ω⟩) λi d=>?_
 ·exact wB
 obtain⟨d,c⟩:=d;by_cases g:i<h.O.length
 ·have b:=ao g
  by_cases e:(nth h.O i).Addr=a
  ·repeat'(first|refine gA ?_|(conv=>whnf);with_reducible refine CC (aa b) ?_)
   exact W0 (λz=>[I z]) (dE b (by unfold my;simp[e]) c).symm
  repeat'(first|refine gA ?_|(conv=>whnf);with_reducible refine CC (aa b) ?_)
  ((conv=>whnf);refine CD (i+1) ⟨ω,dv b (by unfold my;simp[e]) c⟩ ω ?_;(exact wB))
 repeat'(first|refine gD ?_|(conv=>whnf);refine CB ?_)
 exact W0 (λz=>[I z]) (gk ω c).symm
theorem na(h:ab)(i:Nat)(b:i<h.O.length)(a:h.O.length<=1048576):aW Tryz.prog 562 false [.ptr (bB h),.val none [I (i:Nat)]] [.ptr (bB {h with O:=dele h.O i}),.val none [I (i:Nat)]] (.tup []) []:=by
 refine fM 23 [] [(0,273,[4,5,6,7,8,9,10,11,13,14,15,16,17,18,19,21,22,0,1,2,3,4,5,6,7,9,10,11,12,13,14,15,8,1000,1009,1010,1011,1012,1013,1014,1015,16,1000,17,18,19]),(1048576,0,[8])] [(0,0),(0,0)] Tryz.func562 rfl (λu q=>?_) (.inr trivial)
 repeat'(first|refine gO ?_|(conv=>whnf);first|refine CB ?_|refine Fu.mk rfl (we h.O) rfl ?_|refine CU i rfl (by rw[Z0];omega) (aO λ_=>rfl) v4 ?_|refine Sl.suf (i+1) rfl (by rw[Z0];omega) (aO λ_=>rfl) z4 ?_|refine CV (λ_=>rfl) (λ_=>rfl) (by rw[U1];omega) (by decide) ?_|refine Ap.dele (λ_=>rfl) (λ_=>rfl) a (by decide) ?_|refine CO (λ_=>rfl) (λ_=>rfl) (by rw[U1];omega) (by decide) ?_)
 refine CF rfl rfl ?_;exact wB
theorem B7(h:ab)(E:List Int)(i:Nat)(b:aX h E)(e:i<h.K.length):aW Tryz.prog 554 false [.ptr (bB h),.val none [I (i:Nat)]] [.ptr (bB (giveP h i)),.val none [I (i:Nat)]] (.tup []) []:=by
 have a:=b.lens;have g:=a.spans;have c:=ao e;have j:=ng {h with K:=dele h.K i} (nth h.K i).R b.ker;have d:=iq {h with G:=dU h.G (nth h.K i).R,K:=dele h.K i};rw[show eY {h with G:=dU h.G (nth h.K i).R,K:=dele h.K i} = eY h from(l7 _ _).1]at d;have k:eY h<=32:=a.ents;have l:=mb (eY h:Nat) h.u ⟨(nth h.K i).R,1⟩ ⟨ω,ω⟩ ⟨by have:=a.free;omega,λ_ _=>trivial⟩;refine fM 52 [(388,[2,0])] [(1,273,[13,14,15,16,17,18,19,20,22,23,24,25,26,27,28,30,31,0,1,2,3,4,5,6,7,9,10,11,12,13,14,15,8,1000,1009,1010,1011,1012,1013,1014,1015,16,1000,17,18,19]),(1048577,0,[6]),(3,270,[38,39,40,41,42,43,44,45,47,37,48,49,50,51,0,1,2,3,4,5,6,7,8,1000,1001,1002,1003,1004,1005,1006,9,10,11,12,13,14,15,1012])] [(0,0),(0,0)] Tryz.func554 rfl (λu q=>?_) (.inr trivial)
 repeat'(first|refine gO ?_|(conv=>whnf);first|with_reducible refine CC (aa c) ?_|refine CB ?_|refine Fu.mk rfl (xq h.K) rfl ?_|refine CU i rfl (by rw[Z0];omega) (aO λ_=>rfl) v4 ?_|refine Sl.suf (i+1) rfl (by rw[Z0];omega) (aO λ_=>rfl) z4 ?_|refine CV (λ_=>rfl) (λ_=>rfl) (by rw[U1];omega) (by decide) ?_|refine Ap.dele (λ_=>rfl) (λ_=>rfl) ω (by decide) ?_|refine CO (λ_=>rfl) (λ_=>rfl) (by rw[U1];omega) (by decide) ?_|refine CH rfl (aa c) rfl ?_|refine CJ (j) (.inl rfl) ?_|refine CG (d) ⟨bG _,trivial⟩ ?_|refine CG (l) ⟨⟨rfl,rfl⟩,⟨rfl,eM h.u⟩,⟨rfl,rfl⟩,trivial⟩ ?_)
 refine CF rfl rfl ?_;exact wB
theorem yu(h:ab)(i:Nat)(a:Int):bB (clrS h i a)=(bB h).set 6 (.s .own ((h.K.map (ax.enc .own)).set i (ax.enc .own (mQ (nth h.K i) (dz (nth h.K i) a))))):=by
 simp[bB,clrS,X5]
theorem sv{α β:Type}{f:α->β}{xs:List α}{i:Nat}{y:β}(a:i<xs.length):((xs.map f).set i y)[i]? = some y:=by
 rw[U3 (by rw[Z0];exact a)]
theorem KS{s:ax}(c:bf s=true){a:Int}(b:eL s a):iR s a=(dz s a,0):=by
 unfold iR;rw[C9 ((gH c).2 ⟨b.1,b.2.1⟩),b.2.2.1];rfl
theorem n8(h:ab)(E:List Int)(a:Int)(c:aX h (a::E)):aW Tryz.prog 511 false [.ptr (bB h),.val none [I a]] [.ptr (bB (freeA h a)),.val none [I a]] (.tup []) []:=by
 obtain⟨g,n,t⟩:=c.at (c.hin a (V1 ..));have d:=(c.hin a (V1 ..)).bd c;have B:=c.lens;have C:=B.spans;have e:=c.L.sok _ (am g);have k:=jW h (a / 16) ω;rw[t]at k;unfold freeA;generalize ui h a=i at g n k e;have b:=ao g;have o:=vi (nth h.K i) a ⟨ω,ω⟩;rw[KS e n]at o;have w:=zA (nth h.K i) (dz (nth h.K i) a) e n.2.2.2;have D:=c.give g n;have l:=vd (clrS h i a) (nth h.K i).R;rw[show gm (clrS h i a) (nth h.K i).R=gm h (nth h.K i).R from rfl]at l;have p:=B7 (clrS h i a) E i D (by unfold clrS;simp only[O1];exact g);have r:=bG (clrS h i a);rw[yu]at p r;have j:((h.K.map (ax.enc .own)).set i (ax.enc .own (mQ (nth h.K i) (dz (nth h.K i) a))))[i]? = some (ax.enc .own (mQ (nth h.K i) (dz (nth h.K i) a))):=sv g;unfold freeS;by_cases y:(mQ (nth h.K i) (dz (nth h.K i) a)).b2=0
 ·cases F:gm h (nth h.K i).R<;>rw[F]at l
  ·rw[C9 ⟨y,rfl⟩]
   refine fM 68 [(554,[2,0])] [(2,274,[26,27,28,29,30,31,32,33,34,35,36,37,38,39,25,40,41,42,0,1,2,3,4,5,6,7,8,9,10,11,12,13,14,15,16,17,18,1016])] [(0,0),(0,0)] Tryz.func511 rfl (λu q=>?_) (.inr trivial)
   repeat'(first|refine gA ?_|(conv=>whnf);first|with_reducible refine CM ((W0 _ (tdiv16 d.1)).trans (eN ω ω)) ?_|refine CB ?_|refine CN (by decide) ?_|refine CG (k) ⟨⟨rfl,bG h⟩,⟨rfl,rfl⟩,trivial⟩ ?_|refine CC (aa b) ?_|refine CC j ?_|refine CH rfl (aa b) rfl ?_|refine CH rfl j rfl ?_|refine C7 (o) ?_|refine C7 (w) ?_|refine CP rfl rfl (aa b) rfl (C1 rfl) rfl ?_|refine CG (l) ⟨r,⟨rfl,rfl⟩,trivial⟩ ?_|refine CJ (p) (.inl rfl) ?_)
   refine CF rfl rfl ?_;exact wB
  rw[C8 λx=>by cases x.2];rw[yu];refine fM 68 [(554,[2,0])] [(2,274,[26,27,28,29,30,31,32,33,34,35,36,37,38,39,25,40,41,42,0,1,2,3,4,5,6,7,8,9,10,11,12,13,14,15,16,17,18,1016])] [(0,0),(0,0)] Tryz.func511 rfl (λu q=>?_) (.inr trivial)
  repeat'(first|refine gA ?_|(conv=>whnf);first|with_reducible refine CM ((W0 _ (tdiv16 d.1)).trans (eN ω ω)) ?_|refine CB ?_|refine CN (by decide) ?_|refine CG (k) ⟨⟨rfl,bG h⟩,⟨rfl,rfl⟩,trivial⟩ ?_|refine CC (aa b) ?_|refine CC j ?_|refine CH rfl (aa b) rfl ?_|refine CH rfl j rfl ?_|refine C7 (o) ?_|refine C7 (w) ?_|refine CP rfl rfl (aa b) rfl (C1 rfl) rfl ?_|refine CG (l) ⟨r,⟨rfl,rfl⟩,trivial⟩ ?_)
  refine CF rfl rfl ?_;exact wB
 rw[C8 λx=>y x.1];rw[yu];refine fM 68 [(554,[2,0])] [(2,274,[26,27,28,29,30,31,32,33,34,35,36,37,38,39,25,40,41,42,0,1,2,3,4,5,6,7,8,9,10,11,12,13,14,15,16,17,18,1016])] [(0,0),(0,0)] Tryz.func511 rfl (λu q=>?_) (.inr trivial)
 repeat'(first|refine gA ?_|(conv=>whnf);first|with_reducible refine CM ((W0 _ (tdiv16 d.1)).trans (eN ω ω)) ?_|refine CB ?_|refine CN (by decide) ?_|refine CG (k) ⟨⟨rfl,bG h⟩,⟨rfl,rfl⟩,trivial⟩ ?_|refine CC (aa b) ?_|refine CC j ?_|refine CH rfl (aa b) rfl ?_|refine CH rfl j rfl ?_|refine C7 (o) ?_|refine C7 (w) ?_|refine CP rfl rfl (aa b) rfl (C1 rfl) rfl ?_)
 refine CF rfl rfl ?_;exact wB
theorem NA(h:ab)(t:Nat)(c:aE):bB {h with T:=h.T.set t c} = (bB h).set 9 (.s .own ((h.T.map (aE.enc .own)).set t (aE.enc .own c))):=by
 simp[bB,X5]
theorem oe(h:ab)(E:List Int)(t:Nat)(a:Int)(b:aX h (a::E))(w:t<h.T.length):aW Tryz.prog 564 false [.ptr (bB h),.val none [I (t:Nat)],.val none [I a]] [.ptr (bB (recyc t h a)),.val none [I (t:Nat)],.val none [I a]] (.tup []) []:=by
 obtain⟨o,y,p⟩:=b.at (b.hin a (V1 ..));have g:=(b.hin a (V1 ..)).bd b;have B:=b.lens;have C:=B.spans;have j:=aF (b.L.sok _ (am o));have r:=b.cach _ (am w);have l:=jW h (a / 16) ω;rw[p]at l;have D:=n8 h E a b;unfold recyc;generalize ui h a=i at o y l j;have n:=ao o;have k:=ao w;have d:=zc (nth h.T t) (nth h.K i).d.toNat a r ω;rw[Int.toNat_of_nonneg j.2.2.1]at d;unfold H6 at d;cases e:cput (nth h.T t) (nth h.K i).d a with
 | none=>
  rw[e]at d;refine fM 46 [(511,[2,0])] [(1,277,[16,17,18,19,20,21,22,23,24,25,26,27,28,29,30,31,32,15,33,34,7,0,1,2,3,4,5,6,7,8,9,10,11,12,13,14,15,16,17,18,19,20,21,1019,22]),(3,6,[36,37,38,39,40,41])] [(0,0),(0,0),(0,0)] Tryz.func564 rfl (λu q=>?_) (.inr trivial)
  repeat'(first|refine gO ?_|(conv=>whnf);first|with_reducible refine CM ((W0 _ (tdiv16 g.1)).trans (eN ω ω)) ?_|refine CB ?_|refine CN (by decide) ?_|refine CG (l) ⟨⟨rfl,bG h⟩,⟨rfl,rfl⟩,trivial⟩ ?_|refine CC (aa n) ?_|refine CC (aa k) ?_|refine CH rfl (aa n) rfl ?_|refine CH rfl (aa k) rfl ?_|refine CG (d) ⟨⟨rfl,aE.enc_fz _⟩,⟨rfl,rfl⟩,⟨rfl,rfl⟩,trivial⟩ ?_|refine CJ (D) (.inl rfl) ?_)
  refine CF rfl rfl ?_;exact wB
 | some c=>
  rw[e]at d;simp only;rw[NA];refine fM 46 [(511,[2,0])] [(1,277,[16,17,18,19,20,21,22,23,24,25,26,27,28,29,30,31,32,15,33,34,7,0,1,2,3,4,5,6,7,8,9,10,11,12,13,14,15,16,17,18,19,20,21,1019,22]),(3,6,[36,37,38,39,40,41])] [(0,0),(0,0),(0,0)] Tryz.func564 rfl (λu q=>?_) (.inr trivial)
  repeat'(first|refine gO ?_|(conv=>whnf);first|with_reducible refine CM ((W0 _ (tdiv16 g.1)).trans (eN ω ω)) ?_|refine CB ?_|refine CN (by decide) ?_|refine CG (l) ⟨⟨rfl,bG h⟩,⟨rfl,rfl⟩,trivial⟩ ?_|refine CC (aa n) ?_|refine CC (aa k) ?_|refine CH rfl (aa n) rfl ?_|refine CH rfl (aa k) rfl ?_|refine CG (d) ⟨⟨rfl,aE.enc_fz _⟩,⟨rfl,rfl⟩,⟨rfl,rfl⟩,trivial⟩ ?_|refine CP rfl rfl (aa k) rfl (C1 rfl) rfl ?_)
  refine CF rfl rfl ?_;exact wB
theorem qw(h:ab)(i:Nat)(d:aX h [])(o:i<h.O.length)(t:aJ (nth h.O i).q<0):aW Tryz.prog 560 false [.ptr (bB h),.val none [I (i:Nat)]] [.ptr (bB (freeL h i (yQ h (nth h.O i).Addr))),.val none [I (i:Nat)]] (.tup []) []:=by
 obtain⟨l,w,y,-⟩:=(dR d (am o)).1 t;obtain⟨p,B,c,-⟩:=vW w y;generalize yQ h (nth h.O i).Addr=g at p B c;have a:=d.lens;have C:=a.larges;have D:=a.objs;have b:=ao o;have N:=aP (d.L.lok _ (am p));have E:eY h<=32:=a.ents;refine fM 89 [(388,[2,0]),(562,[2,0])] [(4,11,[23,24,25,26,27,28,29,30,31,32,33]),(8,7,[41,42,43,44,45,46,47]),(9,273,[50,51,52,53,54,55,56,57,58,59,60,62,49,63,64,65,66,0,1,2,3,4,5,6,7,8,9,10,11,1000,1001,1002,1003,1004,1005,1006,12,13,14,15,16,17,18,1015]),(10,273,[67,68,69,70,71,72,73,74,76,77,78,79,80,81,82,84,85,0,1,2,3,4,5,6,7,9,10,11,12,13,14,15,8,1000,1009,1010,1011,1012,1013,1014,1015,16,1000,17,18,19]),(1048586,0,[7])] [(0,0),(0,0)] Tryz.func560 rfl (λu q=>?_) (.inr trivial)
 repeat'(first|(conv=>whnf);refine CB ?_)
 (conv=>whnf)
 refine CE (ι:=Nat) (λk=>[(0,.H .box (bB h)),(1,.H .one [I ((i:Nat):Int)]),(4,.H .one [I ((k:Nat):Int)])]) (λk=>k<=g) (λk=>g - k) (0) ?_ (U0 _) λk O=>?_
 ·exact wB
 have j:=ao (xs:=h.M) (i:=k) ω;have F:=aP (d.L.lok _ (am (xs:=h.M) (i:=k) ω));have G:0<=(nth h.O i).Addr/\(nth h.O i).Addr<=512:=ω
 by_cases e:k=g
 ·subst e
  repeat'(first|refine gA ?_|(conv=>whnf);first|with_reducible refine CC (aa j) ?_|refine CH rfl (aa j) rfl ?_|refine CH rfl (aa b) rfl ?_|refine CC (aa b) ?_)
  (conv=>whnf)
  refine CE (ι:=Nat) (λn=>[(0,.H .box (bB {h with G:=unmN h.G (nth h.M k).R n})),(1,.H .one [I ((i:Nat):Int)]),(4,.H .one [I ((k:Nat):Int)]),(5,.H .box (a8.enc .own (nth h.M k))),(6,.H .one [I ((n:Nat):Int)])]) (λn=>n<=(nth h.M k).a3.toNat) (λn=>(nth h.M k).a3.toNat - n) (0) ?_ (U0 _) λn P=>?_
  ·exact wB
  by_cases Q:n<(nth h.M k).a3.toNat
  ·have H:=ng {h with G:=unmN h.G (nth h.M k).R n} ((nth h.M k).R+n) (iY d.ker _ _)
   repeat'(first|refine gD ?_|(conv=>whnf);refine CJ (H) (.inl rfl) ?_)
   ((conv=>whnf);refine CD (n+1) ω ω ?_;(exact wB))
  obtain rfl:n=(nth h.M k).a3.toNat:=ω
  have r:=iq {h with G:=unmN h.G (nth h.M k).R (nth h.M k).a3.toNat};rw[show eY {h with G:=unmN h.G (nth h.M k).R (nth h.M k).a3.toNat} = eY h from(fS _ _ _).1]at r;have J:=mb (eY h:Nat) h.u ⟨(nth h.M k).R,(nth h.M k).a3⟩ ⟨ω,ω⟩ ⟨by have:=a.free;omega,λ_ _=>trivial⟩;have K:=na {h with G:=unmN h.G (nth h.M k).R (nth h.M k).a3.toNat,M:=dele h.M k,u:=(dL (eY h) h.u ⟨(nth h.M k).R,(nth h.M k).a3⟩).getD h.u} i o (by show h.O.length<=_;omega)
  repeat'(first|refine gD ?_|(conv=>whnf);first|refine CB ?_|refine Fu.mk rfl (tS h.M) rfl ?_|refine CU k rfl (by rw[Z0];omega) (aO λ_=>rfl) v4 ?_|refine Sl.suf (k+1) rfl (by rw[Z0];omega) (aO λ_=>rfl) z4 ?_|refine CV (λ_=>rfl) (λ_=>rfl) (by rw[U1];omega) (by decide) ?_|refine Ap.dele (λ_=>rfl) (λ_=>rfl) ω (by decide) ?_|refine CO (λ_=>rfl) (λ_=>rfl) (by rw[U1];omega) (by decide) ?_|refine CG (r) ⟨bG _,trivial⟩ ?_|refine CG (J) ⟨⟨rfl,rfl⟩,⟨rfl,eM h.u⟩,⟨rfl,rfl⟩,trivial⟩ ?_|refine CJ (K) (.inl rfl) ?_)
  refine CF rfl rfl ?_;exact wB
 have M:=c k ω
 repeat'(first|refine gA ?_|(conv=>whnf);first|with_reducible refine CC (aa j) ?_|refine CH rfl (aa j) rfl ?_|refine CH rfl (aa b) rfl ?_|refine CC (aa b) ?_)
 ((conv=>whnf);refine CD (k+1) ω ω ?_;(exact wB))
def QN(q:bL)(x:aQ):List C:=bL.enc .own (KK q x)++cW .own (zm q x)
theorem Pi(q:bL)(x:aQ):hC (QN q x):=aI (bL.enc_fr _) (vc _)
theorem BJ(q:bL)(a:aQ)(K:q.a6.length<=4096)(e:gv q=true)(r:0<=a.d/\a.d<=3/\0<=a.Addr/\0<=a.b7)(t:∀y∈q.a6,y.b7<=a.b7)(u:∀y∈q.a6,y.Addr≠a.Addr) :
  ar Tryz.prog 563 false [.val (some 2) (bL.enc .X q),.val (some 3) (aQ.enc .X a)] (.tup [some 2,none]) (QN q a):=by
 have b:bL.sml q:=⟨ω,λ_ _=>trivial⟩
 have w:=rL q b;have l:=oK q b;rw[e]at l;have n:=Aw a;rw[O0 r]at n;have o:=rS q a.Addr b;rw[show q.a6.any (eR a.Addr)=false by rw[List.any_eq_false];intro y B;unfold eR;simpa using u y B]at o;have C:=(kg.1 e).2.2.2;have g:=Pi q a;have L:(aQ.mk a.Addr a.d a.b7)=a:=rfl;have c:=DX q.c1 (q.a6++[a]);simp only[I3,List.length_singleton]at c;by_cases E:q.a6.length=0
 all_goals
  try have h:(nth q.a6 (q.a6.length - 1)).b7<=a.b7:=t _ (am ω)
  try have j:=ao (xs:=q.a6) (i:=q.a6.length - 1) ω
  try have d:q.a6[((q.a6.length:Int) - 1).toNat]? = some (nth q.a6 (q.a6.length - 1)):=by rw[show((q.a6.length:Int) - 1).toNat=q.a6.length - 1 by omega];exact j
  refine fO 74 [(3,27,[15,16,17,18,19,20,21,22,23,24,25,26,27,28,29,30,31,32,33,34,35,36,37,38,39,40,41]),(7,6,[52,53,54,55,56,57]),(9,268,[61,62,63,64,65,66,67,69,70,71,72,73,0,1,2,3,4,5,6,8,9,10,11,12,7,1008,1009,1010,1011,1012,13,14])] Tryz.func563 rfl ?_ (.inr g)
  repeat'(first|refine gD ?_|(conv=>whnf);first|refine C7 (w) ?_|refine C7 (l) ?_|refine C7 (n) ?_|refine C7 (o) ?_|refine CL ω (aa d) ?_|refine Ap.sm (aO λ_=>rfl) rfl (by simp;omega) (by decide) (gi (aQ.enc .own) q.a6 a) ?_)
  (conv=>whnf)
  refine Lp.fz 8 (ι:=Nat) (λk=>[(2,.H .box (bL.enc .X q)),(4,.H .box [I 0,.z]),(8,.H .one (cW .X (q.a6++[a]))),(9,.H .one [I (k:Nat)])]) (λk=>k<=ox q.c1 (q.a6++[a])) (λk=>ox q.c1 (q.a6++[a]) - k) 0 ?_ (U0 _) λk M=>?_
  ·(repeat'(first|exact trivial|rfl|exact CK rfl (show Mf (eB (cW .own (q.a6++[a]))) (cW .X (q.a6++[a])) by rw[Gc];exact mH _)|refine CK ?_ ?_))
  have N:(q.a6++[a]).length=q.a6.length+1:=by simp
  have F:((q.a6++[a]).drop k).length<=5000:=by rw[O3];omega
  have G:((q.a6++[a]).take k).length<=5000:=by rw[U1];omega
  have p:=uS ((q.a6++[a]).drop k) ⟨ω,λ_ _=>trivial⟩;by_cases H:k<ox q.c1 (q.a6++[a])
  ·have J:q.c1<quarCells ((q.a6++[a]).drop k) ((q.a6++[a]).drop k).length:=zP H
   repeat'(first|refine gD ?_|(conv=>whnf);first|refine Sl.suf k rfl (by rw[Z0];omega) (aO λ_=>rfl) z4 ?_|refine C7 (p) ?_)
   ((conv=>whnf);refine CD (k+1) ω ω ?_;(exact wB))
  obtain rfl:k=ox q.c1 (q.a6++[a]):=ω
  have J:quarCells ((q.a6++[a]).drop (ox q.c1 (q.a6++[a]))) ((q.a6++[a]).drop (ox q.c1 (q.a6++[a]))).length<=q.c1:=Dr C.1 _
  repeat'(first|refine gD ?_|(conv=>whnf);first|refine CB ?_|refine Sl.suf (ox q.c1 (q.a6++[a])) rfl (by rw[Z0];omega) (aO λ_=>rfl) z4 ?_|refine CU (ox q.c1 (q.a6++[a])) rfl (by rw[Z0];omega) (aO λ_=>rfl) v4 ?_|refine C7 (p) ?_|refine CV (λ_=>rfl) (λ_=>rfl) ω (by decide) ?_)
  rfl
theorem oD{z:Int}(h:0<=z/\z<512):IntKind.i64.wrap (z.tdiv 16)=z / 16:=(W0 _ (tdiv16 h.1)).trans (eN ω ω)
theorem um{h:ab}{E:List Int}(a:aX h E){o:bu}(b:o∈h.O):0<=o.Addr/\o.Addr<512:=by
 rcases a.oow o b with⟨s,c,⟨f,g,-⟩,-⟩|⟨l,d,e,-⟩
 ·have:=aF (a.L.sok s c);omega
 have:=aP (a.L.lok l d);omega
theorem MV{k:Int}(h:0<=k/\k<=3):1<=csz k/\csz k<=8:=by
 rcases bO h with e|e|e|e<;>rw[e]<;>decide
structure RI(h:ab)(o:bu):Prop where
 cl:0<=aJ o.q/\aJ o.q<=3
 fr:0<=(ac h.G.F.Q (o.Addr / 16)).e/\(ac h.G.F.Q (o.Addr / 16)).e<h.G.F.W.S.length
 fit:o.Addr % 16+csz (aJ o.q)<=16
 row:(nth h.G.F.W.S (cR h.G o.Addr)).length=16
theorem RI.of{h:ab}{E:List Int}(b:aX h E){o:bu}(l:o∈h.O)(q:¬aJ o.q<0):RI h o:=by
 obtain⟨⟨s,d,f,r⟩,B⟩:=(dR b l).2 q;have t:=aF (b.L.sok s d);have u:=um b l;have n:s.R=o.Addr / 16:=by have C:=f.1;have D:=f.2.1;omega
 have c:(o.Addr / 16).toNat<(tbl h).J.length:=by have:=b.pg.bnd _ (dC (la:=h.M) d);omega
 have a:(((o.Addr / 16).toNat:Nat):Int)=o.Addr / 16:=ω
 have p:=(b.pg.own _ c).2 (by rw[a,<-n];exact dC d);have g:(ac h.G.F.Q (o.Addr / 16)).j≠0:=by rw[<-a];unfold tbl at p c;rw[m0 c];exact p
 obtain⟨-,-,-,i,w⟩:=bI b.ker g;have y:=(aU.1 (aB.1 b.ker).2.1).2.2.1;have j:cR h.G o.Addr<h.G.F.W.S.length:=by unfold cR;omega
 refine⟨ω,⟨i,ω⟩,?_,b.lens.row _ (am j)⟩;have A:=f.2.2.1;rw[n,<-r]at *;rcases bO (k:=s.d) ⟨ω,ω⟩ with e|e|e|e<;>rw[e]at A |-<;>omega
theorem HS(h:ab)(a:Int)(b:cR h.G a<h.G.F.W.S.length):({h with G:=f8 h.G a 0} : ab)=h:=by
 have e:h.G.F.W.S.set (cR h.G a) (nth h.G.F.W.S (cR h.G a))=h.G.F.W.S:=by
  refine List.ext_getElem? λi=>?_
  rw[X3];split
  ·rename_i e
   subst e;exact(ao b).symm
  rfl
 unfold f8 kW;rw[e]
theorem E7(h:ab)(a:Int)(k:Nat)(v:Int)(_:0<=a):bB {h with G:=f8 h.G a (k+1)} = (bB {h with G:=f8 h.G a k}).set 0 (.s .own (((f8 h.G a k).F.W.S.map (aD .own)).set (ac h.G.F.Q (a / 16)).e.toNat ((aD .own (kW (nth h.G.F.W.S (cR h.G a)) (a % 16).toNat k)).set 0 (.s .own (((kW (nth h.G.F.W.S (cR h.G a)) (a % 16).toNat k).map (rI .own)).set (a % 16+k).toNat (splice (rI .own v) 0 [I 0])))))):=by
 have e:(a % 16+k).toNat=(a % 16).toNat+k:=ω
 rw[e];simp[bB,f8,X5,kW,aD,splice,cR]
 rfl
theorem EG(t:Nat)(h:ab)(xs:List aQ)(k:Nat)(a:k<xs.length):recycs t h ((xs.take (k+1)).map (·.Addr))=recyc t (recycs t h ((xs.take k).map (·.Addr))) (nth xs k).Addr:=by
 unfold recycs;rw[I5,ao a];simp
theorem Gv(h:ab)(o:bu)(t:Nat)(a:aX h [])(P:o∈h.O)(ht:o.a4=t)(hlc:h.T.length<=4):aW Tryz.prog 527 false [.ptr (bB h),.val none [I (t:Nat)],.val none [I o.Addr]] [.ptr (bB (freeOb h t (pc h o.Addr)).1),.val none [I (t:Nat)],.val none [I o.Addr]] .one [I (freeOb h t (pc h o.Addr)).2]:=by
 obtain⟨l,B,C⟩:=a.objAt P;have b:=um a P;have hon:=a.onu o P;have d:=a.lens;have hno:=d.objs;have E:t<h.T.length:=ω
 have M:=aG (t:Nat) 0 (h.T.length - 1:Int);rw[O0 ω]at M;have F:=rD h o.Addr ω;rw[C]at F;generalize pc h o.Addr=i at l B F;subst B;have r:=ao l;have Q:=kN (nth h.O i).q;unfold freeOb;have R:=bp a.ker;have Z:=cM h.G.F.Q ((nth h.O i).Addr / 16) R.1.2;by_cases w:aJ (nth h.O i).q<0
 ·rw[C9 w]
  have c3:=qw h i a l w;refine fM 148 [(560,[2,0]),(562,[2,0]),(564,[2,0,0]),(559,[2,0])] [(15,269,[68,69,70,71,72,73,74,75,77,67,78,79,11,0,1,2,3,4,5,6,7,13,8,1000,1001,1002,1003,1004,1013,9,10,11,12,14,1012,15]),(22,15,[92,93,94,95,96,97,98,99,100,101,102,103,104,105,106]),(25,271,[116,117,118,119,120,121,122,123,124,125,127,115,128,129,14,0,1,2,3,4,5,6,7,8,9,15,10,1000,1001,1002,1003,1015,11,12,13,14,16,1014,17])] [(0,0),(0,0),(0,0)] Tryz.func527 rfl (λu q=>?_)
  repeat'(first|refine gD ?_|(conv=>whnf);first|refine C7 (M) ?_|refine CG (F) ⟨⟨rfl,bG h⟩,⟨rfl,rfl⟩,trivial⟩ ?_|refine CC (aa r) ?_|refine CH rfl (aa r) rfl ?_|refine C7 (Q) ?_|refine CJ (c3) (.inl rfl) ?_)
  refine CF rfl rfl ?_;exact wB
 rw[C8 w];obtain⟨S,s2,s3,s4⟩:=RI.of a (am l) w;by_cases N:(ac (tbl h) ((nth h.O i).Addr / 16)).j=1
 ·rw[C9 N]
  unfold tbl at N;refine fM 148 [(560,[2,0]),(562,[2,0]),(564,[2,0,0]),(559,[2,0])] [(15,269,[68,69,70,71,72,73,74,75,77,67,78,79,11,0,1,2,3,4,5,6,7,13,8,1000,1001,1002,1003,1004,1013,9,10,11,12,14,1012,15]),(22,15,[92,93,94,95,96,97,98,99,100,101,102,103,104,105,106]),(25,271,[116,117,118,119,120,121,122,123,124,125,127,115,128,129,14,0,1,2,3,4,5,6,7,8,9,15,10,1000,1001,1002,1003,1015,11,12,13,14,16,1014,17])] [(0,0),(0,0),(0,0)] Tryz.func527 rfl (λu q=>?_)
  repeat'(first|refine gA ?_|(conv=>whnf);first|refine CN (by decide) ?_|refine CM (oD b) ?_|refine C7 (M) ?_|refine CG (F) ⟨⟨rfl,bG h⟩,⟨rfl,rfl⟩,trivial⟩ ?_|refine CC (aa r) ?_|refine CH rfl (aa r) rfl ?_|refine C7 (Q) ?_|refine CG (Z) ⟨⟨rfl,CY _⟩,⟨rfl,rfl⟩,trivial⟩ ?_)
  refine CF rfl rfl ?_;exact wB
 rw[C8 N];unfold tbl at N;have G:cR h.G (nth h.O i).Addr<h.G.F.W.S.length:=by unfold cR;omega
 have hcz:=MV S;have g:=a.inQuar l w;have H:=dZ (aJ (nth h.O i).q);refine fM 148 [(560,[2,0]),(562,[2,0]),(564,[2,0,0]),(559,[2,0])] [(15,269,[68,69,70,71,72,73,74,75,77,67,78,79,11,0,1,2,3,4,5,6,7,13,8,1000,1001,1002,1003,1004,1013,9,10,11,12,14,1012,15]),(22,15,[92,93,94,95,96,97,98,99,100,101,102,103,104,105,106]),(25,271,[116,117,118,119,120,121,122,123,124,125,127,115,128,129,14,0,1,2,3,4,5,6,7,8,9,15,10,1000,1001,1002,1003,1015,11,12,13,14,16,1014,17])] [(0,0),(0,0),(0,0)] Tryz.func527 rfl (λu q=>?_)
 repeat'(first|refine gA ?_|(conv=>whnf);first|refine CN (by decide) ?_|refine CM (oD b) ?_|refine C7 (M) ?_|refine CG (F) ⟨⟨rfl,bG h⟩,⟨rfl,rfl⟩,trivial⟩ ?_|refine CC (aa r) ?_|refine CH rfl (aa r) rfl ?_|refine C7 (Q) ?_|refine CG (Z) ⟨⟨rfl,CY _⟩,⟨rfl,rfl⟩,trivial⟩ ?_)
 rw[show bB h=bB {h with G:=f8 h.G (nth h.O i).Addr 0} by rw[HS h _ G]]
 (conv=>whnf)
 refine CE (ι:=Nat) (λk=>[(0,.H .box (bB {h with G:=f8 h.G (nth h.O i).Addr k})),(1,.H .one [I ((t:Nat):Int)]),(2,.H .one [I ((nth h.O i).Addr)]),(7,.H .one [I ((i:Nat):Int)]),(8,.H .box (bu.enc .own (nth h.O i))),(9,.H .one [I (aJ (nth h.O i).q)]),(10,.H .box (bi.enc .own (ac h.G.F.Q ((nth h.O i).Addr / 16)))),(13,.H .one [I ((k:Nat):Int)])]) (λk=>k<=(csz (aJ (nth h.O i).q)).toNat) (λk=>(csz (aJ (nth h.O i).q)).toNat - k) (0) ?_ (U0 _) λk hk=>?_
 ·exact wB
 have hmod:IntKind.i64.wrap 0=0:=rfl;have T:(nth h.O i).Addr.tmod 16=(nth h.O i).Addr % 16:=dK b.1;have p:(f8 h.G (nth h.O i).Addr k).F.W.S[(ac h.G.F.Q ((nth h.O i).Addr / 16)).e.toNat]? = some (kW (nth h.G.F.W.S (cR h.G (nth h.O i).Addr)) ((nth h.O i).Addr % 16).toNat k):=U3 G;by_cases O:k<(csz (aJ (nth h.O i).q)).toNat
 ·have J:=ao (xs:=kW (nth h.G.F.W.S (cR h.G (nth h.O i).Addr)) ((nth h.O i).Addr % 16).toNat k) (i:=((nth h.O i).Addr % 16+k).toNat) (by rw[mO,s4];omega)
  repeat'(first|refine gD ?_|(conv=>whnf);first|refine CN (by decide) ?_|refine CQ T ?_|refine C7 (H) ?_|refine CL s2.1 (aa p) ?_|refine CH rfl (aa p) rfl ?_|refine CL ω (aa J) ?_|refine Pu.two rfl rfl (aa p) rfl rfl rfl (aa J) rfl (z3 _) (E7 h _ k _ b.1) ?_)
  ((conv=>whnf);refine CD (k+1) ω ω ?_;(exact wB))
 obtain rfl:k=(csz (aJ (nth h.O i).q)).toNat:=ω
 have c5:=na {h with G:=f8 h.G (nth h.O i).Addr (csz (aJ (nth h.O i).q)).toNat} i l (by show h.O.length<=_;omega);have j:=a.nums;unfold cj at j;rw[C0]at j;have K:=(a.dropO l (kh.any (c:=aJ (nth h.O i).q) (by obtain⟨⟨s,hs,k1,k2⟩,-⟩:=(dR a (am l)).2 w;exact⟨s,hs,k1,.inr k2⟩))).nd;rw[List.cons_append,List.nil_append]at K;have c6:=BJ h.a9 (lc h (nth h.O i)) (by have:=d.quar;omega) a.quar ⟨S.1,S.2,b.1,j.2.2.1⟩ (λy U=>a.snc y U) (λy U e=>(List.nodup_cons.1 K).1 (by rw[show(nth h.O i).Addr=y.Addr from e.symm];unfold holders;simp only[Z2];exact .inl (.inr (C4.2 ⟨y,U,rfl⟩))));unfold QN at c6;have V:(zm h.a9 (lc h (nth h.O i))).length<=513:=by have:=d.quar;unfold zm;rw[U1,I3];simp only[List.length_singleton];omega
 repeat'(first|refine gA ?_|(conv=>whnf);first|refine CB ?_|refine C7 (H) ?_|refine CJ (c5) (.inl rfl) ?_|refine CG (c6) ⟨⟨rfl,bL.enc_fz h.a9⟩,⟨rfl,rfl⟩,trivial⟩ ?_)
 have W:FH h t i=recycs t (inQuar h i) ((zm h.a9 (lc h (nth h.O i))).map (·.Addr)):=rfl;simp only;rw[W];have hqn:(inQuar h i).T.length=h.T.length:=rfl;generalize zm h.a9 (lc h (nth h.O i))=out at g V
 (conv=>whnf)
 refine CE (ι:=Nat) (λk=>[(0,.H .box (bB (recycs t (inQuar h i) ((out.take k).map (·.Addr))))),(1,.H .one [I ((t:Nat):Int)]),(15,.H .one (cW .own out)),(16,.H .one [I ((k:Nat):Int)])]) (λk=>k<=out.length) (λk=>out.length - k) (0) ?_ (U0 _) λk hk=>?_
 ·exact wB
 by_cases O:k<out.length
 ·have L:=ao O
  have X:out.map (·.Addr)=(out.take k).map (·.Addr)++(nth out k).Addr::(out.drop (k+1)).map (·.Addr):=by
   conv=>lhs;rw[<-List.take_append_drop k out,iP O]
   simp
  have Y:aX (recycs t (inQuar h i) ((out.take k).map (·.Addr))) ((nth out k).Addr::(out.drop (k+1)).map (·.Addr)):=aX.recycs (by rw[<-X];exact g) E;have c7:=oe _ _ t _ Y (by rw[(fo t _ _).1];exact E)
  repeat'(first|refine gD ?_|(conv=>whnf);first|refine CC (aa L) ?_|refine CH rfl (aa L) rfl ?_|refine CJ (c7) (.inl rfl) ?_)
  ((conv=>whnf);refine CD (k+1) ω ω ?_)
  rw[EG t _ out k O];exact wB
 obtain rfl:k=out.length:=ω
 rw[t5]
 repeat'(first|refine gD ?_|(conv=>whnf);refine CB ?_)
 refine CF rfl rfl ?_;exact wB
def oE(rows:List (List C)):C:=match rows with|[]=>.s .X []|_=>.s .own rows
set_option maxRecDepth 100000
theorem eA(c:C):Pm c c:=(mH [c]).1
def cE(h:ab)(s l o:C):List C:=[.s .own (h.G.F.W.S.map (aD .own)),.s .own (h.G.F.W.a5.map (rB .own)),.s .own (h.G.F.Q.J.map (bi.enc .own)),I h.G.Calls,.s .own (h.G.a0.map (rI .own)),.s .own (h.u.map (aA.enc .own)),s,l,o,.s .own (h.T.map (aE.enc .own)),.s .own (h.y.U.map (cK .own)),.s .own (h.y.a1.map (aD .own)),I h.a9.c1,.s .own (h.a9.a6.map (aQ.enc .own)),I h.c0,I h.b3,I h.c3,I h.a,B h.o,I h.Y.V.a2,I h.Y.V.w,.s .own (h.Y.V.S.map (rI .own)),I h.Y.b0,I h.Y.a]
def oS(h:ab):C:=oE (h.K.map (ax.enc .own))
def oL(h:ab):C:=oE (h.M.map (a8.enc .own))
def oO(h:ab):C:=oE (h.O.map (bu.enc .own))
def qh(h:ab):List C:=cE h (oS h) (oL h) (oO h)
theorem Mz(rows:List (List C)):fz (oE rows)=fz (.s .own rows):=by cases rows<;>rfl
theorem R3(h:ab){s l o:C}(a:fz s=.s .X (h.K.map (ax.enc .X)))(b:fz l=.s .X (h.M.map (a8.enc .X)))(c:fz o=.s .X (h.O.map (bu.enc .X))):eB (cE h s l o)=ab.enc .X h:=by
 have d:=ab.enc_fz h;have e:eB (cE h s l o)=(((eB (ab.enc .own h)).set 6 (fz s)).set 7 (fz l)).set 8 (fz o):=rfl;rw[e,d,a,b,c];rfl
theorem Rj(h:ab):fz (oS h)=.s .X (h.K.map (ax.enc .X)):=(Mz _).trans (xq _)
theorem R8(h:ab):fz (oL h)=.s .X (h.M.map (a8.enc .X)):=(Mz _).trans (tS _)
theorem Ru(h:ab):fz (oO h)=.s .X (h.O.map (bu.enc .X)):=(Mz _).trans (we _)
theorem D8(h:ab):eB (qh h)=ab.enc .X h:=R3 h (Rj h) (R8 h) (Ru h)
theorem G2{rows:List (List C)}(h:Qi rows):Qt (oE rows):=by cases rows with|nil=>exact⟨.inr rfl,trivial⟩|cons r a=>exact⟨.inl λe=>(by cases e),h⟩
theorem nB(h:ab):hC (qh h):=by
 have a:=ab.enc_fr h;simp only[ab.enc,hC]at a;unfold qh cE;simp only[hC];refine⟨a.1,a.2.1,a.2.2.1,a.2.2.2.1,a.2.2.2.2.1,a.2.2.2.2.2.1,G2 ?_,G2 ?_,G2 ?_,a.2.2.2.2.2.2.2.2.2⟩
 ·exact a.2.2.2.2.2.2.1.2
 ·exact a.2.2.2.2.2.2.2.1.2
 exact a.2.2.2.2.2.2.2.2.1.2
theorem tN{w:World}{S Y:ah}{rows:List (List C)}{v:Value}(h:eX w S Y (.s .own rows) v):eX w S Y (oE rows) v:=by
 cases rows with
 | cons=>exact h
 | nil=>
  cases h with
  | nil _ o a d=>exact .nil _ .X a trivial
  | own _ o g k n e rows u f d i j b c l p q r t=>simp at i;omega
theorem MN{w:World}{S Y:ah}{h:ab}{u:Nat->Value}(d:cV w S Y (ab.enc .own h) u):cV w S Y (qh h) u:=by
 obtain⟨f,b,e,g⟩:=d;refine⟨f,λj c a=>?_,e,g⟩;have i:qh h=(((ab.enc .own h).set 6 (oS h)).set 7 (oL h)).set 8 (oO h):=rfl;rw[i]at a;by_cases k:j=8
 ·subst k
  have:c=oO h:=by simpa[ab.enc] using a.symm
  rw[this];exact tN (b 8 _ rfl)
 by_cases l:j=7
 ·subst l
  have:c=oL h:=by simpa[ab.enc] using a.symm
  rw[this];exact tN (b 7 _ rfl)
 by_cases n:j=6
 ·subst n
  have:c=oS h:=by simpa[ab.enc] using a.symm
  rw[this];exact tN (b 6 _ rfl)
 rw[List.getElem?_set_ne ω,List.getElem?_set_ne ω,List.getElem?_set_ne ω]at a;exact b j c a
theorem rk(h:ab)(a:ab.sml h):ar Tryz.prog 59 false [.val (some 24) (ab.enc .X h)] .agg (qh h):=by
 obtain⟨b,c⟩:=qm h a;refine⟨b,λw S d g i=>(c w S d g i).mono λe w1 j=>?_⟩;obtain⟨v,k,l,X,n,o,p,q,r,t⟩:=j;exact⟨v,k,l,X,n,o,p,q,r,MN t⟩
theorem nR{c a:C}(h:a=c):Pm c a:=by subst h;exact eA _
def KB(c:aE)(k:Nat):aE:=⟨c.b.set k []⟩
theorem PJ(c:aE)(k:Nat):aE.enc .own (KB c k)=[.s .own ((c.b.map (aD .own)).set k (aD .own []))]:=by simp[aE.enc,KB,X5]
theorem Lu(xs:List Int):([]:List Int).map (rI .X)=(xs.map (rI .X)).drop xs.length:=by rw[List.drop_eq_nil_of_le (by rw[Z0];omega)];rfl
theorem Ld(xs:List Int):xs.map (rI .X)=(xs.map (rI .X)).take xs.length:=by rw[W6 (by rw[Z0];omega)]
def RJ(c:aE)(k:Nat):List C:=aE.enc .own (KB c k)++aD .own (nth c.b k)
theorem QX(c:aE)(k:Nat):hC (RJ c k):=aI (aE.enc_fr _) (bH _)
theorem vV(c:aE)(k:Nat)(d:bA c=true)(p:k<=3):ar Tryz.prog 510 false [.val (some 1) (aE.enc .X c),.val none [I (k:Nat)],.val none [I 8]] (.tup [some 1,none]) (RJ c k):=by
 obtain⟨q,e⟩:=f6 d;have g:aE.sml c:=⟨ω,λl j=>by have:=e l j;show l.length<=1048576;omega⟩
 have h:=wW c k g;rw[d,O0 ω]at h;have n:=iQ c g;have a:=uN (c:=c) (k:=k) ω;have o:=e _ (am (xs:=c.b) (i:=k) ω);have b:=QX c k;unfold RJ at b |-;rw[PJ]at b |-;refine fO 52 [(5,268,[29,30,31,32,33,34,35,36,37,38,39,41,0,1,2,3,4,5,6,7,8,9,10,11,1000,1001,1002,12,13]),(6,265,[42,43,44,45,46,47,48,49,50,0,1,2,3,4,5,6,7,8,9,1000,10,11])] Tryz.func510 rfl ?_ (.inr b)
 repeat'(first|refine gO ?_|(conv=>whnf);first|with_reducible refine CC (aa a) ?_|refine CB ?_|refine C7 (h) ?_|refine C7 (n) ?_|refine CQ (z:=((nth c.b k).length:Int)) (by simp;omega) ?_|refine Sl.suf (nth c.b k).length rfl (by rw[Z0];omega) (aO λ_=>rfl) (Lu _) ?_|refine CU (nth c.b k).length rfl (by rw[Z0];omega) (aO λ_=>rfl) (Ld _) ?_|refine CO (λ_=>rfl) (λ_=>rfl) (by simp) (by decide) ?_|refine CO (λ_=>rfl) (λ_=>rfl) ω (by decide) ?_|refine CP rfl rfl (aa a) rfl (C1 rfl) rfl ?_)
 rfl
theorem pk{k:Int} : ∀{l s s2 c:List Int},(∀x∈s2,x∈s)->rH k s l=some c->(∀x∈s,x∈c)/\∃d,rH k s2 l=some d/\∀x∈d,x∈c
 | [],s,s2,c,h,e=>by
  simp only[rH,X0]at e |-;subst e;exact⟨λ_ h=>h,s2,rfl,h⟩
 | a::l,s,s2,c,h,e=>by
  simp only[rH]at e |-;split at e
  ·rename_i g
   rw[C9 (show good k s2 a from⟨g.1,g.2.1,g.2.2.1,λx=>g.2.2.2 (h a x)⟩)];obtain⟨f,i⟩:=pk (l:=l) (s:=s++[a]) (s2:=s2++[a]) (λx b=>by
     rcases Z2.1 b with b|b
     · exact Z2.2 (.inl (h x b))
     exact Z2.2 (.inr b)) e
   exact⟨λx b=>f x (Z2.2 (.inl b)),i⟩
  cases e
theorem tT:∀{a:List (List Int)}{k:Nat}{s s2:List Int},(∀x∈s2,x∈s)->(gB k s a).isSome=true->(gB k s2 a).isSome=true
 | [],_,_,_,_,_=>rfl
 | l::a,k,s,s2,h,e=>by
  simp only[gB,fj]at e |-;split at e
  ·rename_i g
   rw[C9 g];cases b:rH k s l with
   | none=>rw[b]at e;cases e
   | some i=>
    rw[b]at e;obtain⟨-,c,d,f⟩:=pk h b;rw[d];exact tT f e
  cases e
theorem E8:∀{a:List (List Int)}{k:Nat}{s s2:List Int}(i:Nat),(∀x∈s2,x∈s)->(gB k s a).isSome=true->(gB k s2 (a.set i [])).isSome=true
 | [],_,_,_,_,_,_=>rfl
 | l::a,k,s,s2,i,h,e=>by
  simp only[gB,fj]at e;split at e
  ·rename_i g
   cases b:rH k s l with
   | none=>rw[b]at e;cases e
   | some o=>
    rw[b]at e;obtain⟨c,d,f,j⟩:=pk h b;cases i with
    | zero=>
     simp only[List.set_cons_zero,gB,fj];rw[C9 ⟨by simp,g.2⟩];exact tT (λx n=>c x (h x n)) e
    | succ i=>
     simp only[List.set_cons_succ,gB,fj];rw[C9 g,f];exact E8 i j e
  cases e
theorem Q0{c:aE}(h:bA c=true)(k:Nat):bA (KB c k)=true:=by
 unfold bA at h |-;simp only[I0,C0]at h |-;exact⟨by simp only[KB,O1];exact h.1,E8 k (λ_ h=>h) h.2⟩
def spilt(h:ab)(t k:Nat):ab:={h with T:=h.T.set t (KB (nth h.T t) k)}
theorem aX.spilt{h:ab}{E:List Int}{t k:Nat}(f:aX h E)(i:t<h.T.length)(n:k<(nth h.T t).b.length):aX (spilt h t k) (nth (nth h.T t).b k++E):=by
 have p:(E++holders h).Perm (nth (nth h.T t).b k++E++holders (Ab.spilt h t k)):=by
  refine List.perm_iff_count.2 λb=>?_
  have r:=iT (λc:aE=>c.b.flatten) b h.T t (KB (nth h.T t) k) i;have q:=iT (λx:List Int=>x) b (nth h.T t).b k [] n;rw[<-lw,<-lw]at q;simp only[List.count_nil]at q;simp only[KB]at r;simp only[holders,cC,Ab.spilt,KB,W5];omega
 have g:∀c∈(Ab.spilt h t k).T,c∈h.T\/c=KB (nth h.T t) k:=λc u=>C6 u
 exact {f with
   nc:=by show(h.T.set ..).length=_;rw[O1];exact f.nc
   cach:=λc a=>by
     rcases g c a with a|rfl
     · exact f.cach c a
     exact Q0 (f.cach _ (am i)) k
   onu:=by show ∀o∈h.O,1<=o.Id/\o.Id<=h.a - 1/\0<=o.a4/\o.a4<=(h.T.set t _).length - 1;rw[O1];exact f.onu
   hca:=λc a j l b d=>by
     rcases g c a with a|rfl
     · exact f.hca c a j l b d
     simp only[KB,O1]at l;simp only[KB,bz]at d;by_cases e:k=j
     · subst e
       rw[C9 ⟨rfl,l⟩]at d;cases d
     rw[C8 λx=>e x.1]at d;exact f.hca _ (am i) _ l b d
   hin:=λb d=>by
     rcases Z2.1 d with d|d
     · exact(f.hca _ (am i) k n b d).any
     exact f.hin b d
   nd:=p.nodup_iff.1 f.nd
   mem:=λb=>by rw[<-p.mem_iff];exact f.mem b}
def freeAs(h:ab)(az:List Int):ab:=az.foldl freeA h
theorem fV:∀(az:List Int)(h:ab),(freeAs h az).T=h.T/\(freeAs h az).O=h.O/\(freeAs h az).G.Calls=h.G.Calls/\(freeAs h az).y=h.y/\(freeAs h az).Y=h.Y/\(freeAs h az).b3=h.b3/\(freeAs h az).a9=h.a9/\(freeAs h az).G.a0=h.G.a0
 | [],h=>⟨rfl,rfl,rfl,rfl,rfl,rfl,rfl,rfl⟩
 | a::az,h=>by
  obtain⟨b,c,d,e,f,g,i,j⟩:=fV az (freeA h a);obtain⟨k,l,n,o,p,q,r,t⟩:=wJ h (ui h a) a;exact⟨b.trans k,c.trans l,d.trans n,e.trans o,f.trans p,g.trans q,i.trans r,j.trans t⟩
theorem aX.freeAs{E:List Int} : ∀{az:List Int}{h:ab},aX h (az++E)->aX (freeAs h az) E
 | [],_,b=>b
 | a::az,h,b=>aX.freeAs (az:=az) (h:=Ab.freeA h a) b.freeA
theorem uZ(h:ab)(az:List Int)(k:Nat)(a:k<az.length):freeAs h (az.take (k+1))=freeA (freeAs h (az.take k)) (nth az k):=by
 rw[I5,ao a];simp[freeAs]
def flushN(t:Nat)(h:ab):Nat->ab × Nat
 | 0=>(h,0)
 | k+1=>(freeAs (spilt (flushN t h k).1 t k) (nth (nth (flushN t h k).1.T t).b k),(flushN t h k).2+(nth (nth (flushN t h k).1.T t).b k).length)
theorem jD{t:Nat}{h:ab}(c:aX h [])(e:t<h.T.length):∀{k:Nat},k<=4->aX (flushN t h k).1 []/\(flushN t h k).1.T.length=h.T.length/\(flushN t h k).1.G.Calls=h.G.Calls/\(flushN t h k).1.O=h.O/\(flushN t h k).1.y=h.y/\(flushN t h k).1.Y=h.Y/\(flushN t h k).2<=8*k
 | 0,_=>⟨c,rfl,rfl,rfl,rfl,rfl,U0 _⟩
 | k+1,y=>by
  obtain⟨d,f,g,i,j,l,A⟩:=jD c e (k:=k) ω;have a:t<(flushN t h k).1.T.length:=ω
  obtain⟨B,n⟩:=f6 (d.cach _ (am a));have b:k<(nth (flushN t h k).1.T t).b.length:=ω
  have o:=d.spilt a b;have C:=n _ (am b);obtain⟨p,q,r,u,w,-⟩:=fV (nth (nth (flushN t h k).1.T t).b k) (Ab.spilt (flushN t h k).1 t k);refine⟨aX.freeAs o,?_,r.trans g,q.trans i,u.trans j,w.trans l,?_⟩
  ·show(Ab.freeAs _ _).T.length=_
   rw[p];simp only[Ab.spilt,O1];exact f
  simp only[flushN];omega
theorem Ek{h:ab}{t k:Nat}(d:aX h [])(e:t<h.T.length)(j:k<4):t<(flushN t h k).1.T.length/\bA (nth (flushN t h k).1.T t)=true/\k<(nth (flushN t h k).1.T t).b.length/\(nth (nth (flushN t h k).1.T t).b k).length<=8/\(flushN t h k).2<=8*k:=by
 obtain⟨f,l,-,-,-,-,g⟩:=jD d e (k:=k) ω;have a:t<(flushN t h k).1.T.length:=ω
 have c:=f.cach _ (am a);obtain⟨n,i⟩:=f6 c;have b:k<(nth (flushN t h k).1.T t).b.length:=ω
 exact⟨a,c,b,i _ (am b),g⟩
theorem Mt{h:ab}{t k j:Nat}(a:aX h [])(b:t<h.T.length)(d:k<4)(e:j<(nth (nth (flushN t h k).1.T t).b k).length):aX (freeAs (spilt (flushN t h k).1 t k) ((nth (nth (flushN t h k).1.T t).b k).take j)) (nth (nth (nth (flushN t h k).1.T t).b k) j::(nth (nth (flushN t h k).1.T t).b k).drop (j+1)):=by
 obtain⟨f,g⟩:=Ek a b d;have c:=((jD a b (k:=k) ω).1).spilt f g.2.1;rw[List.append_nil]at c;refine aX.freeAs ?_;rw[<-iP e,List.take_append_drop];exact c
theorem yO(h:ab)(t:Nat)(i:aX h [])(l:t<h.T.length):aW Tryz.prog 433 false [.ptr (bB h),.val none [I (t:Nat)]] [.ptr (bB (flushN t h 4).1),.val none [I (t:Nat)]] .one [I ((flushN t h 4).2:Nat)]:=by
 refine fM 48 [(511,[2,0])] [(6,6,[26,27,28,29,30,31])] [(0,0),(0,0)] Tryz.func433 rfl (λu q=>?_)
 repeat'(first|refine gO ?_|fail)
 (conv=>whnf)
 refine CE (ι:=Nat) (λk=>[(0,.H .box (bB (flushN t h k).1)),(1,.H .one [I ((t:Nat):Int)]),(5,.H .one [I (((flushN t h k).2:Nat):Int)]),(6,.H .one [I ((k:Nat):Int)])]) (λk=>k<=4) (λk=>4 - k) (0) ?_ (U0 _) λk D=>?_
 ·repeat'(first|exact trivial|rfl |refine CK ?_ ?_)
 by_cases n:k<4
 ·obtain⟨o,p,E,F,G⟩:=Ek i l n
  have r:=vV (nth (flushN t h k).1.T t) k p ω;have c:=λj=>Mt i l n (j:=j)
  have e:=ao o;have w:(flushN t h (k+1)).1=freeAs (spilt (flushN t h k).1 t k) (nth (nth (flushN t h k).1.T t).b k):=rfl;have y:(flushN t h (k+1)).2=(flushN t h k).2+(nth (nth (flushN t h k).1.T t).b k).length:=rfl;have a:C.s dQ.own ((spilt (flushN t h k).1 t k).T.map (aE.enc .own))=C.s dQ.own (((flushN t h k).1.T.map (aE.enc .own)).set t (aE.enc .own (KB (nth (flushN t h k).1.T t) k))):=by simp[spilt,X5]
  repeat'(first|refine gD ?_|(conv=>whnf);first|refine CC (aa e) ?_|refine CH rfl (aa e) rfl ?_|refine CG (r) ⟨⟨rfl,aE.enc_fz _⟩,⟨rfl,rfl⟩,⟨rfl,rfl⟩,trivial⟩ ?_|refine CP rfl rfl (aa e) rfl (C1 rfl) rfl ?_)
  generalize (flushN t h k).1=d at *;generalize (flushN t h k).2=m at *
  (conv=>whnf)
  refine CE (ι:=Nat) (λj=>[(0,.H .box (bB (freeAs (spilt d t k) ((nth (nth d.T t).b k).take j)))),(1,.H .one [I ((t:Nat):Int)]),(5,.H .one [I (((m+j):Nat):Int)]),(6,.H .one [I ((k:Nat):Int)]),(8,.H .one (aD .own (nth (nth d.T t).b k))),(9,.H .one [I ((j:Nat):Int)])]) (λj=>j<=(nth (nth d.T t).b k).length) (λj=>(nth (nth d.T t).b k).length - j) (0) ?_ (U0 _) λj H=>?_
  ·repeat'(first|exact trivial|rfl |exact nR a|refine CK ?_ ?_)
  by_cases g:j<(nth (nth d.T t).b k).length
  ·have b:=ao g
   have B:=n8 _ _ _ (c j g)
   repeat'(first|refine gD ?_|(conv=>whnf);first|refine CC (aa b) ?_|refine CH rfl (aa b) rfl ?_|refine CJ (B) (.inl rfl) ?_)
   ((conv=>whnf);refine CD (j+1) ω ω ?_)
   rw[uZ _ _ _ g];exact wC
  obtain rfl:j=(nth (nth d.T t).b k).length:=ω
  rw[t5]
  repeat'(first|refine gD ?_|fail)
  ((conv=>whnf);refine CD (k+1) ω ω ?_)
  rw[w,y];exact wC
 obtain rfl:k=4:=ω
 repeat'(first|refine gD ?_|fail)
 refine CF rfl rfl ?_;exact wC
def zB(s:Int):Int:=(1103515245*s+12345) % 1073741824
theorem DA(s:Int):0<=zB s/\zB s<=1073741823:=by unfold zB;omega
theorem zx(s:Int)(b:0<=s/\s<=1073741823):ar Tryz.prog 540 false [.val none [I s]] .one [I (zB s)]:=by
 have a:=aG s 0 1073741823;rw[O0 b]at a;refine fO 10 [] Tryz.func540 rfl ?_
 repeat'(first|refine gO ?_|(conv=>whnf);first|refine CQ (z:=zB s) (dK ω) ?_|refine C7 (a) ?_|refine CN (by decide) ?_)
 rfl
theorem tt(s:Int)(b:0<=s/\s<=1073741823):ar Tryz.prog 80 false [.val none [I s]] .one [B true]:=by
 have a:=aM s 0 1073741823;rw[O0 b]at a;refine fO 5 [] Tryz.func80 rfl ?_
 repeat'(first|refine gO ?_|(conv=>whnf);refine C7 (a) ?_)
 rfl
theorem yV(s:Int)(a:0<=s/\s<=1073741823):ar Tryz.prog 460 false [.val none [I s]] .one [I (zB s)]:=by
 refine fO 10 [] Tryz.func460 rfl ?_
 repeat'(first|refine gO ?_|(conv=>whnf);first|refine CQ (z:=zB s) (dK ω) ?_|refine C7 (tt s a) ?_|refine CN (by decide) ?_)
 rfl
def E0(s n:Int):Int:=zB s / 1024 % n
theorem r8(s:Int){n:Int}(h:1<=n):0<=E0 s n/\E0 s n<n:=⟨Int.emod_nonneg _ ω,Int.emod_lt_of_pos _ ω⟩
theorem vh(s n:Int)(b:0<=s/\s<=1073741823)(c:1<=n/\n<=1000):ar Tryz.prog 483 false [.val none [I s],.val none [I n]] (.tup [none,none]) [I (E0 s n),I (zB s)]:=by
 have d:=aG s 0 1073741823;have e:=aG n 1 1000;rw[O0 b]at d;rw[O0 c]at e;have g:=DA s;have i:=r8 s c.1;have a:(zB s).tdiv 1024=zB s / 1024:=Int.tdiv_eq_ediv_of_nonneg g.1;have h:((zB s).tdiv 1024).tmod n=E0 s n:=by rw[a];exact dK ω
 refine fO 23 [] Tryz.func483 rfl ?_ (.inr ⟨trivial,trivial,trivial⟩)
 repeat'(first|refine gO ?_|(conv=>whnf);first|refine C7 (d) ?_|refine C7 (e) ?_|refine C7 (zx s b) ?_|refine CN (by decide) ?_|refine CN ω ?_|refine CQ h ?_)
 rfl
theorem Ep(s n:Int)(b:0<=s/\s<=1073741823)(c:1<=n/\n<=1000):ar Tryz.prog 351 false [.val none [I s],.val none [I n]] (.tup [none,none]) [I (E0 s n),I (zB s)]:=by
 have d:=aM n 1 1000;rw[O0 c]at d;have e:=DA s;have h:=r8 s c.1;have a:(zB s).tdiv 1024=zB s / 1024:=Int.tdiv_eq_ediv_of_nonneg e.1;have g:((zB s).tdiv 1024).tmod n=E0 s n:=by rw[a];exact dK ω
 refine fO 23 [] Tryz.func351 rfl ?_ (.inr ⟨trivial,trivial,trivial⟩)
 repeat'(first|refine gO ?_|(conv=>whnf);first|refine C7 (tt s b) ?_|refine C7 (d) ?_|refine C7 (yV s b) ?_|refine CN (by decide) ?_|refine CN ω ?_|refine CQ g ?_)
 rfl
def oV(n:Nat):List Int:=(List.range n).map λ(i:Nat)=>(i:Int)
theorem wu(n:Nat):oV (n+1)=oV n++[(n:Int)]:=by unfold oV;rw[List.range_succ,T5];rfl
theorem uA(n:Nat):(oV n).length=n:=by simp[oV]
def vz(xs:List Int)(i k:Nat):List Int:=(xs.set i (nth xs k)).set k (nth xs i)
theorem JT(xs:List Int)(i k:Nat):(vz xs i k).length=xs.length:=by simp[vz]
def eZ(n:Nat)(s:Int):Nat->List Int × Int
 | 0=>(oV n,s)
 | j+1=>(vz (eZ n s j).1 (n - 1 - j) (E0 (eZ n s j).2 ((n - 1 - j:Nat)+1:Int)).toNat,zB (eZ n s j).2)
theorem jR(n:Nat){s:Int}(a:0<=s/\s<=1073741823):∀j,(eZ n s j).1.length=n/\0<=(eZ n s j).2/\(eZ n s j).2<=1073741823
 | 0=>⟨uA n,a⟩
 | j+1=>⟨by simp only[eZ,JT];exact(jR n a j).1,DA _⟩
def shuf(n:Nat)(s:Int):List Int × Int:=eZ n s (n - 1)
theorem EB(xs:List Int)(i k:Nat):(vz xs i k).map (rI .own)=((xs.map (rI .own)).set i (rI .own (nth xs k))).set k (rI .own (nth xs i)):=by simp[vz,X5]
theorem zV{xs:List Int}{i k:Nat}(v:Int)(a:k<xs.length):((xs.map (rI .own)).set i (rI .own v))[k]? = some (rI .own (nth (xs.set i v) k)):=by
 rw[<-X5];exact aa (ao (by rw[O1];exact a))
theorem zb(n:Nat)(s:Int)(d:0<=s/\s<=1073741823)(w:n<=64):ar Tryz.prog 425 false [.val none [I s],.val none [I (n:Nat)]] (.tup [none,none]) (aD .own (shuf n s).1++[I (shuf n s).2]):=by
 have e:=aG s 0 1073741823;have g:=aG (n:Nat) 0 64;rw[O0 d]at e;rw[O0 ω]at g;refine fO 63 [] Tryz.func425 rfl ?_ (.inr (aI (bH _) ⟨trivial,trivial⟩))
 repeat'(first|refine gO ?_|(conv=>whnf);first|refine C7 (e) ?_|refine C7 (g) ?_)
 (conv=>whnf)
 refine CE (ι:=Nat) (λk=>[(0,.H .one [I (s)]),(1,.H .one [I ((n:Nat):Int)]),(6,.H .one (aD .own (oV k))),(7,.H .one [I ((k:Nat):Int)])]) (λk=>k<=n) (λk=>n - k) (0) ?_ (U0 _) λk y=>?_
 ·exact wB
 have h:=uA k;by_cases B:k<n
 ·repeat'(first|refine gD ?_|(conv=>whnf);refine Ap.sm (aO λ_=>rfl) rfl (by simp;omega) (by decide) (gi (rI .own) (oV k) (k:Int)) ?_)
  ((conv=>whnf);refine CD (k+1) ω ω ?_)
  rw[wu];exact wB
 obtain rfl:k=n:=ω
 repeat'(first|refine gD ?_|(conv=>whnf);refine CB ?_)
 (conv=>whnf)
 refine CE (ι:=Nat) (λj=>[(0,.H .one [I ((eZ k s j).2)]),(6,.H .one (aD .own (eZ k s j).1)),(8,.H .one [I (((k:Int) - 1 - j))])]) (λj=>(j<=k - 1/\j<=k)) (λj=>k - j) (0) ?_ (⟨U0 _,U0 _⟩) λj C=>?_
 ·exact wB
 obtain⟨D,l,o⟩:=jR k d j;by_cases E:j<k - 1
 ·have q:(k:Int) - 1 - j=((k - 1 - j:Nat):Int):=ω
  have r:=r8 (eZ k s j).2 (n:=((k - 1 - j:Nat)+1:Int)) ω;have t:=vh (eZ k s j).2 ((k - 1 - j:Nat)+1:Int) ⟨l,o⟩ ω;have u:eZ k s (j+1)=(vz (eZ k s j).1 (k - 1 - j) (E0 (eZ k s j).2 ((k - 1 - j:Nat)+1:Int)).toNat,zB (eZ k s j).2):=rfl;rw[q];generalize eZ k s j=p at *;obtain⟨xs,z⟩:=p;simp only at *;generalize k - 1 - j=i at *;have a:=ao (xs:=xs) (i:=i) ω;have b:=ao (xs:=xs) (i:=(E0 z (i+1)).toNat) ω;have c:=zV (xs:=xs) (i:=i) (k:=(E0 z (i+1)).toNat) (nth xs (E0 z (i+1)).toNat) ω
  repeat'(first|refine gD ?_|(conv=>whnf);first|refine C7 (t) ?_|refine CL ω (aa b) ?_|refine CC (aa a) ?_|refine CH rfl (aa a) rfl ?_|refine CH rfl (aa b) rfl ?_|refine CP rfl rfl (aa a) rfl (C1 rfl) rfl ?_|refine CL ω c ?_|refine CP rfl rfl c rfl (C1 rfl) rfl ?_)
  ((conv=>whnf);refine CD (j+1) ω ω ?_)
  rw[u];simp only[aD,EB];exact wB
 obtain rfl:j=k - 1:=ω
 repeat'(first|refine gD ?_|(conv=>whnf);refine CB ?_)
 rfl
theorem yN(n:Nat)(s:Int)(d:0<=s/\s<=1073741823)(w:n<=64):ar Tryz.prog 286 false [.val none [I s],.val none [I (n:Nat)]] (.tup [none,none]) (aD .own (shuf n s).1++[I (shuf n s).2]):=by
 have g:=tt s d;have e:=aM (n:Nat) 0 64;rw[O0 ω]at e;refine fO 60 [(12,270,[43,44,45,46,47,48,49,50,51,52,53,54,55,56,0,1,2,3,4,5,6,7,8,9,10,11,12,13,1002,1003,14,15])] Tryz.func286 rfl ?_ (.inr (aI (bH _) ⟨trivial,trivial⟩))
 repeat'(first|refine gO ?_|(conv=>whnf);first|refine C7 (g) ?_|refine C7 (e) ?_)
 (conv=>whnf)
 refine CE (ι:=Nat) (λk=>[(0,.H .one [I (s)]),(1,.H .one [I ((n:Nat):Int)]),(6,.H .one (aD .own (oV k))),(7,.H .one [I ((k:Nat):Int)])]) (λk=>k<=n) (λk=>n - k) (0) ?_ (U0 _) λk y=>?_
 ·exact wB
 have h:=uA k;by_cases B:k<n
 ·repeat'(first|refine gD ?_|(conv=>whnf);refine Ap.sm (aO λ_=>rfl) rfl (by simp;omega) (by decide) (gi (rI .own) (oV k) (k:Int)) ?_)
  ((conv=>whnf);refine CD (k+1) ω ω ?_)
  rw[wu];exact wB
 obtain rfl:k=n:=ω
 repeat'(first|refine gD ?_|(conv=>whnf);refine CB ?_)
 (conv=>whnf)
 refine CE (ι:=Nat) (λj=>[(0,.H .one [I ((eZ k s j).2)]),(6,.H .one (aD .own (eZ k s j).1)),(8,.H .one [I (((k:Int) - 1 - j))])]) (λj=>(j<=k - 1/\j<=k)) (λj=>k - j) (0) ?_ (⟨U0 _,U0 _⟩) λj C=>?_
 ·exact wB
 obtain⟨D,l,o⟩:=jR k d j;by_cases E:j<k - 1
 ·have q:(k:Int) - 1 - j=((k - 1 - j:Nat):Int):=ω
  have r:=r8 (eZ k s j).2 (n:=((k - 1 - j:Nat)+1:Int)) ω;have t:=Ep (eZ k s j).2 ((k - 1 - j:Nat)+1:Int) ⟨l,o⟩ ω;have u:eZ k s (j+1)=(vz (eZ k s j).1 (k - 1 - j) (E0 (eZ k s j).2 ((k - 1 - j:Nat)+1:Int)).toNat,zB (eZ k s j).2):=rfl;rw[q];generalize eZ k s j=p at *;obtain⟨xs,z⟩:=p;simp only at *;generalize k - 1 - j=i at *;have a:=ao (xs:=xs) (i:=i) ω;have b:=ao (xs:=xs) (i:=(E0 z (i+1)).toNat) ω;have c:=zV (xs:=xs) (i:=i) (k:=(E0 z (i+1)).toNat) (nth xs (E0 z (i+1)).toNat) ω
  repeat'(first|refine gD ?_|(conv=>whnf);first|refine CB ?_|refine C7 (t) ?_|refine CL ω (aa b) ?_|refine CC (aa a) ?_|refine CH rfl (aa a) rfl ?_|refine CH rfl (aa b) rfl ?_|refine CP rfl rfl (aa a) rfl (C1 rfl) rfl ?_|refine CL ω c ?_|refine CP rfl rfl c rfl (C1 rfl) rfl ?_)
  ((conv=>whnf);refine CD (j+1) ω ω ?_)
  rw[u];simp only[aD,EB];exact wB
 obtain rfl:j=k - 1:=ω
 repeat'(first|refine gD ?_|(conv=>whnf);refine CB ?_)
 rfl
def sL(b:Int):Nat->Nat
 | 0=>0
 | n+1=>sL b n+(if aS b (n:Nat)=true then 1 else 0)
theorem sE(b:Int):∀n,sL b n<=n
 | 0=>z3 _
 | n+1=>by have:=sE b n;simp only[sL];split<;>omega
theorem vO(b:Int)(d:b<=9223372036854775807):ar Tryz.prog 424 false [.val none [I b]] .one [I (sL b 16:Nat)]:=by
 refine fO 15 [] Tryz.func424 rfl ?_
 repeat'(first|refine gO ?_|fail)
 (conv=>whnf)
 refine CE (ι:=Nat) (λk=>[(0,.H .one [I (b)]),(3,.H .one [I ((sL b k:Nat):Int)]),(4,.H .one [I ((k:Nat):Int)])]) (λk=>k<=16) (λk=>16 - k) (0) ?_ (U0 _) λk g=>?_
 ·exact wB
 have h:=sE b k;by_cases i:k<16
 ·have a:=iW b (k:Nat) d
  have c:sL b (k+1)=sL b k+(if aS b (k:Nat)=true then 1 else 0):=rfl;cases e:aS b (k:Nat)<;>rw[e]at a c
  all_goals
   repeat'(first|refine gD ?_|(conv=>whnf);refine C7 (a) ?_)
   ((conv=>whnf);refine CD (k+1) ω ω ?_)
   rw[c];exact wB
 obtain rfl:k=16:=ω
 repeat'(first|refine gD ?_|fail)
 rfl
theorem vH(b:Int)(d:b<=9223372036854775807):ar Tryz.prog 285 false [.val none [I b]] .one [I (sL b 16:Nat)]:=by
 refine fO 15 [] Tryz.func285 rfl ?_
 repeat'(first|refine gO ?_|fail)
 (conv=>whnf)
 refine CE (ι:=Nat) (λk=>[(0,.H .one [I (b)]),(3,.H .one [I ((sL b k:Nat):Int)]),(4,.H .one [I ((k:Nat):Int)])]) (λk=>k<=16) (λk=>16 - k) (0) ?_ (U0 _) λk g=>?_
 ·exact wB
 have h:=sE b k;by_cases i:k<16
 ·have a:=kF b (k:Nat) d
  have c:sL b (k+1)=sL b k+(if aS b (k:Nat)=true then 1 else 0):=rfl;cases e:aS b (k:Nat)<;>rw[e]at a c
  all_goals
   repeat'(first|refine gD ?_|(conv=>whnf);refine C7 (a) ?_)
   ((conv=>whnf);refine CD (k+1) ω ω ?_)
   rw[c];exact wB
 obtain rfl:k=16:=ω
 repeat'(first|refine gD ?_|fail)
 rfl
def qz(h:ab)(s:ax):Bool:=decide (0<sL s.b2 16)&&decide ((aT h s.R).length=1)
def je(h:ab):Nat->List ax
 | 0=>[]
 | n+1=>if qz h (nth h.K n)=true then je h n++[nth h.K n] else je h n
def ig(h:ab):List ax:=je h h.K.length
theorem pn(h:ab):∀n,(je h n).length<=n
 | 0=>z3 _
 | n+1=>by have:=pn h n;simp only[je];split<;>simp<;>omega
theorem mI(h:ab):∀{n:Nat},n<=h.K.length->∀s∈je h n,s∈h.K
 | 0,_,s,a=>by cases a
 | n+1,b,s,a=>by
  simp only[je]at a;split at a
  ·rcases Z2.1 a with a|a
   ·exact mI h ω s a
   rw[I1.1 a];exact am ω
  exact mI h ω s a
theorem xa(h:ab)(j:wG h)(q:h.K.length<=1000)(r:eY h<=1000)(l:∀s∈h.K,s.b2<=9223372036854775807):ar Tryz.prog 289 false [.val (some 24) (ab.enc .X h)] .one (bX .own (ig h)):=by
 refine fO 42 [(5,16,[13,14,15,16,17,18,19,20,21,22,23,24,25,26,27,28])] Tryz.func289 rfl ?_ (.inr (xK _))
 repeat'(first|refine gO ?_|fail)
 (conv=>whnf)
 refine CE (ι:=Nat) (λk=>[(1,.H .box (ab.enc .X h)),(3,.H .one (bX .own (je h k))),(4,.H .one [I ((k:Nat):Int)])]) (λk=>k<=h.K.length) (λk=>h.K.length - k) (0) ?_ (U0 _) λk t=>?_
 ·exact wB
 have n:=pn h k;by_cases e:k<h.K.length
 ·have c:=ao e
  have d:=vO (nth h.K k).b2 (l _ (am e));have b:=iy h (nth h.K k).R j;have o:=gn h (nth h.K k).R;have p:=sE (nth h.K k).b2 16;have a:je h (k+1)=if qz h (nth h.K k)=true then je h k++[nth h.K k] else je h k:=rfl
  by_cases g:0<sL (nth h.K k).b2 16
  ·by_cases i:(aT h (nth h.K k).R).length=1
   ·rw[C9 (by unfold qz;simp[g,i])]at a
    repeat'(first|refine gA ?_|(conv=>whnf);first|refine CC (aa c) ?_|refine C7 (d) ?_|refine CG (b) ⟨⟨rfl,rfl⟩,⟨rfl,rfl⟩,trivial⟩ ?_|refine Ap.sm (aO λ_=>rfl) rfl (by simp;omega) (by decide) (gi (ax.enc .own) (je h k) (nth h.K k)) ?_)
    ((conv=>whnf);refine CD (k+1) ω ω ?_)
    rw[a];exact wB
   rw[C8 (by unfold qz;simp[i])]at a
   repeat'(first|refine gA ?_|(conv=>whnf);first|refine CC (aa c) ?_|refine C7 (d) ?_|refine C7 (b) ?_)
   ((conv=>whnf);refine CD (k+1) ω ω ?_)
   rw[a];exact wB
  rw[C8 (by unfold qz;simp[g])]at a
  repeat'(first|refine gD ?_|(conv=>whnf);first|refine CC (aa c) ?_|refine C7 (d) ?_)
  ((conv=>whnf);refine CD (k+1) ω ω ?_)
  rw[a];exact wB
 obtain rfl:k=h.K.length:=ω
 repeat'(first|refine gD ?_|fail)
 rfl
theorem xJ(h:ab)(j:wG h)(q:h.K.length<=1000)(r:eY h<=1000)(l:∀s∈h.K,s.b2<=9223372036854775807):ar Tryz.prog 126 false [.val (some 24) (ab.enc .X h)] .one (bX .own (ig h)):=by
 refine fO 32 [] Tryz.func126 rfl ?_ (.inr (xK _))
 repeat'(first|refine gO ?_|fail)
 (conv=>whnf)
 refine CE (ι:=Nat) (λk=>[(1,.H .box (ab.enc .X h)),(3,.H .one (bX .own (je h k))),(8,.H .one (bX .X h.K)),(9,.H .one [I (h.K.length)]),(10,.H .one [I ((k:Nat):Int)])]) (λk=>k<=h.K.length) (λk=>h.K.length - k) (0) ?_ (U0 _) λk t=>?_
 ·exact wB
 have n:=pn h k;by_cases e:k<h.K.length
 ·have b:=ao e
  have c:=vH (nth h.K k).b2 (l _ (am e));have d:=nX h (nth h.K k).R j;have o:=gn h (nth h.K k).R;have p:=sE (nth h.K k).b2 16;have a:je h (k+1)=if qz h (nth h.K k)=true then je h k++[nth h.K k] else je h k:=rfl
  by_cases g:0<sL (nth h.K k).b2 16
  ·by_cases i:(aT h (nth h.K k).R).length=1
   ·rw[C9 (by unfold qz;simp[g,i])]at a
    repeat'(first|refine gA ?_|(conv=>whnf);first|refine CC (aa b) ?_|refine C7 (c) ?_|refine C7 (d) ?_|refine Ap.sm (aO λ_=>rfl) rfl (by simp;omega) (by decide) (gi (ax.enc .own) (je h k) (nth h.K k)) ?_)
    ((conv=>whnf);refine CD (k+1) ω ω ?_)
    rw[a];exact wB
   rw[C8 (by unfold qz;simp[i])]at a
   repeat'(first|refine gA ?_|(conv=>whnf);first|refine CC (aa b) ?_|refine C7 (c) ?_|refine C7 (d) ?_)
   ((conv=>whnf);refine CD (k+1) ω ω ?_)
   rw[a];exact wB
  rw[C8 (by unfold qz;simp[g])]at a
  repeat'(first|refine gD ?_|(conv=>whnf);first|refine CC (aa b) ?_|refine C7 (c) ?_)
  ((conv=>whnf);refine CD (k+1) ω ω ?_)
  rw[a];exact wB
 obtain rfl:k=h.K.length:=ω
 repeat'(first|refine gD ?_|fail)
 rfl
def rg(s:ax)(c:Nat):Bool:=aS s.b2 (((c:Nat):Int) / csz s.d)
def sI(s:ax)(n:Nat):List Int:=((List.range n).filter (rg s)).map λ(i:Nat)=>(i:Int)
theorem H4{s:ax}{n:Nat}(h:rg s n=true):sI s (n+1)=sI s n++[(n:Int)]:=by
 unfold sI;rw[List.range_succ,List.filter_append,T5];simp[h]
theorem LC{s:ax}{n:Nat}(h:rg s n=false):sI s (n+1)=sI s n:=by
 unfold sI;rw[List.range_succ,List.filter_append,T5];simp[h]
theorem ma(s:ax)(n:Nat):(sI s n).length<=n:=by
 unfold sI;rw[Z0];exact W4 (List.length_filter_le _ _) (by simp)
theorem HJ{s:ax}(a:bf s=true){c:Nat}(d:c<16):0<=((c:Nat):Int) / csz s.d/\((c:Nat):Int) / csz s.d<=15:=by
 have f:=aF a;have b:csz s.d=1\/csz s.d=2\/csz s.d=4\/csz s.d=8:=bO ω;rcases b with e|e|e|e<;>rw[e]<;>omega
theorem pq(s:ax)(a:bf s=true):ar Tryz.prog 426 false [.val (some 3) (ax.enc .X s)] .one (aD .own (sI s 16)):=by
 have b:=gK s;rw[a]at b;have g:=aF a;have n:=bO g.2.2;refine fO 27 [(5,7,[14,15,16,17,18,19,20])] Tryz.func426 rfl ?_ (.inr (bH _))
 repeat'(first|refine gO ?_|fail)
 (conv=>whnf)
 refine CE (ι:=Nat) (λi=>[(1,.H .box (ax.enc .X s)),(3,.H .one (aD .own (sI s i))),(4,.H .one [I ((i:Nat):Int)])]) (λi=>i<=16) (λi=>16 - i) (0) ?_ (U0 _) λi o=>?_
 ·exact wB
 have h:=ma s i;by_cases j:i<16
 ·have k:=HJ a j
  have d:IntKind.i64.wrap (((i:Nat):Int).tdiv (csz s.d))=((i:Nat):Int) / csz s.d:=by rw[kb ω];exact eN ω ω
  have c:=iW s.b2 (((i:Nat):Int) / csz s.d) (fx a).2;cases e:rg s i
  ·rw[show aS s.b2 (((i:Nat):Int) / csz s.d)=false from e]at c
   repeat'(first|refine gD ?_|(conv=>whnf);first|refine C7 (b) ?_|refine C7 (dZ _) ?_|refine CN ω ?_|refine CM d ?_|refine C7 (c) ?_)
   ((conv=>whnf);refine CD (i+1) ω ω ?_)
   rw[LC e];exact wB
  rw[show aS s.b2 (((i:Nat):Int) / csz s.d)=true from e]at c
  repeat'(first|refine gD ?_|(conv=>whnf);first|refine C7 (b) ?_|refine C7 (dZ _) ?_|refine CN ω ?_|refine CM d ?_|refine C7 (c) ?_|refine CT cn (λr l=>by rw[I1.1 l];rfl) (by simp[aY,eg]) (by simp;omega) (by simp only[Z0];exact yI (by simp;omega) (by decide)) rfl ?_)
  ((conv=>whnf);refine CD (i+1) ω ω ?_)
  rw[H4 e]
  (repeat'(first|exact trivial|rfl|exact CK rfl (CK (W0 (C.s dQ.own) (by simp[rI])) trivial)|refine CK ?_ ?_))
 obtain rfl:i=16:=ω
 repeat'(first|refine gD ?_|(conv=>whnf);refine C7 (b) ?_)
 rfl
theorem pw(s:ax)(a:bf s=true):ar Tryz.prog 258 false [.val (some 3) (ax.enc .X s)] .one (aD .own (sI s 16)):=by
 have c:=iI s;rw[a]at c;have g:=aF a;have n:=bO g.2.2;refine fO 26 [(7,7,[13,14,15,16,17,18,19])] Tryz.func258 rfl ?_ (.inr (bH _))
 repeat'(first|refine gO ?_|(conv=>whnf);refine C7 (c) ?_)
 (conv=>whnf)
 refine CE (ι:=Nat) (λi=>[(1,.H .box (ax.enc .X s)),(3,.H .one (aD .own (sI s i))),(4,.H .one [I ((i:Nat):Int)])]) (λi=>i<=16) (λi=>16 - i) (0) ?_ (U0 _) λi o=>?_
 ·exact wB
 have h:=ma s i;by_cases j:i<16
 ·have k:=HJ a j
  have d:IntKind.i64.wrap (((i:Nat):Int).tdiv (csz s.d))=((i:Nat):Int) / csz s.d:=by rw[kb ω];exact eN ω ω
  have b:=kF s.b2 (((i:Nat):Int) / csz s.d) (fx a).2;cases e:rg s i
  ·rw[show aS s.b2 (((i:Nat):Int) / csz s.d)=false from e]at b
   repeat'(first|refine gD ?_|(conv=>whnf);first|refine C7 (ef _) ?_|refine CN ω ?_|refine CM d ?_|refine C7 (b) ?_)
   ((conv=>whnf);refine CD (i+1) ω ω ?_)
   rw[LC e];exact wB
  rw[show aS s.b2 (((i:Nat):Int) / csz s.d)=true from e]at b
  repeat'(first|refine gD ?_|(conv=>whnf);first|refine C7 (ef _) ?_|refine CN ω ?_|refine CM d ?_|refine C7 (b) ?_|refine CT cn (λr l=>by rw[I1.1 l];rfl) (by simp[aY,eg]) (by simp;omega) (by simp only[Z0];exact yI (by simp;omega) (by decide)) rfl ?_)
  ((conv=>whnf);refine CD (i+1) ω ω ?_)
  rw[H4 e]
  (repeat'(first|exact trivial|rfl|exact CK rfl (CK (W0 (C.s dQ.own) (by simp[rI])) trivial)|refine CK ?_ ?_))
 obtain rfl:i=16:=ω
 repeat'(first|refine gD ?_|fail)
 rfl
structure dJ where
 A:Int
 B:Int
deriving DecidableEq,Inhabited
def dJ.enc(_:dQ)(x:dJ):List C:=[I x.A,I x.B]
def eU(o:dQ)(x:List dJ):List C:=[.s o (x.map (dJ.enc o))]
theorem yn(x:List dJ):hC (eU .own x):=⟨⟨.inl λh=>(by cases h),bg _ _ λ_ _=>⟨trivial,trivial,trivial⟩⟩,trivial⟩
theorem yp(xs:List dJ)(pr:dJ->Bool)(g:xs.length<=9223372036854775807):ar Tryz.prog 507 false [.val none (eU .X xs),.fn (ou Tryz.prog (zC (some 2) (dJ.enc .X) pr xs))] .one [I (d9 pr xs)]:=by
 refine fO 19 [] Tryz.func507 rfl ?_
 repeat'(first|refine gO ?_|fail)
 (conv=>whnf)
 refine CE (ι:=Nat) (λi=>[(0,.H .one (eU .X xs)),(1,.fv (ou Tryz.prog (zC (some 2) (dJ.enc .X) pr xs))),(7,.H .one [I xs.length]),(8,.H .one [I (i:Nat)])]) (λi=>i<=xs.length/\∀(j:Nat)(z:dJ),j<i->xs[j]? = some z->pr z=false) (λi=>xs.length - i) 0 ?_ ⟨U0 _,λj z h=>ω⟩ λi d=>?_
 ·exact wB
 obtain⟨d,b⟩:=d;by_cases c:i<xs.length
 ·obtain⟨y,a⟩ : ∃y,xs[i]? = some y:=⟨_,C2 c⟩
  repeat'(first|refine gD ?_|(conv=>whnf);first|with_reducible refine CC (aa a) ?_|refine Fv.mk (k:=.one) (rcs:=[B (pr y)]) ⟨y,W1 a,rfl,rfl,rfl⟩ ?_|refine Bf.P (λe=>?_) (λe=>?_))
  ·exact W0 (λz=>[I z]) (dE a ‹_› b).symm
  (conv=>whnf)
  refine CD (i+1) ⟨ω,dv a (by assumption) b⟩ ω ?_;exact wB
 repeat'(first|refine gD ?_|fail)
 exact W0 (λz=>[I z]) (gk ω b).symm
theorem rM(xs:List dJ)(pr:dJ->Bool)(a:xs.length<=9223372036854775807):ar Tryz.prog 421 false [.val none (eU .X xs),.fn (ou Tryz.prog (zC (some 2) (dJ.enc .X) pr xs))] .one [B (xs.any pr)]:=by
 refine fO 9 [] Tryz.func421 rfl ?_
 repeat'(first|refine gO ?_|(conv=>whnf);refine C7 (yp xs pr a) ?_)
 exact W0 (λz=>[B z]) (jA pr xs)
def Bo(i:Int)(p:dJ):Bool:=decide (p.A=i) || decide (p.B=i)
theorem Em(p:dJ)(i:Int):ar Tryz.prog 422 false [.val (some 2) (dJ.enc .X p),.ptr [I i]] .one [B (Bo i p)]:=by
 refine fO 14 [] Tryz.func422 rfl ?_
 repeat'(first|refine gO ?_|(conv=>whnf);with_reducible refine Bf.E (λa=>?_) (λa=>?_))
 all_goals exact W0 (λz=>[B z]) ((by unfold Bo;first|(simp[*];done)|(simp[*];rw[V4];simp)))
theorem xH(xs:List dJ)(i:Int)(b:xs.length<=1048576):ar Tryz.prog 287 false [.val none (eU .X xs),.val none [I i]] .one [B (xs.any (Bo i))]:=by
 refine fO 8 [] Tryz.func287 rfl ?_
 repeat'(first|refine gO ?_|(conv=>whnf);first|refine Cq.mk (zC (some 2) (dJ.enc .X) (Bo i) xs) (Em default i).has (λL k rcs a=>?_) ?_|refine C7 (rM xs (Bo i) ω) ?_)
 ·obtain⟨y,-,rfl,rfl,rfl⟩:=a
  exact Em y i
 rfl
def cT(a b:ax):bY:=if(sI a 16).length<(sI b 16).length then⟨b.R,a.R,sI a 16⟩ else⟨a.R,b.R,sI b 16⟩
theorem zG(a b:ax)(g:meshable a b=true)(h:bf a=true)(i:bf b=true):ar Tryz.prog 291 false [.val (some 3) (ax.enc .X a),.val (some 3) (ax.enc .X b)] (.tup [some 3,none]) (bY.enc .own (cT a b)++[B true]):=by
 have c:=mz a b;rw[g]at c;have d:=pq a h;have e:=pq b i;have j:=ma a 16;have k:=ma b 16;unfold cT;split
 ·refine fO 27 [(3,6,[11,12,13,14,15,16]),(5,6,[20,21,22,23,24,25])] Tryz.func291 rfl ?_ (.inr (aI (bY.enc_fr _) ⟨trivial,trivial⟩))
  repeat'(first|refine gD ?_|(conv=>whnf);first|refine C7 (c) ?_|refine C7 (d) ?_|refine C7 (e) ?_)
  rfl
 refine fO 27 [(3,6,[11,12,13,14,15,16]),(5,6,[20,21,22,23,24,25])] Tryz.func291 rfl ?_ (.inr (aI (bY.enc_fr _) ⟨trivial,trivial⟩))
 repeat'(first|refine gD ?_|(conv=>whnf);first|refine C7 (c) ?_|refine C7 (d) ?_|refine C7 (e) ?_)
 rfl
theorem zr(a b:ax)(g:meshable a b=true)(h:bf a=true)(i:bf b=true):ar Tryz.prog 128 false [.val (some 3) (ax.enc .X a),.val (some 3) (ax.enc .X b)] (.tup [some 3,none]) (bY.enc .own (cT a b)++[B true]):=by
 have c:=mg a b;rw[g]at c;have d:=pw a h;have e:=pw b i;have j:=ma a 16;have k:=ma b 16;unfold cT;split
 ·refine fO 34 [(3,3,[13,14,15])] Tryz.func128 rfl ?_ (.inr (aI (bY.enc_fr _) ⟨trivial,trivial⟩))
  repeat'(first|refine gD ?_|(conv=>whnf);first|refine C7 (c) ?_|refine C7 (d) ?_|refine C7 (e) ?_)
  rfl
 refine fO 34 [(3,3,[13,14,15])] Tryz.func128 rfl ?_ (.inr (aI (bY.enc_fr _) ⟨trivial,trivial⟩))
 repeat'(first|refine gD ?_|(conv=>whnf);first|refine C7 (c) ?_|refine C7 (d) ?_|refine C7 (e) ?_)
 rfl
def so(p:bY):cg:=⟨p,0,0⟩
theorem FZ(p:bY)(c:eK p=true)(a:bY.sml p):ar Tryz.prog 292 false [.val (some 3) (bY.enc .X p)] (.tup [some 5,none]) (cg.enc .own (so p)++[B true]):=by
 have b:=uU p a;rw[c]at b;have d:=sO (so p) a;refine fO 11 [] Tryz.func292 rfl ?_ (.inr (aI (cg.enc_fr _) ⟨trivial,trivial⟩))
 repeat'(first|refine gO ?_|(conv=>whnf);first|refine C7 (b) ?_|refine C7 (d) ?_)
 rfl
theorem DS(p:bY)(c:eK p=true)(a:bY.sml p):ar Tryz.prog 129 false [.val (some 3) (bY.enc .X p)] (.tup [some 5,none]) (cg.enc .own (so p)++[B true]):=by
 have b:=v8 p a;rw[c]at b;have d:=qt p a;refine fO 11 [] Tryz.func129 rfl ?_ (.inr (aI (cg.enc_fr _) ⟨trivial,trivial⟩))
 repeat'(first|refine gO ?_|(conv=>whnf);first|refine C7 (b) ?_|refine C7 (d) ?_)
 rfl
theorem pF(n:Nat){s:Int}(c:0<=s/\s<=1073741823):∀{j:Nat},j<=n - 1->∀x∈(eZ n s j).1,0<=x/\x<n
 | 0,_,x,a=>by
  simp only[eZ,oV,C4,List.mem_range]at a;obtain⟨i,d,rfl⟩:=a;omega
 | j+1,e,x,a=>by
  have f:=(jR n c j).1;have b:=pF n c (j:=j) ω;have g:=r8 (eZ n s j).2 (n:=((n - 1 - j:Nat)+1:Int)) ω;simp only[eZ,vz]at a;rcases C6 a with a|rfl
  ·rcases C6 a with a|rfl
   ·exact b x a
   exact b _ (am ω)
  exact b _ (am ω)
def tkn(out:List dJ)(a:Int):Bool:=out.any (Bo a)
def stp(a:List ax)(p:List Int)(t i:Nat)(out:List dJ):List dJ:=
 if tkn out (nth p i)=false/\tkn out (nth p (p.length / 2+(i+t) % (p.length - p.length / 2)))=false/\meshable (nth a (nth p i).toNat) (nth a (nth p (p.length / 2+(i+t) % (p.length - p.length / 2))).toNat)=true then out++[⟨nth p i,nth p (p.length / 2+(i+t) % (p.length - p.length / 2))⟩] else out
def ql(a:List ax)(p:List Int)(t:Nat)(out:List dJ):Nat->List dJ
 | 0=>out
 | i+1=>stp a p t i (ql a p t out i)
def lJ(a:List ax)(p:List Int):Nat->List dJ
 | 0=>[]
 | t+1=>ql a p t (lJ a p t) (p.length / 2)
theorem NX(a:List ax)(p:List Int)(t i:Nat)(out:List dJ):(stp a p t i out).length<=out.length+1:=by unfold stp;split<;>simp
theorem tz(a:List ax)(p:List Int)(t:Nat)(out:List dJ):∀i,(ql a p t out i).length<=out.length+i
 | 0=>z3 _
 | i+1=>by have b:=tz a p t out i;have c:=NX a p t i (ql a p t out i);simp only[ql];omega
theorem yh(a:List ax)(p:List Int):∀t,(lJ a p t).length<=t*(p.length / 2)
 | 0=>U0 _
 | t+1=>by have b:=yh a p t;have c:=tz a p t (lJ a p t) (p.length / 2);simp only[lJ];rw[Nat.add_mul];omega
def iZ(a:List ax)(s:Int):List dJ:=lJ a (shuf a.length s).1 3
def oo(n:Nat)(out:List dJ):List Bool:=(List.range n).map λ(i:Nat)=>tkn out (i:Nat)
theorem HH{n:Nat}{out:List dJ}{a:Int}(h:0<=a/\a<n):(oo n out)[a.toNat]? = some (tkn out a):=by
 unfold oo;rw[C3,T6 ω];show some (tkn out ((a.toNat:Nat):Int))=_;rw[Int.toNat_of_nonneg h.1]
theorem LW{n:Nat}{out:List dJ}{a b:Int}(f:0<=a/\a<n)(g:0<=b/\b<n):oo n (out++[⟨a,b⟩])=((oo n out).set a.toNat true).set b.toNat true:=by
 unfold oo;apply List.ext_getElem?;intro i;by_cases c:i<n
 ·rw[C3,T6 c]
  by_cases d:b.toNat=i
  ·subst d
   rw[U3 (by simp;omega)];simp only[v5,tkn,List.any_append,List.any_cons,List.any_nil,Bo];rw[Int.toNat_of_nonneg g.1];simp
  rw[List.getElem?_set_ne d];by_cases e:a.toNat=i
  ·subst e
   rw[U3 (by simp;omega)];simp only[v5,tkn,List.any_append,List.any_cons,List.any_nil,Bo];rw[Int.toNat_of_nonneg f.1];simp
  rw[List.getElem?_set_ne e,C3,T6 c];simp only[v5,tkn,List.any_append,List.any_cons,List.any_nil,Bo];rw[T0 ω,T0 ω];simp
 rw[O2 (by simp;omega),O2 (by simp;omega)]
theorem P2(n:Nat):(oo n []).map (rB .own)=List.replicate n [B false]:=by
 unfold oo;rw[List.map_map];apply List.ext_getElem?;intro i;rw[C3];by_cases a:i<n
 ·rw[T6 a,List.getElem?_replicate];simp[a];rfl
 rw[O2 (by simp;omega),List.getElem?_replicate];simp[a]
theorem KN{xs:List Bool}{i k:Nat}(v:Bool)(a:k<xs.length):((xs.map (rB .own)).set i (rB .own v))[k]? = some (rB .own (nth (xs.set i v) k)):=by
 rw[<-X5];exact aa (ao (by rw[O1];exact a))
theorem vK(c:List ax)(s:Int)(u:0<=s/\s<=1073741823)(V:c.length<=16):ar Tryz.prog 290 false [.val none (bX .X c),.val none [I s],.val none [I 3]] (.tup [none,none]) (eU .own (iZ c s)++[I (shuf c.length s).2]):=by
 have J:=aG s 0 1073741823;rw[O0 u]at J;have K:=aG 3 0 16;rw[O0 ω]at K;have Q:=zb c.length s u ω;have D:=(jR c.length u (c.length - 1)).1;have e:=pF c.length u (z3 _);unfold iZ;change (shuf c.length s).1.length=_ at D;change ∀x∈(shuf c.length s).1,_ at e
 have E:hC (eU .own (lJ c (shuf c.length s).1 3)++[I (shuf c.length s).2]):=aI (yn _) ⟨trivial,trivial⟩;generalize shuf c.length s=q at *;obtain⟨p,z⟩:=q;simp only at *;have F:((p.length:Nat):Int).tdiv 2=((p.length / 2:Nat):Int):=by rw[Int.tdiv_eq_ediv_of_nonneg ω];omega
 have g:C.s dQ.own ((oo c.length []).map (rB .own))=C.s dQ.own (List.replicate c.length [B false]):=by rw[P2]
 have h:∀i:Nat,i<p.length->0<=nth p i/\nth p i<c.length:=λi R=>e _ (am R)
 refine fO 110 [(15,21,[73,74,75,76,77,78,79,80,81,82,83,84,85,86,87,88,89,90,91,92,93])] Tryz.func290 rfl ?_ (.inr E)
 repeat'(first|refine gD ?_|(conv=>whnf);first|refine C7 (J) ?_|refine C7 (K) ?_|refine C7 (Q) ?_|refine CN (by decide) ?_|refine Mk.mk c.length rfl rfl ω (yI ω (by decide)) rfl ?_)
 (conv=>whnf)
 refine CE (ι:=Nat) (λt=>[(0,.H .one (bX .X c)),(2,.H .one [I (3)]),(8,.H .one (eU .own (lJ c p t))),(9,.H .one (aD .own p)),(10,.H .one [I (z)]),(11,.H .one [I (((p.length / 2):Nat):Int)]),(12,.H .one (BV .own (oo c.length (lJ c p t)))),(13,.H .one [I ((t:Nat):Int)])]) (λt=>t<=3) (λt=>3 - t) (0) ?_ (U0 _) λt S=>?_
 ·repeat'(first|exact trivial|rfl |exact nR g|refine CK ?_ ?_)
 have W:=yh c p t;have ol2:t*(p.length / 2)<=3*8:=Nat.mul_le_mul S ω;by_cases X:t<3
 ·repeat'(first|refine gD ?_|fail)
  (conv=>whnf)
  refine CE (ι:=Nat) (λj=>[(0,.H .one (bX .X c)),(2,.H .one [I (3)]),(8,.H .one (eU .own (ql c p t (lJ c p t) j))),(9,.H .one (aD .own p)),(10,.H .one [I (z)]),(11,.H .one [I (((p.length / 2):Nat):Int)]),(12,.H .one (BV .own (oo c.length (ql c p t (lJ c p t) j)))),(13,.H .one [I ((t:Nat):Int)]),(14,.H .one [I ((j:Nat):Int)])]) (λj=>j<=p.length / 2) (λj=>p.length / 2 - j) (0) ?_ (U0 _) λj Y=>?_
  ·repeat'(first|exact trivial|rfl |refine CK ?_ ?_)
  have Z:=tz c p t (lJ c p t) j;by_cases lj:j<p.length / 2
  ·have L:(j+t) % (p.length - p.length / 2)<p.length - p.length / 2:=Nat.mod_lt _ ω
   have G:((j:Int)+t).tmod ((p.length:Int) - (p.length / 2:Nat))=(((j+t) % (p.length - p.length / 2):Nat):Int):=by
    rw[dK ω,Int.natCast_emod];congr 1;omega
   have d:ql c p t (lJ c p t) (j+1)=stp c p t j (ql c p t (lJ c p t) j):=rfl;unfold stp at d;generalize ql c p t (lJ c p t) j=out at *;have l:p.length / 2+(j+t) % (p.length - p.length / 2)<p.length:=ω
   generalize hk:(j+t) % (p.length - p.length / 2)=k at *;have n:=ao (xs:=p) (i:=j) ω;have o:=ao (xs:=p) (i:=p.length / 2+k) l;have w:=h j ω;have r:=h _ l;generalize nth p j=a at *;generalize nth p (p.length / 2+k)=b at *;have y:=HH (out:=out) w;have H:=HH (out:=out) r;have T:=ao (xs:=c) (i:=a.toNat) ω;have U:=ao (xs:=c) (i:=b.toNat) ω;have M:=mz (nth c a.toNat) (nth c b.toNat);have ub2:=KN (xs:=oo c.length out) (i:=a.toNat) (k:=b.toNat) true (by simp[oo];omega);cases N:tkn out a<;>cases O:tkn out b<;>cases P:meshable (nth c a.toNat) (nth c b.toNat)
   all_goals
    rw[N]at y;rw[O]at H;rw[P]at M;rw[N,O,P]at d;simp only[and_true,true_and,if_true,Bool.false_eq_true,Bool.true_eq_false,and_false,false_and,if_false]at d
    repeat'(first|refine gD ?_|(conv=>whnf);first|refine CQ G ?_|refine CN ω ?_|refine CC (aa n) ?_|refine CL ω (aa o) ?_|refine CL w.1 (aa y) ?_|refine CL r.1 (aa H) ?_|refine CL w.1 (aa T) ?_|refine CL r.1 (aa U) ?_|refine CH rfl (aa n) rfl ?_|refine CH rfl (aa o) rfl ?_|refine CH rfl (aa y) rfl ?_|refine CH rfl (aa H) rfl ?_|refine C7 (M) ?_|refine CP rfl rfl (aa y) rfl (C1 rfl) rfl ?_|refine CL r.1 ub2 ?_|refine CP rfl rfl ub2 rfl (C1 rfl) rfl ?_|refine Ap.sm (aO λ_=>rfl) rfl (by simp;omega) (by decide) (gi (dJ.enc .own) out ⟨a,b⟩) ?_)
    ((conv=>whnf);refine CD (j+1) ω ω ?_)
    rw[d]
    first|(rw[LW w r];simp only[BV,X5])|skip
    exact wB
  obtain rfl:j=p.length / 2:=ω
  repeat'(first|refine gD ?_|fail)
  ((conv=>whnf);refine CD (t+1) ω ω ?_;(exact wB))
 obtain rfl:t=3:=ω
 repeat'(first|refine gD ?_|fail)
 rfl
theorem rA(x:List dJ):eB (eU .own x)=eU .X x:=by simp[eB,eU,dJ.enc,<-co,U5]
theorem vE(c:List ax)(s:Int)(r:0<=s/\s<=1073741823)(Y:c.length<=16):ar Tryz.prog 127 false [.val none (bX .X c),.val none [I s],.val none [I 3]] (.tup [none,none]) (eU .own (iZ c s)++[I (shuf c.length s).2]):=by
 have O:=tt s r;have H:=aM 3 0 16;rw[O0 ω]at H;have P:=yN c.length s r ω;have g:=(jR c.length r (c.length - 1)).1;have h:=pF c.length r (z3 _);unfold iZ;change (shuf c.length s).1.length=_ at g;change ∀x∈(shuf c.length s).1,_ at h
 have y:hC (eU .own (lJ c (shuf c.length s).1 3)++[I (shuf c.length s).2]):=aI (yn _) ⟨trivial,trivial⟩;generalize shuf c.length s=q at *;obtain⟨p,z⟩:=q;simp only at *;have B:((p.length:Nat):Int).tdiv 2=((p.length / 2:Nat):Int):=by rw[Int.tdiv_eq_ediv_of_nonneg ω];omega
 have D:fz (C.s dQ.own (p.map (rI .own)))=C.s dQ.X (p.map (rI .X)):=(List.cons.inj (dX p)).1;have l:(p.drop (p.length / 2)).length=p.length - p.length / 2:=O3 ..;have Q:(p.take (p.length / 2)).length=p.length / 2:=by rw[U1];omega
 have n:∀i:Nat,i<p.length->0<=nth p i/\nth p i<c.length:=λi R=>h _ (am R)
 have d:((c.length:Nat):Int).tdiv 2=((p.length / 2:Nat):Int):=by rw[<-g];exact B
 refine fO 99 [(5,264,[39,40,41,42,43,44,45,46,0,1,2,3,4,5,6,7,8,1004,1005,1006,1007,9]),(14,19,[69,70,71,72,73,74,75,76,77,78,79,80,81,82,83,84,85,86,87]),(1048581,9,[0])] Tryz.func127 rfl ?_ (.inr y)
 repeat'(first|refine gD ?_|(conv=>whnf);first|refine CB ?_|refine C7 (O) ?_|refine C7 (H) ?_|refine C7 (P) ?_|refine CN (by decide) ?_|refine Fu.mk rfl D rfl ?_|refine CU (p.length / 2) d (by rw[Z0];omega) (aO λ_=>rfl) v4 ?_|refine Sl.suf (p.length / 2) d (by rw[Z0];omega) (aO λ_=>rfl) z4 ?_)
 (conv=>whnf)
 refine CE (ι:=Nat) (λt=>[(0,.H .one (bX .X c)),(2,.H .one [I (3)]),(10,.H .one [I (z)]),(11,.H .one (aD .X (p.take (p.length / 2)))),(12,.H .one (aD .X (p.drop (p.length / 2)))),(13,.H .one (eU .own (lJ c p t))),(14,.H .one [I ((t:Nat):Int)])]) (λt=>t<=3) (λt=>3 - t) (0) ?_ (U0 _) λt S=>?_
 ·exact wB
 have Z:=yh c p t;have ol2:t*(p.length / 2)<=3*8:=Nat.mul_le_mul S ω;by_cases lt:t<3
 ·repeat'(first|refine gD ?_|(conv=>whnf);refine CB ?_)
  (conv=>whnf)
  refine CE (ι:=Nat) (λj=>[(0,.H .one (bX .X c)),(2,.H .one [I (3)]),(10,.H .one [I (z)]),(11,.H .one (aD .X (p.take (p.length / 2)))),(12,.H .one (aD .X (p.drop (p.length / 2)))),(13,.H .one (eU .own (ql c p t (lJ c p t) j))),(14,.H .one [I ((t:Nat):Int)]),(53,.H .one (aD .X (p.take (p.length / 2)))),(54,.H .one [I (((p.length / 2):Nat):Int)]),(55,.H .one [I ((j:Nat):Int)])]) (λj=>j<=p.length / 2) (λj=>p.length / 2 - j) (0) ?_ (U0 _) λj hj=>?_
  ·exact wB
  have rl:=tz c p t (lJ c p t) j;by_cases T:j<p.length / 2
  ·have J:(j+t) % (p.length - p.length / 2)<p.length - p.length / 2:=Nat.mod_lt _ ω
   have E:((j:Int)+t).tmod ((p.length - p.length / 2:Nat):Int)=(((j+t) % (p.length - p.length / 2):Nat):Int):=by
    rw[dK ω,Int.natCast_emod];congr 1
   have e:ql c p t (lJ c p t) (j+1)=stp c p t j (ql c p t (lJ c p t) j):=rfl;unfold stp at e;generalize ql c p t (lJ c p t) j=out at *;have o:p.length / 2+(j+t) % (p.length - p.length / 2)<p.length:=ω
   generalize hk:(j+t) % (p.length - p.length / 2)=k at *;have F:(p.take (p.length / 2))[j]? = some (nth p j):=by rw[List.getElem?_take,C9 T];exact ao ω
   have G:(p.drop (p.length / 2))[k]? = some (nth p (p.length / 2+k)):=by rw[List.getElem?_drop];exact ao o
   have U:=n j ω;have V:=n _ o;generalize nth p j=a at *;generalize nth p (p.length / 2+k)=b at *;have K:=xH out a ω;have L:=xH out b ω;have W:=ao (xs:=c) (i:=a.toNat) ω;have X:=ao (xs:=c) (i:=b.toNat) ω;have M:=mg (nth c a.toNat) (nth c b.toNat);cases u:tkn out a<;>cases w:tkn out b<;>cases N:meshable (nth c a.toNat) (nth c b.toNat)
   all_goals
    unfold tkn at u w;rw[u]at K;rw[w]at L;change (tkn out a)=_ at u;change (tkn out b)=_ at w;rw[N]at M;rw[u,w,N]at e;simp only[and_true,true_and,if_true,Bool.false_eq_true,Bool.true_eq_false,and_false,false_and,if_false]at e
    repeat'(first|refine gD ?_|(conv=>whnf);first|refine CQ (z:=(k:Int)) (by rw[l];exact E) ?_|refine Ln.mk (show List.length (List.map _ (p.drop (p.length / 2)))=p.length - p.length / 2 by rw[Z0];exact l) ?_|refine CN ω ?_|refine CC (aa F) ?_|refine CL ω (aa G) ?_|refine CL U.1 (aa W) ?_|refine CL V.1 (aa X) ?_|refine CG (K) ⟨⟨rfl,rA _⟩,⟨rfl,rfl⟩,trivial⟩ ?_|refine CG (L) ⟨⟨rfl,rA _⟩,⟨rfl,rfl⟩,trivial⟩ ?_|refine C7 (M) ?_|refine Ap.sm (aO λ_=>rfl) rfl (by simp;omega) (by decide) (gi (dJ.enc .own) out ⟨a,b⟩) ?_)
    ((conv=>whnf);refine CD (j+1) ω ω ?_)
    rw[e];exact wB
  obtain rfl:j=p.length / 2:=ω
  repeat'(first|refine gD ?_|(conv=>whnf);refine CB ?_)
  ((conv=>whnf);refine CD (t+1) ω ω ?_;(exact wB))
 obtain rfl:t=3:=ω
 repeat'(first|refine gD ?_|(conv=>whnf);refine CB ?_)
 rfl
theorem ar.fzR{P:Program}{f:Nat}{sh:Bool}{A:List RA}{k:Kd}{rcs:List C}(h:ar P f sh A k rcs):ar P f sh A k (eB rcs):=by
 obtain⟨c,d⟩:=h;refine⟨c,λw S g i j=>(d w S g i j).mono λe w1 l=>?_⟩;obtain⟨v,n,p,X,q,r,t,B,u,y⟩:=l;refine⟨v,n,p,NO,λb o=>q b o\/X b o,λ_ _ h=>h.elim,λb o a=>?_,λ_ _ h=>h.elim,by rw[co,Z0];exact u,y.freeze⟩;rcases a with a|a
 ·exact t b o a
 exact .inr (r b o a)
structure PL(ls:List ax)(q:dJ):Prop where
 a:0<=q.A/\q.A<ls.length
 b:0<=q.B/\q.B<ls.length
 m:meshable (nth ls q.A.toNat) (nth ls q.B.toNat)=true
theorem Jk{b:List ax}{p:List Int}(c:∀x∈p,0<=x/\x<b.length)(t:Nat){out:List dJ}(d:∀q∈out,PL b q):∀{i:Nat},i<=p.length / 2->∀q∈ql b p t out i,PL b q
 | 0,_=>d
 | i+1,h=>λq a=>by
  have e:=Jk c t d (i:=i) ω;simp only[ql,stp]at a;split at a
  ·rename_i g
   rcases Z2.1 a with a|a
   ·exact e q a
   obtain rfl:=I1.1 a;have f:(i+t) % (p.length - p.length / 2)<p.length - p.length / 2:=Nat.mod_lt _ ω;exact⟨c _ (am ω),c _ (am ω),g.2.2⟩
  exact e q a
theorem HI{a:List ax}{p:List Int}(b:∀x∈p,0<=x/\x<a.length):∀t,∀q∈lJ a p t,PL a q
 | 0=>λq c=>by cases c
 | t+1=>Jk b t (HI b t) (z3 _)
theorem lE(a:List ax){s:Int}(b:0<=s/\s<=1073741823):∀q∈iZ a s,PL a q:=HI (pF a.length b (z3 _)) 3
theorem Pr(s:ax)(n:Nat):(sI s n).Pairwise (· < ·):=by
 unfold sI;rw[List.pairwise_map];exact(List.pairwise_lt_range.sublist List.filter_sublist).imp λh=>ω
theorem QG{s:ax}{n:Nat} : ∀z∈sI s n,0<=z/\z<n:=λz a=>by
 unfold sI at a;simp only[C4,I4,List.mem_range]at a;obtain⟨c,⟨b,-⟩,rfl⟩:=a;omega
theorem wP(s:ax):cY (sI s 16).length (mu (sI s 16))=true:=by
 refine cx.2 λj a=>?_
 have c:=QG _ (am a);unfold mu;refine O0 ⟨ω,ω,?_⟩;by_cases e:j=0
 ·exact .inl e
 refine .inr ?_;have b:=List.pairwise_iff_getElem.1 (Pr s 16) (j - 1) j ω a ω;rw[show nth (sI s 16) (j - 1)=(sI s 16)[j - 1] from bm (C2 ω),show nth (sI s 16) j=(sI s 16)[j] from bm (C2 a)];exact b
theorem qa{a b:ax}(c:meshable a b=true):eK (cT a b)=true/\bf a=true/\bf b=true:=by
 unfold meshable at c;simp only[I0,C0]at c;have d:=aF c.1.1;have e:=aF c.1.2;refine⟨?_,c.1⟩;unfold cT eK;split
 ·simp only[I0,C0];exact⟨wP a,ω⟩
 simp only[I0,C0];exact⟨wP b,ω⟩
theorem xA(a b:ax):bY.sml (cT a b):=by
 have c:=ma a 16;have d:=ma b 16;unfold cT bY.sml tl;split<;>simp only<;>omega
def bh(h:ab):List ax:=(ig h).take 16
def started(h:ab):ab × Bool:=match iZ (bh h) h.c0 with
 | []=>({h with c0:=(shuf (bh h).length h.c0).2},false)
 | q::_=>({h with c0:=(shuf (bh h).length h.c0).2,o:=true,Y:=so (cT (nth (bh h) q.A.toNat) (nth (bh h) q.B.toNat))},true)
theorem EN{h:ab}{E:List Int}(a:aX h E):h.K.length<=32/\eY h<=32/\wG h/\∀s∈h.K,s.b2<=9223372036854775807:=by
 have b:=a.lens;refine⟨b.spans,b.ents,?_,λs c=>by have:=eQ (a.L.sok s c);omega⟩;have:=(bp a.ker).1.2;exact this
theorem x4(h:ab):(bh h).length<=16:=by unfold bh;rw[U1];omega
theorem Nd(x:List dJ)(z:Int):eB (eU .own x++[I z])=eU .X x++[I z]:=by
 have h:=rA x;rw[co]at h |-;rw[T5,h];simp[fz]
theorem QC(h:ab):(bh h).map (ax.enc .X)=((ig h).map (ax.enc .X)).take 16:=v4
theorem Gk(p:bY)(b:eK p=true)(c:bY.sml p):ar Tryz.prog 292 false [.val (some 3) (bY.enc .X p)] (.tup [some 5,none]) (xE (so p)++[B true]):=by
 have h:=(FZ p b c).fzR;have e:eB (cg.enc .own (so p)++[B true])=xE (so p)++[B true]:=by
  have a:=cg.enc_fz (so p);rw[co]at a |-;rw[T5,a];simp[fz,cg.enc,xE]
 rwa [e]at h
theorem qp(h:ab)(w:aX h []):aW Tryz.prog 130 false [.ptr (bB h)] [.ptr (bB (started h).1)] .one [B (started h).2]:=by
 obtain⟨w1,Q,H,J⟩:=EN w;have a:=w.nums;unfold cj at a;rw[C0]at a;have e:=(xa h H ω ω J).fzR;rw[rx]at e;have o:=x4 h;have b:=(vK (bh h) h.c0 ⟨a.1,a.2.1⟩ o).fzR;rw[Nd]at b;have g:=lE (bh h) ⟨a.1,a.2.1⟩;have K:=pn h h.K.length;have y:(ig h).length<=32:=by unfold ig;omega
 have j:=QC h;unfold started;cases C:iZ (bh h) h.c0 with
 | nil=>
  rw[C]at b;by_cases L:16<(ig h).length
  ·refine fM 62 [] [(8,275,[34,35,36,37,38,39,40,41,42,43,44,45,46,47,48,33,49,50,6,0,1,2,3,4,5,6,7,8,9,10,11,12,13,14,15,16,17,18,19,1017,20])] [(0,0)] Tryz.func130 rfl (λu q=>?_)
   repeat'(first|refine gD ?_|(conv=>whnf);first|refine CG (e) ⟨⟨rfl,bG h⟩,trivial⟩ ?_|refine C7 (b) ?_|refine CU 16 rfl (by rw[Z0];omega) (aO λ_=>rfl) j ?_)
   refine CF rfl rfl ?_;exact wC
  have k:bh h=ig h:=by unfold bh;exact W6 ω
  rw[k]at b;refine fM 62 [] [(8,275,[34,35,36,37,38,39,40,41,42,43,44,45,46,47,48,33,49,50,6,0,1,2,3,4,5,6,7,8,9,10,11,12,13,14,15,16,17,18,19,1017,20])] [(0,0)] Tryz.func130 rfl (λu q=>?_);rw[k]
  repeat'(first|refine gD ?_|(conv=>whnf);first|refine CG (e) ⟨⟨rfl,bG h⟩,trivial⟩ ?_|refine C7 (b) ?_)
  refine CF rfl rfl ?_;exact wC
 | cons q M=>
  rw[C]at b g;obtain⟨E,F,G⟩:=g q (V1 ..);obtain⟨N,O,P⟩:=qa G;have p:=zG _ _ G O P;have t:=Gk _ N (xA _ _);have c:=ao (xs:=bh h) (i:=q.A.toNat) ω;have d:=ao (xs:=bh h) (i:=q.B.toNat) ω;have l:(q::M)[0]? = some q:=rfl;by_cases L:16<(ig h).length
  ·refine fM 62 [] [(8,275,[34,35,36,37,38,39,40,41,42,43,44,45,46,47,48,33,49,50,6,0,1,2,3,4,5,6,7,8,9,10,11,12,13,14,15,16,17,18,19,1017,20])] [(0,0)] Tryz.func130 rfl (λu r=>?_)
   repeat'(first|refine gD ?_|(conv=>whnf);first|refine CB ?_|refine CG (e) ⟨⟨rfl,bG h⟩,trivial⟩ ?_|refine C7 (b) ?_|refine CU 16 rfl (by rw[Z0];omega) (aO λ_=>rfl) j ?_|refine CL (by decide) (aa l) ?_|refine CL E.1 (aa c) ?_|refine CL F.1 (aa d) ?_|refine C7 (p) ?_|refine CG (t) ⟨⟨rfl,bY.enc_fz _⟩,trivial⟩ ?_)
   refine CF rfl rfl ?_;exact wC
  have k:bh h=ig h:=by unfold bh;exact W6 ω
  rw[k]at b p t c d;refine fM 62 [] [(8,275,[34,35,36,37,38,39,40,41,42,43,44,45,46,47,48,33,49,50,6,0,1,2,3,4,5,6,7,8,9,10,11,12,13,14,15,16,17,18,19,1017,20])] [(0,0)] Tryz.func130 rfl (λu r=>?_);rw[k]
  repeat'(first|refine gD ?_|(conv=>whnf);first|refine CB ?_|refine CG (e) ⟨⟨rfl,bG h⟩,trivial⟩ ?_|refine C7 (b) ?_|refine CL (by decide) (aa l) ?_|refine CL E.1 (aa c) ?_|refine CL F.1 (aa d) ?_|refine C7 (p) ?_|refine CG (t) ⟨⟨rfl,bY.enc_fz _⟩,trivial⟩ ?_)
  refine CF rfl rfl ?_;exact wC
def meshSt(h:ab):ab × Bool:=if h.o=false/\dy h=true then started h else(h,false)
theorem Dc(h:ab)(g:ab.sml h)(i:¬(h.o=false/\dy h=true)):ar Tryz.prog 42 false [.val (some 24) (ab.enc .X h)] (.tup [some 24,none]) (qh h++[B false]):=by
 have a:=iJ h g;rw[kS]at a;have b:=rk h g;have c:ab.enc .X h=(ab.enc .X h).set 18 (B h.o):=rfl;cases d:h.o
 ·have j:dy h=false:=by
   rcases Bool.eq_false_or_eq_true (dy h) with e|e
   ·exact absurd ⟨d,e⟩ i
   exact e
  rw[j]at a;rw[d]at c;rw[c]at a b |-;refine fO 66 [(10,275,[41,42,43,44,45,46,47,48,49,50,51,52,53,54,55,40,56,57,8,0,1,2,3,4,5,6,7,8,9,10,11,12,13,14,15,16,17,18,19,1017,20])] Tryz.func42 rfl ?_ (.inr (aI (nB _) ⟨trivial,trivial⟩))
  repeat'(first|refine gO ?_|(conv=>whnf);first|refine C7 (a) ?_|refine C7 (b) ?_)
  rfl
 rw[d]at c;rw[c]at a b |-;refine fO 66 [(10,275,[41,42,43,44,45,46,47,48,49,50,51,52,53,54,55,40,56,57,8,0,1,2,3,4,5,6,7,8,9,10,11,12,13,14,15,16,17,18,19,1017,20])] Tryz.func42 rfl ?_ (.inr (aI (nB _) ⟨trivial,trivial⟩))
 repeat'(first|refine gO ?_|(conv=>whnf);refine C7 (b) ?_)
 rfl
theorem yK(h:ab)(t:ab.sml h)(H:h.o=false)(u:dy h=true):ar Tryz.prog 42 false [.val (some 24) (ab.enc .X h)] (.tup [some 24,none]) (qh (started h).1++[B (started h).2]):=by
 have w:=aX.of u;obtain⟨w1,U,J,K⟩:=EN w;have a:=w.nums;unfold cj at a;rw[C0]at a;have j:=iJ h t;rw[kS,u]at j;have l:=rk h t;have k:=(xJ h J ω ω K).fzR;rw[rx]at k;have n:=x4 h;have c:=(vE (bh h) h.c0 ⟨a.1,a.2.1⟩ n).fzR;rw[Nd]at c;have d:=lE (bh h) ⟨a.1,a.2.1⟩;have L:=pn h h.K.length;have y:(ig h).length<=32:=by unfold ig;omega
 have g:(bh h).map (ax.enc .X)=((ig h).map (ax.enc .X)).take (bh h).length:=by
  unfold bh;rw[v4,U1];by_cases e:16<=(ig h).length
  ·rw[Nat.min_eq_left e]
  rw[Nat.min_eq_right ω,W6 (by rw[Z0];omega),W6 (by rw[Z0];omega)]
 have b:(bh h).length=if(ig h).length<=16 then(ig h).length else 16:=by unfold bh;rw[U1];split<;>omega
 have C:ab.enc .X h=(ab.enc .X h).set 18 (B h.o):=rfl;rw[H]at C;rw[C]at j l k |-;unfold started;cases E:iZ (bh h) h.c0 with
 | nil=>
  rw[E]at c;refine fO 66 [(10,275,[41,42,43,44,45,46,47,48,49,50,51,52,53,54,55,40,56,57,8,0,1,2,3,4,5,6,7,8,9,10,11,12,13,14,15,16,17,18,19,1017,20])] Tryz.func42 rfl ?_ (.inr (aI (nB _) ⟨trivial,trivial⟩))
  repeat'(first|refine gO ?_|(conv=>whnf);first|refine C7 (j) ?_|refine C7 (l) ?_|refine C7 (k) ?_|refine C7 (c) ?_|refine CQ (z:=((bh h).length:Int)) (by rw[b];simp;split<;>split<;>omega) ?_|refine CU (bh h).length rfl (by rw[Z0,b];split<;>omega) (aO λ_=>rfl) g ?_)
  rfl
 | cons q M=>
  rw[E]at c d;obtain⟨N,O,F⟩:=d q (V1 ..);obtain⟨P,Q,R⟩:=qa F;have S:=zr _ _ F Q R;have T:=DS _ P (xA _ _);have o:=ao (xs:=bh h) (i:=q.A.toNat) ω;have p:=ao (xs:=bh h) (i:=q.B.toNat) ω;have r:(q::M)[0]? = some q:=rfl;refine fO 66 [(10,275,[41,42,43,44,45,46,47,48,49,50,51,52,53,54,55,40,56,57,8,0,1,2,3,4,5,6,7,8,9,10,11,12,13,14,15,16,17,18,19,1017,20])] Tryz.func42 rfl ?_ (.inr (aI (nB _) ⟨trivial,trivial⟩))
  repeat'(first|refine gO ?_|(conv=>whnf);first|refine CB ?_|refine C7 (j) ?_|refine C7 (l) ?_|refine C7 (k) ?_|refine C7 (c) ?_|refine CQ (z:=((bh h).length:Int)) (by rw[b];simp;split<;>split<;>omega) ?_|refine CU (bh h).length rfl (by rw[Z0,b];split<;>omega) (aO λ_=>rfl) g ?_|refine CL (by decide) (aa r) ?_|refine CL N.1 (aa o) ?_|refine CL O.1 (aa p) ?_|refine C7 (S) ?_|refine CG (T) ⟨⟨rfl,bY.enc_fz _⟩,trivial⟩ ?_)
  rfl
theorem yq(h:ab)(a:ab.sml h):ar Tryz.prog 42 false [.val (some 24) (ab.enc .X h)] (.tup [some 24,none]) (qh (meshSt h).1++[B (meshSt h).2]):=by
 unfold meshSt;split
 ·rename_i e;exact yK h a e.1 e.2
 rename_i e;exact Dc h a e
end Go.Proofs.YtecefhjnejfheaaGreat.Ab
