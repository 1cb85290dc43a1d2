/- Pages mapped for new spans and large objects: a heap stays whole. No condition. -/
import Derived.Test.YtembpgjjnioagaaGreatXd
import Derived.Test.YtembpgjjnioagaaGreatXf
import Derived.Test.YtembpgjjnioagaaGreatXe
set_option linter.unusedVariables false
set_option linter.unusedSimpArgs false
set_option linter.constructorNameAsVariable false
namespace Go.Proofs.YtembpgjjnioagaaGreat.Ab
def ip(xs:List a7)(n:Int):Nat->Int
 | 0=>-1
 | i+1=>if n<=(nth xs i).Len/\(ip xs n i<0\/(nth xs i).Len<(nth xs (ip xs n i).toNat).Len) then(i:Nat) else ip xs n i
def gv(xs:List a7)(n:Int):Int:=ip xs n xs.length
def ay(xs:List a7)(n:Int):List a7 × Int × Bool:=
 if gv xs n<0 then(xs,-1,false)
 else if(nth xs (gv xs n).toNat).Len=n then(dele xs (gv xs n).toNat,(nth xs (gv xs n).toNat).At,true)
 else(xs.set (gv xs n).toNat ⟨(nth xs (gv xs n).toNat).At+n,(nth xs (gv xs n).toNat).Len - n⟩,(nth xs (gv xs n).toNat).At,true)
theorem wn(xs:List a7)(n:Int):∀i,i<=xs.length->ip xs n i = -1\/(0<=ip xs n i/\ip xs n i<i/\n<=(nth xs (ip xs n i).toNat).Len)
 | 0,_=>.inl rfl
 | i+1,b=>by
  have a:=wn xs n i ω;unfold ip;split
  ·rename_i h;right;rw[C2];exact⟨ω,ω,h.1⟩
  ·rcases a with h|h
   ·exact .inl h
   ·exact .inr ⟨h.1,ω,h.2.2⟩
theorem vW{xs:List a7}(h:nE xs){i j:Nat}(a:i<j)(b:j<xs.length):(nth xs i).At+(nth xs i).Len<(nth xs j).At:=by
 have:=List.pairwise_iff_getElem.1 h.1 i j ω b a
 rwa [<-br (U1 (show i<xs.length by omega)),<-br (U1 b)]at this
theorem uF{xs:List a7}{p:Int} : RH xs p↔∃j,j<xs.length/\(nth xs j).At<=p/\p<(nth xs j).At+(nth xs j).Len:=by
 unfold RH;constructor
 ·rintro⟨r,b,h⟩
  obtain⟨j,a,rfl⟩:=bf b;exact⟨j,a,h⟩
 ·rintro⟨j,a,h⟩
  exact⟨_,am a,h⟩
theorem lB{pages:Int}{xs:List a7}{n:Int}(h:bv pages xs=true)(T:1<=n)(t:(ay xs n).2.2=true) :
  bv pages (ay xs n).1=true/\0<=(ay xs n).2.1/\(ay xs n).2.1+n<=pages/\(∀p,RH (ay xs n).1 p↔RH xs p/\¬((ay xs n).2.1<=p/\p<(ay xs n).2.1+n))/\∀p,(ay xs n).2.1<=p->p<(ay xs n).2.1+n->RH xs p:=by
 obtain⟨o,u,J⟩:=eK.1 h;have K:=wn xs n xs.length (Q2 _);unfold ay at t |-;change gv xs n = -1\/_ at K;split at t
 ·cases t
 rename_i w;rw[C7 w];obtain⟨O,P,L⟩:=K.resolve_left ω;change 0<=gv xs n at O;change gv xs n<xs.length at P;change n<=(nth xs (gv xs n).toNat).Len at L;generalize Q:(gv xs n).toNat=b at L |-;have g:b<xs.length:=ω
 have M:=u _ (am g);have q:∀j,j<xs.length->j≠b->(nth xs j).At+(nth xs j).Len<(nth xs b).At\/(nth xs b).At+(nth xs b).Len<(nth xs j).At:=λj a k=>by
  rcases Nat.lt_or_gt_of_ne k with A|B
  ·exact .inl (vW o A g)
  ·exact .inr (vW o B a)
 split
 ·rename_i R
  have C:(dele xs b).Sublist xs:=eY ..;refine⟨eK.2 ⟨⟨o.1.sublist C,λy l=>o.2 y (C.subset l)⟩,λy l=>u y (C.subset l),J⟩,M.1,by show(nth xs b).At+n<=pages;omega,λp=>?_,λp D E=>uF.2 ⟨b,g,D,by show p<_;simp only at E;omega⟩⟩;simp only;rw[uF (xs:=xs)];constructor
  ·rintro⟨r,F,f,d⟩
   obtain⟨j,a,k,rfl⟩:=dX.1 F;refine⟨⟨j,a,f,d⟩,λe=>?_⟩;have:=q j a k;omega
  ·rintro⟨⟨j,a,f,d⟩,G⟩
   exact⟨_,dX.2 ⟨j,a,λe=>by subst e;omega,rfl⟩,f,d⟩
 ·rename_i R
  have c:∀j,nth (xs.set b ⟨(nth xs b).At+n,(nth xs b).Len - n⟩) j=if j=b then⟨(nth xs b).At+n,(nth xs b).Len - n⟩ else nth xs j:=λj=>by
   rw[bS];by_cases e:j=b
   ·rw[C8 ⟨e.symm,ω⟩,C8 e]
   ·rw[C7 λz=>e z.1.symm,C7 e]
  refine⟨eK.2 ⟨⟨?_,λy l=>?_⟩,λy l=>?_,J⟩,M.1,by show(nth xs b).At+n<=pages;omega,λp=>?_,λp D E=>uF.2 ⟨b,g,D,by simp only at E;omega⟩⟩
  ·rw[List.pairwise_iff_getElem]
   intro i j N a H;rw[<-br (U1 N),<-br (U1 a),c,c];simp only[C1]at N a;have S:=vW o H a;split
   ·rename_i e;subst e
    rw[C7 ω];simp only;omega
   ·split
    ·rename_i e;subst e
     simp only;omega
    ·exact S
  ·rcases eI l with rfl|⟨j,a,-,rfl⟩
   ·simp only;omega
   ·exact o.2 _ (am a)
  ·rcases eI l with rfl|⟨j,a,-,rfl⟩
   ·simp only;omega
   ·exact u _ (am a)
  ·simp only
   rw[uF,uF,C1];constructor
   ·rintro⟨j,a,f,d⟩
    rw[c]at f d;split at f
    ·rename_i e;subst e
     rw[C8 rfl]at d;simp only at f d;exact⟨⟨j,a,ω,ω⟩,ω⟩
    ·rename_i e
     rw[C7 e]at d;have:=q j a e;exact⟨⟨j,a,f,d⟩,ω⟩
   ·rintro⟨⟨j,a,f,d⟩,G⟩
    refine⟨j,a,?_⟩;rw[c];split
    ·rename_i e;subst e
     simp only;omega
    ·exact⟨f,d⟩
def pV(k:af):Int:=di (λu=>!u) k.Machine.Frames.Used
def pd(k:af)(p:Int)(f:Nat):af:={k with Machine:=⟨⟨k.Machine.Frames.Cells,k.Machine.Frames.Used.set f true⟩,⟨k.Machine.Table.Entries.set p.toNat ⟨2,(f:Nat)⟩⟩⟩}
def fB(k:af)(p:Int):af × Bool:=if refd k=true\/pV k<0 then(cN k,false) else(pd (cN k) p (pV k).toNat,true)
theorem Bw{k:af}(h:¬pV k<0):(pV k).toNat<k.Machine.Frames.Used.length/\nth k.Machine.Frames.Used (pV k).toNat=false:=by
 unfold pV at h |-;rcases ng (λu=>!u) k.Machine.Frames.Used with e|⟨n,a,e,b⟩
 ·omega
 ·rw[e,C2]
  exact⟨a,by simpa using b⟩
theorem yl{k:af}(h:aA k=true){f:Nat}(b:f<k.Machine.Frames.Used.length)(c:nth k.Machine.Frames.Used f=false)(q:Nat)(d:q<k.Machine.Table.Entries.length)(g:(nth k.Machine.Table.Entries q).Mode≠0):(nth k.Machine.Table.Entries q).Frame≠(f:Nat):=by
 obtain⟨j,l,n,i,o⟩:=aB.1 h;intro e;have a:=i f b;rw[c]at a;have:=of_decide_eq_false a.symm;exact this (dR.2 ⟨q,d,g,e⟩)
theorem LB{k:af}{p:Int}{f:Nat}(h:aA k=true)(L:0<=p/\p<k.Machine.Table.Entries.length)(n:(nth k.Machine.Table.Entries p.toNat).Mode=0)(o:f<k.Machine.Frames.Used.length)(r:nth k.Machine.Frames.Used f=false):aA (pd k p f)=true:=by
 have t:=yl h o r;obtain⟨u,w,y,A,B⟩:=aB.1 h;obtain⟨C,D,E,F⟩:=aT.1 w;obtain⟨G,H,J⟩:=bn.1 y;have a:∀q,nth (k.Machine.Table.Entries.set p.toNat ⟨2,(f:Nat)⟩) q=if p.toNat=q then⟨2,(f:Nat)⟩ else nth k.Machine.Table.Entries q:=λq=>by
  rw[bS];by_cases i:p.toNat=q
  ·rw[C8 ⟨i,ω⟩,C8 i]
  ·rw[C7 (λe=>i e.1),C7 i]
 refine aB.2 ⟨u,aT.2 ⟨C,D,by simp only[pd,C1];exact E,λj b=>?_⟩,bn.2 ⟨λj b=>?_,?_,?_⟩,λj b=>?_,B⟩
 ·replace b:j<k.Machine.Frames.Cells.length:=b
  show gp (nth k.Machine.Frames.Cells j) (nth (k.Machine.Frames.Used.set f true) j)=true;have d:=F j b;rw[bS];split
  ·unfold gp at d |-
   simp only[I0,C0,O3]at d |-;refine⟨d.1,λv K=>?_⟩;have:=d.2 v K;unfold gV at this |-;simp only[I0]at this;rw[this.1];rfl
  ·exact d
 ·simp only[pd,C1]at b |-
  rw[a];split
  ·unfold je;rw[C0];simp only;omega
  ·exact G j b
 ·simp only[pd,C1];exact H
 ·simp only[pd,C1];exact J
 ·simp only[pd,C1]at b
  show nth (k.Machine.Frames.Used.set f true) j=_;rw[bS];by_cases e:f=j
  ·subst e
   rw[C8 ⟨rfl,b⟩];refine(O0 (dR.2 ⟨p.toNat,?_,?_,?_⟩)).symm
   ·simp only[pd,C1];omega
   ·simp only[pd,a,C8];decide
   ·simp only[pd,a,C8]
  ·rw[C7 λz=>e z.1,A j b]
   refine decide_eq_decide.2 ?_;rw[dR,dR];simp only[pd,C1,a];constructor
   ·rintro⟨q,l,g,c⟩
    refine⟨q,l,?_⟩;rw[C7 λz=>g (by rw[<-z];exact n)];exact⟨g,c⟩
   ·rintro⟨q,l,g,c⟩
    by_cases z:p.toNat=q
    ·rw[C8 z]at c
     simp only at c;omega
    ·rw[C7 z]at g c
     exact⟨q,l,g,c⟩
structure zY(k:af)(p:Int)(r:af × Bool):Prop where
 ker:aA r.1=true
 len:r.1.Machine.Table.Entries.length=k.Machine.Table.Entries.length
 calls:r.1.Calls=k.Calls+1
 ref:r.1.Refuse=k.Refuse
 cells:r.1.Machine.Frames.Cells=k.Machine.Frames.Cells
 no:r.2=false->r.1=cN k
 yes:r.2=true->∃f:Nat,f<k.Machine.Frames.Used.length/\nth k.Machine.Frames.Used f=false/\(∀q:Nat,nth r.1.Machine.Table.Entries q=if(q:Int)=p then⟨2,(f:Nat)⟩ else nth k.Machine.Table.Entries q)/\∀q,q<k.Machine.Table.Entries.length->(nth k.Machine.Table.Entries q).Mode≠0->(nth k.Machine.Table.Entries q).Frame≠(f:Nat)
theorem zY.of{k:af}{p:Int}(h:aA k=true)(c:k.Calls≠100000)(f:0<=p/\p<k.Machine.Table.Entries.length)(g:(nth k.Machine.Table.Entries p.toNat).Mode=0):zY k p (fB k p):=by
 unfold fB;split
 ·exact⟨kM h c,rfl,rfl,rfl,rfl,λ_=>rfl,λe=>by cases e⟩
 ·rename_i d
  rw[not_or]at d;obtain⟨a,b⟩:=Bw d.2;refine⟨LB (kM h c) f g a b,by simp[pd,cN],rfl,rfl,rfl,λe=>(by cases e),λ_=>⟨_,a,b,λq=>?_,λq=>yl h a b q⟩⟩;simp only[pd,cN,bS];by_cases e:(q:Int)=p
  ·rw[C8 ⟨ω,ω⟩,C8 e]
  ·rw[C7 λz=>e ω,C7 e]
def cx(k:af)(p:Int):Nat->af × Nat
 | 0=>(k,0)
 | i+1=>if(cx k p i).2=i then((fB (cx k p i).1 (p+(i:Nat))).1,if(fB (cx k p i).1 (p+(i:Nat))).2=true then i+1 else i) else cx k p i
structure mL(k:af)(p:Int)(i:Nat)(r:af × Nat):Prop where
 ker:aA r.1=true
 len:r.1.Machine.Table.Entries.length=k.Machine.Table.Entries.length
 calls:k.Calls<=r.1.Calls/\r.1.Calls<=k.Calls+i
 ref:r.1.Refuse=k.Refuse
 cells:r.1.Machine.Frames.Cells=k.Machine.Frames.Cells
 le:r.2<=i
 out:∀q:Nat,¬(p<=q/\(q:Int)<p+r.2)->nth r.1.Machine.Table.Entries q=nth k.Machine.Table.Entries q
 new:∀q:Nat,p<=q->(q:Int)<p+r.2->(nth r.1.Machine.Table.Entries q).Mode=2/\∀u:Nat,u<k.Machine.Table.Entries.length->(nth r.1.Machine.Table.Entries u).Mode≠0->(nth r.1.Machine.Table.Entries u).Frame=(nth r.1.Machine.Table.Entries q).Frame->u=q
theorem mL.of{k:af}{p:Int}{n:Nat}(h:aA k=true)(G:k.Calls+n<=100000)(H:0<=p/\p+n<=k.Machine.Table.Entries.length)(C:∀q:Nat,p<=q->(q:Int)<p+n->(nth k.Machine.Table.Entries q).Mode=0):∀i,i<=n->mL k p i (cx k p i)
 | 0,_=>⟨h,rfl,⟨v4 _,by show k.Calls<=k.Calls+((0:Nat):Int);omega⟩,rfl,rfl,Q2 _,λ_ _=>rfl,λq o d=>by simp only[cx]at d;omega⟩
 | i+1,L=>by
  have a:=mL.of h G H C i ω;unfold cx;split
  case isFalse=>exact⟨a.ker,a.len,⟨a.calls.1,by have:=a.calls.2;omega⟩,a.ref,a.cells,by have:=a.le;omega,a.out,a.new⟩
  rename_i t;generalize cx k p i=r at a t |-;have J:=a.calls;have y:(nth r.1.Machine.Table.Entries (p+(i:Nat)).toNat).Mode=0:=by
   rw[a.out _ ω];exact C _ ω ω
  have s:=zY.of (p:=p+(i:Nat)) a.ker ω ⟨ω,by rw[a.len];omega⟩ y;generalize fB r.1 (p+(i:Nat))=w at s |-;refine⟨s.ker,s.len.trans a.len,⟨by simp only[s.calls];omega,by simp only[s.calls];omega⟩,s.ref.trans a.ref,s.cells.trans a.cells,by simp only;split<;>omega,λq j=>?_,λq o d=>?_⟩
  ·simp only at j |-
   cases e:w.2 with
   | false=>
    rw[s.no e];rw[e]at j;exact a.out q (by rw[t];simpa using j)
   | true=>
    obtain⟨f,-,-,g,-⟩:=s.yes e;rw[e,C8 rfl]at j;rw[g,C7 ω];exact a.out q ω
  ·simp only at d |-
   cases e:w.2 with
   | false=>
    rw[s.no e];rw[e]at d;exact a.new q o (by rw[t];simpa using d)
   | true=>
    obtain⟨f,-,-,g,D⟩:=s.yes e;rw[e,C8 rfl]at d;have A:q<k.Machine.Table.Entries.length:=ω
    rw[g];by_cases E:(q:Int)=p+(i:Nat)
    ·rw[C8 E]
     refine⟨rfl,λu B c b=>?_⟩;rw[g]at c b;by_cases l:(u:Int)=p+(i:Nat)
     ·omega
     ·rw[C7 l]at c b
      exact absurd b (D u (by rw[a.len];exact B) c)
    ·rw[C7 E]
     obtain⟨F,K⟩:=a.new q o ω;refine⟨F,λu B c b=>?_⟩;rw[g]at c b;by_cases l:(u:Int)=p+(i:Nat)
     ·rw[C8 l]at b
      exact absurd b.symm (D q (by rw[a.len];exact A) (by rw[F];decide))
     ·rw[C7 l]at c b
      exact K u B c b
theorem mL.undo{k:af}{p:Int}{i:Nat}{r:af × Nat}(s:mL k p i r)(h:aA k=true)(d:0<=p/\p+i<=k.Machine.Table.Entries.length)(e:∀q:Nat,p<=q->(q:Int)<p+i->(nth k.Machine.Table.Entries q).Mode=0):aA (dC r.1 p r.2)=true/\tEq k.Machine.Table (dC r.1 p r.2).Machine.Table:=by
 have f:=s.le;have g:=kV s.ker d.1 r.2 (by rw[s.len];omega);refine⟨kb s.ker p r.2,((gW r.1 p r.2).1).trans s.len,λq=>?_⟩;rw[g];split
 ·rename_i a
  have c:=e q a.1 ω;obtain⟨-,-,j,-⟩:=aB.1 h;have b:=(bn.1 j).1 q ω;unfold je at b;rw[C0]at b;exact⟨⟨λz=>absurd rfl z,λz=>absurd c z⟩,(b.2.2.1 c).symm⟩
 ·rename_i a
  rw[s.out q a];exact⟨Iff.rfl,rfl⟩
theorem Pg.add{t h:aG}{O r:List a7}{sp b:List au}{la d:List a8}{p:Int}{n:Nat}(i:Pg t O sp la)(E:h.Entries.length=t.Entries.length)(S:p+n<=t.Entries.length)(hp:0<=p)(j:∀q:Nat,¬(p<=q/\(q:Int)<p+n)->nth h.Entries q=nth t.Entries q)(a:∀q:Nat,p<=q->(q:Int)<p+n->(nth h.Entries q).Mode=2/\∀u:Nat,u<t.Entries.length->(nth h.Entries u).Mode≠0->(nth h.Entries u).Frame=(nth h.Entries q).Frame->u=q)(J:∀q,RH r q↔RH O q/\¬(p<=q/\q<p+n))(F:∀q,q∈pgs b d↔q∈pgs sp la\/(p<=q/\q<p+n))(w:∀s∈b,0<=s.Page/\(s∈sp\/(p<=s.Page/\s.Page<p+n)))(K:∀l∈d,l∈la\/∀q∈lpgs l l.Pages.toNat,p<=q/\q<p+n):Pg h r b d:=by
 have f:∀q:Nat,q<t.Entries.length->((nth h.Entries q).Mode≠0↔(q:Int)∈pgs b d):=λq c=>by
  rw[F];by_cases e:p<=q/\(q:Int)<p+n
  ·have:=(a q e.1 e.2).1
   exact⟨λ_=>.inr e,λ_=>by rw[this];decide⟩
  ·rw[j q e,i.own q c]
   exact⟨.inl,λz=>z.resolve_right e⟩
 refine⟨λl A q c u k L G=>?_,λq c=>?_,λq c=>f q (by rw[<-E];exact c),λq c=>?_,λs P u k M H=>?_⟩
 ·rw[E]at k
  have B:=fe (sp:=b) A c;have C:q<t.Entries.length:=by
   rcases(F _).1 B with g|g
   ·have:=i.bnd _ g;omega
   ·omega
  by_cases e:p<=q/\(q:Int)<p+n
  ·exact(a q e.1 e.2).2 u k L G
  ·have N:=(K l A).resolve_right λg=>e (g _ c)
   by_cases o:p<=u/\(u:Int)<p+n
   ·exact((a u o.1 o.2).2 q C ((f q C).2 B) G.symm).symm
   ·rw[j q e,j u o]at G
    rw[j u o]at L;exact i.one l N q c u k L G
 ·rw[E]
  rcases(F _).1 c with g|g
  ·exact i.bnd _ g
  ·omega
 ·rw[E]at c
  rw[J];by_cases e:p<=q/\(q:Int)<p+n
  ·have:=(a q e.1 e.2).1
   exact⟨λ_ z=>z.2 e,λ_=>by rw[this];decide⟩
  ·rw[j q e,i.fre q c]
   exact⟨λz y=>z y.1,λz y=>z ⟨y,e⟩⟩
 ·obtain⟨T,U⟩:=w s P
  obtain⟨V,W⟩:=w u k;have D:∀y∈b,0<=y.Page->y.Page.toNat<t.Entries.length/\((y.Page.toNat:Nat):Int)=y.Page/\(nth h.Entries y.Page.toNat).Mode≠0:=λy X Y=>by
   have g:=dr (la:=d) X;have Q:y.Page.toNat<t.Entries.length:=by
    rcases(F _).1 g with R|R
    ·have:=i.bnd _ R;omega
    ·omega
   exact⟨Q,ω,(f _ Q).2 (by rw[show((y.Page.toNat:Nat):Int)=y.Page by omega];exact g)⟩
  obtain⟨Z,sc,sd⟩:=D s P T;obtain⟨ub,uc,ud⟩:=D u k V;by_cases es:p<=s.Page/\s.Page<p+n
  ·have:=(a s.Page.toNat ω ω).2 _ ub ud H.symm
   omega
  ·by_cases o:p<=u.Page/\u.Page<p+n
   ·have:=(a u.Page.toNat ω ω).2 _ Z sd H
    omega
   ·rw[j _ ω,j _ ω]at H
    exact i.mesh s (U.resolve_right es) u (W.resolve_right o) M H
theorem Bv{sp a:List au}{la b:List a8}(c:a.Perm sp)(d:b.Perm la):(pgs a b).Perm (pgs sp la):=by
 unfold pgs;exact(c.map _).append (d.flatMap_right _)
def Gq(p:Int)(s:au):Bool:=decide (p<=s.Page)
def MH(p:Int)(l:a8):Bool:=decide (p<=l.Page)
def addS(h:ab)(k:af)(a:List a7)(p c:Int):ab:={h with Kernel:=k,Free:=a,Spans:=iF (Gq p) h.Spans ⟨p,c,0⟩}
theorem kj{h:ab}{E:List Int}(a:bk h E){n:Int}(j:1<=n)(k:(ay h.Free n).2.2=true):0<=(ay h.Free n).2.1/\(ay h.Free n).2.1+n<=(tbl h).Entries.length/\(∀q:Nat,(ay h.Free n).2.1<=q->(q:Int)<(ay h.Free n).2.1+n->(nth (tbl h).Entries q).Mode=0)/\∀q:Int,(ay h.Free n).2.1<=q->q<(ay h.Free n).2.1+n->q∉pgs h.Spans h.Larges:=by
 obtain⟨r,l,f,t,o⟩:=lB a.rng j k;have g:∀q:Nat,(ay h.Free n).2.1<=q->(q:Int)<(ay h.Free n).2.1+n->(nth (tbl h).Entries q).Mode=0:=λq b c=>by
  have d:q<(tbl h).Entries.length:=by
   have:(ay h.Free n).2.1+n<=((tbl h).Entries.length:Nat):=f;omega
  by_cases e:(nth (tbl h).Entries q).Mode=0
  ·exact e
  ·exact absurd (o q b c) ((a.pg.fre q d).1 e)
 refine⟨l,f,g,λq b c i=>?_⟩;have u:=a.pg.bnd q i;obtain⟨m,rfl⟩:=I2 (show 0<=q by omega);have p:=(a.pg.own m ω).2 i;exact p (g m b c)
theorem bk.addS{h:ab}{E:List Int}{c:Int}(a:bk h E)(H:0<=c/\c<=3)(F:(ay h.Free 1).2.2=true){k:af}(s:zY h.Kernel (ay h.Free 1).2.1 (k,true)):bk (addS h k (ay h.Free 1).1 (ay h.Free 1).2.1 c) E:=by
 obtain⟨U,G,r3,J,r5⟩:=lB a.rng (v4 _) F;obtain⟨-,V,u3,W⟩:=kj a (v4 _) F;generalize (ay h.Free 1).2.1=p at G r3 J r5 V u3 W s |-;generalize (ay h.Free 1).1=fr at U J |-;obtain⟨f,f1,f2,K,f4⟩:=s.yes rfl;have M:=(bn.1 (aB.1 a.ker).2.2.1).2.2;change (tbl h).Entries.length<=32 at M;have X:=a.L;have N:=jw (Gq p) h.Spans ⟨p,c,0⟩;have O:=Bv N (List.Perm.refl h.Larges);have w:(pgs (iF (Gq p) h.Spans ⟨p,c,0⟩) h.Larges).Perm (p::pgs h.Spans h.Larges):=O;have B:p∉pgs h.Spans h.Larges:=W p (v4 _) ω;have P:∀z∈h.Spans,z.Page≠p:=λz g e=>B (by rw[<-e];exact dr g)
 have i:∀b d,iV (iF (Gq p) h.Spans ⟨p,c,0⟩) b d↔iV h.Spans b d:=λb d=>by
  constructor
  ·rintro⟨s,C,A,Q⟩
   rcases cW.1 C with rfl|C
   ·exact absurd A (yE rfl b)
   ·exact⟨s,C,A,Q⟩
  ·rintro⟨s,C,A⟩
   exact⟨s,cW.2 (.inr C),A⟩
 exact {a with
   ker:=s.ker
   rng:=by show bv ((k.Machine.Table.Entries.length:Nat):Int) fr=true;rw[s.len];exact U
   lay:=by
     obtain⟨l1,l2,l3⟩:=dc a.lay;unfold bj;simp only[I0,C0];refine⟨⟨O3.2 λz g=>?_,l2⟩,w.nodup_iff.2 (List.nodup_cons.2 ⟨B,l3⟩)⟩;rcases cW.1 g with rfl|g
     · have R:0<=lim c:=by
         have:=(fZ H).1;obtain rfl|rfl|rfl|rfl:c=0\/c=1\/c=2\/c=3:=ω
         all_goals decide
       exact O0 ⟨G,by show p<=31;omega,H.1,H.2,v4 _,R⟩
     · exact X.sok z g
   srs:=kn (f:=λz:au=>z.Page) (y:=⟨p,c,0⟩) a.srs P
   pg:=by
     refine a.pg.add (p:=p) (n:=1) s.len (by exact V) G (λq Y=>?_) (λq q1 q2=>?_) (λq=>J q) (λq=>?_) (λz g=>?_) (λl hl=>.inl hl)
     · exact(K q).trans (C7 ω)
     · have Y:(q:Int)=p:=ω
       have Z:nth k.Machine.Table.Entries q = ⟨2,(f:Nat)⟩:=(K q).trans (C8 Y);refine⟨T0 aZ.Mode Z,λu S t r=>?_⟩;have fu:nth k.Machine.Table.Entries u=if(u:Int)=p then⟨2,(f:Nat)⟩ else nth h.Kernel.Machine.Table.Entries u:=K u
       change (nth k.Machine.Table.Entries u).Mode≠0 at t;change (nth k.Machine.Table.Entries u).Frame=(nth k.Machine.Table.Entries q).Frame at r;rw[fu]at t r;rw[Z]at r;by_cases eu:(u:Int)=p
       · omega
       · rw[C7 eu]at t r
         exact absurd r (f4 u S t)
     · show q∈pgs (iF (Gq p) h.Spans ⟨p,c,0⟩) h.Larges↔_
       rw[w.mem_iff,List.mem_cons];constructor
       · rintro(e|e)
         · exact .inr ⟨ω,ω⟩
         · exact .inl e
       · rintro(e|e)
         · exact .inr e
         · exact .inl ω
     · rcases cW.1 g with rfl|g
       · exact⟨G,.inr ⟨v4 _,by show p<p+((1:Nat):Int);omega⟩⟩
       · exact⟨(aF (X.sok z g)).1,.inl g⟩
   oow:=λo F=>by
     rcases a.oow o F with⟨z,g,A,Q⟩|A
     · exact .inl ⟨z,cW.2 (.inr g),A,Q⟩
     · exact .inr A
   hca:=λd hd j hj b D=>(i b j).2 (a.hca d hd j hj b D)
   hqu:=λy T=>(i _ _).2 (a.hqu y T)
   hfl:=λb D=>(i _ _).2 (a.hfl b D)
   hin:=λb D=>(i _ _).2 (a.hin b D)
   mem:=λb=>(a.mem b).trans (by
     show kZ h.Spans h.Larges b↔kZ (iF (Gq p) h.Spans ⟨p,c,0⟩) h.Larges b;unfold kZ;rw[i])
   job:=λhm=>by
     obtain⟨j1,⟨y,T,e1⟩,⟨u,S,e2⟩⟩:=a.job hm;exact⟨j1,⟨y,cW.2 (.inr T),e1⟩,⟨u,cW.2 (.inr S),e2⟩⟩}
def addL(h:ab)(k:af)(a:List a7)(p n size t:Int):ab:={h with Kernel:=k,Free:=a,Larges:=iF (MH p) h.Larges ⟨p,n,size⟩,Objs:=iF (Le (16*p)) h.Objs ⟨h.Next,16*p,size,t⟩,Next:=h.Next+1}
theorem bk.addL{h:ab}{E:List Int}{size t:Int}{n:Nat}(a:bk h E)(g:9<=size/\size<=1000)(J:(n:Int)=(size+15) / 16)(i:(ay h.Free n).2.2=true){k:af}(s:mL h.Kernel (ay h.Free n).2.1 n (k,n))(hn:h.Next<1000000)(ht:0<=t/\t<=h.Caches.length - 1) :
  bk (addL h k (ay h.Free n).1 (ay h.Free n).2.1 n size t) E:=by
 have B:(1:Int)<=n:=ω
 obtain⟨V,K,r3,M,r5⟩:=lB a.rng B i;obtain⟨-,W,u3,H⟩:=kj a B i;generalize (ay h.Free n).2.1=p at K r3 M r5 W u3 H s |-;generalize (ay h.Free n).1=fr at V M |-;have N:=(bn.1 (aB.1 a.ker).2.2.1).2.2;change (tbl h).Entries.length<=32 at N;have O:=a.L;have P:=jw (MH p) h.Larges ⟨p,n,size⟩;have C:=jw (Le (16*p)) h.Objs ⟨h.Next,16*p,size,t⟩;have Q:lpgs ⟨p,n,size⟩ ((n:Nat):Int).toNat=lpgs ⟨p,n,size⟩ n:=by rw[C2]
 have D:(pgs h.Spans (iF (MH p) h.Larges ⟨p,n,size⟩)).Perm (lpgs ⟨p,n,size⟩ n++pgs h.Spans h.Larges):=by
  refine(Bv (List.Perm.refl h.Spans) P).trans ?_;unfold pgs;rw[z5];simp only[Q];rw[<-R4,<-R4];exact List.perm_append_comm.append_right _
 have u:∀q,q∈lpgs ⟨p,n,size⟩ n↔p<=q/\q<p+n:=λq=>by
  rw[dd];constructor
  ·rintro⟨j,hj,rfl⟩;exact⟨by show p<=p+(j:Int);omega,by show p+(j:Int)<_;omega⟩
  ·rintro⟨X,Y⟩;exact⟨(q - p).toNat,ω,by show q=p+_;omega⟩
 have R:(lpgs ⟨p,n,size⟩ n).Nodup:=by
  unfold lpgs List.Nodup;rw[List.pairwise_map];exact List.nodup_range.imp λr e=>r (by simp only at e;omega)
 have r:∀z∈h.Larges,z.Page≠p:=λz g e=>H p (v4 _) ω (by rw[<-e];exact fe g (dd.2 ⟨0,by have:=aU (O.lok z g);omega,ω⟩))
 have S:¬kZ h.Spans h.Larges (16*p):=by
  rintro(⟨z,g,d,-⟩|⟨l,c,e⟩)
  ·exact H p (v4 _) ω (by rw[show p=z.Page by have a1:=d.1;have a2:=d.2.1;omega];exact dr g)
  ·exact r l c ω
 have F:(16*p)∉E++holders h:=λT=>S ((a.mem _).1 T)
 have U:∀o∈h.Objs,o.Addr≠16*p:=λo i e=>F (O2.2 (.inr (by unfold holders;simp only[O2];exact .inl (.inl (.inl (U3.2 ⟨o,i,e⟩))))))
 have Z:(E++holders (Ab.addL h k fr p n size t)).Perm ((16*p)::(E++holders h)):=by
  have h0:=C.map (·.Addr);refine List.perm_iff_count.2 λb=>?_
  have d:=h0.count_eq b;simp only[V4,List.count_cons]at d;simp only[holders,ch,Ab.addL,W4,List.count_cons];omega
 exact {a with
   ker:=s.ker
   rng:=by show bv ((k.Machine.Table.Entries.length:Nat):Int) fr=true;rw[s.len];exact V
   lay:=by
     obtain⟨l1,l2,l3⟩:=dc a.lay;unfold bj;simp only[I0,C0];refine⟨⟨l1,O3.2 λz w=>?_⟩,D.nodup_iff.2 (List.nodup_append.2 ⟨R,l3,λq G b hb e=>?_⟩)⟩
     · rcases cW.1 w with rfl|w
       · exact O0 ⟨g.1,g.2,J,K,by show p<=32 - (n:Int);omega⟩
       · exact O.lok z w
     · subst e
       have:=(u q).1 G;exact H q this.1 this.2 hb
   srl:=kn (f:=λz:a8=>z.Page) (y:=⟨p,n,size⟩) a.srl r
   pg:=by
     refine a.pg.add (p:=p) (n:=n) s.len (by exact W) K (λq G=>s.out q G) (λq X Y=>s.new q X Y) (λq=>M q) (λq=>?_) (λz g=>⟨(aF (O.sok z g)).1,.inl g⟩) (λl c=>?_)
     · show q∈pgs h.Spans (iF (MH p) h.Larges ⟨p,n,size⟩)↔_
       rw[D.mem_iff,O2,u];exact Or.comm
     · rcases cW.1 c with rfl|c
       · exact .inr λq G=>(u q).1 (by simpa using G)
       · exact .inl c
   nums:=yp a.nums hn
   osr:=kn (f:=λo:bC=>o.Addr) (y:=⟨h.Next,16*p,size,t⟩) a.osr U
   onu:=λo i=>by
     rcases cW.1 i with rfl|i
     · have:=a.nums
       unfold cj at this;rw[C0]at this;exact⟨by show 1<=h.Next;omega,by show h.Next<=h.Next+1 - 1;omega,ht⟩
     · have:=a.onu o i
       exact⟨this.1,by show o.Id<=h.Next+1 - 1;omega,this.2.2⟩
   oid:=by
     show((iF (Le (16*p)) h.Objs ⟨h.Next,16*p,size,t⟩).map (·.Id)).Nodup;rw[(C.map _).nodup_iff,V4];refine List.nodup_cons.2 ⟨λT=>?_,a.oid⟩;obtain⟨o,i,e⟩:=U3.1 T;have:=(a.onu o i).2.1;simp only at e;omega
   oow:=λo A=>by
     rcases cW.1 A with rfl|A
     · exact .inr ⟨_,cW.2 (.inl rfl),rfl,rfl⟩
     · rcases a.oow o A with d|⟨l,c,d⟩
       · exact .inl d
       · exact .inr ⟨l,cW.2 (.inr c),d⟩
   nd:=Z.nodup_iff.2 (List.nodup_cons.2 ⟨F,a.nd⟩)
   mem:=λb=>by
     rw[Z.mem_iff,List.mem_cons,a.mem b];show _↔kZ h.Spans (iF (MH p) h.Larges ⟨p,n,size⟩) b;unfold kZ;constructor
     · rintro(rfl|d|⟨l,c,e⟩)
       · exact .inr ⟨_,cW.2 (.inl rfl),rfl⟩
       · exact .inl d
       · exact .inr ⟨l,cW.2 (.inr c),e⟩
     · rintro(d|⟨l,c,e⟩)
       · exact .inr (.inl d)
       · rcases cW.1 c with rfl|c
         · exact .inl e
         · exact .inr (.inr ⟨l,c,e⟩)}
structure JK(h h':ab):Prop where
 job:h'.Job=h.Job
 msh:h'.Meshing=h.Meshing
 sp:∀s∈h.Spans,gk h s.Page=true->∃s'∈h'.Spans,s'.Page=s.Page/\∀u,meshable s u=true->meshable s' u=true
 ent:∀q:Nat,(nth (tbl h').Entries q).Mode≠0->((nth (tbl h).Entries q).Mode≠0/\(nth (tbl h').Entries q).Frame=(nth (tbl h).Entries q).Frame)\/∀u:Nat,(nth (tbl h').Entries u).Mode≠0->(nth (tbl h').Entries u).Frame=(nth (tbl h').Entries q).Frame->u=q
theorem JK.refl(h:ab):JK h h:=⟨rfl,rfl,λs a _=>⟨s,a,rfl,λ_ z=>z⟩,λ_ b=>.inl ⟨b,rfl⟩⟩
theorem JK.pg{h h':ab}(k:JK h h')(p:Int):gk h' p=gk h p:=by unfold gk;rw[k.job,k.msh]
theorem JK.trans{h h1 g:ab}(a:JK h h1)(b:JK h1 g):JK h g:=by
 refine⟨b.job.trans a.job,b.msh.trans a.msh,λs o i=>?_,λq j=>?_⟩
 ·obtain⟨p,r,k,t⟩:=a.sp s o i
  obtain⟨w,y,A,B⟩:=b.sp p r (by rw[a.pg,k];exact i);exact⟨w,y,A.trans k,λu c=>B u (t u c)⟩
 ·rcases b.ent q j with⟨d,l⟩|d
  ·rcases a.ent q d with⟨e,C⟩|e
   ·exact .inl ⟨e,l.trans C⟩
   ·refine .inr λu c n=>?_
    rcases b.ent u c with⟨f,D⟩|f
    ·exact e u f (by rw[<-D,<-l];exact n)
    ·exact(f q j n.symm).symm
  ·exact .inr d
theorem mY.keep{h h':ab}{p:Int}(f:0<=p)(d:(nth (tbl h').Entries p.toNat).Mode≠0)(g:mY (tbl h) p)(k:JK h h'):mY (tbl h') p:=λq e c=>by
 rcases k.ent p.toNat d with⟨n,i⟩|a
 ·rcases k.ent q e with⟨j,l⟩|b
  ·exact g q j (by rw[<-l,c,i])
  ·have:=b p.toNat d c.symm;omega
 ·have:=a q e c;omega
theorem bk.mapped{h:ab}{E:List Int}(a:bk h E){s:au}(b:s∈h.Spans):0<=s.Page/\s.Page<(tbl h).Entries.length/\(nth (tbl h).Entries s.Page.toNat).Mode≠0:=by
 have c:=(aF (a.L.sok s b)).1;have d:=a.pg.bnd _ (dr (la:=h.Larges) b);refine⟨c,d,(a.pg.own s.Page.toNat ω).2 ?_⟩;rw[show((s.Page.toNat:Nat):Int)=s.Page by omega];exact dr b
theorem JI.keep{h h':ab}{E:List Int}(l:JI h)(p:bk h' E)(k:JK h h'):JI h':=by
 have d:h.Meshing=true->∃a∈h'.Spans,∃b∈h'.Spans,a.Page=h.Job.Plan.Keep/\b.Page=h.Job.Plan.Move/\meshable a b=true:=λc=>by
  obtain⟨a,n,b,o,f,g,e⟩:=l.sp c;obtain⟨q,t,u,w⟩:=k.sp a n (by unfold gk;rw[c,f];simp);obtain⟨y,A,B,C⟩:=k.sp b o (by unfold gk;rw[c,g];simp);refine⟨q,t,y,A,u.trans f,B.trans g,?_⟩;have r:=w b e;rw[iv]at r |-;exact C q r
 refine⟨λc=>?_,λc=>?_,λc=>?_,λc=>?_⟩
 ·rw[k.msh]at c;rw[k.job];exact l.ph c
 ·rw[k.msh]at c;rw[k.job];exact d c
 ·rw[k.msh]at c
  obtain⟨a,n,b,o,f,g,e⟩:=d c;obtain⟨i,D,j⟩:=p.mapped n;rw[k.job];rw[f]at i j;exact(l.sk c).keep i j k
 ·rw[k.msh]at c
  obtain⟨a,n,b,o,f,g,e⟩:=d c;obtain⟨i,D,j⟩:=p.mapped o;rw[k.job];rw[g]at i j;exact(l.sm c).keep i j k
theorem JK.less{h h':ab}(h1:h'.Job=h.Job)(c:h'.Meshing=h.Meshing)(d:h'.Spans=h.Spans)(b:∀q:Nat,(nth (tbl h').Entries q).Mode≠0->nth (tbl h').Entries q=nth (tbl h).Entries q):JK h h':=
 ⟨h1,c,λs e _=>⟨s,by rw[d];exact e,rfl,λ_ z=>z⟩,λq a=>.inl ⟨by rw[<-b q a];exact a,by rw[b q a]⟩⟩
theorem JK.eq{h h':ab}(h1:h'.Job=h.Job)(a:h'.Meshing=h.Meshing)(b:h'.Spans=h.Spans)(c:tbl h'=tbl h):JK h h':=.less h1 a b λq _=>by rw[c]
theorem JK.clrS{h:ab}{E:List Int}{a:Int}{i:Nat}(f:bk h E)(c:i<h.Spans.length)(d:eM (nth h.Spans i) a):JK h (clrS h i a):=by
 refine⟨rfl,rfl,λs g _=>?_,λq k=>.inl ⟨k,rfl⟩⟩;obtain⟨j,l,rfl⟩:=bf g;by_cases e:j=i
 ·subst e
  have b:=f.L.sok _ (am c);exact⟨_,gT _ c,rfl,λu n=>rQ b (qT b ⟨d.1,d.2.1⟩) n⟩
 ·exact⟨_,iT _ l e,rfl,λ_ z=>z⟩
theorem JK.giveP{h:ab}{E:List Int}{i:Nat}(d:bk h E)(f:i<h.Spans.length)(c:gk h (nth h.Spans i).Page=false):JK h (giveP h i):=by
 obtain⟨g,k,-⟩:=d.mapped (am f);refine⟨rfl,rfl,λs l a=>?_,λq b=>.inl ?_⟩
 ·obtain⟨j,n,rfl⟩:=bf l
  exact⟨_,dX.2 ⟨j,n,λe=>(by subst e;rw[c]at a;cases a),rfl⟩,rfl,λ_ z=>z⟩
 ·have o:=uN d.ker (p:=(nth h.Spans i).Page) ⟨g,k⟩ q
  change (nth (d4 h.Kernel (nth h.Spans i).Page).Machine.Table.Entries q).Mode≠0 at b;show(nth h.Kernel.Machine.Table.Entries q).Mode≠0/\(nth (d4 h.Kernel (nth h.Spans i).Page).Machine.Table.Entries q).Frame=(nth h.Kernel.Machine.Table.Entries q).Frame;rw[o]at b |-;split at b
  ·exact absurd rfl b
  ·rename_i e
   rw[C7 e];exact⟨b,rfl⟩
theorem JK.freeS{h:ab}{E:List Int}{a:Int}{i:Nat}(c:bk h (a::E))(b:i<h.Spans.length)(d:eM (nth h.Spans i) a):JK h (freeS h i a):=by
 have g:=c.give b d;have f:=JK.clrS c b d;unfold Ab.freeS;split
 ·rename_i e
  have j:nth (Ab.clrS h i a).Spans i=mn (nth h.Spans i) (dM (nth h.Spans i) a):=by unfold Ab.clrS;simp only[bS,true_and];rw[C8 b]
  exact f.trans (JK.giveP (h:=Ab.clrS h i a) g (by unfold Ab.clrS;simp only[C1];exact b) (by rw[j];exact e.2))
 ·exact f
theorem JK.freeA{h:ab}{E:List Int}{a:Int}(b:bk h (a::E)):JK h (freeA h a):=by
 obtain⟨c,d,-⟩:=b.at (b.hin a (O1 ..));exact JK.freeS b c d
theorem JK.recyc{h:ab}{E:List Int}{a:Int}{t:Nat}(b:bk h (a::E)):JK h (recyc t h a):=by
 unfold Ab.recyc;split
 ·exact JK.eq rfl rfl rfl rfl
 ·exact JK.freeA b
theorem JK.recycs{t:Nat}{E:List Int} : ∀{az:List Int}{h:ab},bk h (az++E)->t<h.Caches.length->JK h (recycs t h az)
 | [],h,_,_=>JK.refl h
 | a::az,h,b,c=>(JK.recyc (t:=t) b).trans (JK.recycs (az:=az) (h:=Ab.recyc t h a) (b.recyc c) (by rw[(pf t h a).1];exact c))
theorem JK.freeAs{E:List Int} : ∀{az:List Int}{h:ab},bk h (az++E)->JK h (freeAs h az)
 | [],h,_=>JK.refl h
 | a::az,h,b=>(JK.freeA b).trans (JK.freeAs (az:=az) (h:=Ab.freeA h a) b.freeA)
theorem JK.flushN{t:Nat}{h:ab}(c:bk h [])(d:t<h.Caches.length):∀{k:Nat},k<=4->JK h (flushN t h k).1
 | 0,_=>JK.refl h
 | k+1,e=>by
  obtain⟨h1,f,-⟩:=jE c d (k:=k) ω;have a:t<(Ab.flushN t h k).1.Caches.length:=ω
  have b:k<(nth (Ab.flushN t h k).1.Caches t).Lists.length:=by rw[(dZ (h1.cach _ (am a))).1];omega
  exact JK.trans (h1:=Ab.spilt (Ab.flushN t h k).1 t k) ((JK.flushN c d (k:=k) ω).trans (JK.eq rfl rfl rfl rfl)) (JK.freeAs (h1.spilt a b))
theorem zL{h:ab}{E:List Int}(a:bk h E){k:Nat}(b:k<h.Larges.length):0<=(nth h.Larges k).Page/\(nth h.Larges k).Page+((nth h.Larges k).Pages.toNat:Nat)<=(tbl h).Entries.length:=by
 have c:=aU (a.L.lok _ (am b));have d:=a.pg.bnd _ (fe (sp:=h.Spans) (am b) (dd.2 ⟨(nth h.Larges k).Pages.toNat - 1,ω,rfl⟩));exact⟨ω,ω⟩
theorem JK.freeL{h:ab}{E:List Int}{i k:Nat}(b:bk h E)(c:k<h.Larges.length):JK h (freeL h i k):=by
 obtain⟨d,f⟩:=zL b c;refine JK.less rfl rfl rfl λq a=>?_
 have g:=kV b.ker d (nth h.Larges k).Pages.toNat f q;change (nth (dC h.Kernel (nth h.Larges k).Page (nth h.Larges k).Pages.toNat).Machine.Table.Entries q).Mode≠0 at a;show nth (dC h.Kernel (nth h.Larges k).Page (nth h.Larges k).Pages.toNat).Machine.Table.Entries q=nth h.Kernel.Machine.Table.Entries q;rw[g]at a |-;split at a
 ·exact absurd rfl a
 ·rename_i e;rw[C7 e]
theorem JK.freeOb{h:ab}{t i:Nat}(a:bk h [])(c:i<h.Objs.length)(d:t<h.Caches.length):JK h (freeOb h t i).1:=by
 unfold Ab.freeOb;split
 ·rename_i b
  obtain⟨l,e,h1,-⟩:=(eN a (am c)).1 b;exact JK.freeL a (yL e h1).1
 ·rename_i b
  split
  ·exact JK.refl h
  ·have h1:=a.inQuar c b
   exact JK.trans (h1:=Ab.inQuar h i) (JK.eq rfl rfl rfl rfl) (JK.recycs (E:=[]) (by rw[List.append_nil];exact h1) d)
theorem JK.take{h:ab}{i:Nat}{k sd:Int}(b:gk h (nth h.Spans i).Page=false):JK h {h with Seed:=sd,Spans:=h.Spans.set i (pA (nth h.Spans i) k)}:=by
 refine⟨rfl,rfl,λs c a=>?_,λq d=>.inl ⟨d,rfl⟩⟩;obtain⟨j,f,rfl⟩:=bf c;exact⟨_,iT _ f λe=>(by subst e;rw[b]at a;cases a),rfl,λ_ z=>z⟩
theorem Ai{t:aG}{q:Nat}(h:(nth t.Entries q).Mode≠0):q<t.Entries.length:=by
 by_cases e:q<t.Entries.length
 ·exact e
 ·exfalso
  apply h;unfold nth;rw[Z1,W1 ω]
  rfl
theorem JK.addS{h:ab}{k:af}{l:List a7}{p c:Int}(s:zY h.Kernel p (k,true)):JK h (addS h k l p c):=by
 obtain⟨f,t,w,d,n⟩:=s.yes rfl;have b:k.Machine.Table.Entries.length=h.Kernel.Machine.Table.Entries.length:=s.len;refine⟨rfl,rfl,λz o _=>⟨z,cW.2 (.inr o),rfl,λ_ y=>y⟩,λq g=>?_⟩;change (nth k.Machine.Table.Entries q).Mode≠0 at g;show((nth h.Kernel.Machine.Table.Entries q).Mode≠0/\(nth k.Machine.Table.Entries q).Frame=(nth h.Kernel.Machine.Table.Entries q).Frame)\/∀u:Nat,(nth k.Machine.Table.Entries u).Mode≠0->(nth k.Machine.Table.Entries u).Frame=(nth k.Machine.Table.Entries q).Frame->u=q
 by_cases e:(q:Int)=p
 ·refine .inr λu i a=>?_
  have j:=Ai i;have f3u:=d u;have f3q:=d q;simp only at f3u f3q;rw[C8 e]at f3q;rw[f3q]at a;by_cases r:(u:Int)=p
  ·omega
  ·rw[C7 r]at f3u
   rw[f3u]at i a;exact absurd a (n u (by rw[<-b];exact j) i)
 ·have f3q:=d q
  simp only at f3q;rw[C7 e]at f3q;rw[f3q]at g |-;exact .inl ⟨g,rfl⟩
theorem JK.addL{h:ab}{k:af}{g:List a7}{p size t:Int}{n:Nat}(s:mL h.Kernel p n (k,n)):JK h (addL h k g p n size t):=by
 have a:k.Machine.Table.Entries.length=h.Kernel.Machine.Table.Entries.length:=s.len;refine⟨rfl,rfl,λz i _=>⟨z,i,rfl,λ_ y=>y⟩,λq b=>?_⟩;change (nth k.Machine.Table.Entries q).Mode≠0 at b;show((nth h.Kernel.Machine.Table.Entries q).Mode≠0/\(nth k.Machine.Table.Entries q).Frame=(nth h.Kernel.Machine.Table.Entries q).Frame)\/∀u:Nat,(nth k.Machine.Table.Entries u).Mode≠0->(nth k.Machine.Table.Entries u).Frame=(nth k.Machine.Table.Entries q).Frame->u=q
 by_cases e:p<=q/\(q:Int)<p+n
 ·exact .inr λu d c=>(s.new q e.1 e.2).2 u (by rw[<-a];exact Ai d) d c
 ·have f:=s.out q e
  simp only at f;rw[f]at b |-;exact .inl ⟨b,rfl⟩
theorem rq(h:ab):∀{n:Nat},n<=h.Spans.length->∀s∈ku h n,(aQ h s.Page).length=1
 | 0,_,s,a=>by cases a
 | n+1,b,s,a=>by
  unfold ku at a;split at a
  ·rename_i e
   rcases O2.1 a with a|a
   ·exact rq h ω s a
   ·unfold yj at e
    simp only[I0,C0]at e;rw[Z0.1 a];exact e.2
  ·exact rq h ω s a
theorem bk.sole{h:ab}{E:List Int}(e:bk h E){s:au}(f:s∈h.Spans)(h1:(aQ h s.Page).length=1):mY (tbl h) s.Page:=λq a g=>by
 obtain⟨k,l,b⟩:=e.mapped f;have i:s.Page=((s.Page.toNat:Nat):Int):=ω
 rw[i,eg (by show s.Page.toNat<(tbl h).Entries.length;omega) b]at h1;obtain⟨z,j⟩:=List.length_eq_one_iff.1 h1;have c:(s.Page.toNat:Int)∈pagesOn (tbl h) (nth (tbl h).Entries s.Page.toNat).Frame:=du.2 ⟨ω,b,rfl⟩;have d:(q:Int)∈pagesOn (tbl h) (nth (tbl h).Entries s.Page.toNat).Frame:=du.2 ⟨Ai a,a,g⟩;rw[j]at c d;simp only[Z0]at c d;omega
theorem E0{h:ab}(l:bk h [])(n:h.Meshing=false):bk (started h).1 []/\JI (started h).1:=by
 have G:=l.nums;unfold cj at G;rw[C0]at G;have M:=(kT (bM h).length (show 0<=h.Seed/\h.Seed<=1073741823 by omega) ((bM h).length - 1)).2;have o:=pF (bM h) (show 0<=h.Seed/\h.Seed<=1073741823 by omega);have c:cj {h with Seed:=(shuf (bM h).length h.Seed).2} = true:=by
  unfold cj;rw[C0];unfold shuf;simp only;omega
 cases p:lW (bM h) h.Seed with
 | nil=>
  have f:Ab.started h=({h with Seed:=(shuf (bM h).length h.Seed).2},false):=by unfold Ab.started;rw[p]
  rw[f];exact⟨{l with nums:=c},⟨λe=>by simp[n]at e,λe=>by simp[n]at e,λe=>by simp[n]at e,λe=>by simp[n]at e⟩⟩
 | cons q R=>
  obtain⟨S,T,g⟩:=o q (by rw[p];exact O1 ..);have f:Ab.started h=({h with Seed:=(shuf (bM h).length h.Seed).2,Meshing:=true,Job:=vc (d2 (nth (bM h) q.A.toNat) (nth (bM h) q.B.toNat))},true):=by unfold Ab.started;rw[p]
  rw[f];have d:∀s∈bM h,s∈h.Spans/\mY (tbl h) s.Page:=λs N=>by
   have H:=List.mem_of_mem_take N;have J:=nP h (Q2 _) s H;exact⟨J,l.sole J (rq h (Q2 _) s H)⟩
  have j:=d _ (am (xs:=bM h) (i:=q.A.toNat) ω);have k:=d _ (am (xs:=bM h) (i:=q.B.toNat) ω);generalize nth (bM h) q.A.toNat=a at g j |-;generalize nth (bM h) q.B.toNat=b at g k |-;obtain⟨O,U,V⟩:=rv g;have r:(d2 a b).Keep=a.Page/\(d2 a b).Move=b.Page\/(d2 a b).Keep=b.Page/\(d2 a b).Move=a.Page:=by
   unfold d2;split
   ·exact .inr ⟨rfl,rfl⟩
   ·exact .inl ⟨rfl,rfl⟩
  have t:iP (vc (d2 a b))=true:=dP.2 ⟨O,by show(0:Int)<=0;omega,by show(0:Int)<=5;omega,by show(0:Int)<=0;omega,by show(0:Int)<=(((d2 a b).Cells.length:Nat):Int);omega⟩;have u:∃x∈h.Spans,∃y∈h.Spans,x.Page=(d2 a b).Keep/\y.Page=(d2 a b).Move/\meshable x y=true/\mY (tbl h) x.Page/\mY (tbl h) y.Page:=by
   rcases r with⟨w,C⟩|⟨w,C⟩
   ·exact⟨a,j.1,b,k.1,w.symm,C.symm,g,j.2,k.2⟩
   ·exact⟨b,k.1,a,j.1,w.symm,C.symm,by rw[iv];exact g,k.2,j.2⟩
  obtain⟨x,K,y,L,D,E,F,P,Q⟩:=u;exact⟨{l with nums:=c,job:=λ_=>⟨t,⟨x,K,D⟩,⟨y,L,E⟩⟩,noj:=λe=>by cases e},⟨λ_=>⟨by show(0:Int)<=0;omega,by show(0:Int)<=3;omega⟩,λ_=>⟨x,K,y,L,D,E,F⟩,λ_=>by show mY (tbl h) (d2 a b).Keep;rw[<-D];exact P,λ_=>by show mY (tbl h) (d2 a b).Move;rw[<-E];exact Q⟩⟩
def fp(m:aH)(f:Nat):aH:=⟨m.Buffers.set f ((nth m.Buffers f).drop 1),m.Inbox.set (nth (nth m.Buffers f) 0).To.toNat (nth m.Inbox (nth (nth m.Buffers f) 0).To.toNat++[(nth (nth m.Buffers f) 0).Addr])⟩
def jH(m:aH)(t:Nat):aH:=⟨m.Buffers,m.Inbox.set t []⟩
def gi(m:aH)(f:Nat)(p:cQ):aH:=⟨m.Buffers.set f (nth m.Buffers f++[p]),m.Inbox⟩
theorem d3{m:aH} : bD m=true↔(1<=m.Buffers.length/\m.Buffers.length<=4/\m.Inbox.length=m.Buffers.length)/\(∀i,i<m.Buffers.length->(∀p∈nth m.Buffers i,0<=p.To/\p.To<=(m.Buffers.length:Int) - 1/\0<=p.Addr)/\∀a∈nth m.Inbox i,0<=a)/\bp m m.Buffers.length<=30:=by
 unfold bD;simp only[I0,C0,cr,fW,O3,lX,Mo];exact and_assoc
theorem mU(m:aH)(f t:Nat)(x:List cQ)(y:List Int)(g:f<m.Buffers.length)(h:t<m.Inbox.length):∀n:Nat,bp ⟨m.Buffers.set f x,m.Inbox.set t y⟩ n=bp m n+(if f<n then(x.length:Int) - ((nth m.Buffers f).length:Nat) else 0)+(if t<n then(y.length:Int) - ((nth m.Inbox t).length:Nat) else 0)
 | 0=>by simp[bp]
 | n+1=>by
  have i:=mU m f t x y g h n;have j:(nth (m.Buffers.set f x) n).length=if f=n then x.length else(nth m.Buffers n).length:=by
   rw[bS];by_cases e:f=n
   ·rw[C8 ⟨e,ω⟩,C8 e]
   ·rw[C7 λz=>e z.1,C7 e]
  have k:(nth (m.Inbox.set t y) n).length=if t=n then y.length else(nth m.Inbox n).length:=by
   rw[bS];by_cases e:t=n
   ·rw[C8 ⟨e,ω⟩,C8 e]
   ·rw[C7 λz=>e z.1,C7 e]
  simp only[bp,i,j,k];by_cases d:f=n
  ·subst d
   by_cases b:t=f
   ·subst b
    simp only[if_true,Nat.lt_irrefl,if_false,Nat.lt_succ_self];omega
   ·simp only[if_true,Nat.lt_irrefl,if_false,Nat.lt_succ_self,C7 b]
    by_cases a:t<f
    ·rw[C8 a,C8 (show t<f+1 by omega)];omega
    ·rw[C7 a,C7 (show ¬t<f+1 by omega)];omega
  ·by_cases b:t=n
   ·subst b
    simp only[if_true,Nat.lt_irrefl,if_false,Nat.lt_succ_self,C7 d];by_cases a:f<t
    ·rw[C8 a,C8 (show f<t+1 by omega)];omega
    ·rw[C7 a,C7 (show ¬f<t+1 by omega)];omega
   ·simp only[C7 d,C7 b]
    by_cases a:f<n
    ·rw[C8 a,C8 (show f<n+1 by omega)]
     by_cases c:t<n
     ·rw[C8 c,C8 (show t<n+1 by omega)];omega
     ·rw[C7 c,C7 (show ¬t<n+1 by omega)];omega
    ·rw[C7 a,C7 (show ¬f<n+1 by omega)]
     by_cases c:t<n
     ·rw[C8 c,C8 (show t<n+1 by omega)];omega
     ·rw[C7 c,C7 (show ¬t<n+1 by omega)];omega
theorem zi{α:Type}[Inhabited α]{xs:List α}{i:Nat}(h:i<xs.length):xs.set i (nth xs i)=xs:=by
 rw[<-V1.1 (ah h) |>.2];exact List.set_getElem_self h
theorem Dk{m:aH}(h:bD m=true){f:Nat}(d:f<m.Buffers.length)(n:0<(nth m.Buffers f).length):bD (fp m f)=true:=by
 obtain⟨⟨o,q,r⟩,g,y⟩:=d3.1 h;obtain⟨t,A⟩:=g f d;have c:=t _ (am n);have u:(nth (nth m.Buffers f) 0).To.toNat<m.Inbox.length:=ω
 refine d3.2 ⟨⟨?_,?_,?_⟩,λi j=>?_,?_⟩
 ·simp only[fp,C1];exact o
 ·simp only[fp,C1];exact q
 ·simp only[fp,C1];exact r
 ·simp only[fp,C1]at j |-
  obtain⟨k,l⟩:=g i j;simp only[bS];refine⟨λp c=>?_,λa b=>?_⟩
  ·split at c
   ·rename_i e;rw[<-e.1]at k
    refine(g f d).1 p (List.mem_of_mem_drop c)
   ·exact k p c
  ·split at b
   ·rename_i e
    rcases O2.1 b with b|b
    ·rw[e.1]at b;exact l a b
    ·rw[Z0.1 b];exact c.2.2
   ·exact l a b
 ·have w:=mU m f (nth (nth m.Buffers f) 0).To.toNat ((nth m.Buffers f).drop 1) (nth m.Inbox (nth (nth m.Buffers f) 0).To.toNat++[(nth (nth m.Buffers f) 0).Addr]) d u m.Buffers.length
  simp only[fp,C1];rw[w,C8 d,C8 ω,W2,U2,List.length_singleton];omega
theorem L0{m:aH}(h:bD m=true){t:Nat}(d:t<m.Inbox.length):bD (jH m t)=true:=by
 obtain⟨⟨e,f,g⟩,j,o⟩:=d3.1 h;refine d3.2 ⟨⟨e,f,?_⟩,λi k=>?_,?_⟩
 ·simp only[jH,C1];exact g
 ·obtain⟨l,n⟩:=j i k
  simp only[jH,bS];refine⟨l,λa b=>?_⟩;split at b
  ·cases b
  ·exact n a b
 ·have c:=mU m t t (nth m.Buffers t) [] ω d m.Buffers.length
  rw[zi ω]at c;show bp ⟨m.Buffers,m.Inbox.set t []⟩ m.Buffers.length<=30;rw[c,C8 ω,C8 ω,List.length_nil];omega
theorem jz{m:aH}(h:bD m=true)(b:Int):(aK m).count b=(m.Buffers.flatMap λl=>l.map (·.Addr)).count b+(m.Inbox.flatMap λx=>x).count b:=by
 unfold aK;rw[C8 h,W4,jL]
theorem bk.mailed{h:ab}{E c:List Int}{m:aH}(d:bk h E)(i:bD m=true)(j:m.Buffers.length=h.Mail.Buffers.length)(k:∀b,c.count b+(aK m).count b=E.count b+(aK h.Mail).count b)(f:∀a,a∈c\/a∈aK m->iV h.Spans a (-1)):bk {h with Mail:=m} c:=by
 have g:(E++holders h).Perm (c++holders {h with Mail:=m}):=by
  refine List.perm_iff_count.2 λb=>?_
  have l:=k b;simp only[holders,ch,W4];omega
 exact {d with
   mail:=i
   nc:=d.nc.trans j.symm
   hfl:=λa e=>f a (.inr e)
   hin:=λa e=>f a (.inl e)
   nd:=g.nodup_iff.1 d.nd
   mem:=λb=>by rw[<-g.mem_iff];exact d.mem b}
theorem DL{h:ab}{E d:List Int}{m:aH}(f:bk h E)(g:∀b,d.count b+(aK m).count b=E.count b+(aK h.Mail).count b):∀a,a∈d\/a∈aK m->iV h.Spans a (-1):=λa c=>by
 have i:=g a;have j:0<d.count a+(aK m).count a:=by
  rcases c with c|c
  ·have:=List.count_pos_iff.2 c;omega
  ·have:=List.count_pos_iff.2 c;omega
 by_cases e:0<E.count a
 ·exact f.hin a (List.count_pos_iff.1 e)
 ·exact f.hfl a (List.count_pos_iff.1 ω)
theorem bk.deliv{h:ab}{E:List Int}{f:Nat}(a:bk h E)(e:f<h.Mail.Buffers.length)(d:0<(nth h.Mail.Buffers f).length):bk {h with Mail:=fp h.Mail f} E:=by
 have c:=Dk a.mail e d;obtain⟨⟨q,r,t⟩,j,u⟩:=d3.1 a.mail;have k:=(j f e).1 _ (am d);have g:∀b,E.count b+(aK (fp h.Mail f)).count b=E.count b+(aK h.Mail).count b:=λb=>by
  rw[jz c,jz a.mail];have i:=gS (λl:List cQ=>l.map (·.Addr)) b h.Mail.Buffers f ((nth h.Mail.Buffers f).drop 1) e;have n:=gS (λx:List Int=>x) b h.Mail.Inbox (nth (nth h.Mail.Buffers f) 0).To.toNat (nth h.Mail.Inbox (nth (nth h.Mail.Buffers f) 0).To.toNat++[(nth (nth h.Mail.Buffers f) 0).Addr]) ω;have o:(nth h.Mail.Buffers f).map (·.Addr)=(nth (nth h.Mail.Buffers f) 0).Addr::((nth h.Mail.Buffers f).drop 1).map (·.Addr):=by
   generalize nth h.Mail.Buffers f=l at d
   match l,d with
   | p::l,_=>rfl
  simp only[fp];rw[o]at i;simp only[List.count_cons]at i;simp only[W4,List.count_singleton]at n;omega
 exact a.mailed c (by simp[fp]) g (DL a g)
theorem bk.coll{h:ab}{E:List Int}{t:Nat}(c:bk h E)(d:t<h.Mail.Inbox.length):bk {h with Mail:=jH h.Mail t} (nth h.Mail.Inbox t++E):=by
 have a:=L0 c.mail d;have e:∀b,(nth h.Mail.Inbox t++E).count b+(aK (jH h.Mail t)).count b=E.count b+(aK h.Mail).count b:=λb=>by
  rw[jz a,jz c.mail];have f:=gS (λx:List Int=>x) b h.Mail.Inbox t [] d;simp only[List.count_nil]at f;simp only[jH,W4];omega
 exact c.mailed a rfl e (DL c e)
theorem bk.send{h:ab}{E:List Int}{f:Nat}{p:cQ}(c:bk h (p.Addr::E))(e:f<h.Mail.Buffers.length)(a:bD (gi h.Mail f p)=true):bk {h with Mail:=gi h.Mail f p} E:=by
 have d:∀b,E.count b+(aK (gi h.Mail f p)).count b=(p.Addr::E).count b+(aK h.Mail).count b:=λb=>by
  rw[jz a,jz c.mail];have g:=gS (λl:List cQ=>l.map (·.Addr)) b h.Mail.Buffers f (nth h.Mail.Buffers f++[p]) e;simp only[T4,V4,List.map_nil,W4,List.count_singleton]at g;simp only[gi,List.count_cons];omega
 exact c.mailed a (by simp[gi]) d (DL c d)
def pX(now:Int):List aL->Nat
 | []=>0
 | x::xs=>if x.Since<now - 100 then pX now xs+1 else 0
def aged(h:ab)(n:Int):ab:={h with Clock:=h.Clock+n,Quar:=⟨h.Quar.Room,h.Quar.Lst.drop (pX (h.Clock+n) h.Quar.Lst)⟩}
def lZ(h:ab)(n:Int):List Int:=(h.Quar.Lst.take (pX (h.Clock+n) h.Quar.Lst)).map (·.Addr)
def tick(h:ab)(n:Int):ab:=freeAs (aged h n) (lZ h n)
theorem mC(x:aL)(xs:List aL):∀n,quarCells (x::xs) (n+1)=csz x.Class+quarCells xs n
 | 0=>by simp only[quarCells];show 0+csz x.Class=csz x.Class+0;omega
 | n+1=>by
  rw[ig,mC x xs n,ig];show csz x.Class+quarCells xs n+csz (nth xs n).Class=_;omega
theorem NC(k:Int):0<=csz k:=by
 unfold csz;split
 ·exact Int.le_of_lt (Int.pow_pos (by decide))
 ·decide
theorem FX:∀(l:List aL)(k:Nat),qc (l.drop k)<=qc l
 | [],k=>by simp
 | x::xs,0=>v4 _
 | x::xs,k+1=>by
  have a:=FX xs k;have b:=NC x.Class;have c:qc (x::xs)=csz x.Class+qc xs:=mC x xs xs.length;show qc (xs.drop k)<=qc (x::xs);omega
theorem bk.aged{h:ab}{E:List Int}{n:Int}(a:bk h E)(t:0<=n)(u:h.Clock+n<=1000000):bk (aged h n) (lZ h n++E):=by
 obtain⟨i,j,k,o,p,q⟩:=iU.1 a.quar;have c:=a.nums;unfold cj at c;rw[C0]at c;have e:=List.drop_sublist (pX (h.Clock+n) h.Quar.Lst) h.Quar.Lst;have g:(E++holders h).Perm ((lZ h n++E)++holders (Ab.aged h n)):=by
  refine List.perm_iff_count.2 λb=>?_
  have r:=T0 (λl:List aL=>(l.map (·.Addr)).count b) (List.take_append_drop (pX (h.Clock+n) h.Quar.Lst) h.Quar.Lst);simp only[T4,W4]at r;simp only[holders,ch,Ab.aged,lZ,W4];omega
 exact {a with
   nums:=by unfold cj;rw[C0];simp only[Ab.aged];omega
   quar:=iU.2 ⟨λy d=>i y (e.subset d),j.sublist e,k.sublist (e.map _),o,p,Int.le_trans (FX _ _) q⟩
   snc:=λy d=>by
     have:=a.snc y (e.subset d);show y.Since<=h.Clock+n;omega
   hqu:=λy d=>a.hqu y (e.subset d)
   hin:=λb f=>by
     rcases O2.1 f with f|f
     · obtain⟨y,d,rfl⟩:=U3.1 f
       exact(a.hqu y (List.mem_of_mem_take d)).any
     · exact a.hin b f
   nd:=g.nodup_iff.1 a.nd
   mem:=λb=>by rw[<-g.mem_iff];exact a.mem b}
theorem bk.tick{h:ab}{n:Int}(a:bk h [])(b:0<=n)(c:h.Clock+n<=1000000):bk (tick h n) []/\JK h (tick h n):=by
 have h1:=a.aged b c;exact⟨bk.freeAs h1,JK.trans (h1:=Ab.aged h n) (JK.eq rfl rfl rfl rfl) (JK.freeAs h1)⟩
def collect(h:ab)(t:Nat):ab:=recycs t {h with Mail:=jH h.Mail t} (nth h.Mail.Inbox t)
theorem bk.collect{h:ab}{t:Nat}(a:bk h [])(b:t<h.Caches.length):bk (collect h t) []/\JK h (collect h t):=by
 have h1:=a.coll (t:=t) (by rw[(d3.1 a.mail).1.2.2,<-a.nc];exact b);exact⟨bk.recycs h1 b,JK.trans (h1:={h with Mail:=jH h.Mail t}) (JK.eq rfl rfl rfl rfl) (JK.recycs h1 b)⟩
def ME(h:ab)(t i:Nat):ab:={h with Kernel:=fN h.Kernel (nth h.Objs i).Addr (csz (aN (nth h.Objs i).Size)).toNat,Objs:=dele h.Objs i,Mail:=gi h.Mail t ⟨(nth h.Objs i).Thread,(nth h.Objs i).Addr⟩}
def freeT(h:ab)(t i:Nat):ab × Int:=
 if aN (nth h.Objs i).Size<0 then(freeL h i (xa h (nth h.Objs i).Addr),0)
 else if(ao (tbl h) ((nth h.Objs i).Addr / 16)).Mode=1 then(h,5)
 else if(nth h.Objs i).Thread=t then(HT h t i,0)
 else if bD (gi h.Mail t ⟨(nth h.Objs i).Thread,(nth h.Objs i).Addr⟩)=true then(ME h t i,0) else(h,5)
theorem rx{h:ab}{t i:Nat}(e:(nth h.Objs i).Thread=t):freeT h t i=freeOb h t i:=by
 unfold freeT freeOb;rw[C8 e]
theorem bk.freeT{h:ab}{t i:Nat}(a:bk h [])(b:i<h.Objs.length)(c:t<h.Caches.length):bk (freeT h t i).1 []/\JK h (freeT h t i).1:=by
 by_cases e:(nth h.Objs i).Thread=t
 ·rw[rx e];exact⟨a.freeOb b c,JK.freeOb a b c⟩
 have d:=a.freeOb b c;have f:=JK.freeOb a b c;unfold Ab.freeOb at d f;unfold Ab.freeT;split
 ·rename_i g
  rw[C8 g]at d f;exact⟨d,f⟩
 rename_i g;rw[C7 g]at d f;split
 ·exact⟨a,JK.refl h⟩
 split
 ·rename_i j
  obtain⟨⟨s,l,n,o⟩,u⟩:=(eN a (am b)).2 g;have q:=a.dropO b (iV.any ⟨s,l,n,.inr o⟩);have r:=q.cells (k:=fN h.Kernel (nth h.Objs i).Addr (csz (aN (nth h.Objs i).Size)).toNat) (AZ a.ker _ _) rfl;exact⟨bk.send (p:=⟨(nth h.Objs i).Thread,(nth h.Objs i).Addr⟩) r (by show t<h.Mail.Buffers.length;rw[<-a.nc];exact c) j,JK.eq rfl rfl rfl rfl⟩
 ·exact⟨a,JK.refl h⟩
def cV(k:af)(a v:Int):af:=setCell k (dh k a) (a % 16) v
theorem uz{k:af}(h:aA k=true){a v:Int}(b:(ao k.Machine.Table (a / 16)).Mode≠0)(c:0<=v/\v<=999):aA (cV k a v)=true:=by
 obtain⟨d,e,-⟩:=eS h b;exact pw h (f:=dh k a) d e c
theorem bk.store{h:ab}{a v:Int}(b:bk h [])(c:(ao h.Kernel.Machine.Table (a / 16)).Mode≠0)(d:0<=v/\v<=999):bk {h with Kernel:=cV h.Kernel a v} []/\JK h {h with Kernel:=cV h.Kernel a v}:=
 ⟨b.cells (uz b.ker c d) rfl,JK.eq rfl rfl rfl rfl⟩
open Go.RowKit
set_option maxRecDepth 20000
set_option maxHeartbeats 4000000
theorem LS{xs:List Int}{x:Int}(h:cC xs.length (λj=>decide (nth xs j≠x))=true):x∉xs:=λb=>by
 obtain⟨j,a⟩:=List.mem_iff_getElem?.1 b;have:=d8 h (V1.1 a).1;rw[br a]at this;simp at this
theorem BQ(xs:List Int)(x:Int)(g:xs.length<=4611686018427387904):ar Tryz.prog 268 false [.val none (aD .imm xs),.val none [I x]] .one [B (decide (x∈xs))]:=by
 refine fO 18 [] Tryz.func268 rfl ?_
 repeat'(first|refine gO ?_|fail)
 (conv=>whnf)
 refine CC (ι:=Nat) (λi=>[(0,.hold .one (aD .imm xs)),(1,.hold .one [I (x)]),(5,.hold .one [I ((i:Nat):Int)])]) (λi=>i<=xs.length/\cC i (λj=>decide (nth xs j≠x))=true) (λi=>xs.length - i) 0 ?_ ⟨R0 _,rfl⟩ λi a=>?_
 ·exact wB
 obtain⟨a,b⟩:=a;by_cases c:i<xs.length
 ·have d:=ah c
  by_cases e:nth xs i=x
  ·repeat'(first|refine gA ?_|(conv=>whnf);first|with_reducible refine CA (aa d) ?_)
   exact T0 (λz=>[B z]) ((by symm;exact O0 (by rw[<-e];exact am c)))
  ·repeat'(first|refine gA ?_|(conv=>whnf);first|with_reducible refine CA (aa d) ?_)
   ((conv=>whnf);refine CB (i+1) ⟨ω,bJ b (O0 e)⟩ ω ?_;(exact wB))
 ·repeat'(first|refine gD ?_|fail)
  obtain rfl:i=xs.length:=ω
  exact T0 (λz=>[B z]) ((by symm;exact Q0 (LS b)))
theorem bG.more{M f:ac}{w g:World}(h:bG M w g)(e:∀b o,M b o->f b o):bG f w g:=
 ⟨h.os,h.tape,h.output,h.size,λb a c=>h.blk b a λo d=>c o (e b o d),λb o a c=>h.cel b o a λd=>c (e b o d),λb o a c=>h.fro b o a λd=>c (e b o d)⟩
theorem aS.wk{P:Program}{f:Nat}{sh:Bool}{c u:List C}{A B:List MA}{k:Kd}{rcs:List C}(h:aS P f sh A (.ptr c::B) k rcs)(y:Ks c u):aS P f sh A (.ptr u::B) k rcs:=by
 refine⟨h.has,λw S V i E F l G=>(h.run w S V i E F l G).mono λe w1 H=>?_⟩;obtain⟨v,J,K,X,L,S1,M,n,p,a,q,r,b,N,O,D⟩:=H;refine⟨v,J,K,X,L,S1,M,n,p,a,q,r,b,N,O,?_⟩;cases i with
 | nil=>exact D.elim
 | cons v0 i=>
  obtain⟨⟨Q,Y,R,T,U,⟨g,o,W,Z⟩,d⟩,t⟩:=D;refine⟨⟨Q,Y,R,T,U,⟨g,o,W,λj hj=>Z j (by rw[(pR y).1];exact hj)⟩,ze y d⟩,t⟩
theorem aS.frame{P:Program}{f:Nat}{sh:Bool}{c c' r:List C}{A B:List MA}{k:Kd}{rcs:List C}(h:aS P f sh (.ptr c::A) (.ptr c'::B) k rcs)(hl:c'.length=c.length):aS P f sh (.ptr (c++r)::A) (.ptr (c'++r)::B) k rcs:=by
 refine⟨h.has,λw S V vs hS hV hVd hA=>?_⟩;cases vs with
 | nil=>exact hA.elim
 | cons v0 vs=>
 obtain⟨⟨X1,Y,hX1,hY,O,⟨g,q,rfl,u⟩,ff,hf1,J,hf3⟩,hA'⟩:=hA;have hlen:(c++r).length=c.length+r.length:=U2
 let V0:ac:=piece g q ff 0 c.length
 let W:Nat->ac:=JZ V0 (λi=>V (i+1))
 have hcX:∀o,q<=o->o<q+(c++r).length->X1 g o:=λo l a=>by
  have:=(u (o - q) ω).1
  rwa [show q+(o - q)=o by omega]at this
 have hV0:∀b o,V0 b o->V 0 b o:=λb o p=>by
  rcases p with⟨rfl,l,a⟩|⟨j,-,a,Q⟩
  ·exact hX1 _ _ (hcX o ω ω)
  ·exact hY _ _ (J j ω b o Q)
 have K:∀i b o,W i b o->V i b o:=λi b o p=>by
  cases i with
  | zero=>exact hV0 b o p
  | succ i=>exact p
 have hA2:Lg w S W (.ptr c::A) (.pointer (some ⟨g,q,none⟩)::vs):=by
  refine⟨?_,hA'⟩;have:=rC (lo:=0) (n:=c.length) (cs:=c++r) ω u hf1 J hf3 O;rw[show bq (c++r) 0 c.length=c by simp[bq]]at this;simp only[I5,Nat.add_zero]at this;exact this
 refine(h.run w S W _ hS (λi b o p=>hV i b o (K i b o p)) (λi i' D b o l a=>hVd i i' D b o (K i b o l) (K i' b o a)) hA2).mono λe w1 hv=>?_
 obtain⟨v,he,hk,X,V',S1,hX,E,hS1,hVd',hXV,hXS,hVS1,hh,hr,hm⟩:=hv;have H:∀b o,(∃i,W i b o)->∃i,V i b o:=λb o ⟨i,Z⟩=>⟨i,K i b o Z⟩
 let R:ac:=λb o=>V 0 b o/\¬V0 b o
 have hRW:∀b o,R b o->¬∃i,W i b o:=λb o y ⟨i,Z⟩=>by
  cases i with
  | zero=>exact y.2 Z
  | succ i=>exact hVd 0 (i+1) ω b o y.1 Z
 have F:∀b o,R b o->b<w.heap.size:=λb o y=>(hV 0 b o y.1).1
 have t:∀b o,R b o->¬((∃i,W i b o)\/(b<w1.heap.size/\w.heap.size<=b)):=λb o y p=>by
  rcases p with p|p
  ·exact hRW b o y p
  ·have:=F b o y;omega
 have hRsame:bi R w w1:=λb o y=>⟨hk.cel b o (F b o y) (hRW b o y),hk.fro b o (F b o y) (hRW b o y)⟩
 have hRS1:∀b o,R b o->¬S1 b o:=λb o y hs=>by
  rcases hS1 b o hs with⟨-,l⟩|l
  ·exact(hV 0 b o y.1).2 l
  ·exact t b o y l
 have hSsame:bi S w w1:=λb o hb=>⟨hk.cel b o (hS b o hb) (λ⟨i,Z⟩=>(hV i b o (K i b o Z)).2 hb),hk.fro b o (hS b o hb) (λ⟨i,Z⟩=>(hV i b o (K i b o Z)).2 hb)⟩
 have hRc:∀j,c.length<=j->j<(c++r).length->R g (q+j):=λj l a=>by
  refine⟨hX1 _ _ (u j a).1,λp=>?_⟩;rcases p with⟨-,Q,h4⟩|⟨N,Q,h4,h5⟩
  ·omega
  ·exact O _ _ (u j a).1 (J N ω _ _ h5)
 have L:∀j,c.length<=j->j<(c++r).length->∀b o,ff j b o->R b o:=λj l a b o p=>by
  refine⟨hY _ _ (J j a b o p),λhp=>?_⟩;rcases hp with⟨rfl,Q,h4⟩|⟨N,Q,h4,h5⟩
  ·exact O _ _ (hcX o ω ω) (J j a _ _ p)
  ·exact hf3 j N a ω ω b o p h5
 let U:Nat->ac:=JZ (λb o=>V' 0 b o\/R b o) (λi=>V' (i+1))
 have hU:∀i b o,U i b o->V' i b o\/(i=0/\R b o):=λi b o p=>by
  cases i with
  | zero=>exact p.imp id (λh=>⟨rfl,h⟩)
  | succ i=>exact .inl p
 refine⟨v,he,hk.more H,X,U,S1,λb o p=>(hX b o p).imp (H b o) id,λi b o p=>?_,λb o p=>(hS1 b o p).imp id (Or.imp (H b o) id),λi i' D b o l a=>?_,λi b o l a=>?_,hXS,λi b o l a=>?_,hh,hr,?_,hm.2⟩
 ·rcases hU i b o p with l|⟨-,l⟩
  ·exact(E i b o l).imp (H b o) id
  ·exact .inl ⟨0,l.1⟩
 ·rcases hU i b o l with l|⟨e1,l⟩
  ·rcases hU i' b o a with a|⟨e2,a⟩
   ·exact hVd' i i' D b o l a
   ·exact t b o a (E i b o l)
  ·rcases hU i' b o a with a|⟨e2,a⟩
   ·exact t b o l (E i' b o a)
   ·exact D ω
 ·rcases hU i b o a with a|⟨-,a⟩
  ·exact hXV i b o l a
  ·exact t b o a (hX b o l)
 ·rcases hU i b o l with l|⟨-,l⟩
  ·exact hVS1 i b o l a
  ·exact hRS1 b o l a
 ·obtain⟨Xa,Ya,ha1,ha2,ha3,⟨ga,oa,hea,ha4⟩,fa,ha5,ha6,ha7⟩:=(show oz w1 (λb o=>S b o\/S1 b o) (V' 0) (.ptr c') (.pointer (some ⟨g,q,none⟩)) from hm.1)
  obtain⟨rfl,rfl⟩ : g=ga/\q=oa:=by simpa using hea
  have G:(c'++r).length=c.length+r.length:=by rw[U2,hl]
  show oz w1 (λb o=>S b o\/S1 b o) (λb o=>V' 0 b o\/R b o) (.ptr (c'++r)) (.pointer (some ⟨g,q,none⟩));have faV:∀j,j<c.length->∀b o,fa j b o->V' 0 b o:=λj M b o p=>ha2 _ _ (ha6 j ω b o p)
  refine⟨λb o=>Xa b o\/(R b o/\∃j,c.length<=j/\j<(c++r).length/\b=g/\o=q+j),λb o=>Ya b o\/∃j,c.length<=j/\j<(c++r).length/\ff j b o,λb o p=>?_,λb o p=>?_,λb o l a=>?_,⟨g,q,rfl,λj M=>?_⟩,λj=>if j<c.length then fa j else ff j,λj d M=>?_,λj M b o p=>?_,λj N M hj' D b o l a=>?_⟩
  ·exact p.imp (ha1 b o) (·.1)
  ·rcases p with p|⟨j,l,a,Q⟩
   ·exact .inl (ha2 b o p)
   ·exact .inr (L j l a b o Q)
  ·rcases l with l|⟨l,j,j1,j2,rfl,rfl⟩
   ·rcases a with a|⟨j,j1,j2,j3⟩
    ·exact ha3 b o l a
    ·exact t b o (L j j1 j2 b o j3) (E 0 b o (ha1 b o l))
   ·rcases a with a|⟨N,j3,j4,j5⟩
    ·exact t _ _ l (E 0 _ _ (ha2 _ _ a))
    ·exact O _ _ (u j j2).1 (J N j4 _ _ j5)
  ·rw[G]at M
   by_cases hc:j<c.length
   ·have:=ha4 j ω
    exact⟨.inl this.1,this.2⟩
   ·have y:=hRc j ω ω
    have hs:=hRsame _ _ y;have T:=u j ω;refine⟨.inr ⟨y,j,ω,ω,rfl,rfl⟩,?_,?_⟩
    ·rw[hs.1];exact T.2.1
    ·rw[hs.2];exact T.2.2
  ·dsimp only
   by_cases hc:j<c.length
   ·rw[C8 hc]
    rw[W3 ω]at M;exact ha5 j d M
   ·rw[C7 hc]
    rw[X3 ω,hl]at M;have hj2:(c++r)[j]? = some d:=by rw[X3 ω];exact M
    have hjl:=(V1.1 hj2).1;have Q:=(hf1 j d hj2).keep hSsame (λb o p=>hRsame b o (L j ω hjl b o p));have T:=(hRsame _ _ (hRc j ω hjl)).1;have:bU w1 .box (.pointer (some ⟨g,q,none⟩)) j=bU w .box (.pointer (some ⟨g,q,none⟩)) j:=by
     simp only[bU];rw[T]
    rw[this];exact Q.mono (λ_ _ h=>.inl h) (λ_ _ h=>h)
  ·rw[G]at M
   split at p
   ·rename_i hc;exact .inl (ha6 j ω b o p)
   ·exact .inr ⟨j,ω,ω,p⟩
  ·rw[G]at M hj'
   split at l
   ·rename_i c1
    split at a
    ·exact ha7 j N ω ω D b o l a
    ·exact t b o (L N ω ω b o a) (E 0 b o (faV j c1 b o l))
   ·split at a
    ·rename_i c1;exact t b o (L j ω ω b o l) (E 0 b o (faV N c1 b o a))
    ·exact hf3 j N ω ω D b o l a
mutual
theorem Pi:∀c:C,fz (fz c)=fz c
 | .v x=>by simp[fz]
 | .s o rows=>by simp only[fz];rw[FP rows]
 | .x=>by simp[fz]
 | .z=>by simp[fz]
 | .m _=>by simp[fz]
 | .it _ _=>by simp[fz]
theorem FP:∀a:List (List C),fzR (fzR a)=fzR a
 | []=>rfl
 | r::a=>by simp only[fzR];rw[oe r,FP a]
theorem oe:∀cs:List C,dw (dw cs)=dw cs
 | []=>rfl
 | c::cs=>by simp only[dw];rw[Pi c,oe cs]
end
theorem lK(k:af)(a:aA k=true)(e:k.Calls≠100000):aS Tryz.prog 347 false [.ptr (af.enc .own k)] [.ptr (af.enc .own (cN k))] .one [B (!refd k)]:=by
 have b:=b6 a;have c:=(aB.1 a).2.2.2.2;have d:=BQ k.Refuse k.Calls (by have:=b.2;omega);refine fM 22 [] [(2,9,[11,12,13,14,15,16,17,18,19])] [(0,0)] Tryz.func347 rfl (λu q=>?_)
 repeat'(first|refine gO ?_|(conv=>whnf);first|refine CE (d) ⟨⟨rfl,dS _⟩,⟨rfl,T0 (λz=>[I z]) ω⟩,trivial⟩ ?_)
 refine CD rfl ?_ ?_
 ·rfl
 ·exact wB
theorem mz(k:af)(p m:Int)(a:aA k=true)(j:k.Calls≠100000)(d:(ao k.Machine.Table p).Mode≠0)(l:m=1\/m=2):aS Tryz.prog 406 false [.ptr (af.enc .own k),.val none [I p],.val none [I m]] [.ptr (af.enc .own (iS k p m).1),.val none [I p],.val none [I m]] .one [B (iS k p m).2]:=by
 have n:=b6 a;have b:=lK k a j;have g:=dY (cN k) p n.1.2;have c:=aE m 1 2;rw[O0 ω]at c;obtain⟨o,t,w,-⟩:=ce a d;have h:=ah (xs:=k.Machine.Table.Entries) (i:=p.toNat) ω;have r:¬(ao (cN k).Machine.Table p).Mode=0:=d;unfold iS;cases e:refd k<;>rw[e]at b
 ·rw[C7 (by simp),Gz]
  refine fM 31 [(347,[2])] [] [(0,0),(0,0),(0,0)] Tryz.func406 rfl (λu q=>?_)
  repeat'(first|refine gA ?_|(conv=>whnf);first|refine CG (b) (.inl rfl) ?_|refine CE (g) ⟨CP (cN k),⟨rfl,rfl⟩,trivial⟩ ?_|refine C6 (c) ?_|refine CJ o (aa h) ?_|refine CN rfl rfl (aa h) rfl (X0 rfl) rfl ?_)
  refine CD rfl ?_ ?_
  ·rfl
  ·exact wB
 ·rw[C8 rfl]
  refine fM 31 [(347,[2])] [] [(0,0),(0,0),(0,0)] Tryz.func406 rfl (λu q=>?_)
  repeat'(first|refine gA ?_|(conv=>whnf);first|refine CG (b) (.inl rfl) ?_|refine CE (g) ⟨CP (cN k),⟨rfl,rfl⟩,trivial⟩ ?_|refine C6 (c) ?_)
  refine CD rfl ?_ ?_
  ·rfl
  ·exact wB
theorem Rw.two{c:List C}{off i k j d e b:Nat}{K:List C->Nat->Prop}{o f:dy}{rows rows2:List (List C)}{r a:List C}(h1:c[off]? = some (.s o rows))(g:rows[i]? = some r)(h:r.length=k)(l:r[j]? = some (.s f rows2))(n:rows2[d]? = some a)(p:a.length=e)(q:K a b):Rw c off [(i,k,j),(d,e,b)] K:=
 Rw.mk (r:=a) (j:=b) (by simp[bQ,h1,g,h,l,n,p]) q
theorem wF(k:af)(a b c:Int)(h:aA k=true)(F:(ao k.Machine.Table a).Mode≠0)(G:(ao k.Machine.Table b).Mode≠0)(g:0<=c/\c<=15):aS Tryz.prog 407 false [.ptr (af.enc .own k),.val none [I a],.val none [I b],.val none (aD .imm [c])] [.ptr (af.enc .own (wb k a b c)),.val none [I a],.val none [I b],.val none (aD .imm [c])] .one [B true]:=by
 have w:=b6 h;have H:=dY k a w.1.2;have J:=dY k b w.1.2;have y:=aE c 0 15;rw[O0 g]at y;obtain⟨K,O,L,C,P⟩:=ce h F;obtain⟨M,Q,D,E,R⟩:=ce h G;have N:=(aT.1 (aB.1 h).2.1).2.2.1;have S:=row16 h (f:=lV k a) (by unfold lV;omega);have T:=row16 h (f:=lV k b) (by unfold lV;omega);have d:k.Machine.Frames.Cells[(ao k.Machine.Table a).Frame.toNat]? = some (nth k.Machine.Frames.Cells (lV k a)):=ah ω;have e:k.Machine.Frames.Cells[(ao k.Machine.Table b).Frame.toNat]? = some (nth k.Machine.Frames.Cells (lV k b)):=ah ω;have l:=ah (xs:=nth k.Machine.Frames.Cells (lV k a)) (i:=c.toNat) ω;have o:=ah (xs:=nth k.Machine.Frames.Cells (lV k b)) (i:=c.toNat) ω;have p:=ah (xs:=k.Machine.Table.Entries) (i:=a.toNat) ω;have r:=ah (xs:=k.Machine.Table.Entries) (i:=b.toNat) ω;rw[L]at C d;rw[D]at E e;have t:[c][0]? = some c:=rfl;refine fM 90 [] [(13,28,[61,62,63,64,65,66,67,68,69,70,71,72,73,74,75,76,77,78,79,80,81,82,83,84,85,86,87,88])] [(0,0),(0,0),(0,0),(0,0)] Tryz.func407 rfl (λu q=>?_)
 repeat'(first|refine gA ?_|(conv=>whnf);first|refine C9 ?_|refine CE (H) ⟨CP k,⟨rfl,rfl⟩,trivial⟩ ?_|refine CE (J) ⟨CP k,⟨rfl,rfl⟩,trivial⟩ ?_)
 (conv=>whnf)
 refine CC (ι:=Nat) (λn=>[(0,.hold .box (af.enc .own k)),(1,.hold .one [I (a)]),(2,.hold .one [I (b)]),(3,.hold .one (aD .imm [c])),(9,.hold .one [I ((n:Nat):Int)])]) (λn=>n<=1) (λn=>1 - n) (0) ?_ (R0 _) λn U=>?_
 ·exact wB
 by_cases V:n<1
 ·obtain rfl:n=0:=ω
  repeat'(first|refine gD ?_|(conv=>whnf);first|refine C9 ?_|refine CJ (by decide) (aa t) ?_|refine C6 (y) ?_)
  ((conv=>whnf);refine CB 1 ω ω ?_;(exact wB))
 ·obtain rfl:n=1:=ω
  repeat'(first|refine gD ?_|(conv=>whnf);first|refine C9 ?_|refine CJ K (aa p) ?_|refine CJ M (aa r) ?_|refine CF rfl (aa p) rfl ?_|refine CF rfl (aa r) rfl ?_)
  (conv=>whnf)
  refine CC (ι:=Nat) (λj=>[(0,.hold .box (af.enc .own (MJ k a b c j))),(3,.hold .one (aD .imm [c])),(10,.hold .one [I ((nth k.Machine.Table.Entries a.toNat).Frame)]),(11,.hold .one [I ((nth k.Machine.Table.Entries b.toNat).Frame)]),(12,.hold .one [I ((j:Nat):Int)])]) (λj=>j<=1) (λj=>1 - j) (0) ?_ (R0 _) λj W=>?_
  ·exact wB
  by_cases X:j<1
  ·obtain rfl:j=0:=ω
   repeat'(first|refine gD ?_|(conv=>whnf);first|refine C9 ?_|refine CJ (by decide) (aa t) ?_|refine CJ C (aa d) ?_|refine CJ E (aa e) ?_|refine CJ g.1 (aa l) ?_|refine CJ g.1 (aa o) ?_|refine CF rfl (aa e) rfl ?_|refine CF rfl (aa d) rfl ?_|refine Rw.two rfl (aa d) rfl rfl (aa l) rfl ?_|refine Pu.two rfl rfl (aa e) rfl rfl rfl (aa o) rfl (Q2 _) rfl ?_)
   ((conv=>whnf);refine CB 1 ω ω ?_)
   rw[show MJ k a b c 1=wb k a b c from rfl];unfold wb;rw[Do,show lV k b=(nth k.Machine.Table.Entries b.toNat).Frame.toNat by unfold lV;rw[D]];exact wB
  ·obtain rfl:j=1:=ω
   repeat'(first|refine gD ?_|(conv=>whnf);first|refine C9 ?_)
   refine CD rfl ?_ ?_
   ·rfl
   ·exact wB
theorem EV(k:af)(p o:Int)(a:aA k=true)(y:k.Calls≠100000)(g:(ao k.Machine.Table p).Mode≠0)(h:(ao k.Machine.Table o).Mode≠0)(C:p≠o):aS Tryz.prog 408 false [.ptr (af.enc .own k),.val none [I p],.val none [I o]] [.ptr (af.enc .own (yd k p o).1),.val none [I p],.val none [I o]] .one [B (yd k p o).2]:=by
 have b:=b6 a;have c:=lK k a y;have j:=dY (cN k) p b.1.2;have l:=dY (cN k) o b.1.2;obtain⟨D,K,E,n,r⟩:=ce a g;obtain⟨F,L,M,N,O⟩:=ce a h;have G:=(aT.1 (aB.1 a).2.1).2.2.1;have d:=ah (xs:=k.Machine.Table.Entries) (i:=p.toNat) ω;have t:=ah (xs:=k.Machine.Table.Entries) (i:=o.toNat) ω;have H:¬(ao (cN k).Machine.Table p).Mode=0:=g;have J:¬(ao (cN k).Machine.Table o).Mode=0:=h;rw[E]at n r;have w:=yP (wi (cN k) p.toNat ⟨2,(nth k.Machine.Table.Entries o.toNat).Frame⟩) (nth k.Machine.Table.Entries p.toNat).Frame (Kt _ _ b.1.2) ⟨n,by show _<((k.Machine.Frames.Cells.length:Nat):Int);omega,r⟩;rw[KX]at w;unfold yd;cases e:refd k<;>rw[e]at c
 ·rw[C7 (by simp)]
  refine fM 60 [(347,[2]),(349,[2,0])] [(4,274,[38,39,40,41,42,43,44,45,46,47,48,49,50,51,52,53,54,56,0,1,2,3,4,5,6,7,8,9,10,11,12,13,14,15,16,17,1000,1001,1002,1003,1004,1005,1006,18,19])] [(0,0),(0,0),(0,0)] Tryz.func408 rfl (λu q=>?_)
  repeat'(first|refine gA ?_|(conv=>whnf);first|refine C9 ?_|refine CG (c) (.inl rfl) ?_|refine CE (j) ⟨CP (cN k),⟨rfl,rfl⟩,trivial⟩ ?_|refine CE (l) ⟨CP (cN k),⟨rfl,rfl⟩,trivial⟩ ?_|refine CJ D (aa d) ?_|refine CJ F (aa t) ?_|refine CF rfl (aa d) rfl ?_|refine CF rfl (aa t) rfl ?_|refine CN rfl rfl (aa d) rfl (X0 rfl) rfl ?_|refine CG (w) (.inl rfl) ?_)
  refine CD rfl ?_ ?_
  ·rfl
  ·exact wB
 ·rw[C8 rfl]
  refine fM 60 [(347,[2]),(349,[2,0])] [(4,274,[38,39,40,41,42,43,44,45,46,47,48,49,50,51,52,53,54,56,0,1,2,3,4,5,6,7,8,9,10,11,12,13,14,15,16,17,1000,1001,1002,1003,1004,1005,1006,18,19])] [(0,0),(0,0),(0,0)] Tryz.func408 rfl (λu q=>?_)
  repeat'(first|refine gA ?_|(conv=>whnf);first|refine C9 ?_|refine CG (c) (.inl rfl) ?_|refine CE (j) ⟨CP (cN k),⟨rfl,rfl⟩,trivial⟩ ?_|refine CE (l) ⟨CP (cN k),⟨rfl,rfl⟩,trivial⟩ ?_)
  refine CD rfl ?_ ?_
  ·rfl
  ·exact wB
theorem xD(m:aJ)(a:Int)(d:aJ.sml m)(c:0<=a/\a<512):ar Tryz.prog 411 false [.val (some 3) (aJ.enc .imm m),.val none [I a]] (.tup [some 2,none]) (aZ.enc .own (ao m.Table (a / 16))++[I (a % 16)]):=by
 have e:=cM m.Table (a / 16) d.2;have b:a.tmod 16=a % 16:=dI c.1;refine fO 16 [] Tryz.func411 rfl ?_ (.inr ⟨trivial,trivial,trivial,trivial⟩)
 repeat'(first|refine gD ?_|(conv=>whnf);first|refine C9 ?_|refine C6 (e) ?_|refine CI (nl c) ?_|refine CK (by decide) ?_|refine CM b ?_)
 rfl
theorem EL(m:aJ)(a v:Int)(o:cK m=true)(e:aJ.sml m)(p:0<=a/\a<512)(q:0<=v/\v<=999)(r:(ao m.Table (a / 16)).Mode≠0->0<=(ao m.Table (a / 16)).Frame/\(ao m.Table (a / 16)).Frame<m.Frames.Cells.length/\(nth m.Frames.Cells (ao m.Table (a / 16)).Frame.toNat).length=16):ar Tryz.prog 410 false [.val (some 3) (aJ.enc .imm m),.val none [I a],.val none [I v]] (.tup [some 3,none]) (aJ.enc .own (fF m a v).1++[I (fF m a v).2]):=by
 have c:=na m e;rw[o]at c;have g:=qy m e;have h:=xD m a e p;have d:=aE v 0 999;rw[O0 q]at d;have b:=aJ.enc_fr (fF m a v).1;unfold fF at b |-;by_cases j:(ao m.Table (a / 16)).Mode=0
 ·rw[C8 j]at b |-
  refine fO 47 [] Tryz.func410 rfl ?_ (.inr (aP b ⟨trivial,trivial⟩))
  repeat'(first|refine gA ?_|(conv=>whnf);first|refine C9 ?_|refine C6 (c) ?_|refine C6 (g) ?_|refine C6 (h) ?_|refine C6 (d) ?_)
  rfl
 ·rw[C7 j]at b |-
  by_cases l:(ao m.Table (a / 16)).Mode=1
  ·rw[C8 l]at b |-
   refine fO 47 [] Tryz.func410 rfl ?_ (.inr (aP b ⟨trivial,trivial⟩))
   repeat'(first|refine gA ?_|(conv=>whnf);first|refine C9 ?_|refine C6 (c) ?_|refine C6 (g) ?_|refine C6 (h) ?_|refine C6 (d) ?_)
   rfl
  ·rw[C7 l]at b |-
   obtain⟨t,u,w⟩:=r j;have k:=ah (xs:=m.Frames.Cells) (i:=(ao m.Table (a / 16)).Frame.toNat) ω;have n:=ah (xs:=nth m.Frames.Cells (ao m.Table (a / 16)).Frame.toNat) (i:=(a % 16).toNat) ω;simp only at b |-;rw[uq]at b |-;refine fO 47 [] Tryz.func410 rfl ?_ (.inr (aP b ⟨trivial,trivial⟩))
   repeat'(first|refine gA ?_|(conv=>whnf);first|refine C9 ?_|refine C6 (c) ?_|refine C6 (g) ?_|refine C6 (h) ?_|refine C6 (d) ?_|refine CJ t (aa k) ?_|refine CJ ω (aa n) ?_|refine CF rfl (aa k) rfl ?_|refine Pu.two rfl rfl (aa k) rfl rfl rfl (aa n) rfl (Q2 _) rfl ?_)
   rfl
theorem lb{k:af}{j:bW} : jmay k j=true↔(aA k=true/\k.Calls≠100000)/\iP j=true/\(ao k.Machine.Table j.Plan.Keep).Mode≠0/\(ao k.Machine.Table j.Plan.Move).Mode≠0/\(ao k.Machine.Table j.Plan.Keep).Frame≠(ao k.Machine.Table j.Plan.Move).Frame:=by
 unfold jmay;simp only[I0,C0]
theorem kI{p:cg}(h:ec p=true):p.Cells.length<=16:=by
 unfold ec at h;simp only[I0]at h;have a:∀i,i<p.Cells.length->(i:Int)<=nth p.Cells i:=λi=>by
  induction i with
  | zero=>
   intro a;have:=d8 h.1 a;unfold mh at this;rw[C0]at this;exact this.1
  | succ i b=>
   intro a;have c:=b ω;have:=d8 h.1 a;unfold mh at this;rw[C0]at this;have d:=this.2.2.resolve_left ω;rw[Nat.add_sub_cancel]at d;omega
 by_cases e:p.Cells.length<=16
 ·exact e
 ·exfalso
  have c:=a 16 ω;have:=d8 h.1 (show 16<p.Cells.length by omega);unfold mh at this;rw[C0]at this;omega
theorem GY{j:bW}(h:iP j=true):bW.sml j:=by
 have:=kI (dP.1 h).1;show j.Plan.Cells.length<=1048576;omega
theorem iz{k:af}(h:aA k=true):cK k.Machine=true:=by
 unfold aA at h;simp only[I0]at h;exact h.1.2
theorem zP(k:af)(j:bW)(p:jmay k j=true)(g:j.Phase=3):aS Tryz.prog 409 false [.ptr (af.enc .own k),.ptr (uO j)] [.ptr (af.enc .own (jstep k j).1),.ptr (uO (jstep k j).2)] (.tup []) []:=by
 obtain⟨⟨a,r⟩,t,c,d,w⟩:=lb.1 p;obtain⟨h,H,J,K,L⟩:=dP.1 t;have y:=b6 a;obtain⟨M,N,O,B,P⟩:=ce a c;have l:=(bn.1 (aB.1 a).2.2.1).2.2;have C:=kI h;have D:=(aT.1 (aB.1 a).2.1).2.2.1;unfold jstep;rw[C7 ω,C7 ω,C7 ω,C8 g];by_cases n:0<j.Next
 ·rw[C8 n]
  have o:=kJ h (i:=(j.Next - 1).toNat) ω;have E:=ah (xs:=j.Plan.Cells) (i:=(j.Next - 1).toNat) ω;have F:0<=j.Plan.Keep*16+nth j.Plan.Cells (j.Next - 1).toNat/\j.Plan.Keep*16+nth j.Plan.Cells (j.Next - 1).toNat<512:=ω
  have G:(j.Plan.Keep*16+nth j.Plan.Cells (j.Next - 1).toNat) / 16=j.Plan.Keep:=ω
  have b:=EL k.Machine (j.Plan.Keep*16+nth j.Plan.Cells (j.Next - 1).toNat) 0 (iz a) y.1 F ω (λ_=>by rw[G];exact⟨B,ω,row16 a (f:=lV k j.Plan.Keep) (by unfold lV;omega)⟩);generalize (fF k.Machine (j.Plan.Keep*16+nth j.Plan.Cells (j.Next - 1).toNat) 0).1=m at b |-;generalize (fF k.Machine (j.Plan.Keep*16+nth j.Plan.Cells (j.Next - 1).toNat) 0).2=e at b;refine fM 59 [(406,[2,0,0])] [(2,283,[20,21,22,23,24,25,26,27,28,29,30,31,32,33,34,35,36,37,38,39,40,41,42,19,43,44,4,0,1,2,3,4,5,6,7,8,9,10,11,12,13,14,15,16,17,18,19,20,21,22,23,24,25,26,27,1025,28])] [(0,0),(1,0)] Tryz.func409 rfl (λu q=>?_) (.inr trivial)
  repeat'(first|refine gD ?_|(conv=>whnf);first|refine C9 ?_|refine CE (b) ⟨⟨rfl,aJ.enc_fz k.Machine⟩,⟨rfl,rfl⟩,⟨rfl,rfl⟩,trivial⟩ ?_|refine CJ ω (aa E) ?_|refine C9 ?_)
  refine CD rfl rfl ?_;exact wC
 ·rw[C7 n]
  have b:=mz k j.Plan.Move 2 a r d (.inr rfl);cases e:(iS k j.Plan.Move 2).2<;>rw[e]at b
  ·refine fM 59 [(406,[2,0,0])] [(2,283,[20,21,22,23,24,25,26,27,28,29,30,31,32,33,34,35,36,37,38,39,40,41,42,19,43,44,4,0,1,2,3,4,5,6,7,8,9,10,11,12,13,14,15,16,17,18,19,20,21,22,23,24,25,26,27,1025,28])] [(0,0),(1,0)] Tryz.func409 rfl (λu q=>?_) (.inr trivial)
   repeat'(first|refine gD ?_|(conv=>whnf);first|refine C9 ?_|refine CG (b) (.inl rfl) ?_)
   refine CD rfl rfl ?_;rw[<-g];exact wC
  ·refine fM 59 [(406,[2,0,0])] [(2,283,[20,21,22,23,24,25,26,27,28,29,30,31,32,33,34,35,36,37,38,39,40,41,42,19,43,44,4,0,1,2,3,4,5,6,7,8,9,10,11,12,13,14,15,16,17,18,19,20,21,22,23,24,25,26,27,1025,28])] [(0,0),(1,0)] Tryz.func409 rfl (λu q=>?_) (.inr trivial)
   repeat'(first|refine gD ?_|(conv=>whnf);first|refine C9 ?_|refine CG (b) (.inl rfl) ?_)
   refine CD rfl rfl ?_;exact wC
theorem zj(k:af)(j:bW)(g:jmay k j=true):aS Tryz.prog 396 false [.ptr (af.enc .own k),.ptr (uO j)] [.ptr (af.enc .own (jstep k j).1),.ptr (uO (jstep k j).2)] (.tup []) []:=by
 obtain⟨⟨h,p⟩,B,c,b,l⟩:=lb.1 g;obtain⟨r,F,G,H,J⟩:=dP.1 B;have n:j.Plan.Move≠j.Plan.Keep:=λe=>l (by rw[e])
 have C:=kI r;by_cases d:j.Phase=0
 ·have a:=mz k j.Plan.Move 1 h p b (.inl rfl)
  unfold jstep;rw[C8 d];cases e:(iS k j.Plan.Move 1).2<;>rw[e]at a
  ·refine fM 80 [(406,[2,0,0]),(407,[2,0,0,0]),(408,[2,0,0]),(409,[2,2])] [(7,7,[27,28,29,30,31,32,33]),(9,14,[38,39,40,41,42,43,44,45,46,47,48,49,50,51])] [(0,0),(1,0)] Tryz.func396 rfl (λu q=>?_) (.inr trivial)
   repeat'(first|refine gA ?_|(conv=>whnf);first|refine C9 ?_|refine CG (a) (.inl rfl) ?_)
   refine CD rfl rfl ?_;exact wC
  ·refine fM 80 [(406,[2,0,0]),(407,[2,0,0,0]),(408,[2,0,0]),(409,[2,2])] [(7,7,[27,28,29,30,31,32,33]),(9,14,[38,39,40,41,42,43,44,45,46,47,48,49,50,51])] [(0,0),(1,0)] Tryz.func396 rfl (λu q=>?_) (.inr trivial)
   repeat'(first|refine gA ?_|(conv=>whnf);first|refine C9 ?_|refine CG (a) (.inl rfl) ?_)
   refine CD rfl rfl ?_;exact wC
 by_cases o:j.Phase=1
 ·unfold jstep
  rw[C7 d,C8 o];by_cases t:j.Next=j.Plan.Cells.length
  ·rw[C8 t]
   refine fM 80 [(406,[2,0,0]),(407,[2,0,0,0]),(408,[2,0,0]),(409,[2,2])] [(7,7,[27,28,29,30,31,32,33]),(9,14,[38,39,40,41,42,43,44,45,46,47,48,49,50,51])] [(0,0),(1,0)] Tryz.func396 rfl (λu q=>?_) (.inr trivial)
   repeat'(first|refine gA ?_|(conv=>whnf);first|refine C9 ?_|refine C9 ?_)
   refine CD rfl rfl ?_;exact wC
  ·rw[C7 t]
   have D:=ah (xs:=j.Plan.Cells) (i:=j.Next.toNat) ω;have a:=wF k j.Plan.Move j.Plan.Keep (nth j.Plan.Cells j.Next.toNat) h b c (kJ r ω);have E:=(lb.1 g).2.1;refine fM 80 [(406,[2,0,0]),(407,[2,0,0,0]),(408,[2,0,0]),(409,[2,2])] [(7,7,[27,28,29,30,31,32,33]),(9,14,[38,39,40,41,42,43,44,45,46,47,48,49,50,51])] [(0,0),(1,0)] Tryz.func396 rfl (λu q=>?_) (.inr trivial)
   repeat'(first|refine gA ?_|(conv=>whnf);first|refine C9 ?_|refine CG a (.inr ⟨rfl,af.enc_fr _,trivial⟩) ?_|refine CJ ω (aa D) ?_|refine C9 ?_)
   refine CD rfl rfl ?_;exact wC
 by_cases w:j.Phase=2
 ·have a:=EV k j.Plan.Move j.Plan.Keep h p b c n
  unfold jstep;rw[C7 d,C7 o,C8 w];cases e:(yd k j.Plan.Move j.Plan.Keep).2<;>rw[e]at a
  ·refine fM 80 [(406,[2,0,0]),(407,[2,0,0,0]),(408,[2,0,0]),(409,[2,2])] [(7,7,[27,28,29,30,31,32,33]),(9,14,[38,39,40,41,42,43,44,45,46,47,48,49,50,51])] [(0,0),(1,0)] Tryz.func396 rfl (λu q=>?_) (.inr trivial)
   repeat'(first|refine gA ?_|(conv=>whnf);first|refine C9 ?_|refine CG (a) (.inl rfl) ?_)
   refine CD rfl rfl ?_;exact wC
  ·refine fM 80 [(406,[2,0,0]),(407,[2,0,0,0]),(408,[2,0,0]),(409,[2,2])] [(7,7,[27,28,29,30,31,32,33]),(9,14,[38,39,40,41,42,43,44,45,46,47,48,49,50,51])] [(0,0),(1,0)] Tryz.func396 rfl (λu q=>?_) (.inr trivial)
   repeat'(first|refine gA ?_|(conv=>whnf);first|refine C9 ?_|refine CG (a) (.inl rfl) ?_)
   refine CD rfl rfl ?_;exact wC
 by_cases y:j.Phase=3
 ·have a:=zP k j g y
  refine fM 80 [(406,[2,0,0]),(407,[2,0,0,0]),(408,[2,0,0]),(409,[2,2])] [(7,7,[27,28,29,30,31,32,33]),(9,14,[38,39,40,41,42,43,44,45,46,47,48,49,50,51])] [(0,0),(1,0)] Tryz.func396 rfl (λu q=>?_) (.inr trivial)
  repeat'(first|refine gA ?_|(conv=>whnf);first|refine C9 ?_|refine CG (a) (.inl rfl) ?_)
  refine CD rfl rfl ?_;exact wC
 ·unfold jstep
  rw[C7 d,C7 o,C7 w,C7 y];refine fM 80 [(406,[2,0,0]),(407,[2,0,0,0]),(408,[2,0,0]),(409,[2,2])] [(7,7,[27,28,29,30,31,32,33]),(9,14,[38,39,40,41,42,43,44,45,46,47,48,49,50,51])] [(0,0),(1,0)] Tryz.func396 rfl (λu q=>?_) (.inr trivial)
  repeat'(first|refine gA ?_|(conv=>whnf);first|refine C9 ?_)
  refine CD rfl rfl ?_;exact wC
theorem A5(k:af)(j:bW)(e:aA k=true)(i:iP j=true):ar Tryz.prog 395 false [.val (some 5) (af.enc .imm k),.val (some 5) (bW.enc .imm j)] .one [B (jmay k j)]:=by
 have c:=b6 e;have b:dw (af.enc .imm k)=af.enc .imm k:=by rw[<-CP k,oe]
 have r:=(aB.1 e).2.2.2.2;have a:=jX k c;rw[e]at a;have d:=vA j (GY i);rw[i]at d;have l:=dY k j.Plan.Keep c.1.2;have n:=dY k j.Plan.Move c.1.2;have t:=cM k.Machine.Table j.Plan.Keep c.1.2;have u:=cM k.Machine.Table j.Plan.Move c.1.2;by_cases o:k.Calls=100000
 ·rw[Q0 ω]at a
  rw[show jmay k j=false by rw[<-O4,lb];exact λh=>h.1.2 o];refine fO 44 [(3,16,[27,28,29,30,31,32,33,34,35,36,37,38,39,40,41,42])] Tryz.func395 rfl ?_
  repeat'(first|refine gO ?_|(conv=>whnf);first|refine C9 ?_|refine C6 (a) ?_|refine C6 (d) ?_)
  rfl
 rw[O0 ω]at a;by_cases p:(ao k.Machine.Table j.Plan.Keep).Mode=0
 ·rw[show jmay k j=false by rw[<-O4,lb];exact λh=>h.2.2.1 p]
  refine fO 44 [(3,16,[27,28,29,30,31,32,33,34,35,36,37,38,39,40,41,42])] Tryz.func395 rfl ?_
  repeat'(first|refine gA ?_|(conv=>whnf);first|refine C9 ?_|refine C6 (a) ?_|refine C6 (d) ?_|refine CE (l) ⟨b,⟨rfl,rfl⟩,trivial⟩ ?_|refine CE (n) ⟨b,⟨rfl,rfl⟩,trivial⟩ ?_)
  rfl
 by_cases q:(ao k.Machine.Table j.Plan.Move).Mode=0
 ·rw[show jmay k j=false by rw[<-O4,lb];exact λh=>h.2.2.2.1 q]
  refine fO 44 [(3,16,[27,28,29,30,31,32,33,34,35,36,37,38,39,40,41,42])] Tryz.func395 rfl ?_
  repeat'(first|refine gA ?_|(conv=>whnf);first|refine C9 ?_|refine C6 (a) ?_|refine C6 (d) ?_|refine CE (l) ⟨b,⟨rfl,rfl⟩,trivial⟩ ?_|refine CE (n) ⟨b,⟨rfl,rfl⟩,trivial⟩ ?_)
  rfl
 refine fO 44 [(3,16,[27,28,29,30,31,32,33,34,35,36,37,38,39,40,41,42])] Tryz.func395 rfl ?_
 repeat'(first|refine gA ?_|(conv=>whnf);first|refine C9 ?_|refine C6 (a) ?_|refine C6 (d) ?_|refine CE (l) ⟨b,⟨rfl,rfl⟩,trivial⟩ ?_|refine CE (n) ⟨b,⟨rfl,rfl⟩,trivial⟩ ?_|refine C6 (t) ?_|refine C6 (u) ?_|refine C9 ?_)
 exact T0 (λz=>[B z]) (by
   unfold jmay;rw[e,i,O0 o];by_cases g:(ao k.Machine.Table j.Plan.Keep).Frame=(ao k.Machine.Table j.Plan.Move).Frame
   · rw[Q0 (λh=>h.2.2 g)];simp[g]
   · rw[O0 ⟨p,q,g⟩];simp[g])
theorem zO(j:bW):ar Tryz.prog 397 false [.val (some 5) (bW.enc .imm j)] .one [B (over j)]:=by
 by_cases a:j.Phase=4
 ·rw[show over j=true from O0 (.inl a)]
  refine fO 11 [] Tryz.func397 rfl ?_
  repeat'(first|refine gA ?_|(conv=>whnf);first|refine C9 ?_)
  rfl
 ·rw[show over j=decide (j.Phase=5) from decide_eq_decide.2 ω]
  refine fO 11 [] Tryz.func397 rfl ?_
  repeat'(first|refine gA ?_|(conv=>whnf);first|refine C9 ?_)
  exact T0 (λz=>[B z]) (by rw[Z3];simp)
def FQ(x:ab):List C:=(bu x).set 21 .z
theorem AW{x:ab}(h:x.Job.Plan.Cells=[]):Ks (FQ x) (bu x):=by
 unfold FQ bu;simp only[List.set,h,List.map_nil]
 repeat'(first|exact trivial|exact dv _|refine CH ?_ ?_|rfl)
theorem Aa(h:ab)(j:bk h [])(k:h.Meshing=true):aS Tryz.prog 368 false [.ptr (bu h)] [.ptr (bu (mStep h))] .one [B (Dp h)]:=by
 obtain⟨l,-,-⟩:=j.job k;have b:=A5 h.Kernel h.Job j.ker l;have a:=zO (io h.Kernel h.Job).2;unfold Dp mStep;cases e:jmay h.Kernel h.Job with
 | false=>
  rw[e]at b;have d:io h.Kernel h.Job=(h.Kernel,h.Job):=by unfold io;rw[e];rfl
  rw[d]at a |-;simp only at a |-;cases g:over h.Job<;>rw[g]at a
  ·refine fM 39 [(396,[3,5,5])] [(1,8,[4,5,6,7,8,9,10,11]),(2,6,[13,14,15,16,17,18])] [(0,0)] Tryz.func368 rfl (λu q=>?_)
   repeat'(first|refine gO ?_|(conv=>whnf);first|refine CE (b) ⟨⟨rfl,CP h.Kernel⟩,⟨rfl,rfl⟩,trivial⟩ ?_|refine C6 (a) ?_|refine C9 ?_)
   refine CD rfl ?_ ?_
   ·exact T0 (λz=>[B z]) (by rw[Z3];simp)
   ·exact wC
  ·refine aS.wk (c:=FQ _) ?_ (AW rfl)
   refine fM 39 [(396,[3,5,5])] [(1,8,[4,5,6,7,8,9,10,11]),(2,6,[13,14,15,16,17,18])] [(0,0)] Tryz.func368 rfl (λu q=>?_)
   repeat'(first|refine gO ?_|(conv=>whnf);first|refine CE (b) ⟨⟨rfl,CP h.Kernel⟩,⟨rfl,rfl⟩,trivial⟩ ?_|refine C6 (a) ?_|refine C9 ?_)
   refine CD rfl ?_ ?_
   ·exact T0 (λz=>[B z]) (by rw[Z3];simp)
   ·exact wC
 | true=>
  rw[e]at b;have d:io h.Kernel h.Job=jstep h.Kernel h.Job:=by unfold io;rw[e];rfl
  have i:=zj h.Kernel h.Job e;rw[d]at a |-;generalize jstep h.Kernel h.Job=r at i a |-;cases g:over r.2<;>rw[g]at a
  ·refine fM 39 [(396,[3,5,5])] [(1,8,[4,5,6,7,8,9,10,11]),(2,6,[13,14,15,16,17,18])] [(0,0)] Tryz.func368 rfl (λu q=>?_)
   repeat'(first|refine gO ?_|(conv=>whnf);first|refine CE (b) ⟨⟨rfl,CP h.Kernel⟩,⟨rfl,rfl⟩,trivial⟩ ?_|refine C6 (a) ?_|refine CG (i) (.inl rfl) ?_|refine C9 ?_)
   refine CD rfl ?_ ?_
   ·exact T0 (λz=>[B z]) (by rw[Z3];simp)
   ·exact wC
  ·refine aS.wk (c:=FQ _) ?_ (AW rfl)
   refine fM 39 [(396,[3,5,5])] [(1,8,[4,5,6,7,8,9,10,11]),(2,6,[13,14,15,16,17,18])] [(0,0)] Tryz.func368 rfl (λu q=>?_)
   repeat'(first|refine gO ?_|(conv=>whnf);first|refine CE (b) ⟨⟨rfl,CP h.Kernel⟩,⟨rfl,rfl⟩,trivial⟩ ?_|refine C6 (a) ?_|refine CG (i) (.inl rfl) ?_|refine C9 ?_)
   refine CD rfl ?_ ?_
   ·exact T0 (λz=>[B z]) (by rw[Z3];simp)
   ·exact wC
theorem Gi{k:Int} : ∀{l s s2 c:List Int}(n:Nat),(∀x∈s2,x∈s)->pI k s l=some c->∃d,pI k s2 (l.take n)=some d/\∀x∈d,x∈c
 | [],s,s2,c,n,h,e=>by
  simp only[pI,U0,List.take_nil]at e |-;subst e;exact⟨s2,rfl,h⟩
 | a::l,s,s2,c,0,h,e=>⟨s2,rfl,λx b=>(mR (λ_ y=>y) e).1 x (h x b)⟩
 | a::l,s,s2,c,n+1,h,e=>by
  simp only[List.take_succ_cons,pI]at e |-;split at e
  ·rename_i g
   rw[C8 (show good k s2 a from⟨g.1,g.2.1,g.2.2.1,λx=>g.2.2.2 (h a x)⟩)];exact Gi (l:=l) (s:=s++[a]) (s2:=s2++[a]) n (λx b=>by
     rcases O2.1 b with b|b
     · exact O2.2 (.inl (h x b))
     · exact O2.2 (.inr b)) e
  ·cases e
theorem AE:∀{a:List (List Int)}{k:Nat}{s s2:List Int}(i n:Nat),(∀x∈s2,x∈s)->(fC k s a).isSome=true->(fC k s2 (a.set i ((nth a i).take n))).isSome=true
 | [],_,_,_,_,_,_,_=>rfl
 | l::a,k,s,s2,i,n,h,e=>by
  simp only[fC,dK]at e;split at e
  ·rename_i g
   cases b:pI k s l with
   | none=>rw[b]at e;cases e
   | some j=>
    rw[b]at e;cases i with
    | zero=>
     obtain⟨c,d,f⟩:=Gi n h b;simp only[List.set_cons_zero,fC,dK];rw[C8 ⟨by have:=g.1;simp only[nth,List.getD_cons_zero,I1];omega,g.2⟩];show((pI (k:Nat) s2 (l.take n)).bind λj=>fC (k+1) j a).isSome=true;rw[d];exact rg f e
    | succ i=>
     obtain⟨o,c,d,f⟩:=mR h b;simp only[List.set_cons_succ,fC,dK];rw[C8 g,d];exact AE i n f e
  ·cases e
theorem LH{c:aC}(h:bt c=true)(k:Nat):bt (qC c k)=true:=by
 unfold bt at h |-;simp only[I0,C0]at h |-;exact⟨by simp only[qC,C1];exact h.1,AE k _ (λ_ h=>h) h.2⟩
def nj(b:Int):Nat->List Int
 | 0=>[]
 | j+1=>if aY b (j:Nat)=true then nj b j else nj b j++[((j:Nat):Int)]
theorem rN{b:Int} : ∀{n:Nat}{z:Int},z∈nj b n->0<=z/\z<n/\aY b z=false
 | 0,_,h=>by cases h
 | n+1,z,h=>by
  unfold nj at h;split at h
  ·have:=rN h;exact⟨this.1,ω,this.2.2⟩
  ·rename_i e
   rcases O2.1 h with h|h
   ·have:=rN h;exact⟨this.1,ω,this.2.2⟩
   ·rw[Z0.1 h];exact⟨ω,ω,by simpa using e⟩
theorem r7(b:Int):∀n,(nj b n).length<=n
 | 0=>Q2 _
 | n+1=>by have:=r7 b n;unfold nj;split<;>simp<;>omega
def oT(k b:Int):List Int:=if HY k b=true then nj b (slots k).toNat else []
def lJ(h:ab)(i:Nat):List Int:=oT (nth h.Spans i).Class (gj h i)
theorem uA{k b z:Int}(h:z∈oT k b):0<=z/\z<slots k/\aY b z=false:=by
 unfold oT at h;split at h
 ·have:=rN h;exact⟨this.1,ω,this.2.2⟩
 ·cases h
theorem Ee(k b:Int):(oT k b).length<=16:=by
 unfold oT;split
 ·rename_i h
  unfold HY at h;rw[C0]at h;have:=(fZ (k:=k) ⟨h.1,h.2.1⟩).2.2.1;have:=r7 b (slots k).toNat;omega
 ·exact R0 _
def oN(h:ab)(i:Nat):Int:=nth (lJ h i) (JQ h.Seed ((lJ h i).length:Nat)).toNat
def slotT(h:ab)(i:Nat):ab:={h with Seed:=FY h.Seed,Spans:=h.Spans.set i (pA (nth h.Spans i) (oN h i))}
def si(h:ab)(i:Nat):Int:=16*(nth h.Spans i).Page+oN h i*csz (nth h.Spans i).Class
theorem ye{h:ab}{i:Nat}(a:0<(lJ h i).length):oN h i∈lJ h i:=by
 have:=tW h.Seed (n:=((lJ h i).length:Nat)) ω;exact am ω
theorem bk.slotT{h:ab}{E:List Int}{i:Nat}(a:bk h E)(b:i<h.Spans.length)(e:0<(lJ h i).length):bk (slotT h i) (si h i::E)/\iV (slotT h i).Spans (si h i) (nth h.Spans i).Class:=by
 obtain⟨c,d,f⟩:=uA (ye e);exact⟨a.take b ⟨c,d⟩ f (EH _),(iV.setS a.L b ⟨c,d⟩ _ _).2 (.inr ⟨rfl,.inr rfl⟩)⟩
def rn(h:ab)(c:Int)(i:Nat):Bool:=decide ((nth h.Spans i).Class=c)&&(!gk h (nth h.Spans i).Page&&decide (0<(lJ h i).length))
def qY(h:ab)(c:Int):Option Nat:=(List.range h.Spans.length).find? (rn h c)
def tc(h:ab)(c:Int):ab:=addS h (fB h.Kernel (ay h.Free 1).2.1).1 (ay h.Free 1).1 (ay h.Free 1).2.1 c
def tf(h:ab):Nat:=jo (Gq (ay h.Free 1).2.1) h.Spans
def nA(h:ab)(i:Nat):ab × Int:=if(lJ h i).length=0 then(h,-1) else(slotT h i,si h i)
def fk(h:ab)(t c:Nat):ab × Int:=
 if 0<(nth (nth h.Caches t).Lists c).length then({h with Caches:=h.Caches.set t (qC (nth h.Caches t) c)},nth (nth (nth h.Caches t).Lists c) ((nth (nth h.Caches t).Lists c).length - 1))
 else match qY h c with
 | some i=>(slotT h i,si h i)
 | none=>if(ay h.Free 1).2.2=false then(h,-1)
  else if(fB h.Kernel (ay h.Free 1).2.1).2=false then({h with Kernel:=(fB h.Kernel (ay h.Free 1).2.1).1},-1)
  else nA (tc h c) (tf h)
theorem FT{α:Type}[Inhabited α](p:α->Bool)(xs:List α)(y:α):jo p xs<(iF p xs y).length/\nth (iF p xs y) (jo p xs)=y:=by
 have b:=Lu p xs;have a:(xs.take (jo p xs)).length=jo p xs:=by rw[I1];omega
 refine⟨by rw[(jw p xs y).length_eq,List.length_cons];omega,br ?_⟩;unfold iF;rw[X3 ω,a,Nat.sub_self]
 rfl
theorem bk.tEq{h:ab}{E:List Int}(a:bk h E){k:af}(c:aA k=true)(b:tEq (tbl h) k.Machine.Table):bk {h with Kernel:=k} E/\JK h {h with Kernel:=k}:=
 ⟨a.step (j:=h.Job) (m:=h.Meshing) c b.1 (a.pg.tEq b) a.job a.noj,⟨rfl,rfl,λs d _=>⟨s,d,rfl,λ_ z=>z⟩,λq e=>.inl ⟨(b.2 q).1.1 e,(b.2 q).2⟩⟩⟩
structure NY(h:ab)(c:Int)(r:ab × Int):Prop where
 no:r.2<0->bk r.1 []
 yes:0<=r.2->bk r.1 [r.2]/\iV r.1.Spans r.2 c
 jk:JK h r.1
 nx:r.1.Next=h.Next
 cl:r.1.Caches.length=h.Caches.length
theorem iV.nn{h:ab}{E:List Int}(b:bk h E){a c:Int}(d:iV h.Spans a c):0<=a:=(iV.bd b d).1
theorem NY.slot{h h':ab}{i:Nat}{c:Int}(g:bk h' [])(j:i<h'.Spans.length)(k:0<(lJ h' i).length)(l:(nth h'.Spans i).Class=c)(n:JK h h')(a:gk h' (nth h'.Spans i).Page=false)(h1:h'.Next=h.Next)(o:h'.Caches.length=h.Caches.length):NY h c (slotT h' i,si h' i):=by
 obtain⟨d,f⟩:=g.slotT j k;have b:=iV.nn d f;exact⟨λe=>absurd b (by simp only at e;omega),λ_=>⟨d,by rw[<-l];exact f⟩,n.trans (JK.take a),h1,o⟩
theorem xY{h:ab}{t c:Nat}(a:bk h [])(q:t<h.Caches.length)(P:c<=3)(B:h.Kernel.Calls<=90000):NY h c (fk h t c):=by
 have f:=a.cach _ (am q);have C:=sU f;unfold fk;split
 ·rename_i D
  obtain⟨d,b⟩:=a.pop q ω D (LH f c);have l:=iV.nn a b;exact⟨λe=>absurd l (by simp only at e;omega),λ_=>⟨d,b⟩,JK.eq rfl rfl rfl rfl,rfl,C1 ..⟩
 split
 ·rename_i i r
  have g:=List.find?_some r;have E:=List.mem_range.1 (List.mem_of_find?_eq_some r);unfold rn at g;simp only[I0,C0,Bool.not_eq_true']at g;exact NY.slot a E g.2.2 g.1 (JK.refl h) g.2.1 rfl rfl
 split
 ·exact⟨λ_=>a,λe=>absurd e (by show ¬(0:Int)<=-1;decide),JK.refl h,rfl,rfl⟩
 rename_i F;have j:(ay h.Free 1).2.2=true:=by simpa using F
 obtain⟨G,H,J,u⟩:=kj a (v4 1) j;have s:=zY.of (p:=(ay h.Free 1).2.1) a.ker ω ⟨G,by have:(ay h.Free 1).2.1+1<=(h.Kernel.Machine.Table.Entries.length:Nat):=H;omega⟩ (J _ ω ω);split
 ·rename_i n
  rw[s.no n];obtain⟨d,b⟩:=a.tEq (kM a.ker ω) (tEq.refl _);exact⟨λ_=>d,λe=>absurd e (by show ¬(0:Int)<=-1;decide),b,rfl,rfl⟩
 rename_i n;have o:(fB h.Kernel (ay h.Free 1).2.1).2=true:=by simpa using n
 have w:zY h.Kernel (ay h.Free 1).2.1 ((fB h.Kernel (ay h.Free 1).2.1).1,true):=by rw[<-o];exact s
 have d:=a.addS (c:=c) ⟨ω,ω⟩ j w;have b:JK h (tc h c):=JK.addS w;obtain⟨K,A⟩:=FT (Gq (ay h.Free 1).2.1) h.Spans ⟨(ay h.Free 1).2.1,c,0⟩;unfold nA;split
 ·exact⟨λ_=>d,λe=>absurd e (by show ¬(0:Int)<=-1;decide),b,rfl,rfl⟩
 ·refine NY.slot (h':=tc h c) (i:=tf h) d K ω (by show(nth (iF (Gq (ay h.Free 1).2.1) h.Spans ⟨(ay h.Free 1).2.1,c,0⟩) (tf h)).Class=_;unfold tf;rw[A]) b ?_ rfl rfl
  show gk (tc h c) (nth (iF (Gq (ay h.Free 1).2.1) h.Spans ⟨(ay h.Free 1).2.1,c,0⟩) (tf h)).Page=false;unfold tf;rw[A,b.pg];rw[<-O4];intro k;unfold gk at k;simp only[I0,Y4,C0]at k;obtain⟨-,⟨y,L,M⟩,⟨z,N,O⟩⟩:=a.job k.1;rcases k.2 with e|e
  ·exact u _ (v4 _) ω (by rw[e,<-M];exact dr L)
  ·exact u _ (v4 _) ω (by rw[e,<-O];exact dr N)
def kW(size:Int):Nat:=((size+15) / 16).toNat
def iu(h:ab)(size:Int):af × Nat:=cx h.Kernel (ay h.Free (kW size:Nat)).2.1 (kW size)
def mQ(h:ab)(t size:Int):ab × Int × Int:=
 if(ay h.Free (kW size:Nat)).2.2=false then(h,-1,4)
 else if(iu h size).2=kW size then(addL h (iu h size).1 (ay h.Free (kW size:Nat)).1 (ay h.Free (kW size:Nat)).2.1 (kW size:Nat) size t,16*(ay h.Free (kW size:Nat)).2.1,0)
 else({h with Kernel:=dC (iu h size).1 (ay h.Free (kW size:Nat)).2.1 (iu h size).2},-1,4)
def rG(xs:List bC):Nat->Int
 | 0=>0
 | i+1=>rG xs i+(nth xs i).Size
def vM(h:ab):Int:=rG h.Objs h.Objs.length
def fm(h:ab)(t size:Int):ab × Int × Int:=
 if 1000000<=h.Next\/90000<h.Kernel.Calls then(h,-1,5)
 else if ¬(0<=t/\t<=h.Caches.length - 1) then(h,-1,1)
 else if ¬(1<=size/\size<=1000) then(h,-1,2)
 else if h.Limit<vM h+size then(h,-1,3)
 else if 0<=aN size then(if(fk h t.toNat (aN size).toNat).2<0 then((fk h t.toNat (aN size).toNat).1,-1,4) else(addO (fk h t.toNat (aN size).toNat).1 (fk h t.toNat (aN size).toNat).2 size t,(fk h t.toNat (aN size).toNat).2,0))
 else mQ h t size
theorem GQ{h:ab}{t size:Int}(a:bk h [])(g:9<=size/\size<=1000)(i:h.Next<1000000)(j:h.Kernel.Calls<=90000)(k:0<=t/\t<=h.Caches.length - 1):bk (mQ h t size).1 []/\JK h (mQ h t size).1:=by
 have l:(kW size:Int)=(size+15) / 16:=by unfold kW;omega
 unfold mQ;split
 ·exact⟨a,JK.refl h⟩
 rename_i o;have b:(ay h.Free (kW size:Nat)).2.2=true:=by simpa using o
 obtain⟨c,d,e,w⟩:=kj a (show(1:Int)<=(kW size:Nat) by omega) b;have s:=mL.of (p:=(ay h.Free (kW size:Nat)).2.1) (n:=kW size) a.ker ω ⟨c,d⟩ e (kW size) (Q2 _);split
 ·rename_i q
  have f:mL h.Kernel (ay h.Free (kW size:Nat)).2.1 (kW size) ((iu h size).1,kW size):=by
   have:((iu h size).1,kW size)=iu h size:=by rw[<-q]
   rw[this];exact s
  exact⟨a.addL g l b f i k,JK.addL f⟩
 ·obtain⟨r,u⟩:=s.undo a.ker ⟨c,d⟩ e
  exact a.tEq r u
theorem GB{h:ab}{t size:Int}(a:bk h []):bk (fm h t size).1 []/\JK h (fm h t size).1:=by
 unfold fm;split
 ·exact⟨a,JK.refl h⟩
 rename_i d;rw[not_or]at d;split
 ·exact⟨a,JK.refl h⟩
 rename_i n;split
 ·exact⟨a,JK.refl h⟩
 rename_i o;split
 ·exact⟨a,JK.refl h⟩
 split
 ·rename_i b
  have f:aN size<=3:=by unfold aN;repeat' split<;>omega
  have s:=xY (t:=t.toNat) (c:=(aN size).toNat) a ω ω ω;generalize fk h t.toNat (aN size).toNat=r at s;split
  ·rename_i e;exact⟨s.no e,s.jk⟩
  ·rename_i e
   obtain⟨g,i⟩:=s.yes ω;refine⟨g.addO (.inl ?_) (by rw[s.nx];omega) (by rw[s.cl];omega),s.jk.trans (JK.eq rfl rfl rfl rfl)⟩;obtain⟨z,j,k,p⟩:=i;exact⟨z,j,k,by show z.Class=aN size;omega⟩
 ·rename_i b
  have l:9<=size:=by
   unfold aN at b
   repeat' split at b<;>omega
  exact GQ a ⟨l,ω⟩ ω ω ω
theorem lE{α β:Type}[Inhabited α]{f:α->β}{xs:List α}{i:Nat}{y:α}(a:i<xs.length)(e:f y=f (nth xs i)):(xs.set i y).map f=xs.map f:=by
 rw[X4];refine List.ext_getElem (by simp) λj b c=>?_
 rw[List.getElem_set];split
 ·rename_i g;subst g
  rw[List.getElem_map,e,br (U1 a)]
 ·rfl
theorem my{α β:Type}[Inhabited α](f:α->List β):∀(xs:List α)(i:Nat)(y:α),i<xs.length->(f y).Sublist (f (nth xs i))->((xs.set i y).flatMap f).Sublist (xs.flatMap f)
 | [],_,_,h,_=>absurd h (Nat.not_lt_zero _)
 | x::xs,0,y,_,a=>by
  rw[List.set_cons_zero,z5,z5];exact List.Sublist.append a (List.Sublist.refl _)
 | x::xs,i+1,y,h,a=>by
  rw[List.set_cons_succ,z5,z5];exact List.Sublist.append (List.Sublist.refl _) (my f xs i y (by simpa using h) a)
def zK(k:af)(a:Int):Nat->af
 | 0=>k
 | m+1=>cV (zK k a m) (a+m) 0
theorem qW(k:af)(a:Int):∀m,(zK k a m).Machine.Table=k.Machine.Table/\(zK k a m).Calls=k.Calls/\(zK k a m).Refuse=k.Refuse
 | 0=>⟨rfl,rfl,rfl⟩
 | m+1=>qW k a m
theorem MQ{k:af}(h:aA k=true){a:Int} : ∀{m:Nat},(∀j:Nat,j<m->(ao k.Machine.Table ((a+j) / 16)).Mode≠0)->aA (zK k a m)=true
 | 0,_=>h
 | m+1,b=>uz (MQ h λj c=>b j ω) (by rw[(qW k a m).1];exact b m ω) ⟨ω,ω⟩
theorem Fa{h:ab}{E:List Int}(j:bk h E){sp:List au}{la:List a8}{o:List a7}{p:Int}{n:Nat}(y:p+n<=h.Kernel.Machine.Table.Entries.length)(A:sp.Sublist h.Spans)(M:∀l∈la,∀q∈lpgs l l.Pages.toNat,∃w∈h.Larges,q∈lpgs w w.Pages.toNat)(N:0<=p)(B:∀q,q∈pgs sp la↔q∈pgs h.Spans h.Larges/\¬(p<=q/\q<p+n))(O:∀q,RH o q↔RH h.Free q\/(p<=q/\q<p+n)) :
  Pg (dC h.Kernel p n).Machine.Table o sp la:=by
 have b:=(gW h.Kernel p n).1;have d:=kV j.ker N n y;have f:∀q:Nat,(q:Int)∈pgs sp la->nth (dC h.Kernel p n).Machine.Table.Entries q=nth (tbl h).Entries q:=λq c=>by rw[d,C7 ((B q).1 c).2];rfl
 have a:∀q:Nat,(nth (dC h.Kernel p n).Machine.Table.Entries q).Mode≠0↔(nth (tbl h).Entries q).Mode≠0/\¬(p<=q/\(q:Int)<p+n):=λq=>by
  rw[d];by_cases e:p<=q/\(q:Int)<p+n
  ·rw[C8 e];exact⟨λx=>absurd rfl x,λx=>absurd e x.2⟩
  ·rw[C7 e];exact⟨λx=>⟨x,e⟩,λx=>x.1⟩
 refine⟨λl g q c r J C k=>?_,λq c=>?_,λq c=>?_,λq c=>?_,λs g u D F K=>?_⟩
 ·have t:=(a r).1 C
  rw[b]at J;rw[f q (fe g c),d,C7 t.2]at k;obtain⟨w,G,H⟩:=M l g _ c;exact j.pg.one w G q H r J t.1 k
 ·rw[b];exact j.pg.bnd q ((B q).1 c).1
 ·rw[b]at c
  rw[a,B,j.pg.own q c]
 ·rw[b]at c
  rw[a,O,j.pg.fre q c]
  grind
 ·have i:∀s∈sp,0<=s.Page:=λs g=>(aF (j.L.sok s (A.subset g))).1
  have P:=f s.Page.toNat (by rw[Int.toNat_of_nonneg (i s g)];exact dr g);have Q:=f u.Page.toNat (by rw[Int.toNat_of_nonneg (i u D)];exact dr D);rw[P,Q]at K;exact j.pg.mesh s (A.subset g) u (A.subset D) F K
def trimL(l:a8)(size:Int):a8:=⟨l.Page,(size+15) / 16,size⟩
def d7(l:a8)(size:Int):Nat:=(l.Pages - (size+15) / 16).toNat
theorem bk.trimL{h:ab}{E:List Int}{i k:Nat}{size:Int}(t:bk h E)(T:i<h.Objs.length)(H:k<h.Larges.length)(Y:(nth h.Objs i).Addr=16*(nth h.Larges k).Page)(N:9<=size/\size<=(nth h.Larges k).Size) :
  ∃o,(d7 (nth h.Larges k) size=0->o=h.Free)/\(0<d7 (nth h.Larges k) size->dl (dQ h) h.Free ⟨(nth h.Larges k).Page+(size+15) / 16,(d7 (nth h.Larges k) size:Nat)⟩ = some o)/\
   bk {h with Kernel:=dC h.Kernel ((nth h.Larges k).Page+(size+15) / 16) (d7 (nth h.Larges k) size),Larges:=h.Larges.set k (trimL (nth h.Larges k) size),Objs:=h.Objs.set i {nth h.Objs i with Size:=size},Free:=o} E:=by
 have U:=t.L;have C:=U.lok _ (am H);have hf:=aU C;unfold bR at C;rw[C0]at C;obtain⟨b1,b2⟩:=zL t H;have O:=U.dis;have G:=λj n=>U.one j k n H
 have y:=(am H:nth h.Larges k∈h.Larges)
 have d:∀z∈h.Larges.set k (Ab.trimL (nth h.Larges k) size),z=Ab.trimL (nth h.Larges k) size\/∃j,j<h.Larges.length/\j≠k/\nth h.Larges j=z:=λz N=>eI N
 have p:Ab.trimL (nth h.Larges k) size∈h.Larges.set k (Ab.trimL (nth h.Larges k) size):=gT _ H;have u:∀j,j<h.Larges.length->j≠k->nth h.Larges j∈h.Larges.set k (Ab.trimL (nth h.Larges k) size):=λj n e=>iT _ n e
 have hpageM:(h.Larges.set k (Ab.trimL (nth h.Larges k) size)).map (·.Page)=h.Larges.map (·.Page):=lE H rfl;have w:(pgs h.Spans (h.Larges.set k (Ab.trimL (nth h.Larges k) size))).Sublist (pgs h.Spans h.Larges):=by
  unfold pgs;refine List.Sublist.append (List.Sublist.refl _) (my _ _ _ _ H ?_);unfold lpgs;exact(List.range_sublist.2 (by simp only[Ab.trimL];omega)).map _
 obtain⟨l,V⟩ : ∃l,nth h.Larges k=l:=⟨_,rfl⟩
 rw[V]at C hf b1 b2 G y d p u hpageM w Y N |-;generalize hla:h.Larges.set k (Ab.trimL l size)=la at d p u hpageM w |-;have hn1:(1:Int)<=(size+15) / 16/\(size+15) / 16+(d7 l size:Nat)=l.Pages:=by unfold d7;omega
 have D:∀q,q∈lpgs l l.Pages.toNat↔l.Page<=q/\q<l.Page+l.Pages:=λq=>by
  rw[dd];constructor
  ·rintro⟨j,n,rfl⟩;omega
  ·rintro⟨Z,q2⟩;exact⟨(q - l.Page).toNat,ω,ω⟩
 have J:∀q,q∈lpgs (Ab.trimL l size) (Ab.trimL l size).Pages.toNat↔l.Page<=q/\q<l.Page+(size+15) / 16:=λq=>by
  rw[dd];simp only[Ab.trimL];constructor
  ·rintro⟨j,n,rfl⟩;omega
  ·rintro⟨Z,q2⟩;exact⟨(q - l.Page).toNat,ω,ω⟩
 have hpe:l.Page+(size+15) / 16+(d7 l size:Nat)=l.Page+l.Pages:=ω
 have P:∀q,q∈pgs h.Spans la↔q∈pgs h.Spans h.Larges/\¬(l.Page+(size+15) / 16<=q/\q<l.Page+(size+15) / 16+(d7 l size:Nat)):=λq=>by
  rw[oo,oo,hpe];constructor
  ·rintro(⟨s,W,rfl⟩|⟨z,c,B⟩)
   ·exact⟨.inl ⟨s,W,rfl⟩,λe=>O s W l y (s.Page - l.Page).toNat ω ω⟩
   ·rcases d z c with rfl|⟨j,n,hjk,rfl⟩
    ·have:=(J q).1 B
     exact⟨.inr ⟨l,y,(D q).2 ⟨ω,ω⟩⟩,ω⟩
    ·refine⟨.inr ⟨_,am n,B⟩,λe=>?_⟩
     obtain⟨m,hm,rfl⟩:=dd.1 B;exact hjk (G j n m ((nth h.Larges j).Page+(m:Int) - l.Page).toNat hm ω ω)
  ·rintro⟨⟨s,W,rfl⟩|⟨z,c,B⟩,hne⟩
   ·exact .inl ⟨s,W,rfl⟩
   ·obtain⟨j,n,rfl⟩:=bf c
    by_cases e:j=k
    ·subst e
     rw[V]at B;have:=(D q).1 B;exact .inr ⟨_,p,(J q).2 ⟨ω,ω⟩⟩
    ·exact .inr ⟨_,u j n e,B⟩
 have K:∃o,(d7 l size=0->o=h.Free)/\(0<d7 l size->dl (dQ h) h.Free ⟨l.Page+(size+15) / 16,(d7 l size:Nat)⟩ = some o)/\bv (dQ h) o=true/\∀q,RH o q↔RH h.Free q\/(l.Page+(size+15) / 16<=q/\q<l.Page+(size+15) / 16+(d7 l size:Nat)):=by
  by_cases e:d7 l size=0
  ·refine⟨h.Free,λ_=>rfl,λg=>absurd g ω,t.rng,λq=>⟨.inl,λg=>g.resolve_right ω⟩⟩
  ·obtain⟨o,o1,o2,o3⟩:=sR (r:=⟨l.Page+(size+15) / 16,(d7 l size:Nat)⟩) t.rng ⟨by simp only;omega,by simp only;omega,by show l.Page+(size+15) / 16+(d7 l size:Nat)<=(dQ h:Int);have:((tbl h).Entries.length:Int)=(dQ h:Int):=rfl;omega⟩ λq Z q2=>by
    simp only at Z q2;obtain⟨m,rfl⟩:=I2 (show 0<=q by omega);have Q:m<(tbl h).Entries.length:=ω
    exact(t.pg.fre m Q).1 ((t.pg.own m Q).2 (fe y ((D _).2 ⟨ω,ω⟩)))
   exact⟨o,λg=>absurd g e,λ_=>o1,o2,o3⟩
 obtain⟨o,o0,o1,o2,o3⟩:=K;have R:=(gW h.Kernel (l.Page+(size+15) / 16) (d7 l size)).1;have M:∀z∈h.Objs.set i {nth h.Objs i with Size:=size},z = {nth h.Objs i with Size:=size}\/∃j,j<h.Objs.length/\j≠i/\nth h.Objs j=z:=λz N=>eI N
 have F:(h.Objs.set i {nth h.Objs i with Size:=size}).map (·.Addr)=h.Objs.map (·.Addr):=lE T rfl;have S:(h.Objs.set i {nth h.Objs i with Size:=size}).map (·.Id)=h.Objs.map (·.Id):=lE T rfl;have hli:=(am T:nth h.Objs i∈h.Objs)
 generalize h.Objs.set i {nth h.Objs i with Size:=size} = ob at M F S |-;refine⟨o,o0,o1,{t with
   ker:=kb t.ker _ _
   rng:=by show bv (((dC h.Kernel (l.Page+(size+15) / 16) (d7 l size)).Machine.Table.Entries.length:Nat):Int) o=true;rw[R];exact o2
   lay:=?_
   srl:=?_
   pg:=Fa t (by have:((tbl h).Entries.length:Int)=(h.Kernel.Machine.Table.Entries.length:Int):=rfl;omega) (List.Sublist.refl _) (λz c q B=>?_) ω P o3
   osr:=?_
   onu:=λz c=>?_
   oid:=by show(ob.map (·.Id)).Nodup;rw[S];exact t.oid
   oow:=λz c=>?_
   nd:=?_
   mem:=λb=>?_}⟩
 ·obtain⟨l1,l2,l3⟩:=dc t.lay
  unfold bj;simp only[I0,C0];refine⟨⟨l1,O3.2 λz c=>?_⟩,l3.sublist w⟩;rcases d z c with rfl|⟨j,n,-,rfl⟩
  ·exact O0 ⟨N.1,by show size<=1000;omega,rfl,by show 0<=l.Page;omega,by show l.Page<=32 - (size+15) / 16;omega⟩
  ·exact U.lok _ (am n)
 ·have A:(h.Larges.map (·.Page)).Pairwise (λa b=>a<b):=List.pairwise_map.2 t.srl
  rw[<-hpageM]at A;exact List.pairwise_map.1 A
 ·rcases d z c with rfl|⟨j,n,-,rfl⟩
  ·have:=(J q).1 B
   exact⟨l,y,(D q).2 ⟨ω,ω⟩⟩
  ·exact⟨_,am n,B⟩
 ·have A:(h.Objs.map (·.Addr)).Pairwise (λa b=>a<b):=List.pairwise_map.2 t.osr
  rw[<-F]at A;exact List.pairwise_map.1 A
 ·rcases M z c with rfl|⟨j,n,-,rfl⟩
  ·exact t.onu (nth h.Objs i) hli
  ·exact t.onu _ (am n)
 ·rcases M z c with rfl|⟨j,n,hji,rfl⟩
  ·exact .inr ⟨_,p,Y,rfl⟩
  ·rcases t.oow _ (am n) with A|⟨l',hl',e1,X⟩
   ·exact .inl A
   ·obtain⟨m,hm,rfl⟩:=bf hl'
    by_cases e:m=k
    ·subst e
     rw[V]at e1;exact absurd (gy (f:=(·.Addr)) (gQ t.osr) n T (e1.trans Y.symm)) hji
    ·exact .inr ⟨_,u m hm e,e1,X⟩
 ·have hh:holders {h with Kernel:=dC h.Kernel (l.Page+(size+15) / 16) (d7 l size),Larges:=la,Objs:=ob,Free:=o} = holders h:=by
   show((ob.map (·.Addr)++ch h)++h.Quar.Lst.map (·.Addr))++aK h.Mail=_;rw[F];rfl
  rw[hh];exact t.nd
 ·have hh:holders {h with Kernel:=dC h.Kernel (l.Page+(size+15) / 16) (d7 l size),Larges:=la,Objs:=ob,Free:=o} = holders h:=by
   show((ob.map (·.Addr)++ch h)++h.Quar.Lst.map (·.Addr))++aK h.Mail=_;rw[F];rfl
  rw[hh,t.mem b];show kZ h.Spans h.Larges b↔kZ h.Spans la b;unfold kZ;constructor
  ·rintro(A|⟨z,c,e⟩)
   ·exact .inl A
   ·obtain⟨j,n,rfl⟩:=bf c
    by_cases X:j=k
    ·subst X
     rw[V]at e;exact .inr ⟨_,p,e⟩
    ·exact .inr ⟨_,u j n X,e⟩
  ·rintro(A|⟨z,c,e⟩)
   ·exact .inl A
   ·rcases d z c with rfl|⟨j,n,-,rfl⟩
    ·exact .inr ⟨l,y,e⟩
    ·exact .inr ⟨_,am n,e⟩
def so(h:ab)(k:Nat)(size:Int):af:=zK h.Kernel (16*(nth h.Larges k).Page+size) (16*((size+15) / 16) - size).toNat
def Fj(h:ab)(k:Nat)(size:Int):List a7:=if 0<d7 (nth h.Larges k) size then(dl (dQ h) h.Free ⟨(nth h.Larges k).Page+(size+15) / 16,(d7 (nth h.Larges k) size:Nat)⟩).getD h.Free else h.Free
def trimH(h:ab)(i k:Nat)(size:Int):ab:={h with Kernel:=dC (so h k size) ((nth h.Larges k).Page+(size+15) / 16) (d7 (nth h.Larges k) size),Larges:=h.Larges.set k (trimL (nth h.Larges k) size),Objs:=h.Objs.set i {nth h.Objs i with Size:=size},Free:=Fj h k size}
theorem mB{h:ab}{E:List Int}(b:bk h E){k:Nat}(c:k<h.Larges.length){a:Int}(g:16*(nth h.Larges k).Page<=a/\a<16*(nth h.Larges k).Page+16*(nth h.Larges k).Pages):(ao h.Kernel.Machine.Table (a / 16)).Mode≠0:=by
 obtain⟨i,j⟩:=zL b c;have l:=aU (b.L.lok _ (am c));have d:(a / 16)∈pgs h.Spans h.Larges:=fe (am c) (dd.2 ⟨(a / 16 - (nth h.Larges k).Page).toNat,ω,ω⟩);have e:=b.pg.bnd _ d;have f:=(b.pg.own (a / 16).toNat ω).2 (by rw[show(((a / 16).toNat:Nat):Int)=a / 16 by omega];exact d);unfold ao;rw[C8 ⟨ω,e⟩];exact f
theorem AB{h:ab}{E:List Int}(b:bk h E){k:Nat}(c:k<h.Larges.length){size:Int}(d:9<=size/\size<=(nth h.Larges k).Size):∀{m:Nat},m<=(16*((size+15) / 16) - size).toNat->aA (zK h.Kernel (16*(nth h.Larges k).Page+size) m)=true:=fun {m} hm=>by
 have a:=b.L.lok _ (am c);unfold bR at a;rw[C0]at a;exact MQ b.ker λj e=>mB b c ⟨ω,ω⟩
theorem bk.trimH{h:ab}{i k:Nat}{size:Int}(d:bk h [])(A:i<h.Objs.length)(f:k<h.Larges.length)(B:(nth h.Objs i).Addr=16*(nth h.Larges k).Page)(r:9<=size/\size<=(nth h.Larges k).Size):bk (trimH h i k size) []/\JK h (trimH h i k size):=by
 have t:=AB d f r (Q2 _);have l:=(qW h.Kernel (16*(nth h.Larges k).Page+size) (16*((size+15) / 16) - size).toNat).1;have C:=d.cells t l;obtain⟨o,u,w,y⟩:=C.trimL (i:=i) (k:=k) (size:=size) A f B r;simp only at u w y;have n:dQ {h with Kernel:=zK h.Kernel (16*(nth h.Larges k).Page+size) (16*((size+15) / 16) - size).toNat} = dQ h:=by
  unfold dQ;simp only[l]
 have D:Fj h k size=o:=by
  unfold Fj;split
  ·rename_i g;have:=w g;rw[n]at this;rw[this];rfl
  ·exact(u ω).symm
 have E:Ab.trimH h i k size = {h with Kernel:=dC (so h k size) ((nth h.Larges k).Page+(size+15) / 16) (d7 (nth h.Larges k) size),Larges:=h.Larges.set k (Ab.trimL (nth h.Larges k) size),Objs:=h.Objs.set i {nth h.Objs i with Size:=size},Free:=o}:=by unfold Ab.trimH;rw[D]
 refine⟨by rw[E];exact y,JK.less rfl rfl rfl λq j=>?_⟩;have a:=d.L.lok _ (am f);unfold bR at a;rw[C0]at a;obtain⟨F,G⟩:=zL d f;have b:(so h k size).Machine.Table=h.Kernel.Machine.Table:=l;have c:=kV (k:=so h k size) t (p:=(nth h.Larges k).Page+(size+15) / 16) ω (d7 (nth h.Larges k) size) (by rw[b];have:((tbl h).Entries.length:Int)=(h.Kernel.Machine.Table.Entries.length:Int):=rfl;unfold d7;omega) q;change (nth (dC (so h k size) ((nth h.Larges k).Page+(size+15) / 16) (d7 (nth h.Larges k) size)).Machine.Table.Entries q).Mode≠0 at j;show nth (dC (so h k size) ((nth h.Larges k).Page+(size+15) / 16) (d7 (nth h.Larges k) size)).Machine.Table.Entries q=nth h.Kernel.Machine.Table.Entries q;rw[c]at j |-;split at j
 ·exact absurd rfl j
 ·rename_i e;rw[C7 e,b]
theorem Eg{t:Nat}(h:1<=t/\t<=4):bD (dx t)=true:=by
 have f:∀n,n<=t->bp (dx t) n=0:=λn=>by
  induction n with
  | zero=>intro _;rfl
  | succ n g=>
   intro j;have a:nth (dx t).Buffers n=[]:=cv ω;have b:nth (dx t).Inbox n=[]:=cv ω;simp only[bp,g ω,a,b,List.length_nil]
   decide
 have e:(dx t).Buffers.length=t:=v3 ..;refine d3.2 ⟨⟨ω,ω,by simp[dx]⟩,λi c=>?_,by rw[e,f t (Q2 _)];omega⟩;rw[e]at c;have a:nth (dx t).Buffers i=[]:=cv c;have b:nth (dx t).Inbox i=[]:=cv c;rw[a,b];exact⟨λp d=>(by cases d),λp d=>(by cases d)⟩
theorem sq(t:Nat):aK (dx t)=[]:=by
 unfold aK;split
 ·simp[dx]
 ·rfl
def pu(k:af)(t:Nat)(sd ck lim:Int):ab:=⟨k,[⟨0,(k.Machine.Table.Entries.length:Nat)⟩],[],[],[],List.replicate t ek,dx t,⟨16,[]⟩,sd,ck,lim,1,false,⟨⟨0,0,[]⟩,0,0⟩⟩
theorem Bc:bt ek=true:=by decide
theorem bk.fresh{k:af}{t:Nat}{lim sd ck:Int}(A:aA k=true)(B:∀q,q<k.Machine.Table.Entries.length->(nth k.Machine.Table.Entries q).Mode=0)(E:1<=t/\t<=4)(g:0<=lim/\lim<=1000)(h:0<=sd/\sd<=1073741823)(d:0<=ck/\ck<=1000000):bk (pu k t sd ck lim) []:=by
 obtain⟨G,H,J⟩:=bn.1 (aB.1 A).2.2.1;have hca:ch (pu k t sd ck lim)=[]:=by
  unfold ch;refine List.flatMap_eq_nil_iff.2 λc d=>?_
  rw[(List.mem_replicate.1 d).2]
  rfl
 have C:holders (pu k t sd ck lim)=[]:=by
  unfold holders;rw[hca];show(([]++[])++[])++aK (dx t)=[];rw[sq];rfl
 have i:∀a,¬kZ (pu k t sd ck lim).Spans (pu k t sd ck lim).Larges a:=λa=>by
  rintro(⟨s,h,-⟩|⟨l,g,-⟩)
  ·cases h
  ·cases g
 exact {
   ker:=A
   rng:=eK.2 ⟨⟨List.pairwise_singleton ..,λy n=>by rw[Z0.1 n];show(1:Int)<=(k.Machine.Table.Entries.length:Nat);omega⟩,λy n=>by
       rw[Z0.1 n];refine⟨v4 _,by show(1:Int)<=(k.Machine.Table.Entries.length:Nat);omega,?_⟩;show(0:Int)+(k.Machine.Table.Entries.length:Nat)<=(k.Machine.Table.Entries.length:Nat);omega,by show(1:Int)<=(k.Machine.Table.Entries.length:Nat);omega,by show((k.Machine.Table.Entries.length:Nat):Int)<=32;omega⟩
   lay:=by show bj [] []=true;decide
   srs:=List.Pairwise.nil
   srl:=List.Pairwise.nil
   pg:=⟨λl g=>(by cases g),λp f=>(by cases f),λp f=>⟨λe=>absurd (B p f) e,λe=>by cases e⟩,λp f=>⟨λe=>absurd (B p f) e,λe=>absurd ⟨_,Z0.2 rfl,by show(0:Int)<=p;omega,by
       show(p:Int)<0+(k.Machine.Table.Entries.length:Nat);have F:p<k.Machine.Table.Entries.length:=f;omega⟩ e⟩,λs h=>by cases h⟩
   mail:=Eg E
   nc:=by show(List.replicate t ek).length=(List.replicate t _).length;simp
   quar:=by show fx ⟨16,[]⟩ = true;decide
   snc:=λx r=>by cases r
   cach:=λc d=>by rw[(List.mem_replicate.1 d).2];exact Bc
   nums:=by unfold cj;rw[C0];simp only[pu];omega
   osr:=List.Pairwise.nil
   onu:=λo u=>by cases u
   oid:=List.nodup_nil
   oow:=λo u=>by cases u
   hca:=λc d j D a b=>by
     rw[(List.mem_replicate.1 d).2]at D b;have w:j<4:=D;have:nth ek.Lists j=[]:=cv w;rw[this]at b;cases b
   hqu:=λx r=>by cases r
   hfl:=λa b=>by
     have:aK (dx t)=[]:=sq t;change a∈aK (dx t) at b;rw[this]at b;cases b
   hin:=λa b=>by cases b
   nd:=by rw[C];exact List.nodup_nil
   mem:=λa=>by rw[C];exact⟨λe=>(by cases e),λe=>absurd e (i a)⟩
   job:=λe=>by cases e
   noj:=λ_=>by show qa ⟨⟨0,0,[]⟩,0,0⟩ = true;decide}
theorem JI.no{h:ab}(a:h.Meshing=false):JI h:=⟨λe=>(by rw[a]at e;cases e),λe=>(by rw[a]at e;cases e),λe=>(by rw[a]at e;cases e),λe=>(by rw[a]at e;cases e)⟩
theorem oJ{p f:Nat}{a:List Int}(d:1<=p/\p<=32)(e:1<=f/\f<=32)(b:a.length<=40/\∀x∈a,0<=x):aA (b9 p f a)=true:=by
 obtain⟨-,g,h,i,c⟩:=aB.1 (zg d e);exact aB.2 ⟨λj k=>b.2 _ (am k),g,h,i,c.1,c.2.1,b.1⟩
theorem A6{p f t:Nat}{lim:Int}{a:List Int}(c:1<=p/\p<=32)(d:1<=f/\f<=32)(g:1<=t/\t<=4)(i:0<=lim/\lim<=1000)(j:a.length<=40/\∀x∈a,0<=x):bk (tP p f t lim a) []:=by
 have h:=bk.fresh (k:=b9 p f a) (t:=t) (lim:=lim) (sd:=0) (ck:=0) (oJ c d j) (λq l=>by
   have b:q<p:=by simpa[b9,dG] using l
   rw[show nth (b9 p f a).Machine.Table.Entries q = ⟨0,0⟩ from cv b]) g i ω ω
 have e:(b9 p f a).Machine.Table.Entries.length=p:=by simp[b9,dG]
 unfold pu at h;rw[e]at h;exact h
structure dL where
 Kind:Int
 Thread:Int
 N:Int
 At:Int
 Value:Int
deriving DecidableEq,Inhabited
def dL.enc(_:dy)(x:dL):List C:=[I x.Kind,I x.Thread,I x.N,I x.At,I x.Value]
def lP(id:Int)(o:bE):Bool:=decide (o.Id=id)
def nk(r:ax)(id:Int):Int:=di (lP id) r.Objs
def jQ(r:ax)(n:Int):ax:=if 1<=n/\n<=1000 then {r with Next:=r.Next+1,Objs:=r.Objs++[⟨r.Next,List.replicate n.toNat 0⟩]} else r
def ko(r:ax)(id:Int):ax:=if nk r id<0 then r else {r with Objs:=dele r.Objs (nk r id).toNat}
def eB(r:ax)(id at_ v:Int):ax:=if 0<=nk r id/\(0<=at_/\at_<=(nth r.Objs (nk r id).toNat).Cells.length - 1)/\0<=v/\v<=999 then {r with Objs:=r.Objs.set (nk r id).toNat ⟨(nth r.Objs (nk r id).toNat).Id,(nth r.Objs (nk r id).toNat).Cells.set at_.toNat v⟩} else r
def fX(r:ax)(id n:Int):ax:=if 0<=nk r id/\1<=n/\n<=(nth r.Objs (nk r id).toNat).Cells.length then {r with Objs:=r.Objs.set (nk r id).toNat ⟨(nth r.Objs (nk r id).toNat).Id,(nth r.Objs (nk r id).toNat).Cells.take n.toNat⟩} else r
structure q8(r:ax)(m:Nat):Prop where
 len:r.Objs.length<=m
 cel:∀o∈r.Objs,o.Cells.length<=1000
 nx:0<=r.Next/\r.Next<=m+1
theorem q8.more{r:ax}{m n:Nat}(h:q8 r m)(a:m<=n):q8 r n:=⟨by have:=h.len;omega,h.cel,h.nx.1,by have:=h.nx.2;omega⟩
theorem q8.sml{r:ax}{m:Nat}(h:q8 r m)(b:m<=1000):ax.sml r:=⟨by have:=h.len;omega,λo a=>by have:=h.cel o a;show o.Cells.length<=1048576;omega⟩
theorem q8.alloc{r:ax}{m:Nat}(h:q8 r m)(n:Int):q8 (jQ r n) (m+1):=by
 unfold jQ;split
 ·refine⟨by have:=h.len;simp only[U2,List.length_singleton];omega,λo a=>?_,by have:=h.nx.1;simp only;omega,by have:=h.nx.2;simp only;omega⟩
  rcases O2.1 a with a|a
  ·exact h.cel o a
  ·rw[Z0.1 a];simp only[v3];omega
 ·exact h.more ω
theorem q8.free{r:ax}{m:Nat}(h:q8 r m)(id:Int):q8 (ko r id) m:=by
 unfold ko;split
 ·exact h
 ·have a:=eY r.Objs (nk r id).toNat
  exact⟨t4 a.length_le h.len,λo b=>h.cel o (a.subset b),h.nx⟩
theorem q8.set{r:ax}{m i:Nat}{x:bE}(h:q8 r m)(b:x.Cells.length<=1000):q8 {r with Objs:=r.Objs.set i x} m:=
 ⟨by simp only[C1];exact h.len,λo a=>by
   rcases t5 a with a|rfl
   · exact h.cel o a
   · exact b,h.nx⟩
theorem eU{α:Type}[Inhabited α](p:α->Bool)(xs:List α)(h:0<=di p xs):(di p xs).toNat<xs.length/\p (nth xs (di p xs).toNat)=true/\di p xs=((di p xs).toNat:Nat):=by
 rcases ng p xs with e|⟨n,a,e,b⟩
 ·omega
 ·rw[e,C2];exact⟨a,b,rfl⟩
theorem q8.store{r:ax}{m:Nat}(h:q8 r m)(id a v:Int):q8 (eB r id a v) m:=by
 unfold eB;split
 ·rename_i e
  refine h.set ?_;simp only[C1];exact h.cel (nth r.Objs (nk r id).toNat) (am (eU _ _ e.1).1)
 ·exact h
theorem q8.trim{r:ax}{m:Nat}(h:q8 r m)(id n:Int):q8 (fX r id n) m:=by
 unfold fX;split
 ·rename_i e
  refine h.set ?_;have:=h.cel (nth r.Objs (nk r id).toNat) (am (eU _ _ e.1).1);simp only[I1];omega
 ·exact h
def Lb(id:Int)(o:bC):Bool:=decide (o.Id=id)
def qf(h:ab)(id:Int):Int:=di (Lb id) h.Objs
def Gg(a:Int)(l:a8):Bool:=decide (l.Page*16=a)
def xl(h:ab)(a:Int):Int:=di (Gg a) h.Larges
def ns(h:ab)(a:dL):Prop:=0<=a.Thread/\a.Thread<=h.Caches.length - 1
instance (h:ab) (a:dL):Decidable (ns h a):=by unfold ns;infer_instance
def pK(w:bF)(a:dL)(i:Nat):bF × Int:=
 if w.Heap.Kernel.Calls=100000 then(w,6)
 else if ns w.Heap a then(⟨(freeT w.Heap a.Thread.toNat i).1,if(freeT w.Heap a.Thread.toNat i).2=0 then ko w.Ref (nth w.Heap.Objs i).Id else w.Ref⟩,(freeT w.Heap a.Thread.toNat i).2)
 else(w,1)
def nB(w:bF)(a:dL)(i:Nat):bF × Int:=
 if ¬(0<=a.At/\a.At<=(nth w.Heap.Objs i).Size - 1) then(w,90)
 else if(ao w.Heap.Kernel.Machine.Table (((nth w.Heap.Objs i).Addr+a.At) / 16)).Mode=1 then(w,2)
 else if ¬(0<=a.Value/\a.Value<=999) then(w,3)
 else(⟨{w.Heap with Kernel:=cV w.Heap.Kernel ((nth w.Heap.Objs i).Addr+a.At) a.Value},eB w.Ref (nth w.Heap.Objs i).Id a.At a.Value⟩,0)
def jY(h:ab)(i:Nat)(n:Int):Prop:=0<=xl h (nth h.Objs i).Addr/\9<=n/\n<=(nth h.Larges (xl h (nth h.Objs i).Addr).toNat).Size
instance (h:ab) (i:Nat) (n:Int):Decidable (jY h i n):=by unfold jY;infer_instance
def qd(w:bF)(a:dL)(i:Nat):bF × Int:=
 if w.Heap.Kernel.Calls≠100000/\jY w.Heap i a.Value then(⟨trimH w.Heap i (xl w.Heap (nth w.Heap.Objs i).Addr).toNat a.Value,fX w.Ref (nth w.Heap.Objs i).Id a.Value⟩,0) else(w,90)
def mX(w:bF)(a:dL)(i:Nat):bF × Int:=if a.Kind=2 then pK w a i else if a.Kind=3 then nB w a i else qd w a i
def fU(h:ab)(a:dL):ab × Int:=
 if a.Kind=5 then(if ns h a/\0<(nth h.Mail.Buffers a.Thread.toNat).length then({h with Mail:=fp h.Mail a.Thread.toNat},0) else(h,90))
 else if ¬(h.Kernel.Calls≠100000/\ns h a) then(h,0)
 else if a.Kind=6 then(collect h a.Thread.toNat,((nth h.Mail.Inbox a.Thread.toNat).length:Nat))
 else((flushN a.Thread.toNat h 4).1,((flushN a.Thread.toNat h 4).2:Nat))
def nN(h:ab)(n:Int):ab × Int:=if h.Kernel.Calls≠100000/\(0<=n/\n<=1000)/\h.Clock+n<=1000000 then(tick h n,((lZ h n).length:Nat)) else(h,0)
def rp(h:ab):Bool:=h.Meshing&&decide (h.Kernel.Calls<=99000)
def mf(h:ab):Nat->ab × Nat
 | 0=>(h,0)
 | i+1=>if rp (mf h i).1=true then(mStep (mf h i).1,(mf h i).2+1) else mf h i
def nJ(h:ab):ab × Int:=if h.Meshing=true then(h,90) else((started h).1,if(started h).2=true then 0 else 90)
def nv(w:bF)(a:dL):bF × Int:=
 if a.Kind=1 then(⟨(fm w.Heap a.Thread a.N).1,if(fm w.Heap a.Thread a.N).2.2=0 then jQ w.Ref a.N else w.Ref⟩,(fm w.Heap a.Thread a.N).2.2)
 else if a.Kind=2\/a.Kind=3\/a.Kind=4 then(if qf w.Heap a.N<0 then(w,90) else mX w a (qf w.Heap a.N).toNat)
 else if a.Kind=5\/a.Kind=6\/a.Kind=7 then(⟨(fU w.Heap a).1,w.Ref⟩,(fU w.Heap a).2)
 else if a.Kind=8 then(⟨(nN w.Heap a.N).1,w.Ref⟩,(nN w.Heap a.N).2)
 else if a.Kind=9 then(⟨(nJ w.Heap).1,w.Ref⟩,(nJ w.Heap).2)
 else if a.Kind=10/\0<=a.N/\a.N<=50 then(⟨(mf w.Heap a.N.toNat).1,w.Ref⟩,((mf w.Heap a.N.toNat).2:Nat))
 else(w,90)
structure qS(w:bF)(m:Nat):Prop where
 inv:bk w.Heap []
 ji:JI w.Heap
 ref:q8 w.Ref m
theorem qS.more{w:bF}{m n:Nat}(h:qS w m)(a:m<=n):qS w n:=⟨h.inv,h.ji,h.ref.more a⟩
theorem qS.jk{w:bF}{m:Nat}(h:qS w m){g:ab}{r:ax}(a:bk g []/\JK w.Heap g)(b:q8 r m):qS ⟨g,r⟩ m:=⟨a.1,h.ji.keep a.1 a.2,b⟩
theorem jG{h:ab}{E:List Int}(a:bk h E){o:bC}(p:o∈h.Objs){k:Int}(D:0<=k/\k<=o.Size - 1):(ao h.Kernel.Machine.Table ((o.Addr+k) / 16)).Mode≠0/\0<=o.Addr/\o.Addr+k<512:=by
 rcases a.oow o p with⟨s,g,q,r⟩|⟨l,i,F,G⟩
 ·have b:=a.L.sok s g
  have t:=aF b;obtain⟨u,w,y⟩:=a.mapped g;have d:=co t.2.2;obtain⟨H,J,A,-⟩:=q;have f:o.Size<=csz s.Class:=by
   have K:=pC (n:=o.Size) ω;rw[r];have:o.Size=1\/o.Size=2\/o.Size=3\/o.Size=4\/o.Size=5\/o.Size=6\/o.Size=7\/o.Size=8:=ω
   rcases this with e|e|e|e|e|e|e|e<;>rw[e]<;>decide
  have B:(o.Addr+k) / 16=s.Page:=by
   rcases d with e|e|e|e<;>rw[e]at A f<;>omega
  rw[B];refine⟨?_,ω,ω⟩;unfold ao;rw[C8 ⟨u,w⟩];exact y
 ·obtain⟨j,C,rfl⟩:=bf i
  have c:=a.L.lok _ i;unfold bR at c;rw[C0]at c;exact⟨mB a C ⟨ω,ω⟩,ω,ω⟩
theorem qS.obj{w:bF}{m:Nat}(h:qS w m)(a:dL){i:Nat}(b:i<w.Heap.Objs.length):qS (mX w a i).1 m:=by
 unfold mX;split
 ·unfold pK
  split
  ·exact h
  split
  ·rename_i d
   unfold ns at d;refine h.jk (h.inv.freeT b ω) ?_;split
   ·exact h.ref.free _
   ·exact h.ref
  ·exact h
 split
 ·unfold nB
  split
  ·exact h
  rename_i l;split
  ·exact h
  split
  ·exact h
  rename_i n;exact h.jk (h.inv.store (jG h.inv (am b) ω).1 ω) (h.ref.store _ _ _)
 ·unfold qd
  split
  ·rename_i e
   obtain⟨-,f,g⟩:=e;obtain⟨j,k,o⟩:=eU _ _ f;have c:=of_decide_eq_true k;exact h.jk (h.inv.trimH b j (c.symm.trans (Int.mul_comm _ _)) g) (h.ref.trim _ _)
  ·exact h
theorem qS.thread{w:bF}{m:Nat}(h:qS w m)(a:dL):qS ⟨(fU w.Heap a).1,w.Ref⟩ m:=by
 unfold fU;split
 ·split
  ·rename_i e
   obtain⟨b,i⟩:=e;unfold ns at b;exact h.jk (g:={w.Heap with Mail:=fp w.Heap.Mail a.Thread.toNat}) ⟨h.inv.deliv (by rw[<-h.inv.nc];omega) i,JK.eq rfl rfl rfl rfl⟩ h.ref
  ·exact h
 split
 ·exact h
 rename_i e;have e:=Classical.not_not.1 e;obtain⟨-,b⟩:=e;unfold ns at b;split
 ·exact h.jk (g:=collect w.Heap a.Thread.toNat) (h.inv.collect ω) h.ref
 ·have c:a.Thread.toNat<w.Heap.Caches.length:=ω
  have d:=(jE h.inv c (Q2 4)).1;have f:=JK.flushN h.inv c (Q2 4);generalize flushN a.Thread.toNat w.Heap 4=r at d f |-;exact h.jk (g:=r.1) ⟨d,f⟩ h.ref
theorem vF{h:ab}(a:bk h [])(b:JI h):∀n,bk (mf h n).1 []/\JI (mf h n).1
 | 0=>⟨a,b⟩
 | n+1=>by
  obtain⟨c,d⟩:=vF a b n;unfold mf;split
  ·rename_i e
   unfold rp at e;rw[I0]at e;exact c.mStep d e.1
  ·exact⟨c,d⟩
theorem qS.act{w:bF}{m:Nat}(h:qS w m)(a:dL):qS (nv w a).1 (m+1):=by
 unfold nv;split
 ·have b:=GB (t:=a.Thread) (size:=a.N) h.inv
  refine⟨b.1,h.ji.keep b.1 b.2,?_⟩;show q8 (if _ then _ else _) (m+1);split
  ·exact h.ref.alloc _
  ·exact h.ref.more ω
 refine qS.more (m:=m) ?_ ω;split
 ·split
  ·exact h
  ·rename_i e
   exact h.obj a (eU _ _ (by unfold qf at e;omega)).1
 split
 ·exact h.thread a
 split
 ·unfold nN
  split
  ·rename_i e
   exact h.jk (h.inv.tick e.2.1.1 e.2.2) h.ref
  ·exact h
 split
 ·unfold nJ
  split
  ·exact h
  ·rename_i e
   have b:=E0 h.inv (by simpa using e);exact⟨b.1,b.2,h.ref⟩
 split
 ·have b:=vF h.inv h.ji a.N.toNat
  exact⟨b.1,b.2,h.ref⟩
 ·exact h
structure cy where
 Pages:Nat
 Frames:Nat
 Threads:Nat
 Limit:Int
 Refuse:List Int
deriving Inhabited
structure Ep(c:cy):Prop where
 p:1<=c.Pages/\c.Pages<=32
 f:1<=c.Frames/\c.Frames<=32
 t:1<=c.Threads/\c.Threads<=4
 l:0<=c.Limit/\c.Limit<=1000
 r:c.Refuse.length<=40/\∀x∈c.Refuse,0<=x
def world0(c:cy):bF:=⟨tP c.Pages c.Frames c.Threads c.Limit c.Refuse,{Next:=1,Objs:=[]}⟩
def Ak(c:cy)(acts:List dL):Nat->bF × List Int
 | 0=>(world0 c,[])
 | i+1=>((nv (Ak c acts i).1 (nth acts i)).1,(Ak c acts i).2++[(nv (Ak c acts i).1 (nth acts i)).2])
theorem Hz{c:cy}(h:Ep c):qS (world0 c) 0:=
 ⟨A6 h.p h.f h.t h.l h.r,JI.no rfl,⟨Q2 _,λo a=>(by cases a),by show(0:Int)<=1;omega,by show(1:Int)<=((0:Nat):Int)+1;omega⟩⟩
theorem vt{c:cy}(h:Ep c)(acts:List dL):∀n,qS (Ak c acts n).1 n
 | 0=>Hz h
 | n+1=>(vt h acts n).act _
theorem or64{z1 z2:Int}(h1:0<=z1/\z1<=65535)(a:0<=z2/\z2<=65535):IntKind.i64.wrap ((BitVec.ofInt IntKind.i64.bits z1 ||| BitVec.ofInt IntKind.i64.bits z2).toNat:Nat)=bor z1 z2:=by
 rw[BitVec.toNat_or,l8 ω,l8 ω];have b:=Kl h1 a;unfold bor at b |-;exact eA ω ω
theorem wO(h:ab)(i:Nat)(n:dn h.Spans)(d:xA h)(a:∀s∈h.Spans,bg s=true)(y:i<h.Spans.length):ar Tryz.prog 342 false [.val (some 24) (ab.enc .imm h),.val none [I (i:Nat)]] .one [I (gj h i)]:=by
 have F:=n.1;have G:=ah y;have g:=tM a y;have B:=aE ((i:Nat):Int) 0 ((h.Spans.length:Int) - 1);rw[O0 (show(0:Int)<=(i:Nat)/\((i:Nat):Int)<=(h.Spans.length:Int) - 1 by omega)]at B;have C:=gx h (nth h.Spans i).Page d;have o:=gt h (nth h.Spans i).Page;have H:dQ h<=1048576:=d.1;have c:gj h i=jg h.Spans (aQ h (nth h.Spans i).Page) (nth h.Spans i).Bits (aQ h (nth h.Spans i).Page).length:=rfl;obtain⟨ps,q⟩ : ∃ps,aQ h (nth h.Spans i).Page=ps:=⟨_,rfl⟩
 obtain⟨b,r⟩ : ∃b,(nth h.Spans i).Bits=b:=⟨_,rfl⟩
 rw[q]at C o c;rw[r]at c g;rw[c];have J:jg h.Spans ps b 0=b:=rfl;refine fO 63 [(4,7,[22,23,24,25,26,27,28]),(11,10,[43,44,45,46,47,48,49,50,51,52])] Tryz.func342 rfl ?_
 repeat'(first|refine gO ?_|(conv=>whnf);first|with_reducible refine CA (aa G) ?_|refine C6 (B) ?_|refine C6 (C) ?_)
 (conv=>whnf)
 refine CC (ι:=Nat) (λu=>[(2,.hold .box (ab.enc .imm h)),(5,.hold .one [I (jg h.Spans ps b u)]),(6,.hold .one (aD .own ps)),(7,.hold .one [I ((u:Nat):Int)])]) (λu=>u<=ps.length) (λu=>ps.length - u) (0) ?_ (R0 _) λu M=>?_
 ·exact wB
 by_cases K:u<ps.length
 ·have l:=ah K
  have t:=pO a (ps:=ps) g u
  repeat'(first|refine gD ?_|fail)
  (conv=>whnf)
  refine CC (ι:=Nat) (λj=>[(2,.hold .box (ab.enc .imm h)),(5,.hold .one [I (pU h.Spans (nth ps u) (jg h.Spans ps b u) j)]),(6,.hold .one (aD .own ps)),(7,.hold .one [I ((u:Nat):Int)]),(8,.hold .one [I ((j:Nat):Int)])]) (λj=>j<=h.Spans.length) (λj=>h.Spans.length - j) (0) ?_ (R0 _) λj L=>?_
  ·exact wB
  by_cases D:j<h.Spans.length
  ·have E:=ah D
   have w:=tG a (p:=nth ps u) t j L;by_cases e:(nth h.Spans j).Page=nth ps u
   ·have k:pU h.Spans (nth ps u) (jg h.Spans ps b u) (j+1)=bor (pU h.Spans (nth ps u) (jg h.Spans ps b u) j) (nth h.Spans j).Bits:=C8 e
    repeat'(first|refine gA ?_|(conv=>whnf);first|with_reducible (first|refine CA (aa l) ?_|refine CA (aa E) ?_)|refine CF rfl (aa l) rfl ?_|refine CI (or64 w (tM a D)) ?_)
    ((conv=>whnf);refine CB (j+1) ω ω ?_;(exact wB))
   ·have k:pU h.Spans (nth ps u) (jg h.Spans ps b u) (j+1)=pU h.Spans (nth ps u) (jg h.Spans ps b u) j:=C7 e
    repeat'(first|refine gA ?_|(conv=>whnf);first|with_reducible (first|refine CA (aa l) ?_|refine CA (aa E) ?_)|refine CF rfl (aa l) rfl ?_)
    ((conv=>whnf);refine CB (j+1) ω ω ?_;(exact wB))
  ·obtain rfl:j=h.Spans.length:=ω
   repeat'(first|refine gD ?_|fail)
   ((conv=>whnf);refine CB (u+1) ω ω ?_;(exact wB))
 ·obtain rfl:u=ps.length:=ω
  repeat'(first|refine gD ?_|fail)
  rfl
theorem qV{xs:List bC}(h:∀o∈xs,0<=o.Size/\o.Size<=1000):∀k:Nat,k<=xs.length->0<=rG xs k/\rG xs k<=1000*k
 | 0,_=>⟨v4 _,v4 _⟩
 | k+1,a=>by
  have b:=qV h k ω;have c:=h _ (am (xs:=xs) (i:=k) ω);simp only[rG];omega
theorem ui(h:ab)(a:∀o∈h.Objs,0<=o.Size/\o.Size<=1000)(e:h.Objs.length<=1048576):ar Tryz.prog 51 false [.val (some 24) (ab.enc .imm h)] .one [I (vM h)]:=by
 refine fO 21 [] Tryz.func51 rfl ?_
 repeat'(first|refine gO ?_|fail)
 (conv=>whnf)
 refine CC (ι:=Nat) (λk=>[(1,.hold .box (ab.enc .imm h)),(3,.hold .one [I (rG h.Objs k)]),(4,.hold .one [I ((k:Nat):Int)])]) (λk=>k<=h.Objs.length) (λk=>h.Objs.length - k) (0) ?_ (R0 _) λk c=>?_
 ·exact wB
 have g:=qV a k c;by_cases b:k<h.Objs.length
 ·have d:=ah b
  have i:=a _ (am b)
  repeat'(first|refine gD ?_|(conv=>whnf);first|refine CA (aa d) ?_)
  ((conv=>whnf);refine CB (k+1) ω ω ?_;(exact wB))
 ·obtain rfl:k=h.Objs.length:=ω
  repeat'(first|refine gD ?_|fail)
  rfl
theorem vw(k b:Int)(h:b<=9223372036854775807):ar Tryz.prog 341 false [.val none [I (slots k)],.val none [I b]] .one (aD .own (oT k b)):=by
 have c:=o8 k b;have p:0<=slots k/\slots k<=16:=by unfold slots;repeat' split<;>omega
 unfold oT;cases e:HY k b<;>rw[e]at c
 ·rw[C7 (by simp)]
  refine fO 27 [] Tryz.func341 rfl ?_ (.inr (bI _))
  repeat'(first|refine gO ?_|fail)
  (conv=>whnf)
  refine CC (ι:=Nat) (λj=>[(0,.hold .one [I (slots k)]),(1,.hold .one [I (b)]),(5,.hold .one (aD .own [])),(6,.hold .one [I ((j:Nat):Int)])]) (λj=>j=0) (λj=>1 - j) (0) ?_ (rfl) λj g=>?_
  ·exact wB
  subst g
  repeat'(first|refine gD ?_|(conv=>whnf);first|with_reducible refine Bf.D (λi=>?_) (λi=>?_)|refine C6 (c) ?_)
  all_goals rfl
 ·rw[C8 rfl]
  refine fO 27 [] Tryz.func341 rfl ?_ (.inr (bI _))
  repeat'(first|refine gO ?_|fail)
  (conv=>whnf)
  refine CC (ι:=Nat) (λj=>[(0,.hold .one [I (slots k)]),(1,.hold .one [I (b)]),(5,.hold .one (aD .own (nj b j))),(6,.hold .one [I ((j:Nat):Int)])]) (λj=>j<=(slots k).toNat) (λj=>(slots k).toNat - j) (0) ?_ (R0 _) λj g=>?_
  ·exact wB
  have l:=r7 b j;by_cases q:j<(slots k).toNat
  ·have d:=ia b (j:Nat) h
   have a:nj b (j+1)=if aY b (j:Nat)=true then nj b j else nj b j++[((j:Nat):Int)]:=rfl
   cases n:aY b (j:Nat)<;>rw[n]at d a
   ·rw[C7 (by simp)]at a
    repeat'(first|refine gD ?_|(conv=>whnf);first|refine C6 (c) ?_|refine C6 (d) ?_|refine CQ cq (λr o=>by rw[Z0.1 o];rfl) (by simp[aW,dz]) (by simp;omega) (by simp only[W0];exact wY (by simp;omega) (by decide)) rfl ?_)
    ((conv=>whnf);refine CB (j+1) ω ω ?_)
    rw[a]
    repeat'(first|exact trivial|rfl|exact CH rfl (CH (T0 (C.s dy.own) (by simp[rI])) trivial)|refine CH ?_ ?_|(exact yD (by first|omega|(simp only;omega)|(simp;omega))))
   ·rw[C8 rfl]at a
    repeat'(first|refine gD ?_|(conv=>whnf);first|refine C6 (c) ?_|refine C6 (d) ?_)
    ((conv=>whnf);refine CB (j+1) ω ω ?_)
    rw[a];exact wB
  ·obtain rfl:j=(slots k).toNat:=ω
   repeat'(first|refine gD ?_|fail)
   rfl
theorem G7(b i:Int):bor b (2 ^ i.toNat)=gg b i:=by
 unfold bor gg;have:((2 ^ i.toNat:Nat):Int)=(2:Int) ^ i.toNat:=Int.natCast_pow 2 i.toNat;rw[<-this,C2]
theorem wZ(b i:Int)(d:0<=b/\b<=65535)(a:0<=i/\i<=15):ar Tryz.prog 344 false [.val none [I b],.val none [I i]] .one [I (gg b i)]:=by
 have c:=nR b i;rw[O0 ω]at c;have e:IntKind.u64.wrap i=i:=by unfold IntKind.wrap;simp[IntKind.signed,IntKind.bits];omega
 have h:=(shl64 a).2;have g:=(or64 (z1:=b) (z2:=2 ^ i.toNat) d ω).trans (G7 b i);refine fO 15 [] Tryz.func344 rfl ?_
 repeat'(first|refine gO ?_|(conv=>whnf);first|refine C6 (c) ?_|refine CK ω ?_|refine CI e ?_|refine CI (shl64 a).1 ?_|refine CI g ?_)
 rfl
theorem Je{s:au}(b:bg s=true){k:Int}(d:0<=k/\k<slots s.Class):0<=k*csz s.Class/\k*csz s.Class<=15:=by
 have a:=aF b;have c:=fZ a.2.2;rcases co a.2.2 with e|e|e|e<;>rw[e]at c |-<;>omega
theorem wQ(s:au)(k:Int)(a:bg s=true)(d:0<=k/\k<slots s.Class):ar Tryz.prog 345 false [.val (some 3) (au.enc .imm s),.val none [I k]] .one [I (16*s.Page+k*csz s.Class)]:=by
 have e:=aF a;have i:=Je a d;have j:=fZ e.2.2;have b:=fR s;rw[a]at b;have g:=lQ s.Class;have c:=aE k 0 (slots s.Class - 1);rw[O0 ω]at c;have h:=dt s.Class;refine fO 26 [(3,8,[17,18,19,20,21,22,23,24])] Tryz.func345 rfl ?_
 repeat'(first|refine gO ?_|(conv=>whnf);first|refine C6 (b) ?_|refine C6 (g) ?_|refine C6 (c) ?_|refine C6 (h) ?_|refine C9 ?_)
 exact T0 (λz=>[I z]) ω
theorem zo(f:aV)(g:f.Used.length<=1048576):ar Tryz.prog 346 false [.val (some 2) (aV.enc .imm f)] .one [I (di (λu=>!u) f.Used)]:=by
 refine fO 18 [] Tryz.func346 rfl ?_
 repeat'(first|refine gO ?_|fail)
 (conv=>whnf)
 refine CC (ι:=Nat) (λi=>[(1,.hold .box (aV.enc .imm f)),(3,.hold .one [I ((i:Nat):Int)])]) (λi=>i<=f.Used.length/\∀(j:Nat)(z:Bool),j<i->f.Used[j]? = some z->(!z)=false) (λi=>f.Used.length - i) (0) ?_ (⟨R0 _,λj z h=>ω⟩) λi c=>?_
 ·exact wB
 obtain⟨c,b⟩:=c;by_cases d:i<f.Used.length
 ·have a:=ah d
  cases e:nth f.Used i<;>rw[e]at a
  ·repeat'(first|refine gD ?_|(conv=>whnf);first|with_reducible refine CA (aa a) ?_)
   exact T0 (λz=>[I z]) (dB a rfl b).symm
  ·repeat'(first|refine gD ?_|(conv=>whnf);first|with_reducible refine CA (aa a) ?_)
   ((conv=>whnf);refine CB (i+1) ⟨ω,cY a rfl b⟩ ω ?_;(exact wB))
 ·repeat'(first|refine gD ?_|fail)
  exact T0 (λz=>[I z]) (fH ω b).symm
theorem lA(m:aH):∀(n i:Nat),i<n->((nth m.Buffers i).length:Int)+(nth m.Inbox i).length<=bp m n/\0<=bp m n
 | 0,i,h=>absurd h (Nat.not_lt_zero i)
 | n+1,i,h=>by
  have a:0<=bp m n:=by
   cases n with
   | zero=>exact v4 _
   | succ k=>exact(lA m (k+1) 0 ω).2
  simp only[bp];by_cases e:i=n
  ·subst e;omega
  ·have:=(lA m n i ω).1;omega
structure ki(m:aH):Prop where
 b4:1<=m.Buffers.length/\m.Buffers.length<=4
 i4:m.Inbox.length=m.Buffers.length
 bl:∀i,i<m.Buffers.length->(nth m.Buffers i).length<=30
 il:∀i,i<m.Buffers.length->(nth m.Inbox i).length<=30
theorem ki.of{m:aH}(h:bD m=true):ki m:=by
 obtain⟨⟨b,c,d⟩,-,e⟩:=d3.1 h;exact⟨⟨b,c⟩,d,λi a=>by have:=(lA m m.Buffers.length i a).1;omega,λi a=>by have:=(lA m m.Buffers.length i a).1;omega⟩
theorem ki.sml{m:aH}(h:ki m):aH.sml m:=by
 have c:=h.b4;have d:=h.i4;refine⟨⟨ω,λl a=>?_⟩,⟨ω,λl a=>?_⟩⟩
 ·obtain⟨i,b,rfl⟩:=bf a
  have:=h.bl i b;exact⟨ω,λ_ _=>trivial⟩
 ·obtain⟨i,b,rfl⟩:=bf a
  have:=h.il i ω;show(nth m.Inbox i).length<=1048576;omega
theorem pJ(m:aH)(k:Int)(a:aH.sml m):ar Tryz.prog 388 false [.val (some 2) (aH.enc .imm m),.val none [I k]] .one [B (bD m&&decide (0<=k/\k<=m.Buffers.length - 1))]:=by
 have b:=kq m a;have c:m.Buffers.length<=1048576:=a.1.1;cases e:bD m<;>rw[e]at b
 all_goals
  refine fO 15 [] Tryz.func388 rfl ?_
  repeat'(first|refine gO ?_|(conv=>whnf);first|refine C9 ?_|refine C6 (b) ?_|refine C6 (aE k 0 (m.Buffers.length - 1:Int)) ?_)
  all_goals rfl
theorem Pf{m:aH}{f:Nat}(a:f<m.Buffers.length):m.Buffers[f]? = some (nth m.Buffers f):=ah a
theorem Gn(m:aH)(f:Nat)(p:cQ):aH.enc .own (gi m f p)=[.s .own ((m.Buffers.map (bT .own)).set f (bT .own (nth m.Buffers f++[p]))),.s .own (m.Inbox.map (aD .own))]:=by simp[aH.enc,gi,X4]
theorem GX{m:aH}(h:ki m){f:Nat}(c:f<m.Buffers.length)(p:cQ):aH.sml (gi m f p):=by
 have d:=h.b4;have b:=h.sml;refine⟨⟨by simp only[gi,C1];omega,λl a=>?_⟩,b.2⟩;rcases t5 a with a|rfl
 ·exact b.1.2 l a
 ·have:=h.bl f c
  exact⟨by simp;omega,λ_ _=>trivial⟩
theorem GE(m:aH)(f:Nat)(p:cQ)(j:bD m=true)(g:f<m.Buffers.length):ar Tryz.prog 381 false [.val (some 2) (aH.enc .imm m),.val none [I (f:Nat)],.val (some 2) (cQ.enc .imm p)] (.tup [some 2,none]) (aH.enc .own (if bD (gi m f p)=true then gi m f p else m)++[B (bD (gi m f p))]):=by
 have c:=ki.of j;have k:=c.sml;have q:=c.b4;have h:=pJ m f k;rw[j,O0 ω]at h;have l:=eJ m k;have b:=GX c g p;have i:=kq (gi m f p) b;have n:=eJ (gi m f p) b;have a:=Pf g;have o:=c.bl f g;have d:=aH.enc_fz (gi m f p);rw[Gn]at d;cases e:bD (gi m f p)<;>rw[e]at i
 ·rw[C7 (by simp)]
  refine fO 35 [(4,267,[16,17,18,19,20,21,22,23,24,25,27,0,1,2,3,4,5,6,7,8,9,10,1000,1001,1002,11,12])] Tryz.func381 rfl ?_ (.inr (aP (aH.enc_fr _) ⟨trivial,trivial⟩))
  repeat'(first|refine gO ?_|(conv=>whnf);first|with_reducible refine CA (aa a) ?_|refine C9 ?_|refine CA (fE a) ?_|refine CF rfl (fE a) rfl ?_|refine C6 (h) ?_|refine C6 (l) ?_|refine Lq.one rfl rfl (aa a) rfl (X0 rfl) rfl rfl ?_|refine CF rfl (aa a) rfl ?_|refine CN rfl rfl (fE a) rfl (X0 rfl) (show [C.s dy.own ((m.Buffers.map (bT .own)).set f (bT .own (nth m.Buffers f++[p]))),C.s .own (m.Inbox.map (aD .own))]=_ from by simp only[List.set_cons_zero,List.set_set,C2];rfl) ?_|refine Ap.sm (aO λ_=>rfl) rfl (by simp;omega) (by decide) (gY _ _ _) ?_|refine CE (i) ⟨⟨rfl,d⟩,trivial⟩ ?_)
  rfl
 ·rw[C8 rfl]
  refine fO 35 [(4,267,[16,17,18,19,20,21,22,23,24,25,27,0,1,2,3,4,5,6,7,8,9,10,1000,1001,1002,11,12])] Tryz.func381 rfl ?_ (.inr (aP (aH.enc_fr _) ⟨trivial,trivial⟩))
  repeat'(first|refine gO ?_|(conv=>whnf);first|with_reducible refine CA (aa a) ?_|refine C9 ?_|refine CA (fE a) ?_|refine CF rfl (fE a) rfl ?_|refine C6 (h) ?_|refine C6 (l) ?_|refine Lq.one rfl rfl (aa a) rfl (X0 rfl) rfl rfl ?_|refine CF rfl (aa a) rfl ?_|refine CN rfl rfl (fE a) rfl (X0 rfl) (show [C.s dy.own ((m.Buffers.map (bT .own)).set f (bT .own (nth m.Buffers f++[p]))),C.s .own (m.Inbox.map (aD .own))]=_ from by simp only[List.set_cons_zero,List.set_set,C2];rfl) ?_|refine Ap.sm (aO λ_=>rfl) rfl (by simp;omega) (by decide) (gY _ _ _) ?_|refine CE (i) ⟨⟨rfl,d⟩,trivial⟩ ?_|refine CE (n) ⟨⟨rfl,d⟩,trivial⟩ ?_)
  rfl
theorem EX(m:aH)(f:Int)(a:bD m=true)(d:¬(0<=f/\f<=m.Buffers.length - 1)):ar Tryz.prog 360 false [.val (some 2) (aH.enc .imm m),.val none [I f]] (.tup [some 2,none]) (aH.enc .own m++[B false]):=by
 have e:=ki.of a;have b:=e.sml;have c:=pJ m f b;rw[a,Q0 d]at c;have g:=eJ m b;refine fO 60 [(5,267,[31,32,33,34,35,36,37,38,39,40,42,0,1,2,3,4,5,6,7,8,9,10,1000,1001,1002,11,12]),(6,270,[43,44,45,46,47,48,49,50,51,52,53,54,55,57,0,1,2,3,4,5,6,7,8,9,10,11,12,13,1000,1001,1002,1003,14,15])] Tryz.func360 rfl ?_ (.inr (aP (aH.enc_fr _) ⟨trivial,trivial⟩))
 repeat'(first|refine gO ?_|(conv=>whnf);first|refine C9 ?_|refine C6 (c) ?_|refine C6 (g) ?_)
 rfl
theorem DQ(m:aH)(f t:Nat)(a:(nth (nth m.Buffers f) 0).To=t):aH.enc .own (fp m f)=[.s .own ((m.Buffers.map (bT .own)).set f [.s .own (((nth m.Buffers f).drop 1).map (cQ.enc .imm))]),.s .own ((m.Inbox.map (aD .own)).set t (aD .own (nth m.Inbox t++[(nth (nth m.Buffers f) 0).Addr])))]:=by
 unfold aH.enc fp;simp only[X4,a,C2]
 rfl
theorem AD(m:aH)(f:Nat)(h:bD m=true)(i:f<m.Buffers.length):ar Tryz.prog 360 false [.val (some 2) (aH.enc .imm m),.val none [I (f:Nat)]] (.tup [some 2,none]) (aH.enc .own (if 0<(nth m.Buffers f).length then fp m f else m)++[B (decide (0<(nth m.Buffers f).length))]):=by
 have d:=ki.of h;have u:=d.sml;have K:=d.b4;have D:=d.i4;have j:=pJ m f u;rw[h,O0 ω]at j;have w:=eJ m u;have a:=Pf i;have F:=d.bl f i;by_cases e:0<(nth m.Buffers f).length
 ·rw[C8 e,O0 e]
  have g:=((d3.1 h).2.1 f i).1 _ (am e);obtain⟨t,k⟩:=I2 g.1;have l:t<m.Inbox.length:=ω
  have y:=ah e;have c:=ah l;have G:=d.il t ω;have n:=(ki.of (Dk h i e)).sml;have H:=eJ (fp m f) n;have o:=aH.enc_fz (fp m f);rw[DQ m f t k]at o;have q:=aP (b:=[B true]) (aH.enc_fr (fp m f)) ⟨trivial,trivial⟩;generalize L:nth (nth m.Buffers f) 0=p at *;obtain⟨M,J⟩:=p;simp only at k g o;subst k;refine fO 60 [(5,267,[31,32,33,34,35,36,37,38,39,40,42,0,1,2,3,4,5,6,7,8,9,10,1000,1001,1002,11,12]),(6,270,[43,44,45,46,47,48,49,50,51,52,53,54,55,57,0,1,2,3,4,5,6,7,8,9,10,11,12,13,1000,1001,1002,1003,14,15])] Tryz.func360 rfl ?_ (.inr q)
  repeat'(first|refine gA ?_|(conv=>whnf);first|with_reducible (first|refine CA (aa a) ?_|refine CA (aa c) ?_|refine Bf.E (λr=>?_) (λr=>?_))|refine C9 ?_|refine CJ (by decide) (aa y) ?_|refine CA (fE a) ?_|refine CA (fE c) ?_|refine CF rfl (fE a) rfl ?_|refine CF rfl (fE c) rfl ?_|refine C6 (j) ?_|refine C6 (w) ?_|refine CF rfl (aa a) rfl ?_|refine CF rfl (aa c) rfl ?_|refine CF rfl (aa y) rfl ?_|refine Lq.one rfl rfl (aa c) rfl (X0 rfl) rfl rfl ?_|refine Sl.suf 1 rfl (by rw[W0];omega) (aO λ_=>rfl) T3 ?_|refine CR (λ_=>rfl) (λ_=>rfl) (by rw[W2];omega) (by decide) ?_|refine CL (λ_=>rfl) (λ_=>rfl) (by rw[W2];omega) (by decide) ?_|refine CN rfl rfl (aa a) rfl (X0 rfl) rfl ?_|refine CN rfl rfl (fE c) rfl (X0 rfl) (show [C.s dy.own ((m.Buffers.map (bT .own)).set f [.s .own (((nth m.Buffers f).drop 1).map (cQ.enc .imm))]),C.s .own ((m.Inbox.map (aD .own)).set t (aD .own (nth m.Inbox t++[J])))]=_ from by simp only[List.set_cons_zero,List.set_cons_succ,List.set_set,C2];rfl) ?_|refine Ap.sm (aO λ_=>rfl) rfl (by simp;omega) (by decide) (gY _ _ _) ?_|refine C9 ?_|refine CE (H) ⟨⟨rfl,o⟩,trivial⟩ ?_)
  rfl
 ·rw[C7 e,Q0 e]
  refine fO 60 [(5,267,[31,32,33,34,35,36,37,38,39,40,42,0,1,2,3,4,5,6,7,8,9,10,1000,1001,1002,11,12]),(6,270,[43,44,45,46,47,48,49,50,51,52,53,54,55,57,0,1,2,3,4,5,6,7,8,9,10,11,12,13,1000,1001,1002,1003,14,15])] Tryz.func360 rfl ?_ (.inr (aP (aH.enc_fr _) ⟨trivial,trivial⟩))
  repeat'(first|refine gA ?_|(conv=>whnf);first|with_reducible (first|refine CA (aa a) ?_|refine Bf.E (λr=>?_) (λr=>?_))|refine C9 ?_|refine C6 (j) ?_|refine C6 (w) ?_|refine CF rfl (aa a) rfl ?_)
  rfl
theorem HC.set(rows:List (List C))(i:Nat){r n:List C}(h:KE r n):HC (.s .own (rows.set i r)) (.s .own (rows.set i n)):=by
 refine .own_ _ _ (by simp) (λj a b d f=>?_) (λj l a b c p d f o g=>?_)
 ·by_cases e:i=j
  ·subst e
   have k:i<rows.length:=by have:=(V1.1 d).1;simpa using this
   rw[Z2 k]at d f;cases d;cases f;exact h.1
  ·rw[List.getElem?_set_ne e]at d f
   rw[d]at f;cases f;rfl
 ·by_cases e:i=j
  ·subst e
   have k:i<rows.length:=by have:=(V1.1 d).1;simpa using this
   rw[Z2 k]at d f;cases d;cases f;exact h.2 l c p o g
  ·rw[List.getElem?_set_ne e]at d f
   rw[d]at f;cases f;rw[o]at g;cases g;exact .rfl_ _
theorem yO(m:aH)(t:Nat)(d:bD m=true)(h:t<m.Buffers.length):ar Tryz.prog 389 false [.val (some 2) (aH.enc .imm m),.val none [I (t:Nat)]] (.tup [some 2,none]) (aH.enc .own (jH m t)++aD .own (nth m.Inbox t)):=by
 have b:=ki.of d;have e:=b.sml;have o:=b.b4;have j:=b.i4;have g:=pJ m t e;rw[d,O0 ω]at g;have k:=eJ m e;have c:=ah (xs:=m.Inbox) (i:=t) ω;have l:=b.il t h;have a:=aP (aH.enc_fr (jH m t)) (bI (nth m.Inbox t));have n:aH.enc .own (jH m t)=[.s .own (m.Buffers.map (bT .own)),.s .own ((m.Inbox.map (aD .own)).set t [.s .own []])]:=by simp[aH.enc,jH,X4];rfl
 rw[n]at a |-;refine fO 28 [(5,263,[20,21,22,23,24,25,26,0,1,2,3,4,5,6,7,1000,8,9])] Tryz.func389 rfl ?_ (.inr a)
 repeat'((conv=>whnf);first|with_reducible (first|refine Lm ?_|refine Wm ω ?_|refine CA (aa c) ?_|refine Bn ?_|refine jc.dk rfl ?_)|refine Bt ?_|refine Bu ?_|refine C9 ?_|refine C6 (g) ?_|refine C6 (k) ?_|refine CF rfl (aa c) rfl ?_|refine CN rfl rfl (aa c) rfl (X0 rfl) rfl ?_|refine CR (λ_=>rfl) (λ_=>rfl) ω (by decide) ?_|refine CL (λ_=>rfl) (λ_=>rfl) ω (by decide) ?_|refine C9 ?_)
 exact .cons (.rfl_ _) (.cons (HC.set _ _ (.cons .z_ .nil)) (.cons (.rfl_ _) .nil))
theorem F5(now:Int):∀{l:List aL}{i:Nat},i<=l.length->(∀j,j<i->(nth l j).Since<now - 100)->(i<l.length->¬(nth l i).Since<now - 100)->pX now l=i
 | [],i,h,_,_=>by simp at h;subst h;rfl
 | x::xs,0,_,_,h=>by
  unfold pX;exact C7 (h (by simp))
 | x::xs,i+1,b,a,c=>by
  unfold pX;refine(C8 (a 0 ω)).trans ?_;rw[F5 now (l:=xs) (i:=i) (by simp at b;omega) (λj d=>a (j+1) ω) (λe=>c (by simp;omega))]
def Lw(q:bB)(now:Int):List C:=bB.enc .own ⟨q.Room,q.Lst.drop (pX now q.Lst)⟩++bV .own (q.Lst.take (pX now q.Lst))
theorem sY(q:bB)(now:Int)(g:fx q=true)(G:q.Lst.length<=4096)(u:0<=now/\now<=1000000):ar Tryz.prog 363 false [.val (some 2) (bB.enc .imm q),.val none [I now],.val none [I 100]] (.tup [some 2,none]) (Lw q now):=by
 have w:bB.sml q:=⟨ω,λ_ _=>trivial⟩
 have n:=mF q w;rw[g]at n;have o:=aE now 0 1000000;rw[O0 u]at o;have p:=aE 100 0 1000000;rw[O0 (by decide)]at p;have h:=(iU.1 g).1;have a:gh (Lw q now):=aP (bB.enc_fr _) (sQ _);have y:∀i,i<q.Lst.length->0<=(nth q.Lst i).Since:=λi b=>(h _ (am b)).2.2.2
 unfold Lw at a |-;generalize B:pX now q.Lst=k at a |-;refine fO 59 [(6,270,[44,45,46,47,48,49,50,51,53,54,55,56,57,58,0,1,2,3,4,5,6,7,9,10,11,12,13,14,8,1009,1010,1011,1012,1013,1014,15,16])] Tryz.func363 rfl ?_ (.inr a)
 repeat'(first|refine gO ?_|(conv=>whnf);first|refine C9 ?_|refine C6 (n) ?_|refine C6 (o) ?_|refine C6 (p) ?_)
 (conv=>whnf)
 refine CC (ι:=Nat) (λi=>[(1,.hold .one [I (now)]),(2,.hold .one [I (100)]),(3,.hold .box (bB.enc .imm q)),(6,.hold .box [I 0,.z]),(8,.hold .one [I ((i:Nat):Int)])]) (λi=>i<=q.Lst.length/\∀j,j<i->(nth q.Lst j).Since<now - 100) (λi=>q.Lst.length - i) (0) ?_ (⟨R0 _,λj C=>ω⟩) λi b=>?_
 ·exact wC
 obtain⟨b,r⟩:=b;by_cases l:i<q.Lst.length/\(nth q.Lst i).Since<now - 100
 ·have c:=ah l.1
  repeat'(first|refine gD ?_|(conv=>whnf);first|with_reducible refine CA (aa c) ?_|refine C9 ?_|refine CF rfl (aa c) rfl ?_)
  ((conv=>whnf);refine CB (i+1) ⟨ω,λj C=>by by_cases e:j=i;(subst e;exact l.2);exact r j ω⟩ ω ?_;(exact wC))
 ·have d:=F5 now (i:=i) b r (λE F=>l ⟨E,F⟩)
  rw[B]at d;subst d;by_cases t:k<q.Lst.length
  ·have c:=ah t
   have:=y k t
   repeat'(first|refine gD ?_|(conv=>whnf);first|with_reducible (first|refine CA (aa c) ?_|refine Bf.D (λg=>?_) (λg=>?_))|refine C9 ?_|refine CF rfl (aa c) rfl ?_|refine CS k rfl (by rw[W0];omega) (aO λ_=>rfl) R3 ?_|refine Sl.suf k rfl (by rw[W0];omega) (aO λ_=>rfl) T3 ?_|refine CR (λ_=>rfl) (λ_=>rfl) (by rw[I1];omega) (by decide) ?_|refine CR (λ_=>rfl) (λ_=>rfl) (by rw[W2];omega) (by decide) ?_|refine CL (λ_=>rfl) (λ_=>rfl) (by rw[W2];omega) (by decide) ?_|refine C9 ?_)
   rfl
  ·repeat'(first|refine gD ?_|(conv=>whnf);first|refine C9 ?_|refine CS k rfl (by rw[W0];omega) (aO λ_=>rfl) R3 ?_|refine Sl.suf k rfl (by rw[W0];omega) (aO λ_=>rfl) T3 ?_|refine CR (λ_=>rfl) (λ_=>rfl) (by rw[I1];omega) (by decide) ?_|refine CR (λ_=>rfl) (λ_=>rfl) (by rw[W2];omega) (by decide) ?_|refine CL (λ_=>rfl) (λ_=>rfl) (by rw[W2];omega) (by decide) ?_|refine C9 ?_)
   rfl
theorem zt(h:ab)(n:Int)(g:bk h [])(r:0<=n/\n<=1000)(p:h.Clock+n<=1000000):aS Tryz.prog 306 false [.ptr (bu h),.val none [I n]] [.ptr (bu (tick h n)),.val none [I n]] .one [I ((lZ h n).length:Nat)]:=by
 have a:=g.nums;unfold cj at a;rw[C0]at a;have t:=g.lens.quar;have i:=sY h.Quar (h.Clock+n) g.quar ω ⟨ω,p⟩;have j:=g.aged r.1 p;unfold Lw at i;unfold tick lZ aged at *;have l:(h.Quar.Lst.take (pX (h.Clock+n) h.Quar.Lst)).length<=4096:=by rw[I1];omega
 rw[W0];generalize h.Quar.Lst.take (pX (h.Clock+n) h.Quar.Lst)=out at i j l |-;generalize h.Quar.Lst.drop (pX (h.Clock+n) h.Quar.Lst)=rest at i j |-;refine fM 48 [(364,[2,0])] [(2,269,[18,19,20,21,22,23,24,25,26,17,27,28,5,0,1,2,3,4,5,6,7,8,9,10,11,12,13,1011,14])] [(0,0),(0,0)] Tryz.func306 rfl (λu q=>?_)
 repeat'(first|refine gO ?_|(conv=>whnf);first|refine C9 ?_|refine CE (i) ⟨⟨rfl,bB.enc_fz h.Quar⟩,⟨rfl,rfl⟩,⟨rfl,rfl⟩,trivial⟩ ?_|refine C9 ?_)
 (conv=>whnf)
 refine CC (ι:=Nat) (λk=>[(0,.hold .box (bu (freeAs {h with Clock:=h.Clock+n,Quar:=⟨h.Quar.Room,rest⟩} ((out.map (·.Addr)).take k)))),(6,.hold .one (bV .own out)),(7,.hold .one [I ((k:Nat):Int)])]) (λk=>k<=out.length) (λk=>out.length - k) (0) ?_ (R0 _) λk y=>?_
 ·exact wC
 by_cases o:k<out.length
 ·have b:=ah o
  have c:k<(out.map (·.Addr)).length:=by rw[W0];exact o
  have d:nth (out.map (·.Addr)) k=(nth out k).Addr:=br (by rw[R2,ah o];rfl);have e:bk (freeAs {h with Clock:=h.Clock+n,Quar:=⟨h.Quar.Room,rest⟩} ((out.map (·.Addr)).take k)) (nth (out.map (·.Addr)) k::(out.map (·.Addr)).drop (k+1)):=by
   refine bk.freeAs ?_;rw[<-iI c,List.take_append_drop];rw[List.append_nil]at j;exact j
  rw[d]at e;have w:=lO _ _ _ e
  repeat'(first|refine gD ?_|(conv=>whnf);first|refine C9 ?_|refine CA (aa b) ?_|refine CF rfl (aa b) rfl ?_|refine CG (w) (.inl rfl) ?_)
  ((conv=>whnf);refine CB (k+1) ω ω ?_)
  rw[sC _ _ _ c,d];exact wC
 ·obtain rfl:k=out.length:=ω
  rw[Q5 (by rw[W0];omega)]
  repeat'(first|refine gD ?_|(conv=>whnf);first|refine C9 ?_)
  refine CD rfl rfl ?_;exact wC
theorem BY(t:Nat)(h:ab)(az:List Int)(k:Nat)(a:k<az.length):recycs t h (az.take (k+1))=recyc t (recycs t h (az.take k)) (nth az k):=by
 unfold recycs;rw[Q4,ah a,Option.toList_some,List.foldl_append];rfl
theorem tj(h:ab)(t:Nat)(a:bk h [])(i:t<h.Caches.length):aS Tryz.prog 361 false [.ptr (bu h),.val none [I (t:Nat)]] [.ptr (bu (collect h t)),.val none [I (t:Nat)]] .one [I ((nth h.Mail.Inbox t).length:Nat)]:=by
 have l:=a.nc;have n:=(d3.1 a.mail).1.2.2;have j:=yO h.Mail t a.mail ω;have c:=(ki.of a.mail).il t ω;have d:=a.coll (t:=t) ω;rw[List.append_nil]at d;unfold collect;generalize nth h.Mail.Inbox t=out at j d c |-;refine fM 36 [(384,[2,0,0])] [] [(0,0),(0,0)] Tryz.func361 rfl (λu q=>?_)
 repeat'(first|refine gO ?_|(conv=>whnf);first|refine C9 ?_|refine CE (j) ⟨⟨rfl,aH.enc_fz h.Mail⟩,⟨rfl,rfl⟩,trivial⟩ ?_)
 (conv=>whnf)
 refine CC (ι:=Nat) (λk=>[(0,.hold .box (bu (recycs t {h with Mail:=jH h.Mail t} (out.take k)))),(1,.hold .one [I ((t:Nat):Int)]),(6,.hold .one (aD .own out)),(7,.hold .one [I ((k:Nat):Int)])]) (λk=>k<=out.length) (λk=>out.length - k) (0) ?_ (R0 _) λk p=>?_
 ·exact wC
 by_cases e:k<out.length
 ·have b:=ah e
  have g:bk (recycs t {h with Mail:=jH h.Mail t} (out.take k)) (nth out k::out.drop (k+1)):=by
   refine bk.recycs ?_ i;rw[<-iI e,List.take_append_drop];exact d
  have o:=m0 _ _ t _ g (by rw[(iH t _ _).1];exact i)
  repeat'(first|refine gD ?_|(conv=>whnf);first|refine C9 ?_|refine CA (aa b) ?_|refine CF rfl (aa b) rfl ?_|refine CG (o) (.inl rfl) ?_)
  ((conv=>whnf);refine CB (k+1) ω ω ?_)
  rw[BY _ _ _ _ e];exact wC
 ·obtain rfl:k=out.length:=ω
  rw[z4]
  repeat'(first|refine gD ?_|(conv=>whnf);first|refine C9 ?_)
  refine CD rfl rfl ?_;exact wC
def mP(a:Int)(o:bC):Bool:=decide (o.Addr<=a/\a<o.Addr+o.Size)
theorem Ez(h:ab)(E:List Int)(a:Int)(d:bk h E):aS Tryz.prog 126 false [.ptr (bu h),.val none [I a]] [.ptr (bu h),.val none [I a]] .one [I (di (mP a) h.Objs)]:=by
 have r:=d.lens.objs;refine fM 47 [] [(4,29,[15,16,17,18,19,20,21,22,23,24,25,26,27,28,29,30,31,32,33,34,35,36,37,38,39,40,41,42,43])] [(0,0),(0,0)] Tryz.func126 rfl (λu q=>?_)
 repeat'(first|refine gO ?_|(conv=>whnf);first|refine C9 ?_)
 (conv=>whnf)
 refine CC (ι:=Nat) (λi=>[(0,.hold .box (bu h)),(1,.hold .one [I (a)]),(5,.hold .one [I ((i:Nat):Int)])]) (λi=>i<=h.Objs.length/\∀(j:Nat)(z:bC),j<i->h.Objs[j]? = some z->mP a z=false) (λi=>h.Objs.length - i) (0) ?_ (⟨R0 _,λj z C=>ω⟩) λi d=>?_
 ·exact wC
 obtain⟨t,c⟩:=d;by_cases e:i<h.Objs.length
 ·have b:=ah e
  have w:=lR ‹bk h E› (am e);have y:0<=(nth h.Objs i).Size/\(nth h.Objs i).Size<=1000:=by
   rcases bk.oow ‹bk h E› _ (am e) with⟨s,B,F,G⟩|⟨l,g,k,o⟩
   ·have H:=aF ((bk.L ‹bk h E›).sok s B)
    have:=pC (n:=(nth h.Objs i).Size) ω;omega
   ·have J:=cu ((bk.L ‹bk h E›).lok l g)
    omega
  by_cases k:(nth h.Objs i).Addr<=a
  ·by_cases o:a<(nth h.Objs i).Addr+(nth h.Objs i).Size
   ·repeat'(first|refine gD ?_|(conv=>whnf);first|with_reducible refine CA (aa b) ?_|refine C9 ?_|refine CF rfl (aa b) rfl ?_|refine C9 ?_)
    refine CD rfl (T0 (λz=>[I z]) (dB b (O0 ⟨k,o⟩) c).symm) ?_;exact wC
   ·repeat'(first|refine gD ?_|(conv=>whnf);first|with_reducible (first|refine CA (aa b) ?_|refine Bf.D (λp=>?_) (λp=>?_))|refine C9 ?_|refine CF rfl (aa b) rfl ?_|refine C9 ?_)
    ((conv=>whnf);refine CB (i+1) ⟨ω,cY b (Q0 λx=>o x.2) c⟩ ω ?_;(exact wC))
  ·repeat'(first|refine gD ?_|(conv=>whnf);first|with_reducible (first|refine CA (aa b) ?_|refine Bf.D (λp=>?_) (λp=>?_))|refine C9 ?_|refine CF rfl (aa b) rfl ?_|refine C9 ?_)
   ((conv=>whnf);refine CB (i+1) ⟨ω,cY b (Q0 λx=>k x.1) c⟩ ω ?_;(exact wC))
 ·repeat'(first|refine gD ?_|(conv=>whnf);first|refine C9 ?_)
  refine CD rfl (T0 (λz=>[I z]) (fH ω c).symm) ?_;exact wC
theorem F7(h:ab)(a v:Int):bu {h with Kernel:=cV h.Kernel a v} = (bu h).set 0 (.s .own ((h.Kernel.Machine.Frames.Cells.map (aD .own)).set (ao h.Kernel.Machine.Table (a / 16)).Frame.toNat ((aD .own (nth h.Kernel.Machine.Frames.Cells (dh h.Kernel a))).set 0 (.s .own (((nth h.Kernel.Machine.Frames.Cells (dh h.Kernel a)).map (rI .own)).set (a % 16).toNat (splice (rI .own (nth (nth h.Kernel.Machine.Frames.Cells (dh h.Kernel a)) (a % 16).toNat)) 0 [I v])))))):=by
 simp[bu,cV,setCell,X4,aD,splice,dh,rI]
theorem BD{α:Type}{p:α->Bool}{xs:List α}{x:α}(a:x∈xs)(b:p x=true):0<=di p xs:=by
 have:=kO p xs;rw[show xs.any p=true from I3.2 ⟨x,a,b⟩,C0]at this;exact this
theorem w7(h:ab)(i:Nat)(j v:Int)(e:bk h [])(C:i<h.Objs.length)(D:0<=j/\j<=(nth h.Objs i).Size - 1):aS Tryz.prog 356 false [.ptr (bu h),.val none [I ((nth h.Objs i).Addr+j)],.val none [I v]]
  [.ptr (bu (if(ao h.Kernel.Machine.Table (((nth h.Objs i).Addr+j) / 16)).Mode=1\/¬(0<=v/\v<=999) then h else {h with Kernel:=cV h.Kernel ((nth h.Objs i).Addr+j) v})),.val none [I ((nth h.Objs i).Addr+j)],.val none [I v]] .one [I (if(ao h.Kernel.Machine.Table (((nth h.Objs i).Addr+j) / 16)).Mode=1 then 2 else if ¬(0<=v/\v<=999) then 3 else 0)]:=by
 obtain⟨E,J,K⟩:=jG e (am C) D;have F:0<=di (mP ((nth h.Objs i).Addr+j)) h.Objs:=BD (am C) (O0 ω);have p:=Ez h [] ((nth h.Objs i).Addr+j) e;have r:=b6 e.ker;have t:=cM h.Kernel.Machine.Table (((nth h.Objs i).Addr+j) / 16) r.1.2;have n:=aE v 0 999;generalize L:(nth h.Objs i).Addr+j=a at *;have b:0<=a/\a<512:=ω
 obtain⟨-,-,-,G,M⟩:=ce e.ker E;have H:=(aT.1 (aB.1 e.ker).2.1).2.2.1;have k:dh h.Kernel a<h.Kernel.Machine.Frames.Cells.length:=by unfold dh;omega
 have d:h.Kernel.Machine.Frames.Cells[(ao h.Kernel.Machine.Table (a / 16)).Frame.toNat]? = some (nth h.Kernel.Machine.Frames.Cells (dh h.Kernel a)):=ah k;have w:=e.lens.row _ (am k);have l:=ah (xs:=nth h.Kernel.Machine.Frames.Cells (dh h.Kernel a)) (i:=(a % 16).toNat) (by rw[w];omega);have B:a.tmod 16=a % 16:=dI b.1;refine fM 42 [(126,[2,0])] [(8,14,[27,28,29,30,31,32,33,34,35,36,37,38,39,40])] [(0,0),(0,0),(0,0)] Tryz.func356 rfl (λu q=>?_);by_cases o:(ao h.Kernel.Machine.Table (a / 16)).Mode=1
 ·rw[C8 (Or.inl o),C8 o]
  repeat'(first|refine gA ?_|(conv=>whnf);first|refine C9 ?_|refine CG (p) (.inl rfl) ?_|refine CE (t) ⟨⟨rfl,CV _⟩,⟨rfl,rfl⟩,trivial⟩ ?_|refine CK (by decide) ?_|refine CI (nl b) ?_)
  refine CD rfl rfl ?_;exact wC
 rw[C7 (c:=_=(1:Int)) o];by_cases g:0<=v/\v<=999
 ·rw[O0 g]at n
  rw[C7 (c:=¬(0<=v/\v<=999)) (Q3 g),C7 (c:=_\/¬(0<=v/\v<=999)) (λy=>y.elim o λy=>y g)]
  repeat'(first|refine gA ?_|(conv=>whnf);first|refine C9 ?_|refine CG (p) (.inl rfl) ?_|refine CE (t) ⟨⟨rfl,CV _⟩,⟨rfl,rfl⟩,trivial⟩ ?_|refine C6 (n) ?_|refine CK (by decide) ?_|refine CI (nl b) ?_|refine CM B ?_|refine CJ G (aa d) ?_|refine CF rfl (aa d) rfl ?_|refine CJ ω (aa l) ?_|refine Pu.two rfl rfl (aa d) rfl rfl rfl (aa l) rfl (Q2 _) (F7 h a v) ?_|refine C9 ?_)
  refine CD rfl rfl ?_;exact wC
 ·rw[Q0 g]at n
  rw[C8 (Or.inr g),C8 g]
  repeat'(first|refine gA ?_|(conv=>whnf);first|refine C9 ?_|refine CG (p) (.inl rfl) ?_|refine CE (t) ⟨⟨rfl,CV _⟩,⟨rfl,rfl⟩,trivial⟩ ?_|refine C6 (n) ?_|refine CK (by decide) ?_|refine CI (nl b) ?_)
  refine CD rfl rfl ?_;exact wC
def vf(l:a8)(n:Int):a7:=if(n+15) / 16<l.Pages then⟨l.Page+(n+15) / 16,l.Pages - (n+15) / 16⟩ else⟨0,0⟩
theorem tU(l:a8)(n:Int)(d:bR l=true):ar Tryz.prog 386 false [.val (some 3) (a8.enc .imm l),.val none [I n]] (.tup [some 3,some 2,none]) (if 9<=n/\n<=l.Size then a8.enc .own (trimL l n)++a7.enc .own (vf l n)++[B true] else a8.enc .own l++[I 0,I 0]++[B false]):=by
 have b:=md l;rw[d]at b;have a:=aE n 9 l.Size;have g:=d;unfold bR at g;rw[C0]at g;by_cases e:9<=n/\n<=l.Size
 ·rw[O0 e]at a
  rw[C8 e];have c:=kF n;rw[show eD n=(n+15) / 16 by unfold eD;rw[C8 ω]]at c;unfold vf;by_cases h:(n+15) / 16<l.Pages
  ·rw[C8 h]
   refine fO 43 [(7,261,[37,38,39,40,42,0,1,2,3,5,4,1005,6,1005,7,8])] Tryz.func386 rfl ?_ (.inr ⟨trivial,trivial,trivial,trivial,trivial,trivial,trivial⟩)
   repeat'(first|refine gD ?_|(conv=>whnf);first|refine C9 ?_|refine C6 (b) ?_|refine C6 (a) ?_|refine C6 (c) ?_|refine C9 ?_)
   rfl
  ·rw[C7 h]
   refine fO 43 [(7,261,[37,38,39,40,42,0,1,2,3,5,4,1005,6,1005,7,8])] Tryz.func386 rfl ?_ (.inr ⟨trivial,trivial,trivial,trivial,trivial,trivial,trivial⟩)
   repeat'(first|refine gD ?_|(conv=>whnf);first|refine C9 ?_|refine C6 (b) ?_|refine C6 (a) ?_|refine C6 (c) ?_|refine C9 ?_)
   rfl
 ·rw[Q0 e]at a
  rw[C7 e];refine fO 43 [(7,261,[37,38,39,40,42,0,1,2,3,5,4,1005,6,1005,7,8])] Tryz.func386 rfl ?_ (.inr ⟨trivial,trivial,trivial,trivial,trivial,trivial,trivial⟩)
  repeat'(first|refine gO ?_|(conv=>whnf);first|refine C9 ?_|refine C6 (b) ?_|refine C6 (a) ?_|refine C9 ?_)
  rfl
theorem zB(h:ab)(t a:Int)(c:h.Caches.length<=4)(d:¬(0<=t/\t<=h.Caches.length - 1)):aS Tryz.prog 354 false [.ptr (bu h),.val none [I t],.val none [I a]] [.ptr (bu h),.val none [I t],.val none [I a]] .one [I 1]:=by
 have b:=aE t 0 (h.Caches.length - 1:Int);rw[Q0 d]at b;refine fM 148 [(380,[2,0]),(382,[2,0]),(384,[2,0,0]),(379,[2,0])] [(15,269,[68,69,70,71,72,73,74,75,77,67,78,79,11,0,1,2,3,4,5,6,7,13,8,1000,1001,1002,1003,1004,1013,9,10,11,12,14,1012,15]),(22,15,[92,93,94,95,96,97,98,99,100,101,102,103,104,105,106]),(25,271,[116,117,118,119,120,121,122,123,124,125,127,115,128,129,14,0,1,2,3,4,5,6,7,8,9,15,10,1000,1001,1002,1003,1015,11,12,13,14,16,1014,17])] [(0,0),(0,0),(0,0)] Tryz.func354 rfl (λu q=>?_)
 repeat'(first|refine gO ?_|(conv=>whnf);first|refine C9 ?_|refine C6 (b) ?_)
 refine CD rfl rfl ?_;exact wC
theorem B4(h:ab)(i t:Nat)(a:bk h [])(j:i<h.Objs.length)(U:t<h.Caches.length)(K:(nth h.Objs i).Thread≠t):aS Tryz.prog 354 false [.ptr (bu h),.val none [I (t:Nat)],.val none [I (nth h.Objs i).Addr]] [.ptr (bu (freeT h t i).1),.val none [I (t:Nat)],.val none [I (nth h.Objs i).Addr]] .one [I (freeT h t i).2]:=by
 have F:=am j;obtain⟨-,L,d⟩:=a.objAt F;have N:ny h (nth h.Objs i).Addr=i:=by
  have V:=(a.objAt F).1;exact gy (f:=(·.Addr)) (gQ a.osr) V j (by rw[L])
 rw[N]at d;have b:=lR a F;have W:=a.onu _ F;have n:=a.lens;have X:=n.objs;have Y:=a.nc;have Z:=ki.of a.mail;have hb4:=Z.b4;have o:=aE (t:Nat) 0 (h.Caches.length - 1:Int);rw[O0 ω]at o;have p:=pD h (nth h.Objs i).Addr ω;rw[d]at p;have e:=ah j;have G:=jh (nth h.Objs i).Size;have O:=b6 a.ker;have P:=cM h.Kernel.Machine.Table ((nth h.Objs i).Addr / 16) O.1.2;unfold freeT;by_cases H:aN (nth h.Objs i).Size<0
 ·rw[C8 H]
  have c3:=oP h i a j H;refine fM 148 [(380,[2,0]),(382,[2,0]),(384,[2,0,0]),(379,[2,0])] [(15,269,[68,69,70,71,72,73,74,75,77,67,78,79,11,0,1,2,3,4,5,6,7,13,8,1000,1001,1002,1003,1004,1013,9,10,11,12,14,1012,15]),(22,15,[92,93,94,95,96,97,98,99,100,101,102,103,104,105,106]),(25,271,[116,117,118,119,120,121,122,123,124,125,127,115,128,129,14,0,1,2,3,4,5,6,7,8,9,15,10,1000,1001,1002,1003,1015,11,12,13,14,16,1014,17])] [(0,0),(0,0),(0,0)] Tryz.func354 rfl (λu q=>?_)
  repeat'(first|refine gD ?_|(conv=>whnf);first|with_reducible refine Bf.D (λc=>?_) (λc=>?_)|refine C9 ?_|refine C6 (o) ?_|refine CE (p) ⟨⟨rfl,bz h⟩,⟨rfl,rfl⟩,trivial⟩ ?_|refine CA (aa e) ?_|refine CF rfl (aa e) rfl ?_|refine C6 (G) ?_|refine CG (c3) (.inl rfl) ?_)
  refine CD rfl rfl ?_;exact wC
 rw[C7 H];obtain⟨s1,s2,s3,s4⟩:=Pp.of a (am j) H;by_cases J:(ao (tbl h) ((nth h.Objs i).Addr / 16)).Mode=1
 ·rw[C8 J]
  unfold tbl at J;refine fM 148 [(380,[2,0]),(382,[2,0]),(384,[2,0,0]),(379,[2,0])] [(15,269,[68,69,70,71,72,73,74,75,77,67,78,79,11,0,1,2,3,4,5,6,7,13,8,1000,1001,1002,1003,1004,1013,9,10,11,12,14,1012,15]),(22,15,[92,93,94,95,96,97,98,99,100,101,102,103,104,105,106]),(25,271,[116,117,118,119,120,121,122,123,124,125,127,115,128,129,14,0,1,2,3,4,5,6,7,8,9,15,10,1000,1001,1002,1003,1015,11,12,13,14,16,1014,17])] [(0,0),(0,0),(0,0)] Tryz.func354 rfl (λu q=>?_)
  repeat'(first|refine gA ?_|(conv=>whnf);first|with_reducible refine Bf.D (λc=>?_) (λc=>?_)|refine C9 ?_|refine CK (by decide) ?_|refine CI (nl b) ?_|refine C6 (o) ?_|refine CE (p) ⟨⟨rfl,bz h⟩,⟨rfl,rfl⟩,trivial⟩ ?_|refine CA (aa e) ?_|refine CF rfl (aa e) rfl ?_|refine C6 (G) ?_|refine CE (P) ⟨⟨rfl,CV _⟩,⟨rfl,rfl⟩,trivial⟩ ?_)
  refine CD rfl rfl ?_;exact wC
 rw[C7 J,C7 K];unfold tbl at J;have r:=GE h.Mail t ⟨(nth h.Objs i).Thread,(nth h.Objs i).Addr⟩ a.mail ω;by_cases l:bD (gi h.Mail t ⟨(nth h.Objs i).Thread,(nth h.Objs i).Addr⟩)=true;rotate_left
 ·rw[C7 l]
  rw[C7 l,show bD (gi h.Mail t ⟨(nth h.Objs i).Thread,(nth h.Objs i).Addr⟩)=false by simpa using l]at r;refine fM 148 [(380,[2,0]),(382,[2,0]),(384,[2,0,0]),(379,[2,0])] [(15,269,[68,69,70,71,72,73,74,75,77,67,78,79,11,0,1,2,3,4,5,6,7,13,8,1000,1001,1002,1003,1004,1013,9,10,11,12,14,1012,15]),(22,15,[92,93,94,95,96,97,98,99,100,101,102,103,104,105,106]),(25,271,[116,117,118,119,120,121,122,123,124,125,127,115,128,129,14,0,1,2,3,4,5,6,7,8,9,15,10,1000,1001,1002,1003,1015,11,12,13,14,16,1014,17])] [(0,0),(0,0),(0,0)] Tryz.func354 rfl (λu q=>?_)
  repeat'(first|refine gA ?_|(conv=>whnf);first|with_reducible refine Bf.D (λc=>?_) (λc=>?_)|refine C9 ?_|refine CK (by decide) ?_|refine CI (nl b) ?_|refine C6 (o) ?_|refine CE (p) ⟨⟨rfl,bz h⟩,⟨rfl,rfl⟩,trivial⟩ ?_|refine CA (aa e) ?_|refine CF rfl (aa e) rfl ?_|refine C6 (G) ?_|refine CE (P) ⟨⟨rfl,CV _⟩,⟨rfl,rfl⟩,trivial⟩ ?_|refine CE (r) ⟨⟨rfl,aH.enc_fz h.Mail⟩,⟨rfl,rfl⟩,⟨rfl,rfl⟩,trivial⟩ ?_|refine C9 ?_)
  refine CD rfl rfl ?_;exact wC
 rw[C8 l];rw[C8 l,l]at r;have w:dh h.Kernel (nth h.Objs i).Addr<h.Kernel.Machine.Frames.Cells.length:=by unfold dh;omega
 have hcz:=Kr s1;have B:=dt (aN (nth h.Objs i).Size);unfold ME;generalize gi h.Mail t ⟨(nth h.Objs i).Thread,(nth h.Objs i).Addr⟩ = M at r;refine fM 148 [(380,[2,0]),(382,[2,0]),(384,[2,0,0]),(379,[2,0])] [(15,269,[68,69,70,71,72,73,74,75,77,67,78,79,11,0,1,2,3,4,5,6,7,13,8,1000,1001,1002,1003,1004,1013,9,10,11,12,14,1012,15]),(22,15,[92,93,94,95,96,97,98,99,100,101,102,103,104,105,106]),(25,271,[116,117,118,119,120,121,122,123,124,125,127,115,128,129,14,0,1,2,3,4,5,6,7,8,9,15,10,1000,1001,1002,1003,1015,11,12,13,14,16,1014,17])] [(0,0),(0,0),(0,0)] Tryz.func354 rfl (λu q=>?_)
 repeat'(first|refine gA ?_|(conv=>whnf);first|with_reducible refine Bf.D (λc=>?_) (λc=>?_)|refine C9 ?_|refine CK (by decide) ?_|refine CI (nl b) ?_|refine C6 (o) ?_|refine CE (p) ⟨⟨rfl,bz h⟩,⟨rfl,rfl⟩,trivial⟩ ?_|refine CA (aa e) ?_|refine CF rfl (aa e) rfl ?_|refine C6 (G) ?_|refine CE (P) ⟨⟨rfl,CV _⟩,⟨rfl,rfl⟩,trivial⟩ ?_|refine CE (r) ⟨⟨rfl,aH.enc_fz h.Mail⟩,⟨rfl,rfl⟩,⟨rfl,rfl⟩,trivial⟩ ?_|refine C9 ?_)
 have Q:({{h with Mail:=M} with Kernel:=fN h.Kernel (nth h.Objs i).Addr 0} : ab) = {h with Mail:=M}:=FA {h with Mail:=M} _ w;have R:=T0 (λy:ab=>C.s .own (y.Kernel.Machine.Frames.Cells.map (aD .own))) Q
 (conv=>whnf)
 refine CC (ι:=Nat) (λk=>[(0,.hold .box (bu {{h with Mail:=M} with Kernel:=fN h.Kernel (nth h.Objs i).Addr k})),(1,.hold .one [I ((t:Nat):Int)]),(2,.hold .one [I ((nth h.Objs i).Addr)]),(7,.hold .one [I ((i:Nat):Int)]),(8,.hold .box (bC.enc .own (nth h.Objs i))),(9,.hold .one [I (aN (nth h.Objs i).Size)]),(10,.hold .box (aZ.enc .own (ao h.Kernel.Machine.Table ((nth h.Objs i).Addr / 16)))),(13,.hold .one [I ((k:Nat):Int)])]) (λk=>k<=(csz (aN (nth h.Objs i).Size)).toNat) (λk=>(csz (aN (nth h.Objs i).Size)).toNat - k) (0) ?_ (R0 _) λk hk=>?_
 ·repeat'(first|exact trivial|rfl |exact ml R|exact dv _|refine CH ?_ ?_|(exact yD (by first|omega|(simp only;omega)|(simp;omega))))
 have T:IntKind.i64.wrap 0=0:=rfl;have S:(nth h.Objs i).Addr.tmod 16=(nth h.Objs i).Addr % 16:=dI b.1;have g:(fN h.Kernel (nth h.Objs i).Addr k).Machine.Frames.Cells[(ao h.Kernel.Machine.Table ((nth h.Objs i).Addr / 16)).Frame.toNat]? = some (kU (nth h.Kernel.Machine.Frames.Cells (dh h.Kernel (nth h.Objs i).Addr)) ((nth h.Objs i).Addr % 16).toNat k):=Z2 w;by_cases lk:k<(csz (aN (nth h.Objs i).Size)).toNat
 ·have E:=ah (xs:=kU (nth h.Kernel.Machine.Frames.Cells (dh h.Kernel (nth h.Objs i).Addr)) ((nth h.Objs i).Addr % 16).toNat k) (i:=((nth h.Objs i).Addr % 16+k).toNat) (by rw[ot,s4];omega)
  repeat'(first|refine gD ?_|(conv=>whnf);first|refine C9 ?_|refine CK (by decide) ?_|refine CM S ?_|refine C6 (B) ?_|refine CJ s2.1 (aa g) ?_|refine CF rfl (aa g) rfl ?_|refine CJ ω (aa E) ?_|refine Pu.two rfl rfl (aa g) rfl rfl rfl (aa E) rfl (Q2 _) (AF {h with Mail:=M} _ k _ b.1) ?_)
  ((conv=>whnf);refine CB (k+1) ω ω ?_;(exact wC))
 ·obtain rfl:k=(csz (aN (nth h.Objs i).Size)).toNat:=ω
  have c6:=ly {{h with Mail:=M} with Kernel:=fN h.Kernel (nth h.Objs i).Addr (csz (aN (nth h.Objs i).Size)).toNat} i j (by show h.Objs.length<=_;omega)
  repeat'(first|refine gA ?_|(conv=>whnf);first|with_reducible refine Bf.D (λc=>?_) (λc=>?_)|refine C9 ?_|refine C6 (B) ?_|refine CG (c6) (.inl rfl) ?_)
  refine CD rfl rfl ?_;exact wC
theorem M2(h:ab)(i:Nat)(t:Int)(a:bk h [])(d:i<h.Objs.length):aS Tryz.prog 354 false [.ptr (bu h),.val none [I t],.val none [I (nth h.Objs i).Addr]] [.ptr (bu (if 0<=t/\t<=h.Caches.length - 1 then(freeT h t.toNat i).1 else h)),.val none [I t],.val none [I (nth h.Objs i).Addr]] .one [I (if 0<=t/\t<=h.Caches.length - 1 then(freeT h t.toNat i).2 else 1)]:=by
 have c:h.Caches.length<=4:=by have:=(d3.1 a.mail).1.2.1;have:=a.nc;omega
 by_cases b:0<=t/\t<=h.Caches.length - 1
 ·rw[C8 b,C8 b]
  obtain⟨n,rfl⟩:=I2 b.1;simp only[C2];by_cases e:(nth h.Objs i).Thread=n
  ·have:=DN h (nth h.Objs i) n a (am d) e c
   have g:ny h (nth h.Objs i).Addr=i:=by
    obtain⟨k,j,-⟩:=a.objAt (am d);exact gy (f:=(·.Addr)) (gQ a.osr) k d (by rw[j])
   rw[g,<-rx e]at this;exact this
  ·exact B4 h i n a d ω e
 ·rw[C7 b,C7 b]
  exact zB h t _ c b
theorem Jz(c:aC)(k:Nat):aC.enc .own (qC c k)=[.s .own ((c.Lists.map (aD .own)).set k (aD .own ((nth c.Lists k).take ((nth c.Lists k).length - 1))))]:=by simp[aC.enc,qC,X4]
theorem N1(xs:List Int)(n:Nat):(xs.take n).map (rI .imm)=(xs.map (rI .imm)).take n:=R3
def NZ(c:aC)(k:Nat):List C:=if 0<(nth c.Lists k).length then aC.enc .own (qC c k)++[I (nth (nth c.Lists k) ((nth c.Lists k).length - 1)),B true] else aC.enc .own c++[I (-1),B false]
theorem Nf(c:aC)(k:Nat):gh (NZ c k):=by
 unfold NZ;split
 ·exact aP (aC.enc_fr _) ⟨trivial,trivial,trivial⟩
 ·exact aP (aC.enc_fr _) ⟨trivial,trivial,trivial⟩
theorem uG(c:aC)(k:Nat)(h:bt c=true)(u:k<=3):ar Tryz.prog 289 false [.val (some 1) (aC.enc .imm c),.val none [I (k:Nat)]] (.tup [some 1,none,none]) (NZ c k):=by
 obtain⟨w,j⟩:=dZ h;have n:aC.sml c:=⟨ω,λl r=>by have:=j l r;show l.length<=1048576;omega⟩
 have d:=wt c k n;rw[h,O0 ω]at d;have o:=gU c n;have b:=rm (c:=c) (k:=k) ω;have t:=j _ (am (xs:=c.Lists) (i:=k) ω);have a:=Nf c k;unfold NZ at a |-;by_cases p:0<(nth c.Lists k).length
 ·rw[C8 p]at a |-
  have q:=ah (xs:=nth c.Lists k) (i:=(nth c.Lists k).length - 1) ω;have e:(nth c.Lists k)[(((nth c.Lists k).length:Int) - 1).toNat]? = some (nth (nth c.Lists k) ((nth c.Lists k).length - 1)):=by rw[show(((nth c.Lists k).length:Int) - 1).toNat=(nth c.Lists k).length - 1 by omega];exact q
  have g:((((nth c.Lists k).length:Nat):Int) - 1)=(((nth c.Lists k).length - 1:Nat):Int):=ω
  rw[Jz]at a |-;refine fO 54 [(5,268,[32,33,34,35,36,37,38,39,40,41,42,44,0,1,2,3,4,5,6,7,8,9,10,11,1000,1001,1002,12,13]),(6,265,[45,46,47,48,49,50,51,52,53,0,1,2,3,4,5,6,7,8,9,1001,1002,1003,1004,1005,1006,1007,1008,10,11])] Tryz.func289 rfl ?_ (.inr a)
  repeat'(first|refine gA ?_|(conv=>whnf);first|with_reducible refine CA (aa b) ?_|refine C9 ?_|refine CF rfl (aa b) rfl ?_|refine C6 (d) ?_|refine C6 (o) ?_|refine CJ ω (aa e) ?_|refine CA (aa q) ?_|refine CS ((nth c.Lists k).length - 1) g (by rw[W0];omega) (aO λ_=>rfl) (N1 _ _) ?_|refine C9 ?_|refine CR (λ_=>rfl) (λ_=>rfl) (by rw[I1];omega) (by decide) ?_|refine CL (λ_=>rfl) (λ_=>rfl) (by rw[I1];omega) (by decide) ?_|refine CN rfl rfl (aa b) rfl (X0 rfl) rfl ?_)
  rfl
 ·rw[C7 p]at a |-
  refine fO 54 [(5,268,[32,33,34,35,36,37,38,39,40,41,42,44,0,1,2,3,4,5,6,7,8,9,10,11,1000,1001,1002,12,13]),(6,265,[45,46,47,48,49,50,51,52,53,0,1,2,3,4,5,6,7,8,9,1001,1002,1003,1004,1005,1006,1007,1008,10,11])] Tryz.func289 rfl ?_ (.inr a)
  repeat'(first|refine gA ?_|(conv=>whnf);first|with_reducible refine CA (aa b) ?_|refine C9 ?_|refine CF rfl (aa b) rfl ?_|refine C6 (d) ?_|refine C6 (o) ?_)
  rfl
def Pb(xs:List a7)(n:Int):List C:=bw .own (ay xs n).1++[I (ay xs n).2.1,B (ay xs n).2.2]
theorem N9(xs:List a7)(n:Int):gh (Pb xs n):=aP (kf _) ⟨trivial,trivial,trivial⟩
theorem mM(pages:Int)(xs:List a7)(n:Int)(w:0<=pages/\pages<=1048576)(l:bv pages xs=true)(J:1<=n/\n<=1000)(K:xs.length<=4096):ar Tryz.prog 294 false [.val none [I pages],.val none (bw .imm xs),.val none [I n]] (.tup [none,none,none]) (Pb xs n):=by
 have o:=kD pages xs w ⟨ω,λ_ _=>trivial⟩;rw[l]at o;have p:=(yX l).2;refine fO 98 [(8,21,[31,32,33,34,35,36,37,38,39,40,41,42,43,44,45,46,47,48,49,50,51]),(14,265,[71,72,73,74,76,77,78,79,81,0,1,2,3,5,6,7,8,10,4,1005,1006,1007,1008,1010,9,1010,11,1010,12,13])] Tryz.func294 rfl ?_ (.inr (N9 xs n))
 repeat'(first|refine gD ?_|(conv=>whnf);first|refine C9 ?_|refine C6 (o) ?_|refine CL (λ_=>rfl) (λ_=>rfl) ω (by decide) ?_)
 (conv=>whnf)
 refine CC (ι:=Nat) (λi=>[(1,.hold .one (bw .imm xs)),(2,.hold .one [I (n)]),(9,.hold .one (bw .own xs)),(10,.hold .one [I (ip xs n i)]),(11,.hold .one [I ((i:Nat):Int)])]) (λi=>i<=xs.length) (λi=>xs.length - i) (0) ?_ (R0 _) λi y=>?_
 ·exact wC
 have h:=wn xs n i y;by_cases q:i<xs.length
 ·have j:=ah q
  have E:=p _ (am q);have a:ip xs n (i+1)=if n<=(nth xs i).Len/\(ip xs n i<0\/(nth xs i).Len<(nth xs (ip xs n i).toNat).Len) then((i:Nat):Int) else ip xs n i:=rfl
  by_cases r:n<=(nth xs i).Len
  ·by_cases F:ip xs n i<0
   ·rw[C8 ⟨r,.inl F⟩]at a
    repeat'(first|refine gD ?_|(conv=>whnf);first|with_reducible (first|refine CA (aa j) ?_|refine Bf.D (λc=>?_) (λc=>?_))|refine C9 ?_)
    ((conv=>whnf);refine CB (i+1) ω ω ?_)
    rw[a];exact wC
   ·have d:=ah (xs:=xs) (i:=(ip xs n i).toNat) ω
    by_cases G:(nth xs i).Len<(nth xs (ip xs n i).toNat).Len
    ·rw[C8 ⟨r,.inr G⟩]at a
     repeat'(first|refine gD ?_|(conv=>whnf);first|with_reducible (first|refine CA (aa j) ?_|refine CJ ω (aa d) ?_|refine Bf.D (λc=>?_) (λc=>?_))|refine C9 ?_)
     ((conv=>whnf);refine CB (i+1) ω ω ?_)
     rw[a];exact wC
    ·rw[C7 ω]at a
     repeat'(first|refine gD ?_|(conv=>whnf);first|with_reducible (first|refine CA (aa j) ?_|refine CJ ω (aa d) ?_|refine Bf.D (λc=>?_) (λc=>?_))|refine C9 ?_)
     ((conv=>whnf);refine CB (i+1) ω ω ?_)
     rw[a];exact wC
  ·rw[C7 ω]at a
   repeat'(first|refine gD ?_|(conv=>whnf);first|with_reducible (first|refine CA (aa j) ?_|refine Bf.D (λc=>?_) (λc=>?_))|refine C9 ?_)
   ((conv=>whnf);refine CB (i+1) ω ω ?_)
   rw[a];exact wC
 ·obtain rfl:i=xs.length:=ω
  change gv xs n = -1\/_ at h;unfold Pb ay;rw[show ip xs n xs.length=gv xs n from rfl];by_cases e:gv xs n<0
  ·rw[C8 e]
   rw[show gv xs n = -1 from h.resolve_right λg=>by have L:0<=gv xs n:=g.1;omega]
   repeat'(first|refine gD ?_|(conv=>whnf);first|with_reducible refine Bf.D (λc=>?_) (λc=>?_)|refine C9 ?_)
   rfl
  ·rw[C7 e]
   obtain⟨H,t,M⟩:=h.resolve_left ω;change 0<=gv xs n at H;change gv xs n<xs.length at t;obtain⟨b,k⟩:=I2 (show 0<=gv xs n by omega);rw[k]at t |-;simp only[C2];have d:=ah (xs:=xs) (i:=b) ω;have E:=p _ (am (xs:=xs) (i:=b) ω);by_cases u:(nth xs b).Len=n
   ·rw[C8 u]
    repeat'(first|refine gA ?_|(conv=>whnf);first|with_reducible (first|refine CA (aa d) ?_|refine Bf.D (λc=>?_) (λc=>?_))|refine C9 ?_|refine CS b rfl (by rw[W0];omega) (aO λ_=>rfl) R3 ?_|refine Sl.suf (b+1) rfl (by rw[W0];omega) (aO λ_=>rfl) T3 ?_|refine CR (λ_=>rfl) (λ_=>rfl) (by rw[I1];omega) (by decide) ?_|refine Ap.dele (λ_=>rfl) (λ_=>rfl) ω (by decide) ?_|refine CL (λ_=>rfl) (λ_=>rfl) (by rw[I1];omega) (by decide) ?_|refine C9 ?_)
    rfl
   ·rw[C7 u]
    repeat'(first|refine gA ?_|(conv=>whnf);first|with_reducible (first|refine CA (aa d) ?_|refine Bf.D (λc=>?_) (λc=>?_))|refine C9 ?_|refine CN rfl rfl (aa d) rfl (X0 rfl) rfl ?_)
    exact T0 (λz=>z++[I (nth xs b).At,B true]) (show [C.s dy.own _]=_ from by simp[bw,X4];rfl)
theorem Jf(k:af)(p:Int)(f:Nat):af.enc .own (pd k p f)=((af.enc .own k).set 1 (.s .own ((k.Machine.Frames.Used.map (rB .own)).set f (rB .own true)))).set 2 (.s .own ((k.Machine.Table.Entries.map (aZ.enc .own)).set p.toNat (aZ.enc .own ⟨2,(f:Nat)⟩))):=by
 simp[af.enc,pd,X4]
theorem AX(k:af)(p:Int)(c:aA k=true)(y:k.Calls≠100000)(o:0<=p/\p<k.Machine.Table.Entries.length)(C:(nth k.Machine.Table.Entries p.toNat).Mode=0):aS Tryz.prog 296 false [.ptr (af.enc .own k),.val none [I p]] [.ptr (af.enc .own (fB k p).1),.val none [I p]] .one [B (fB k p).2]:=by
 have E:=b6 c;have F:=aT.1 (aB.1 c).2.1;have G:=(bn.1 (aB.1 c).2.2.1).2.2;have H:(cN k).Machine.Table.Entries.length<=32:=G;have a:=zo k.Machine.Frames ω;have d:=lK k c y;have g:=dY (cN k) p E.1.2;have l:ao (cN k).Machine.Table p=nth k.Machine.Table.Entries p.toNat:=by unfold ao;exact C8 o
 rw[l,C]at g;have h:=aE p 0 ((k.Machine.Table.Entries.length:Int) - 1);rw[O0 ω]at h;have r:=ah (xs:=k.Machine.Table.Entries) (i:=p.toNat) ω;change ar _ _ _ _ _ [I (pV k)]at a;unfold fB;cases e:refd k<;>rw[e]at d
 ·by_cases j:pV k<0
  ·rw[C8 (.inr j)]
   refine fM 56 [(347,[2])] [] [(0,0),(0,0)] Tryz.func296 rfl (λu q=>?_)
   repeat'(first|refine gA ?_|(conv=>whnf);first|with_reducible refine Bf.D (λb=>?_) (λb=>?_)|refine CE (a) ⟨⟨rfl,aV.enc_fz _⟩,trivial⟩ ?_|refine CG (d) (.inl rfl) ?_|refine C6 (h) ?_|refine CE (g) ⟨CP (cN k),⟨rfl,rfl⟩,trivial⟩ ?_)
   refine CD rfl ?_ ?_
   ·rfl
   ·exact wC
  ·rw[C7 (by simp[j])]
   obtain⟨n,t⟩:=Bw j;obtain⟨f,J⟩:=I2 (show 0<=pV k by omega);rw[J]at a n t j |-;simp only[C2]at n t |-;have w:=ah (xs:=k.Machine.Frames.Used) (i:=f) n;rw[Jf];refine fM 56 [(347,[2])] [] [(0,0),(0,0)] Tryz.func296 rfl (λu q=>?_)
   repeat'(first|refine gA ?_|(conv=>whnf);first|with_reducible refine Bf.D (λb=>?_) (λb=>?_)|refine CE (a) ⟨⟨rfl,aV.enc_fz _⟩,trivial⟩ ?_|refine CG (d) (.inl rfl) ?_|refine C6 (h) ?_|refine CE (g) ⟨CP (cN k),⟨rfl,rfl⟩,trivial⟩ ?_|refine CA (aa w) ?_|refine CJ o.1 (aa r) ?_|refine CN rfl rfl (aa w) rfl (X0 rfl) rfl ?_|refine CN rfl rfl (aa r) rfl (X0 rfl) rfl ?_)
   refine CD rfl ?_ ?_
   ·rfl
   ·exact wC
 ·rw[C8 (.inl rfl)]
  refine fM 56 [(347,[2])] [] [(0,0),(0,0)] Tryz.func296 rfl (λu q=>?_)
  repeat'(first|refine gA ?_|(conv=>whnf);first|with_reducible refine Bf.D (λb=>?_) (λb=>?_)|refine CE (a) ⟨⟨rfl,aV.enc_fz _⟩,trivial⟩ ?_|refine CG (d) (.inl rfl) ?_|refine C6 (h) ?_|refine CE (g) ⟨CP (cN k),⟨rfl,rfl⟩,trivial⟩ ?_)
  refine CD rfl ?_ ?_
  ·rfl
  ·exact wC
def Ph(h:ab):List C:=(bu h).drop 5
theorem BB(h:ab)(p:Int)(a:aA h.Kernel=true)(b:h.Kernel.Calls≠100000)(c:0<=p/\p<h.Kernel.Machine.Table.Entries.length)(d:(nth h.Kernel.Machine.Table.Entries p.toNat).Mode=0):aS Tryz.prog 296 false [.ptr (bu h),.val none [I p]] [.ptr (bu {h with Kernel:=(fB h.Kernel p).1}),.val none [I p]] .one [B (fB h.Kernel p).2]:=
 (AX h.Kernel p a b c d).frame (r:=Ph h) rfl
theorem H4(h:ab)(i:Nat):bu (slotT h i)=((bu h).set 14 (I (FY h.Seed))).set 6 (.s .own ((h.Spans.map (au.enc .own)).set i [I (nth h.Spans i).Page,I (nth h.Spans i).Class,I (gg (nth h.Spans i).Bits (oN h i))])):=by
 simp[bu,slotT,pA,X4,au.enc]
theorem pW(h:ab)(E:List Int)(i:Nat)(c:bk h E)(k:i<h.Spans.length):aS Tryz.prog 291 false [.ptr (bu h),.val none [I (i:Nat)]] [.ptr (bu (nA h i).1),.val none [I (i:Nat)]] .one [I (nA h i).2]:=by
 have F:=c.lens;have G:=F.spans;have d:=ah k;have b:=c.L.sok _ (am k);have e:=ed b;have a:=c.nums;unfold cj at a;rw[C0]at a;have t:=(bn.1 (aB.1 c.ker).2.2.1).2.2;have l:=pO c.L.sok (ps:=aQ h (nth h.Spans i).Page) e (aQ h (nth h.Spans i).Page).length;change 0<=gj h i/\gj h i<=65535 at l;have w:=lQ (nth h.Spans i).Class;have y:=wO h i ⟨ω,λ_ _=>trivial⟩ ⟨by show h.Kernel.Machine.Table.Entries.length<=_;omega,λ_ _=>trivial⟩ c.L.sok k;have o:=vw (nth h.Spans i).Class (gj h i) ω;change ar _ _ _ _ _ (aD .own (lJ h i)) at o;have p:=Ee (nth h.Spans i).Class (gj h i);change (lJ h i).length<=16 at p;unfold nA;by_cases B:(lJ h i).length=0
 ·rw[C8 B]
  refine fM 68 [] [(2,7,[16,17,18,19,20,21,22]),(7,12,[42,43,44,45,46,47,48,49,50,51,52,53]),(8,11,[56,57,58,59,60,61,62,63,64,65,66])] [(0,0),(0,0)] Tryz.func291 rfl (λu q=>?_)
  repeat'(first|refine gA ?_|(conv=>whnf);first|refine CA (aa d) ?_|refine CF rfl (aa d) rfl ?_|refine C6 (w) ?_|refine CE (y) ⟨⟨rfl,bz h⟩,⟨rfl,rfl⟩,trivial⟩ ?_|refine C6 (o) ?_|refine C9 ?_)
  refine CD rfl rfl ?_;exact wC
 ·rw[C7 B]
  have H:=ye (h:=h) (i:=i) ω;obtain⟨C,D,O⟩:=uA H;have J:=(fZ (aF b).2.2).2.2.1;have r:=tW h.Seed (n:=((lJ h i).length:Nat)) ω;have K:=sF h.Seed ((lJ h i).length:Nat) ω ω;have M:=wZ (nth h.Spans i).Bits (oN h i) e ω;have N:=wQ (pA (nth h.Spans i) (oN h i)) (oN h i) (zM b ⟨C,D⟩) ⟨C,D⟩;have g:(lJ h i)[(JQ h.Seed ((lJ h i).length:Nat)).toNat]? = some (oN h i):=ah ω;have j:((h.Spans.map (au.enc .own)).set i [I (nth h.Spans i).Page,I (nth h.Spans i).Class,I (gg (nth h.Spans i).Bits (oN h i))])[i]? = some [I (nth h.Spans i).Page,I (nth h.Spans i).Class,I (gg (nth h.Spans i).Bits (oN h i))]:=qu k;unfold si;rw[H4];refine fM 68 [] [(2,7,[16,17,18,19,20,21,22]),(7,12,[42,43,44,45,46,47,48,49,50,51,52,53]),(8,11,[56,57,58,59,60,61,62,63,64,65,66])] [(0,0),(0,0)] Tryz.func291 rfl (λu q=>?_)
  repeat'(first|refine gA ?_|(conv=>whnf);first|refine CA (aa d) ?_|refine CA j ?_|refine CF rfl (aa g) rfl ?_|refine CF rfl (aa d) rfl ?_|refine CF rfl j rfl ?_|refine C6 (w) ?_|refine CE (y) ⟨⟨rfl,bz h⟩,⟨rfl,rfl⟩,trivial⟩ ?_|refine C6 (o) ?_|refine C6 (K) ?_|refine C6 (M) ?_|refine C6 (N) ?_|refine CJ r.1 (aa g) ?_|refine C9 ?_|refine CN rfl rfl (aa d) rfl (X0 rfl) rfl ?_)
  refine CD rfl ?_ ?_
  ·rfl
  ·exact wC
theorem Ap.ins{α:Type}{e:α->List C}{xs:List α}{y:α}{r:List C}{i sz by_:Nat}{K:List (List C)->Prop}(a:r=e y)(b:∀y,(e y).length=sz)(c:∀y,aW (e y)=true)(h:xs.length<=1048576)(d:by_<=1000)(f:K ((xs.take i++y::xs.drop i).map e)):Ap true ((xs.take i).map e++[r]) ((xs.drop i).map e) sz by_ K:=by
 subst a;have g:(xs.take i).length+1+(xs.drop i).length<=3145728:=by rw[I1,W2];omega
 refine CQ (λr a=>?_) (aO b) (λ_ r a=>by obtain⟨y,-,rfl⟩:=U3.1 a;exact c y) (by simp only[U2,W0,List.length_singleton];omega) (by simp only[U2,W0,List.length_singleton];exact t4 (Nat.mul_le_mul g d) (by decide)) ?_ f
 ·rcases O2.1 a with a|a
  ·exact aO b r a
  ·rw[Z0.1 a];exact b y
 ·rw[T4,V4,R4];rfl
theorem tI{α:Type}{p:α->Bool}{xs:List α}{y:α}{i:Nat}(h:jo p xs=i):iF p xs y=xs.take i++y::xs.drop i:=by unfold iF;rw[h]
def Fy(h:ab)(c:Int):ab × Int:=
 if(ay h.Free 1).2.2=false then(h,-1)
 else if(fB h.Kernel (ay h.Free 1).2.1).2=false then({h with Kernel:=(fB h.Kernel (ay h.Free 1).2.1).1},-1)
 else(tc h c,(tf h:Nat))
theorem Ac(h:ab)(E:List Int)(c:Nat)(g:bk h E)(J:h.Kernel.Calls<=90000):aS Tryz.prog 292 false [.ptr (bu h),.val none [I (c:Nat)]] [.ptr (bu (Fy h c).1),.val none [I (c:Nat)]] .one [I (Fy h c).2]:=by
 have B:=g.lens;have K:=B.spans;have L:dQ h<=32:=B.ents;have C:=gl h;have l:=mM (dQ h:Nat) h.Free 1 ⟨ω,ω⟩ g.rng (by decide) (by have:=B.free;omega);unfold Pb at l;have d:=kj g (v4 1);unfold Fy tc tf;generalize ay h.Free 1=r at l d |-;obtain⟨o,p,ok⟩:=r;simp only at l d |-;cases ok with
 | false=>
  rw[C8 rfl];refine fM 79 [(296,[2,0]),(2000010,[0,6])] [(1,267,[11,12,13,14,15,16,17,10,18,19,20,0,1,2,3,4,5,6,7,8,9,10,11,1009,1010,12,1010,13])] [(0,0),(0,0)] Tryz.func292 rfl (λu q=>?_)
  repeat'(first|refine gO ?_|(conv=>whnf);first|refine C9 ?_|refine CE (C) ⟨bz h,trivial⟩ ?_|refine CE (l) ⟨⟨rfl,rfl⟩,⟨rfl,dA h.Free⟩,⟨rfl,rfl⟩,trivial⟩ ?_|refine C9 ?_)
  refine CD rfl rfl ?_;exact wC
 | true=>
  rw[C7 (by simp)];obtain⟨M,N,O,V⟩:=d rfl;have F:0<=p/\p<h.Kernel.Machine.Table.Entries.length:=⟨M,by have:p+1<=((tbl h).Entries.length:Nat):=N;unfold tbl at this;omega⟩
  have t:=BB h p g.ker ω F (O p.toNat ω ω);generalize fB h.Kernel p=w at t |-;obtain⟨k,b⟩:=w;simp only at t |-;cases b with
  | false=>
   rw[C8 rfl];refine fM 79 [(296,[2,0]),(2000010,[0,6])] [(1,267,[11,12,13,14,15,16,17,10,18,19,20,0,1,2,3,4,5,6,7,8,9,10,11,1009,1010,12,1010,13])] [(0,0),(0,0)] Tryz.func292 rfl (λu q=>?_)
   repeat'(first|refine gO ?_|(conv=>whnf);first|refine C9 ?_|refine CE (C) ⟨bz h,trivial⟩ ?_|refine CE (l) ⟨⟨rfl,rfl⟩,⟨rfl,dA h.Free⟩,⟨rfl,rfl⟩,trivial⟩ ?_|refine CG (t) (.inl rfl) ?_|refine C9 ?_)
   refine CD rfl rfl ?_;exact wC
  | true=>
   rw[C7 (by simp)];refine fM 79 [(296,[2,0]),(2000010,[0,6])] [(1,267,[11,12,13,14,15,16,17,10,18,19,20,0,1,2,3,4,5,6,7,8,9,10,11,1009,1010,12,1010,13])] [(0,0),(0,0)] Tryz.func292 rfl (λu q=>?_)
   repeat'(first|refine gO ?_|(conv=>whnf);first|refine C9 ?_|refine CE (C) ⟨bz h,trivial⟩ ?_|refine CE (l) ⟨⟨rfl,rfl⟩,⟨rfl,dA h.Free⟩,⟨rfl,rfl⟩,trivial⟩ ?_|refine CG (t) (.inl rfl) ?_|refine C9 ?_)
   (conv=>whnf)
   refine CC (ι:=Nat) (λi=>[(0,.hold .box (bu {h with Kernel:=k,Free:=o})),(1,.hold .one [I ((c:Nat):Int)]),(6,.hold .one [I (p)]),(8,.hold .one [I ((i:Nat):Int)])]) (λi=>i<=h.Spans.length/\∀(j:Nat)(z:au),j<i->h.Spans[j]? = some z->Gq p z=false) (λi=>h.Spans.length - i) (0) ?_ (⟨R0 _,λj z W=>ω⟩) λi g=>?_
   ·exact wC
   obtain⟨P,G⟩:=g;have Q:({h with Kernel:=k,Free:=o} : ab).Spans.length=h.Spans.length:=rfl;by_cases R:i<h.Spans.length/\(nth h.Spans i).Page<p
   ·have n:=ah R.1
    repeat'(first|refine gD ?_|(conv=>whnf);first|with_reducible refine CA (aa n) ?_|refine C9 ?_|refine CF rfl (aa n) rfl ?_)
    ((conv=>whnf);refine CB (i+1) ⟨ω,cY n (Q0 ω) G⟩ ω ?_;(exact wC))
   ·have a:jo (Gq p) h.Spans=i:=tC ω G λz H=>by
     have S:=(V1.1 H).1;have:z=nth h.Spans i:=(br H).symm;subst this;exact O0 ω
    have n:i<h.Spans.length->h.Spans[i]? = some (nth h.Spans i):=λT=>ah T
    rw[show addS h k o p (c:Nat) = {h with Kernel:=k,Free:=o,Spans:=h.Spans.take i++⟨p,(c:Nat),0⟩::h.Spans.drop i} by unfold addS;rw[tI a],a]
    repeat'(first|refine gD ?_|(conv=>whnf);first|with_reducible (first|refine CA (aa (n ω)) ?_|refine Bf.D (λU=>?_) (λU=>?_))|refine C9 ?_|refine CF rfl (aa (n ω)) rfl ?_|refine DE.mk rfl (wj h.Spans) rfl ?_|refine CS i rfl (by rw[W0];omega) (aO λ_=>rfl) R3 ?_|refine Sl.suf i rfl (by rw[W0];omega) (aO λ_=>rfl) T3 ?_|refine CL (λ_=>rfl) (λ_=>rfl) (by rw[I1];omega) (by decide) ?_|refine Ap.sn (aO λ_=>rfl) rfl (by rw[W0,I1];omega) (by decide) rfl ?_|refine Ap.ins (e:=au.enc .imm) (y:=⟨p,(c:Nat),0⟩) rfl (λ_=>rfl) (λ_=>rfl) ω (by decide) ?_)
    all_goals
     refine CD rfl rfl ?_;exact wC
end Go.Proofs.YtembpgjjnioagaaGreat.Ab
