/- Pages mapped for new spans and large objects: a heap stays whole. No condition. -/
import Derived.Test.YtembpgjjnioagaaGreatDd
import Derived.Test.YtembpgjjnioagaaGreatDf
import Derived.Test.YtembpgjjnioagaaGreatDe
set_option linter.unusedVariables false
set_option linter.unusedSimpArgs false
set_option linter.constructorNameAsVariable false
namespace Go.Proofs.YtembpgjjnioagaaGreat.Ab
def i7(xs:List a7)(n:Int):Nat->Int
 | 0=>-1
 | i+1=>if n<=(nth xs i).Len/\(i7 xs n i<0\/(nth xs i).Len<(nth xs (i7 xs n i).toNat).Len) then(i:Nat) else i7 xs n i
def gy(xs:List a7)(n:Int):Int:=i7 xs n xs.length
def ay(xs:List a7)(n:Int):List a7 × Int × Bool:=
 if gy xs n<0 then(xs,-1,false)
 else if(nth xs (gy xs n).toNat).Len=n then(dele xs (gy xs n).toNat,(nth xs (gy xs n).toNat).At,true)
 else(xs.set (gy xs n).toNat ⟨(nth xs (gy xs n).toNat).At+n,(nth xs (gy xs n).toNat).Len - n⟩,(nth xs (gy xs n).toNat).At,true)
theorem vf(xs:List a7)(n:Int):∀i,i<=xs.length->i7 xs n i = -1\/(0<=i7 xs n i/\i7 xs n i<i/\n<=(nth xs (i7 xs n i).toNat).Len)
 | 0,_=>.inl rfl
 | i+1,b=>by
  have a:=vf xs n i ω;unfold i7;split
  ·rename_i h;right;rw[C2];exact⟨ω,ω,h.1⟩
  ·rcases a with h|h
   ·exact .inl h
   ·exact .inr ⟨h.1,ω,h.2.2⟩
theorem wo{xs:List a7}(h:ns xs){i j:Nat}(a:i<j)(b:j<xs.length):(nth xs i).At+(nth xs i).Len<(nth xs j).At:=by
 have:=List.pairwise_iff_getElem.1 h.1 i j ω b a
 rwa [<-bp (U1 (show i<xs.length by omega)),<-bp (U1 b)]at this
theorem w8{xs:List a7}{p:Int} : RH xs p↔∃j,j<xs.length/\(nth xs j).At<=p/\p<(nth xs j).At+(nth xs j).Len:=by
 unfold RH;constructor
 ·rintro⟨r,b,h⟩
  obtain⟨j,a,rfl⟩:=aW b;exact⟨j,a,h⟩
 ·rintro⟨j,a,h⟩
  exact⟨_,am a,h⟩
theorem mt{pages:Int}{xs:List a7}{n:Int}(h:bv pages xs=true)(T:1<=n)(t:(ay xs n).2.2=true) :
  bv pages (ay xs n).1=true/\0<=(ay xs n).2.1/\(ay xs n).2.1+n<=pages/\(∀p,RH (ay xs n).1 p↔RH xs p/\¬((ay xs n).2.1<=p/\p<(ay xs n).2.1+n))/\∀p,(ay xs n).2.1<=p->p<(ay xs n).2.1+n->RH xs p:=by
 obtain⟨o,u,J⟩:=dY.1 h;have K:=vf xs n xs.length (Q2 _);unfold ay at t |-;change gy xs n = -1\/_ at K;split at t
 ·cases t
 rename_i w;rw[C7 w];obtain⟨O,P,L⟩:=K.resolve_left ω;change 0<=gy xs n at O;change gy xs n<xs.length at P;change n<=(nth xs (gy xs n).toNat).Len at L;generalize Q:(gy xs n).toNat=b at L |-;have g:b<xs.length:=ω
 have M:=u _ (am g);have q:∀j,j<xs.length->j≠b->(nth xs j).At+(nth xs j).Len<(nth xs b).At\/(nth xs b).At+(nth xs b).Len<(nth xs j).At:=λj a k=>by
  rcases Nat.lt_or_gt_of_ne k with A|B
  ·exact .inl (wo o A g)
  ·exact .inr (wo o B a)
 split
 ·rename_i R
  have C:(dele xs b).Sublist xs:=fx ..;refine⟨dY.2 ⟨⟨o.1.sublist C,λy l=>o.2 y (C.subset l)⟩,λy l=>u y (C.subset l),J⟩,M.1,by show(nth xs b).At+n<=pages;omega,λp=>?_,λp D E=>w8.2 ⟨b,g,D,by show p<_;simp only at E;omega⟩⟩;simp only;rw[w8 (xs:=xs)];constructor
  ·rintro⟨r,F,f,d⟩
   obtain⟨j,a,k,rfl⟩:=eC.1 F;refine⟨⟨j,a,f,d⟩,λe=>?_⟩;have:=q j a k;omega
  ·rintro⟨⟨j,a,f,d⟩,G⟩
   exact⟨_,eC.2 ⟨j,a,λe=>by subst e;omega,rfl⟩,f,d⟩
 ·rename_i R
  have c:∀j,nth (xs.set b ⟨(nth xs b).At+n,(nth xs b).Len - n⟩) j=if j=b then⟨(nth xs b).At+n,(nth xs b).Len - n⟩ else nth xs j:=λj=>by
   rw[cz];by_cases e:j=b
   ·rw[C8 ⟨e.symm,ω⟩,C8 e]
   ·rw[C7 λz=>e z.1.symm,C7 e]
  refine⟨dY.2 ⟨⟨?_,λy l=>?_⟩,λy l=>?_,J⟩,M.1,by show(nth xs b).At+n<=pages;omega,λp=>?_,λp D E=>w8.2 ⟨b,g,D,by simp only at E;omega⟩⟩
  ·rw[List.pairwise_iff_getElem]
   intro i j N a H;rw[<-bp (U1 N),<-bp (U1 a),c,c];simp only[C1]at N a;have S:=wo o H a;split
   ·rename_i e;subst e
    rw[C7 ω];simp only;omega
   ·split
    ·rename_i e;subst e
     simp only;omega
    ·exact S
  ·rcases eS l with rfl|⟨j,a,-,rfl⟩
   ·simp only;omega
   ·exact o.2 _ (am a)
  ·rcases eS l with rfl|⟨j,a,-,rfl⟩
   ·simp only;omega
   ·exact u _ (am a)
  ·simp only
   rw[w8,w8,C1];constructor
   ·rintro⟨j,a,f,d⟩
    rw[c]at f d;split at f
    ·rename_i e;subst e
     rw[C8 rfl]at d;simp only at f d;exact⟨⟨j,a,ω,ω⟩,ω⟩
    ·rename_i e
     rw[C7 e]at d;have:=q j a e;exact⟨⟨j,a,f,d⟩,ω⟩
   ·rintro⟨⟨j,a,f,d⟩,G⟩
    refine⟨j,a,?_⟩;rw[c];split
    ·rename_i e;subst e
     simp only;omega
    ·exact⟨f,d⟩
def qS(k:af):Int:=df (λu=>!u) k.Machine.Frames.Used
def p8(k:af)(p:Int)(f:Nat):af:={k with Machine:=⟨⟨k.Machine.Frames.Cells,k.Machine.Frames.Used.set f true⟩,⟨k.Machine.Table.Entries.set p.toNat ⟨2,(f:Nat)⟩⟩⟩}
def ge(k:af)(p:Int):af × Bool:=if refd k=true\/qS k<0 then(dw k,false) else(p8 (dw k) p (qS k).toNat,true)
theorem De{k:af}(h:¬qS k<0):(qS k).toNat<k.Machine.Frames.Used.length/\nth k.Machine.Frames.Used (qS k).toNat=false:=by
 unfold qS at h |-;rcases nu (λu=>!u) k.Machine.Frames.Used with e|⟨n,a,e,b⟩
 ·omega
 ·rw[e,C2]
  exact⟨a,by simpa using b⟩
theorem yD{k:af}(h:aB k=true){f:Nat}(b:f<k.Machine.Frames.Used.length)(c:nth k.Machine.Frames.Used f=false)(q:Nat)(d:q<k.Machine.Table.Entries.length)(g:(nth k.Machine.Table.Entries q).Mode≠0):(nth k.Machine.Table.Entries q).Frame≠(f:Nat):=by
 obtain⟨j,l,n,i,o⟩:=aE.1 h;intro e;have a:=i f b;rw[c]at a;have:=of_decide_eq_false a.symm;exact this (ew.2 ⟨q,d,g,e⟩)
theorem LK{k:af}{p:Int}{f:Nat}(h:aB k=true)(L:0<=p/\p<k.Machine.Table.Entries.length)(n:(nth k.Machine.Table.Entries p.toNat).Mode=0)(o:f<k.Machine.Frames.Used.length)(r:nth k.Machine.Frames.Used f=false):aB (p8 k p f)=true:=by
 have t:=yD h o r;obtain⟨u,w,y,A,B⟩:=aE.1 h;obtain⟨C,D,E,F⟩:=bg.1 w;obtain⟨G,H,J⟩:=bw.1 y;have a:∀q,nth (k.Machine.Table.Entries.set p.toNat ⟨2,(f:Nat)⟩) q=if p.toNat=q then⟨2,(f:Nat)⟩ else nth k.Machine.Table.Entries q:=λq=>by
  rw[cz];by_cases i:p.toNat=q
  ·rw[C8 ⟨i,ω⟩,C8 i]
  ·rw[C7 (λe=>i e.1),C7 i]
 refine aE.2 ⟨u,bg.2 ⟨C,D,by simp only[p8,C1];exact E,λj b=>?_⟩,bw.2 ⟨λj b=>?_,?_,?_⟩,λj b=>?_,B⟩
 ·replace b:j<k.Machine.Frames.Cells.length:=b
  show gX (nth k.Machine.Frames.Cells j) (nth (k.Machine.Frames.Used.set f true) j)=true;have d:=F j b;rw[cz];split
  ·unfold gX at d |-
   simp only[I0,C0,I3]at d |-;refine⟨d.1,λv K=>?_⟩;have:=d.2 v K;unfold iA at this |-;simp only[I0]at this;rw[this.1];rfl
  ·exact d
 ·simp only[p8,C1]at b |-
  rw[a];split
  ·unfold jW;rw[C0];simp only;omega
  ·exact G j b
 ·simp only[p8,C1];exact H
 ·simp only[p8,C1];exact J
 ·simp only[p8,C1]at b
  show nth (k.Machine.Frames.Used.set f true) j=_;rw[cz];by_cases e:f=j
  ·subst e
   rw[C8 ⟨rfl,b⟩];refine(O0 (ew.2 ⟨p.toNat,?_,?_,?_⟩)).symm
   ·simp only[p8,C1];omega
   ·simp only[p8,a,C8];decide
   ·simp only[p8,a,C8]
  ·rw[C7 λz=>e z.1,A j b]
   refine decide_eq_decide.2 ?_;rw[ew,ew];simp only[p8,C1,a];constructor
   ·rintro⟨q,l,g,c⟩
    refine⟨q,l,?_⟩;rw[C7 λz=>g (by rw[<-z];exact n)];exact⟨g,c⟩
   ·rintro⟨q,l,g,c⟩
    by_cases z:p.toNat=q
    ·rw[C8 z]at c
     simp only at c;omega
    ·rw[C7 z]at g c
     exact⟨q,l,g,c⟩
structure zD(k:af)(p:Int)(r:af × Bool):Prop where
 ker:aB r.1=true
 len:r.1.Machine.Table.Entries.length=k.Machine.Table.Entries.length
 calls:r.1.Calls=k.Calls+1
 ref:r.1.Refuse=k.Refuse
 cells:r.1.Machine.Frames.Cells=k.Machine.Frames.Cells
 no:r.2=false->r.1=dw k
 yes:r.2=true->∃f:Nat,f<k.Machine.Frames.Used.length/\nth k.Machine.Frames.Used f=false/\(∀q:Nat,nth r.1.Machine.Table.Entries q=if(q:Int)=p then⟨2,(f:Nat)⟩ else nth k.Machine.Table.Entries q)/\∀q,q<k.Machine.Table.Entries.length->(nth k.Machine.Table.Entries q).Mode≠0->(nth k.Machine.Table.Entries q).Frame≠(f:Nat)
theorem zD.of{k:af}{p:Int}(h:aB k=true)(c:k.Calls≠100000)(f:0<=p/\p<k.Machine.Table.Entries.length)(g:(nth k.Machine.Table.Entries p.toNat).Mode=0):zD k p (ge k p):=by
 unfold ge;split
 ·exact⟨ly h c,rfl,rfl,rfl,rfl,λ_=>rfl,λe=>by cases e⟩
 ·rename_i d
  rw[not_or]at d;obtain⟨a,b⟩:=De d.2;refine⟨LK (ly h c) f g a b,by simp[p8,dw],rfl,rfl,rfl,λe=>(by cases e),λ_=>⟨_,a,b,λq=>?_,λq=>yD h a b q⟩⟩;simp only[p8,dw,cz];by_cases e:(q:Int)=p
  ·rw[C8 ⟨ω,ω⟩,C8 e]
  ·rw[C7 λz=>e ω,C7 e]
def cL(k:af)(p:Int):Nat->af × Nat
 | 0=>(k,0)
 | i+1=>if(cL k p i).2=i then((ge (cL k p i).1 (p+(i:Nat))).1,if(ge (cL k p i).1 (p+(i:Nat))).2=true then i+1 else i) else cL k p i
structure nt(k:af)(p:Int)(i:Nat)(r:af × Nat):Prop where
 ker:aB r.1=true
 len:r.1.Machine.Table.Entries.length=k.Machine.Table.Entries.length
 calls:k.Calls<=r.1.Calls/\r.1.Calls<=k.Calls+i
 ref:r.1.Refuse=k.Refuse
 cells:r.1.Machine.Frames.Cells=k.Machine.Frames.Cells
 le:r.2<=i
 out:∀q:Nat,¬(p<=q/\(q:Int)<p+r.2)->nth r.1.Machine.Table.Entries q=nth k.Machine.Table.Entries q
 new:∀q:Nat,p<=q->(q:Int)<p+r.2->(nth r.1.Machine.Table.Entries q).Mode=2/\∀u:Nat,u<k.Machine.Table.Entries.length->(nth r.1.Machine.Table.Entries u).Mode≠0->(nth r.1.Machine.Table.Entries u).Frame=(nth r.1.Machine.Table.Entries q).Frame->u=q
theorem nt.of{k:af}{p:Int}{n:Nat}(h:aB k=true)(G:k.Calls+n<=100000)(H:0<=p/\p+n<=k.Machine.Table.Entries.length)(C:∀q:Nat,p<=q->(q:Int)<p+n->(nth k.Machine.Table.Entries q).Mode=0):∀i,i<=n->nt k p i (cL k p i)
 | 0,_=>⟨h,rfl,⟨t4 _,by show k.Calls<=k.Calls+((0:Nat):Int);omega⟩,rfl,rfl,Q2 _,λ_ _=>rfl,λq o d=>by simp only[cL]at d;omega⟩
 | i+1,L=>by
  have a:=nt.of h G H C i ω;unfold cL;split
  case isFalse=>exact⟨a.ker,a.len,⟨a.calls.1,by have:=a.calls.2;omega⟩,a.ref,a.cells,by have:=a.le;omega,a.out,a.new⟩
  rename_i t;generalize cL k p i=r at a t |-;have J:=a.calls;have y:(nth r.1.Machine.Table.Entries (p+(i:Nat)).toNat).Mode=0:=by
   rw[a.out _ ω];exact C _ ω ω
  have s:=zD.of (p:=p+(i:Nat)) a.ker ω ⟨ω,by rw[a.len];omega⟩ y;generalize ge r.1 (p+(i:Nat))=w at s |-;refine⟨s.ker,s.len.trans a.len,⟨by simp only[s.calls];omega,by simp only[s.calls];omega⟩,s.ref.trans a.ref,s.cells.trans a.cells,by simp only;split<;>omega,λq j=>?_,λq o d=>?_⟩
  ·simp only at j |-
   cases e:w.2 with
   | false=>
    rw[s.no e];rw[e]at j;exact a.out q (by rw[t];simpa using j)
   | true=>
    obtain⟨f,-,-,g,-⟩:=s.yes e;rw[e,C8 rfl]at j;rw[g,C7 ω];exact a.out q ω
  ·simp only at d |-
   cases e:w.2 with
   | false=>
    rw[s.no e];rw[e]at d;exact a.new q o (by rw[t];simpa using d)
   | true=>
    obtain⟨f,-,-,g,D⟩:=s.yes e;rw[e,C8 rfl]at d;have A:q<k.Machine.Table.Entries.length:=ω
    rw[g];by_cases E:(q:Int)=p+(i:Nat)
    ·rw[C8 E]
     refine⟨rfl,λu B c b=>?_⟩;rw[g]at c b;by_cases l:(u:Int)=p+(i:Nat)
     ·omega
     ·rw[C7 l]at c b
      exact absurd b (D u (by rw[a.len];exact B) c)
    ·rw[C7 E]
     obtain⟨F,K⟩:=a.new q o ω;refine⟨F,λu B c b=>?_⟩;rw[g]at c b;by_cases l:(u:Int)=p+(i:Nat)
     ·rw[C8 l]at b
      exact absurd b.symm (D q (by rw[a.len];exact A) (by rw[F];decide))
     ·rw[C7 l]at c b
      exact K u B c b
theorem nt.undo{k:af}{p:Int}{i:Nat}{r:af × Nat}(s:nt k p i r)(h:aB k=true)(d:0<=p/\p+i<=k.Machine.Table.Entries.length)(e:∀q:Nat,p<=q->(q:Int)<p+i->(nth k.Machine.Table.Entries q).Mode=0):aB (dZ r.1 p r.2)=true/\tEq k.Machine.Table (dZ r.1 p r.2).Machine.Table:=by
 have f:=s.le;have g:=lz s.ker d.1 r.2 (by rw[s.len];omega);refine⟨kx s.ker p r.2,((im r.1 p r.2).1).trans s.len,λq=>?_⟩;rw[g];split
 ·rename_i a
  have c:=e q a.1 ω;obtain⟨-,-,j,-⟩:=aE.1 h;have b:=(bw.1 j).1 q ω;unfold jW at b;rw[C0]at b;exact⟨⟨λz=>absurd rfl z,λz=>absurd c z⟩,(b.2.2.1 c).symm⟩
 ·rename_i a
  rw[s.out q a];exact⟨Iff.rfl,rfl⟩
theorem Pg.add{t h:aH}{O r:List a7}{sp b:List au}{la d:List a8}{p:Int}{n:Nat}(i:Pg t O sp la)(E:h.Entries.length=t.Entries.length)(S:p+n<=t.Entries.length)(hp:0<=p)(j:∀q:Nat,¬(p<=q/\(q:Int)<p+n)->nth h.Entries q=nth t.Entries q)(a:∀q:Nat,p<=q->(q:Int)<p+n->(nth h.Entries q).Mode=2/\∀u:Nat,u<t.Entries.length->(nth h.Entries u).Mode≠0->(nth h.Entries u).Frame=(nth h.Entries q).Frame->u=q)(J:∀q,RH r q↔RH O q/\¬(p<=q/\q<p+n))(F:∀q,q∈pgs b d↔q∈pgs sp la\/(p<=q/\q<p+n))(w:∀s∈b,0<=s.Page/\(s∈sp\/(p<=s.Page/\s.Page<p+n)))(K:∀l∈d,l∈la\/∀q∈lpgs l l.Pages.toNat,p<=q/\q<p+n):Pg h r b d:=by
 have f:∀q:Nat,q<t.Entries.length->((nth h.Entries q).Mode≠0↔(q:Int)∈pgs b d):=λq c=>by
  rw[F];by_cases e:p<=q/\(q:Int)<p+n
  ·have:=(a q e.1 e.2).1
   exact⟨λ_=>.inr e,λ_=>by rw[this];decide⟩
  ·rw[j q e,i.own q c]
   exact⟨.inl,λz=>z.resolve_right e⟩
 refine⟨λl A q c u k L G=>?_,λq c=>?_,λq c=>f q (by rw[<-E];exact c),λq c=>?_,λs P u k M H=>?_⟩
 ·rw[E]at k
  have B:=fm (sp:=b) A c;have C:q<t.Entries.length:=by
   rcases(F _).1 B with g|g
   ·have:=i.bnd _ g;omega
   ·omega
  by_cases e:p<=q/\(q:Int)<p+n
  ·exact(a q e.1 e.2).2 u k L G
  ·have N:=(K l A).resolve_right λg=>e (g _ c)
   by_cases o:p<=u/\(u:Int)<p+n
   ·exact((a u o.1 o.2).2 q C ((f q C).2 B) G.symm).symm
   ·rw[j q e,j u o]at G
    rw[j u o]at L;exact i.one l N q c u k L G
 ·rw[E]
  rcases(F _).1 c with g|g
  ·exact i.bnd _ g
  ·omega
 ·rw[E]at c
  rw[J];by_cases e:p<=q/\(q:Int)<p+n
  ·have:=(a q e.1 e.2).1
   exact⟨λ_ z=>z.2 e,λ_=>by rw[this];decide⟩
  ·rw[j q e,i.fre q c]
   exact⟨λz y=>z y.1,λz y=>z ⟨y,e⟩⟩
 ·obtain⟨T,U⟩:=w s P
  obtain⟨V,W⟩:=w u k;have D:∀y∈b,0<=y.Page->y.Page.toNat<t.Entries.length/\((y.Page.toNat:Nat):Int)=y.Page/\(nth h.Entries y.Page.toNat).Mode≠0:=λy X Y=>by
   have g:=d6 (la:=d) X;have Q:y.Page.toNat<t.Entries.length:=by
    rcases(F _).1 g with R|R
    ·have:=i.bnd _ R;omega
    ·omega
   exact⟨Q,ω,(f _ Q).2 (by rw[show((y.Page.toNat:Nat):Int)=y.Page by omega];exact g)⟩
  obtain⟨Z,sc,sd⟩:=D s P T;obtain⟨ub,uc,ud⟩:=D u k V;by_cases es:p<=s.Page/\s.Page<p+n
  ·have:=(a s.Page.toNat ω ω).2 _ ub ud H.symm
   omega
  ·by_cases o:p<=u.Page/\u.Page<p+n
   ·have:=(a u.Page.toNat ω ω).2 _ Z sd H
    omega
   ·rw[j _ ω,j _ ω]at H
    exact i.mesh s (U.resolve_right es) u (W.resolve_right o) M H
theorem DH{sp a:List au}{la b:List a8}(c:a.Perm sp)(d:b.Perm la):(pgs a b).Perm (pgs sp la):=by
 unfold pgs;exact(c.map _).append (d.flatMap_right _)
def He(p:Int)(s:au):Bool:=decide (p<=s.Page)
def MZ(p:Int)(l:a8):Bool:=decide (p<=l.Page)
def addS(h:ab)(k:af)(a:List a7)(p c:Int):ab:={h with Kernel:=k,Free:=a,Spans:=jf (He p) h.Spans ⟨p,c,0⟩}
theorem kL{h:ab}{E:List Int}(a:bn h E){n:Int}(j:1<=n)(k:(ay h.Free n).2.2=true):0<=(ay h.Free n).2.1/\(ay h.Free n).2.1+n<=(tbl h).Entries.length/\(∀q:Nat,(ay h.Free n).2.1<=q->(q:Int)<(ay h.Free n).2.1+n->(nth (tbl h).Entries q).Mode=0)/\∀q:Int,(ay h.Free n).2.1<=q->q<(ay h.Free n).2.1+n->q∉pgs h.Spans h.Larges:=by
 obtain⟨r,l,f,t,o⟩:=mt a.rng j k;have g:∀q:Nat,(ay h.Free n).2.1<=q->(q:Int)<(ay h.Free n).2.1+n->(nth (tbl h).Entries q).Mode=0:=λq b c=>by
  have d:q<(tbl h).Entries.length:=by
   have:(ay h.Free n).2.1+n<=((tbl h).Entries.length:Nat):=f;omega
  by_cases e:(nth (tbl h).Entries q).Mode=0
  ·exact e
  ·exact absurd (o q b c) ((a.pg.fre q d).1 e)
 refine⟨l,f,g,λq b c i=>?_⟩;have u:=a.pg.bnd q i;obtain⟨m,rfl⟩:=I2 (show 0<=q by omega);have p:=(a.pg.own m ω).2 i;exact p (g m b c)
theorem bn.addS{h:ab}{E:List Int}{c:Int}(a:bn h E)(H:0<=c/\c<=3)(F:(ay h.Free 1).2.2=true){k:af}(s:zD h.Kernel (ay h.Free 1).2.1 (k,true)):bn (addS h k (ay h.Free 1).1 (ay h.Free 1).2.1 c) E:=by
 obtain⟨U,G,r3,J,r5⟩:=mt a.rng (t4 _) F;obtain⟨-,V,u3,W⟩:=kL a (t4 _) F;generalize (ay h.Free 1).2.1=p at G r3 J r5 V u3 W s |-;generalize (ay h.Free 1).1=fr at U J |-;obtain⟨f,f1,f2,K,f4⟩:=s.yes rfl;have M:=(bw.1 (aE.1 a.ker).2.2.1).2.2;change (tbl h).Entries.length<=32 at M;have X:=a.L;have N:=jL (He p) h.Spans ⟨p,c,0⟩;have O:=DH N (List.Perm.refl h.Larges);have w:(pgs (jf (He p) h.Spans ⟨p,c,0⟩) h.Larges).Perm (p::pgs h.Spans h.Larges):=O;have B:p∉pgs h.Spans h.Larges:=W p (t4 _) ω;have P:∀z∈h.Spans,z.Page≠p:=λz g e=>B (by rw[<-e];exact d6 g)
 have i:∀b d,iS (jf (He p) h.Spans ⟨p,c,0⟩) b d↔iS h.Spans b d:=λb d=>by
  constructor
  ·rintro⟨s,C,A,Q⟩
   rcases dm.1 C with rfl|C
   ·exact absurd A (ze rfl b)
   ·exact⟨s,C,A,Q⟩
  ·rintro⟨s,C,A⟩
   exact⟨s,dm.2 (.inr C),A⟩
 exact {a with
   ker:=s.ker
   rng:=by show bv ((k.Machine.Table.Entries.length:Nat):Int) fr=true;rw[s.len];exact U
   lay:=by
     obtain⟨l1,l2,l3⟩:=cS a.lay;unfold bf;simp only[I0,C0];refine⟨⟨I3.2 λz g=>?_,l2⟩,w.nodup_iff.2 (List.nodup_cons.2 ⟨B,l3⟩)⟩;rcases dm.1 g with rfl|g
     · have R:0<=lim c:=by
         have:=(gh H).1;obtain rfl|rfl|rfl|rfl:c=0\/c=1\/c=2\/c=3:=ω
         all_goals decide
       exact O0 ⟨G,by show p<=31;omega,H.1,H.2,t4 _,R⟩
     · exact X.sok z g
   srs:=kI (f:=λz:au=>z.Page) (y:=⟨p,c,0⟩) a.srs P
   pg:=by
     refine a.pg.add (p:=p) (n:=1) s.len (by exact V) G (λq Y=>?_) (λq q1 q2=>?_) (λq=>J q) (λq=>?_) (λz g=>?_) (λl hl=>.inl hl)
     · exact(K q).trans (C7 ω)
     · have Y:(q:Int)=p:=ω
       have Z:nth k.Machine.Table.Entries q = ⟨2,(f:Nat)⟩:=(K q).trans (C8 Y);refine⟨T0 bi.Mode Z,λu S t r=>?_⟩;have fu:nth k.Machine.Table.Entries u=if(u:Int)=p then⟨2,(f:Nat)⟩ else nth h.Kernel.Machine.Table.Entries u:=K u
       change (nth k.Machine.Table.Entries u).Mode≠0 at t;change (nth k.Machine.Table.Entries u).Frame=(nth k.Machine.Table.Entries q).Frame at r;rw[fu]at t r;rw[Z]at r;by_cases eu:(u:Int)=p
       · omega
       · rw[C7 eu]at t r
         exact absurd r (f4 u S t)
     · show q∈pgs (jf (He p) h.Spans ⟨p,c,0⟩) h.Larges↔_
       rw[w.mem_iff,List.mem_cons];constructor
       · rintro(e|e)
         · exact .inr ⟨ω,ω⟩
         · exact .inl e
       · rintro(e|e)
         · exact .inr e
         · exact .inl ω
     · rcases dm.1 g with rfl|g
       · exact⟨G,.inr ⟨t4 _,by show p<p+((1:Nat):Int);omega⟩⟩
       · exact⟨(aD (X.sok z g)).1,.inl g⟩
   oow:=λo F=>by
     rcases a.oow o F with⟨z,g,A,Q⟩|A
     · exact .inl ⟨z,dm.2 (.inr g),A,Q⟩
     · exact .inr A
   hca:=λd hd j hj b D=>(i b j).2 (a.hca d hd j hj b D)
   hqu:=λy T=>(i _ _).2 (a.hqu y T)
   hfl:=λb D=>(i _ _).2 (a.hfl b D)
   hin:=λb D=>(i _ _).2 (a.hin b D)
   mem:=λb=>(a.mem b).trans (by
     show Live h.Spans h.Larges b↔Live (jf (He p) h.Spans ⟨p,c,0⟩) h.Larges b;unfold Live;rw[i])
   job:=λhm=>by
     obtain⟨j1,⟨y,T,e1⟩,⟨u,S,e2⟩⟩:=a.job hm;exact⟨j1,⟨y,dm.2 (.inr T),e1⟩,⟨u,dm.2 (.inr S),e2⟩⟩}
def addL(h:ab)(k:af)(a:List a7)(p n size t:Int):ab:={h with Kernel:=k,Free:=a,Larges:=jf (MZ p) h.Larges ⟨p,n,size⟩,Objs:=jf (Lo (16*p)) h.Objs ⟨h.Next,16*p,size,t⟩,Next:=h.Next+1}
theorem bn.addL{h:ab}{E:List Int}{size t:Int}{n:Nat}(a:bn h E)(g:9<=size/\size<=1000)(J:(n:Int)=(size+15) / 16)(i:(ay h.Free n).2.2=true){k:af}(s:nt h.Kernel (ay h.Free n).2.1 n (k,n))(hn:h.Next<1000000)(ht:0<=t/\t<=h.Caches.length - 1) :
  bn (addL h k (ay h.Free n).1 (ay h.Free n).2.1 n size t) E:=by
 have B:(1:Int)<=n:=ω
 obtain⟨V,K,r3,M,r5⟩:=mt a.rng B i;obtain⟨-,W,u3,H⟩:=kL a B i;generalize (ay h.Free n).2.1=p at K r3 M r5 W u3 H s |-;generalize (ay h.Free n).1=fr at V M |-;have N:=(bw.1 (aE.1 a.ker).2.2.1).2.2;change (tbl h).Entries.length<=32 at N;have O:=a.L;have P:=jL (MZ p) h.Larges ⟨p,n,size⟩;have C:=jL (Lo (16*p)) h.Objs ⟨h.Next,16*p,size,t⟩;have Q:lpgs ⟨p,n,size⟩ ((n:Nat):Int).toNat=lpgs ⟨p,n,size⟩ n:=by rw[C2]
 have D:(pgs h.Spans (jf (MZ p) h.Larges ⟨p,n,size⟩)).Perm (lpgs ⟨p,n,size⟩ n++pgs h.Spans h.Larges):=by
  refine(DH (List.Perm.refl h.Spans) P).trans ?_;unfold pgs;rw[v5];simp only[Q];rw[<-Q4,<-Q4];exact List.perm_append_comm.append_right _
 have u:∀q,q∈lpgs ⟨p,n,size⟩ n↔p<=q/\q<p+n:=λq=>by
  rw[dn];constructor
  ·rintro⟨j,hj,rfl⟩;exact⟨by show p<=p+(j:Int);omega,by show p+(j:Int)<_;omega⟩
  ·rintro⟨X,Y⟩;exact⟨(q - p).toNat,ω,by show q=p+_;omega⟩
 have R:(lpgs ⟨p,n,size⟩ n).Nodup:=by
  unfold lpgs List.Nodup;rw[List.pairwise_map];exact List.nodup_range.imp λr e=>r (by simp only at e;omega)
 have r:∀z∈h.Larges,z.Page≠p:=λz g e=>H p (t4 _) ω (by rw[<-e];exact fm g (dn.2 ⟨0,by have:=aN (O.lok z g);omega,ω⟩))
 have S:¬Live h.Spans h.Larges (16*p):=by
  rintro(⟨z,g,d,-⟩|⟨l,c,e⟩)
  ·exact H p (t4 _) ω (by rw[show p=z.Page by have a1:=d.1;have a2:=d.2.1;omega];exact d6 g)
  ·exact r l c ω
 have F:(16*p)∉E++holders h:=λT=>S ((a.mem _).1 T)
 have U:∀o∈h.Objs,o.Addr≠16*p:=λo i e=>F (O2.2 (.inr (by unfold holders;simp only[O2];exact .inl (.inl (.inl (T3.2 ⟨o,i,e⟩))))))
 have Z:(E++holders (Ab.addL h k fr p n size t)).Perm ((16*p)::(E++holders h)):=by
  have h0:=C.map (·.Addr);refine List.perm_iff_count.2 λb=>?_
  have d:=h0.count_eq b;simp only[U4,List.count_cons]at d;simp only[holders,bT,Ab.addL,V4,List.count_cons];omega
 exact {a with
   ker:=s.ker
   rng:=by show bv ((k.Machine.Table.Entries.length:Nat):Int) fr=true;rw[s.len];exact V
   lay:=by
     obtain⟨l1,l2,l3⟩:=cS a.lay;unfold bf;simp only[I0,C0];refine⟨⟨l1,I3.2 λz w=>?_⟩,D.nodup_iff.2 (List.nodup_append.2 ⟨R,l3,λq G b hb e=>?_⟩)⟩
     · rcases dm.1 w with rfl|w
       · exact O0 ⟨g.1,g.2,J,K,by show p<=32 - (n:Int);omega⟩
       · exact O.lok z w
     · subst e
       have:=(u q).1 G;exact H q this.1 this.2 hb
   srl:=kI (f:=λz:a8=>z.Page) (y:=⟨p,n,size⟩) a.srl r
   pg:=by
     refine a.pg.add (p:=p) (n:=n) s.len (by exact W) K (λq G=>s.out q G) (λq X Y=>s.new q X Y) (λq=>M q) (λq=>?_) (λz g=>⟨(aD (O.sok z g)).1,.inl g⟩) (λl c=>?_)
     · show q∈pgs h.Spans (jf (MZ p) h.Larges ⟨p,n,size⟩)↔_
       rw[D.mem_iff,O2,u];exact Or.comm
     · rcases dm.1 c with rfl|c
       · exact .inr λq G=>(u q).1 (by simpa using G)
       · exact .inl c
   nums:=yK a.nums hn
   osr:=kI (f:=λo:bx=>o.Addr) (y:=⟨h.Next,16*p,size,t⟩) a.osr U
   onu:=λo i=>by
     rcases dm.1 i with rfl|i
     · have:=a.nums
       unfold cj at this;rw[C0]at this;exact⟨by show 1<=h.Next;omega,by show h.Next<=h.Next+1 - 1;omega,ht⟩
     · have:=a.onu o i
       exact⟨this.1,by show o.Id<=h.Next+1 - 1;omega,this.2.2⟩
   oid:=by
     show((jf (Lo (16*p)) h.Objs ⟨h.Next,16*p,size,t⟩).map (·.Id)).Nodup;rw[(C.map _).nodup_iff,U4];refine List.nodup_cons.2 ⟨λT=>?_,a.oid⟩;obtain⟨o,i,e⟩:=T3.1 T;have:=(a.onu o i).2.1;simp only at e;omega
   oow:=λo A=>by
     rcases dm.1 A with rfl|A
     · exact .inr ⟨_,dm.2 (.inl rfl),rfl,rfl⟩
     · rcases a.oow o A with d|⟨l,c,d⟩
       · exact .inl d
       · exact .inr ⟨l,dm.2 (.inr c),d⟩
   nd:=Z.nodup_iff.2 (List.nodup_cons.2 ⟨F,a.nd⟩)
   mem:=λb=>by
     rw[Z.mem_iff,List.mem_cons,a.mem b];show _↔Live h.Spans (jf (MZ p) h.Larges ⟨p,n,size⟩) b;unfold Live;constructor
     · rintro(rfl|d|⟨l,c,e⟩)
       · exact .inr ⟨_,dm.2 (.inl rfl),rfl⟩
       · exact .inl d
       · exact .inr ⟨l,dm.2 (.inr c),e⟩
     · rintro(d|⟨l,c,e⟩)
       · exact .inr (.inl d)
       · rcases dm.1 c with rfl|c
         · exact .inl e
         · exact .inr (.inr ⟨l,c,e⟩)}
structure JK(h h':ab):Prop where
 job:h'.Job=h.Job
 msh:h'.Meshing=h.Meshing
 sp:∀s∈h.Spans,gC h s.Page=true->∃s'∈h'.Spans,s'.Page=s.Page/\∀u,meshable s u=true->meshable s' u=true
 ent:∀q:Nat,(nth (tbl h').Entries q).Mode≠0->((nth (tbl h).Entries q).Mode≠0/\(nth (tbl h').Entries q).Frame=(nth (tbl h).Entries q).Frame)\/∀u:Nat,(nth (tbl h').Entries u).Mode≠0->(nth (tbl h').Entries u).Frame=(nth (tbl h').Entries q).Frame->u=q
theorem JK.refl(h:ab):JK h h:=⟨rfl,rfl,λs a _=>⟨s,a,rfl,λ_ z=>z⟩,λ_ b=>.inl ⟨b,rfl⟩⟩
theorem JK.pg{h h':ab}(k:JK h h')(p:Int):gC h' p=gC h p:=by unfold gC;rw[k.job,k.msh]
theorem JK.trans{h h1 g:ab}(a:JK h h1)(b:JK h1 g):JK h g:=by
 refine⟨b.job.trans a.job,b.msh.trans a.msh,λs o i=>?_,λq j=>?_⟩
 ·obtain⟨p,r,k,t⟩:=a.sp s o i
  obtain⟨w,y,A,B⟩:=b.sp p r (by rw[a.pg,k];exact i);exact⟨w,y,A.trans k,λu c=>B u (t u c)⟩
 ·rcases b.ent q j with⟨d,l⟩|d
  ·rcases a.ent q d with⟨e,C⟩|e
   ·exact .inl ⟨e,l.trans C⟩
   ·refine .inr λu c n=>?_
    rcases b.ent u c with⟨f,D⟩|f
    ·exact e u f (by rw[<-D,<-l];exact n)
    ·exact(f q j n.symm).symm
  ·exact .inr d
theorem nl.keep{h h':ab}{p:Int}(f:0<=p)(d:(nth (tbl h').Entries p.toNat).Mode≠0)(g:nl (tbl h) p)(k:JK h h'):nl (tbl h') p:=λq e c=>by
 rcases k.ent p.toNat d with⟨n,i⟩|a
 ·rcases k.ent q e with⟨j,l⟩|b
  ·exact g q j (by rw[<-l,c,i])
  ·have:=b p.toNat d c.symm;omega
 ·have:=a q e c;omega
theorem bn.mapped{h:ab}{E:List Int}(a:bn h E){s:au}(b:s∈h.Spans):0<=s.Page/\s.Page<(tbl h).Entries.length/\(nth (tbl h).Entries s.Page.toNat).Mode≠0:=by
 have c:=(aD (a.L.sok s b)).1;have d:=a.pg.bnd _ (d6 (la:=h.Larges) b);refine⟨c,d,(a.pg.own s.Page.toNat ω).2 ?_⟩;rw[show((s.Page.toNat:Nat):Int)=s.Page by omega];exact d6 b
theorem JI.keep{h h':ab}{E:List Int}(l:JI h)(p:bn h' E)(k:JK h h'):JI h':=by
 have d:h.Meshing=true->∃a∈h'.Spans,∃b∈h'.Spans,a.Page=h.Job.Plan.Keep/\b.Page=h.Job.Plan.Move/\meshable a b=true:=λc=>by
  obtain⟨a,n,b,o,f,g,e⟩:=l.sp c;obtain⟨q,t,u,w⟩:=k.sp a n (by unfold gC;rw[c,f];simp);obtain⟨y,A,B,C⟩:=k.sp b o (by unfold gC;rw[c,g];simp);refine⟨q,t,y,A,u.trans f,B.trans g,?_⟩;have r:=w b e;rw[iK]at r |-;exact C q r
 refine⟨λc=>?_,λc=>?_,λc=>?_,λc=>?_⟩
 ·rw[k.msh]at c;rw[k.job];exact l.ph c
 ·rw[k.msh]at c;rw[k.job];exact d c
 ·rw[k.msh]at c
  obtain⟨a,n,b,o,f,g,e⟩:=d c;obtain⟨i,D,j⟩:=p.mapped n;rw[k.job];rw[f]at i j;exact(l.sk c).keep i j k
 ·rw[k.msh]at c
  obtain⟨a,n,b,o,f,g,e⟩:=d c;obtain⟨i,D,j⟩:=p.mapped o;rw[k.job];rw[g]at i j;exact(l.sm c).keep i j k
theorem JK.less{h h':ab}(h1:h'.Job=h.Job)(c:h'.Meshing=h.Meshing)(d:h'.Spans=h.Spans)(b:∀q:Nat,(nth (tbl h').Entries q).Mode≠0->nth (tbl h').Entries q=nth (tbl h).Entries q):JK h h':=
 ⟨h1,c,λs e _=>⟨s,by rw[d];exact e,rfl,λ_ z=>z⟩,λq a=>.inl ⟨by rw[<-b q a];exact a,by rw[b q a]⟩⟩
theorem JK.eq{h h':ab}(h1:h'.Job=h.Job)(a:h'.Meshing=h.Meshing)(b:h'.Spans=h.Spans)(c:tbl h'=tbl h):JK h h':=.less h1 a b λq _=>by rw[c]
theorem JK.clrS{h:ab}{E:List Int}{a:Int}{i:Nat}(f:bn h E)(c:i<h.Spans.length)(d:eE (nth h.Spans i) a):JK h (clrS h i a):=by
 refine⟨rfl,rfl,λs g _=>?_,λq k=>.inl ⟨k,rfl⟩⟩;obtain⟨j,l,rfl⟩:=aW g;by_cases e:j=i
 ·subst e
  have b:=f.L.sok _ (am c);exact⟨_,hJ _ c,rfl,λu n=>r9 b (sw b ⟨d.1,d.2.1⟩) n⟩
 ·exact⟨_,iY _ l e,rfl,λ_ z=>z⟩
theorem JK.giveP{h:ab}{E:List Int}{i:Nat}(d:bn h E)(f:i<h.Spans.length)(c:gC h (nth h.Spans i).Page=false):JK h (giveP h i):=by
 obtain⟨g,k,-⟩:=d.mapped (am f);refine⟨rfl,rfl,λs l a=>?_,λq b=>.inl ?_⟩
 ·obtain⟨j,n,rfl⟩:=aW l
  exact⟨_,eC.2 ⟨j,n,λe=>(by subst e;rw[c]at a;cases a),rfl⟩,rfl,λ_ z=>z⟩
 ·have o:=wH d.ker (p:=(nth h.Spans i).Page) ⟨g,k⟩ q
  change (nth (dQ h.Kernel (nth h.Spans i).Page).Machine.Table.Entries q).Mode≠0 at b;show(nth h.Kernel.Machine.Table.Entries q).Mode≠0/\(nth (dQ h.Kernel (nth h.Spans i).Page).Machine.Table.Entries q).Frame=(nth h.Kernel.Machine.Table.Entries q).Frame;rw[o]at b |-;split at b
  ·exact absurd rfl b
  ·rename_i e
   rw[C7 e];exact⟨b,rfl⟩
theorem JK.freeS{h:ab}{E:List Int}{a:Int}{i:Nat}(c:bn h (a::E))(b:i<h.Spans.length)(d:eE (nth h.Spans i) a):JK h (freeS h i a):=by
 have g:=c.give b d;have f:=JK.clrS c b d;unfold Ab.freeS;split
 ·rename_i e
  have j:nth (Ab.clrS h i a).Spans i=mH (nth h.Spans i) (ed (nth h.Spans i) a):=by unfold Ab.clrS;simp only[cz,true_and];rw[C8 b]
  exact f.trans (JK.giveP (h:=Ab.clrS h i a) g (by unfold Ab.clrS;simp only[C1];exact b) (by rw[j];exact e.2))
 ·exact f
theorem JK.freeA{h:ab}{E:List Int}{a:Int}(b:bn h (a::E)):JK h (freeA h a):=by
 obtain⟨c,d,-⟩:=b.at (b.hin a (O1 ..));exact JK.freeS b c d
theorem JK.recyc{h:ab}{E:List Int}{a:Int}{t:Nat}(b:bn h (a::E)):JK h (recyc t h a):=by
 unfold Ab.recyc;split
 ·exact JK.eq rfl rfl rfl rfl
 ·exact JK.freeA b
theorem JK.recycs{t:Nat}{E:List Int} : ∀{az:List Int}{h:ab},bn h (az++E)->t<h.Caches.length->JK h (recycs t h az)
 | [],h,_,_=>JK.refl h
 | a::az,h,b,c=>(JK.recyc (t:=t) b).trans (JK.recycs (az:=az) (h:=Ab.recyc t h a) (b.recyc c) (by rw[(qa t h a).1];exact c))
theorem JK.freeAs{E:List Int} : ∀{az:List Int}{h:ab},bn h (az++E)->JK h (freeAs h az)
 | [],h,_=>JK.refl h
 | a::az,h,b=>(JK.freeA b).trans (JK.freeAs (az:=az) (h:=Ab.freeA h a) b.freeA)
theorem JK.flushN{t:Nat}{h:ab}(c:bn h [])(d:t<h.Caches.length):∀{k:Nat},k<=4->JK h (flushN t h k).1
 | 0,_=>JK.refl h
 | k+1,e=>by
  obtain⟨h1,f,-⟩:=jY c d (k:=k) ω;have a:t<(Ab.flushN t h k).1.Caches.length:=ω
  have b:k<(nth (Ab.flushN t h k).1.Caches t).Lists.length:=by rw[(en (h1.cach _ (am a))).1];omega
  exact JK.trans (h1:=Ab.spilt (Ab.flushN t h k).1 t k) ((JK.flushN c d (k:=k) ω).trans (JK.eq rfl rfl rfl rfl)) (JK.freeAs (h1.spilt a b))
theorem yZ{h:ab}{E:List Int}(a:bn h E){k:Nat}(b:k<h.Larges.length):0<=(nth h.Larges k).Page/\(nth h.Larges k).Page+((nth h.Larges k).Pages.toNat:Nat)<=(tbl h).Entries.length:=by
 have c:=aN (a.L.lok _ (am b));have d:=a.pg.bnd _ (fm (sp:=h.Spans) (am b) (dn.2 ⟨(nth h.Larges k).Pages.toNat - 1,ω,rfl⟩));exact⟨ω,ω⟩
theorem JK.freeL{h:ab}{E:List Int}{i k:Nat}(b:bn h E)(c:k<h.Larges.length):JK h (freeL h i k):=by
 obtain⟨d,f⟩:=yZ b c;refine JK.less rfl rfl rfl λq a=>?_
 have g:=lz b.ker d (nth h.Larges k).Pages.toNat f q;change (nth (dZ h.Kernel (nth h.Larges k).Page (nth h.Larges k).Pages.toNat).Machine.Table.Entries q).Mode≠0 at a;show nth (dZ h.Kernel (nth h.Larges k).Page (nth h.Larges k).Pages.toNat).Machine.Table.Entries q=nth h.Kernel.Machine.Table.Entries q;rw[g]at a |-;split at a
 ·exact absurd rfl a
 ·rename_i e;rw[C7 e]
theorem JK.freeOb{h:ab}{t i:Nat}(a:bn h [])(c:i<h.Objs.length)(d:t<h.Caches.length):JK h (freeOb h t i).1:=by
 unfold Ab.freeOb;split
 ·rename_i b
  obtain⟨l,e,h1,-⟩:=(fe a (am c)).1 b;exact JK.freeL a (uw e h1).1
 ·rename_i b
  split
  ·exact JK.refl h
  ·have h1:=a.inQuar c b
   exact JK.trans (h1:=Ab.inQuar h i) (JK.eq rfl rfl rfl rfl) (JK.recycs (E:=[]) (by rw[List.append_nil];exact h1) d)
theorem JK.take{h:ab}{i:Nat}{k sd:Int}(b:gC h (nth h.Spans i).Page=false):JK h {h with Seed:=sd,Spans:=h.Spans.set i (pB (nth h.Spans i) k)}:=by
 refine⟨rfl,rfl,λs c a=>?_,λq d=>.inl ⟨d,rfl⟩⟩;obtain⟨j,f,rfl⟩:=aW c;exact⟨_,iY _ f λe=>(by subst e;rw[b]at a;cases a),rfl,λ_ z=>z⟩
theorem z6{t:aH}{q:Nat}(h:(nth t.Entries q).Mode≠0):q<t.Entries.length:=by
 by_cases e:q<t.Entries.length
 ·exact e
 ·exfalso
  apply h;unfold nth;rw[Z1,W1 ω]
  rfl
theorem JK.addS{h:ab}{k:af}{l:List a7}{p c:Int}(s:zD h.Kernel p (k,true)):JK h (addS h k l p c):=by
 obtain⟨f,t,w,d,n⟩:=s.yes rfl;have b:k.Machine.Table.Entries.length=h.Kernel.Machine.Table.Entries.length:=s.len;refine⟨rfl,rfl,λz o _=>⟨z,dm.2 (.inr o),rfl,λ_ y=>y⟩,λq g=>?_⟩;change (nth k.Machine.Table.Entries q).Mode≠0 at g;show((nth h.Kernel.Machine.Table.Entries q).Mode≠0/\(nth k.Machine.Table.Entries q).Frame=(nth h.Kernel.Machine.Table.Entries q).Frame)\/∀u:Nat,(nth k.Machine.Table.Entries u).Mode≠0->(nth k.Machine.Table.Entries u).Frame=(nth k.Machine.Table.Entries q).Frame->u=q
 by_cases e:(q:Int)=p
 ·refine .inr λu i a=>?_
  have j:=z6 i;have f3u:=d u;have f3q:=d q;simp only at f3u f3q;rw[C8 e]at f3q;rw[f3q]at a;by_cases r:(u:Int)=p
  ·omega
  ·rw[C7 r]at f3u
   rw[f3u]at i a;exact absurd a (n u (by rw[<-b];exact j) i)
 ·have f3q:=d q
  simp only at f3q;rw[C7 e]at f3q;rw[f3q]at g |-;exact .inl ⟨g,rfl⟩
theorem JK.addL{h:ab}{k:af}{g:List a7}{p size t:Int}{n:Nat}(s:nt h.Kernel p n (k,n)):JK h (addL h k g p n size t):=by
 have a:k.Machine.Table.Entries.length=h.Kernel.Machine.Table.Entries.length:=s.len;refine⟨rfl,rfl,λz i _=>⟨z,i,rfl,λ_ y=>y⟩,λq b=>?_⟩;change (nth k.Machine.Table.Entries q).Mode≠0 at b;show((nth h.Kernel.Machine.Table.Entries q).Mode≠0/\(nth k.Machine.Table.Entries q).Frame=(nth h.Kernel.Machine.Table.Entries q).Frame)\/∀u:Nat,(nth k.Machine.Table.Entries u).Mode≠0->(nth k.Machine.Table.Entries u).Frame=(nth k.Machine.Table.Entries q).Frame->u=q
 by_cases e:p<=q/\(q:Int)<p+n
 ·exact .inr λu d c=>(s.new q e.1 e.2).2 u (by rw[<-a];exact z6 d) d c
 ·have f:=s.out q e
  simp only at f;rw[f]at b |-;exact .inl ⟨b,rfl⟩
theorem se(h:ab):∀{n:Nat},n<=h.Spans.length->∀s∈kw h n,(aO h s.Page).length=1
 | 0,_,s,a=>by cases a
 | n+1,b,s,a=>by
  unfold kw at a;split at a
  ·rename_i e
   rcases O2.1 a with a|a
   ·exact se h ω s a
   ·unfold xI at e
    simp only[I0,C0]at e;rw[Z0.1 a];exact e.2
  ·exact se h ω s a
theorem bn.sole{h:ab}{E:List Int}(e:bn h E){s:au}(f:s∈h.Spans)(h1:(aO h s.Page).length=1):nl (tbl h) s.Page:=λq a g=>by
 obtain⟨k,l,b⟩:=e.mapped f;have i:s.Page=((s.Page.toNat:Nat):Int):=ω
 rw[i,eJ (by show s.Page.toNat<(tbl h).Entries.length;omega) b]at h1;obtain⟨z,j⟩:=List.length_eq_one_iff.1 h1;have c:(s.Page.toNat:Int)∈pagesOn (tbl h) (nth (tbl h).Entries s.Page.toNat).Frame:=dx.2 ⟨ω,b,rfl⟩;have d:(q:Int)∈pagesOn (tbl h) (nth (tbl h).Entries s.Page.toNat).Frame:=dx.2 ⟨z6 a,a,g⟩;rw[j]at c d;simp only[Z0]at c d;omega
theorem EX{h:ab}(l:bn h [])(n:h.Meshing=false):bn (started h).1 []/\JI (started h).1:=by
 have G:=l.nums;unfold cj at G;rw[C0]at G;have M:=(lO (bL h).length (show 0<=h.Seed/\h.Seed<=1073741823 by omega) ((bL h).length - 1)).2;have o:=qd (bL h) (show 0<=h.Seed/\h.Seed<=1073741823 by omega);have c:cj {h with Seed:=(shuf (bL h).length h.Seed).2} = true:=by
  unfold cj;rw[C0];unfold shuf;simp only;omega
 cases p:mj (bL h) h.Seed with
 | nil=>
  have f:Ab.started h=({h with Seed:=(shuf (bL h).length h.Seed).2},false):=by unfold Ab.started;rw[p]
  rw[f];exact⟨{l with nums:=c},⟨λe=>by simp[n]at e,λe=>by simp[n]at e,λe=>by simp[n]at e,λe=>by simp[n]at e⟩⟩
 | cons q R=>
  obtain⟨S,T,g⟩:=o q (by rw[p];exact O1 ..);have f:Ab.started h=({h with Seed:=(shuf (bL h).length h.Seed).2,Meshing:=true,Job:=vS (dD (nth (bL h) q.A.toNat) (nth (bL h) q.B.toNat))},true):=by unfold Ab.started;rw[p]
  rw[f];have d:∀s∈bL h,s∈h.Spans/\nl (tbl h) s.Page:=λs N=>by
   have H:=List.mem_of_mem_take N;have J:=oG h (Q2 _) s H;exact⟨J,l.sole J (se h (Q2 _) s H)⟩
  have j:=d _ (am (xs:=bL h) (i:=q.A.toNat) ω);have k:=d _ (am (xs:=bL h) (i:=q.B.toNat) ω);generalize nth (bL h) q.A.toNat=a at g j |-;generalize nth (bL h) q.B.toNat=b at g k |-;obtain⟨O,U,V⟩:=rz g;have r:(dD a b).Keep=a.Page/\(dD a b).Move=b.Page\/(dD a b).Keep=b.Page/\(dD a b).Move=a.Page:=by
   unfold dD;split
   ·exact .inr ⟨rfl,rfl⟩
   ·exact .inl ⟨rfl,rfl⟩
  have t:jh (vS (dD a b))=true:=f8.2 ⟨O,by show(0:Int)<=0;omega,by show(0:Int)<=5;omega,by show(0:Int)<=0;omega,by show(0:Int)<=(((dD a b).Cells.length:Nat):Int);omega⟩;have u:∃x∈h.Spans,∃y∈h.Spans,x.Page=(dD a b).Keep/\y.Page=(dD a b).Move/\meshable x y=true/\nl (tbl h) x.Page/\nl (tbl h) y.Page:=by
   rcases r with⟨w,C⟩|⟨w,C⟩
   ·exact⟨a,j.1,b,k.1,w.symm,C.symm,g,j.2,k.2⟩
   ·exact⟨b,k.1,a,j.1,w.symm,C.symm,by rw[iK];exact g,k.2,j.2⟩
  obtain⟨x,K,y,L,D,E,F,P,Q⟩:=u;exact⟨{l with nums:=c,job:=λ_=>⟨t,⟨x,K,D⟩,⟨y,L,E⟩⟩,noj:=λe=>by cases e},⟨λ_=>⟨by show(0:Int)<=0;omega,by show(0:Int)<=3;omega⟩,λ_=>⟨x,K,y,L,D,E,F⟩,λ_=>by show nl (tbl h) (dD a b).Keep;rw[<-D];exact P,λ_=>by show nl (tbl h) (dD a b).Move;rw[<-E];exact Q⟩⟩
def fB(m:aK)(f:Nat):aK:=⟨m.Buffers.set f ((nth m.Buffers f).drop 1),m.Inbox.set (nth (nth m.Buffers f) 0).To.toNat (nth m.Inbox (nth (nth m.Buffers f) 0).To.toNat++[(nth (nth m.Buffers f) 0).Addr])⟩
def kr(m:aK)(t:Nat):aK:=⟨m.Buffers,m.Inbox.set t []⟩
def gE(m:aK)(f:Nat)(p:dh):aK:=⟨m.Buffers.set f (nth m.Buffers f++[p]),m.Inbox⟩
theorem dC{m:aK} : bA m=true↔(1<=m.Buffers.length/\m.Buffers.length<=4/\m.Inbox.length=m.Buffers.length)/\(∀i,i<m.Buffers.length->(∀p∈nth m.Buffers i,0<=p.To/\p.To<=(m.Buffers.length:Int) - 1/\0<=p.Addr)/\∀a∈nth m.Inbox i,0<=a)/\bq m m.Buffers.length<=30:=by
 unfold bA;simp only[I0,C0,cn,fZ,I3,mF,MD];exact and_assoc
theorem n6(m:aK)(f t:Nat)(x:List dh)(y:List Int)(g:f<m.Buffers.length)(h:t<m.Inbox.length):∀n:Nat,bq ⟨m.Buffers.set f x,m.Inbox.set t y⟩ n=bq m n+(if f<n then(x.length:Int) - ((nth m.Buffers f).length:Nat) else 0)+(if t<n then(y.length:Int) - ((nth m.Inbox t).length:Nat) else 0)
 | 0=>by simp[bq]
 | n+1=>by
  have i:=n6 m f t x y g h n;have j:(nth (m.Buffers.set f x) n).length=if f=n then x.length else(nth m.Buffers n).length:=by
   rw[cz];by_cases e:f=n
   ·rw[C8 ⟨e,ω⟩,C8 e]
   ·rw[C7 λz=>e z.1,C7 e]
  have k:(nth (m.Inbox.set t y) n).length=if t=n then y.length else(nth m.Inbox n).length:=by
   rw[cz];by_cases e:t=n
   ·rw[C8 ⟨e,ω⟩,C8 e]
   ·rw[C7 λz=>e z.1,C7 e]
  simp only[bq,i,j,k];by_cases d:f=n
  ·subst d
   by_cases b:t=f
   ·subst b
    simp only[if_true,Nat.lt_irrefl,if_false,Nat.lt_succ_self];omega
   ·simp only[if_true,Nat.lt_irrefl,if_false,Nat.lt_succ_self,C7 b]
    by_cases a:t<f
    ·rw[C8 a,C8 (show t<f+1 by omega)];omega
    ·rw[C7 a,C7 (show ¬t<f+1 by omega)];omega
  ·by_cases b:t=n
   ·subst b
    simp only[if_true,Nat.lt_irrefl,if_false,Nat.lt_succ_self,C7 d];by_cases a:f<t
    ·rw[C8 a,C8 (show f<t+1 by omega)];omega
    ·rw[C7 a,C7 (show ¬f<t+1 by omega)];omega
   ·simp only[C7 d,C7 b]
    by_cases a:f<n
    ·rw[C8 a,C8 (show f<n+1 by omega)]
     by_cases c:t<n
     ·rw[C8 c,C8 (show t<n+1 by omega)];omega
     ·rw[C7 c,C7 (show ¬t<n+1 by omega)];omega
    ·rw[C7 a,C7 (show ¬f<n+1 by omega)]
     by_cases c:t<n
     ·rw[C8 c,C8 (show t<n+1 by omega)];omega
     ·rw[C7 c,C7 (show ¬t<n+1 by omega)];omega
theorem LX{α:Type}[Inhabited α]{xs:List α}{i:Nat}(h:i<xs.length):xs.set i (nth xs i)=xs:=by
 rw[<-V1.1 (ah h) |>.2];exact List.set_getElem_self h
theorem B2{m:aK}(h:bA m=true){f:Nat}(d:f<m.Buffers.length)(n:0<(nth m.Buffers f).length):bA (fB m f)=true:=by
 obtain⟨⟨o,q,r⟩,g,y⟩:=dC.1 h;obtain⟨t,A⟩:=g f d;have c:=t _ (am n);have u:(nth (nth m.Buffers f) 0).To.toNat<m.Inbox.length:=ω
 refine dC.2 ⟨⟨?_,?_,?_⟩,λi j=>?_,?_⟩
 ·simp only[fB,C1];exact o
 ·simp only[fB,C1];exact q
 ·simp only[fB,C1];exact r
 ·simp only[fB,C1]at j |-
  obtain⟨k,l⟩:=g i j;simp only[cz];refine⟨λp c=>?_,λa b=>?_⟩
  ·split at c
   ·rename_i e;rw[<-e.1]at k
    refine(g f d).1 p (List.mem_of_mem_drop c)
   ·exact k p c
  ·split at b
   ·rename_i e
    rcases O2.1 b with b|b
    ·rw[e.1]at b;exact l a b
    ·rw[Z0.1 b];exact c.2.2
   ·exact l a b
 ·have w:=n6 m f (nth (nth m.Buffers f) 0).To.toNat ((nth m.Buffers f).drop 1) (nth m.Inbox (nth (nth m.Buffers f) 0).To.toNat++[(nth (nth m.Buffers f) 0).Addr]) d u m.Buffers.length
  simp only[fB,C1];rw[w,C8 d,C8 ω,W2,U2,List.length_singleton];omega
theorem LJ{m:aK}(h:bA m=true){t:Nat}(d:t<m.Inbox.length):bA (kr m t)=true:=by
 obtain⟨⟨e,f,g⟩,j,o⟩:=dC.1 h;refine dC.2 ⟨⟨e,f,?_⟩,λi k=>?_,?_⟩
 ·simp only[kr,C1];exact g
 ·obtain⟨l,n⟩:=j i k
  simp only[kr,cz];refine⟨l,λa b=>?_⟩;split at b
  ·cases b
  ·exact n a b
 ·have c:=n6 m t t (nth m.Buffers t) [] ω d m.Buffers.length
  rw[LX ω]at c;show bq ⟨m.Buffers,m.Inbox.set t []⟩ m.Buffers.length<=30;rw[c,C8 ω,C8 ω,List.length_nil];omega
theorem jJ{m:aK}(h:bA m=true)(b:Int):(aC m).count b=(m.Buffers.flatMap λl=>l.map (·.Addr)).count b+(m.Inbox.flatMap λx=>x).count b:=by
 unfold aC;rw[C8 h,V4,jS]
theorem bn.mailed{h:ab}{E c:List Int}{m:aK}(d:bn h E)(i:bA m=true)(j:m.Buffers.length=h.Mail.Buffers.length)(k:∀b,c.count b+(aC m).count b=E.count b+(aC h.Mail).count b)(f:∀a,a∈c\/a∈aC m->iS h.Spans a (-1)):bn {h with Mail:=m} c:=by
 have g:(E++holders h).Perm (c++holders {h with Mail:=m}):=by
  refine List.perm_iff_count.2 λb=>?_
  have l:=k b;simp only[holders,bT,V4];omega
 exact {d with
   mail:=i
   nc:=d.nc.trans j.symm
   hfl:=λa e=>f a (.inr e)
   hin:=λa e=>f a (.inl e)
   nd:=g.nodup_iff.1 d.nd
   mem:=λb=>by rw[<-g.mem_iff];exact d.mem b}
theorem Eg{h:ab}{E d:List Int}{m:aK}(f:bn h E)(g:∀b,d.count b+(aC m).count b=E.count b+(aC h.Mail).count b):∀a,a∈d\/a∈aC m->iS h.Spans a (-1):=λa c=>by
 have i:=g a;have j:0<d.count a+(aC m).count a:=by
  rcases c with c|c
  ·have:=List.count_pos_iff.2 c;omega
  ·have:=List.count_pos_iff.2 c;omega
 by_cases e:0<E.count a
 ·exact f.hin a (List.count_pos_iff.1 e)
 ·exact f.hfl a (List.count_pos_iff.1 ω)
theorem bn.deliv{h:ab}{E:List Int}{f:Nat}(a:bn h E)(e:f<h.Mail.Buffers.length)(d:0<(nth h.Mail.Buffers f).length):bn {h with Mail:=fB h.Mail f} E:=by
 have c:=B2 a.mail e d;obtain⟨⟨q,r,t⟩,j,u⟩:=dC.1 a.mail;have k:=(j f e).1 _ (am d);have g:∀b,E.count b+(aC (fB h.Mail f)).count b=E.count b+(aC h.Mail).count b:=λb=>by
  rw[jJ c,jJ a.mail];have i:=ij (λl:List dh=>l.map (·.Addr)) b h.Mail.Buffers f ((nth h.Mail.Buffers f).drop 1) e;have n:=ij (λx:List Int=>x) b h.Mail.Inbox (nth (nth h.Mail.Buffers f) 0).To.toNat (nth h.Mail.Inbox (nth (nth h.Mail.Buffers f) 0).To.toNat++[(nth (nth h.Mail.Buffers f) 0).Addr]) ω;have o:(nth h.Mail.Buffers f).map (·.Addr)=(nth (nth h.Mail.Buffers f) 0).Addr::((nth h.Mail.Buffers f).drop 1).map (·.Addr):=by
   generalize nth h.Mail.Buffers f=l at d
   match l,d with
   | p::l,_=>rfl
  simp only[fB];rw[o]at i;simp only[List.count_cons]at i;simp only[V4,List.count_singleton]at n;omega
 exact a.mailed c (by simp[fB]) g (Eg a g)
theorem bn.coll{h:ab}{E:List Int}{t:Nat}(c:bn h E)(d:t<h.Mail.Inbox.length):bn {h with Mail:=kr h.Mail t} (nth h.Mail.Inbox t++E):=by
 have a:=LJ c.mail d;have e:∀b,(nth h.Mail.Inbox t++E).count b+(aC (kr h.Mail t)).count b=E.count b+(aC h.Mail).count b:=λb=>by
  rw[jJ a,jJ c.mail];have f:=ij (λx:List Int=>x) b h.Mail.Inbox t [] d;simp only[List.count_nil]at f;simp only[kr,V4];omega
 exact c.mailed a rfl e (Eg c e)
theorem bn.send{h:ab}{E:List Int}{f:Nat}{p:dh}(c:bn h (p.Addr::E))(e:f<h.Mail.Buffers.length)(a:bA (gE h.Mail f p)=true):bn {h with Mail:=gE h.Mail f p} E:=by
 have d:∀b,E.count b+(aC (gE h.Mail f p)).count b=(p.Addr::E).count b+(aC h.Mail).count b:=λb=>by
  rw[jJ a,jJ c.mail];have g:=ij (λl:List dh=>l.map (·.Addr)) b h.Mail.Buffers f (nth h.Mail.Buffers f++[p]) e;simp only[R4,U4,List.map_nil,V4,List.count_singleton]at g;simp only[gE,List.count_cons];omega
 exact c.mailed a (by simp[gE]) d (Eg c d)
def qO(now:Int):List aL->Nat
 | []=>0
 | x::xs=>if x.Since<now - 100 then qO now xs+1 else 0
def aged(h:ab)(n:Int):ab:={h with Clock:=h.Clock+n,Quar:=⟨h.Quar.Room,h.Quar.Lst.drop (qO (h.Clock+n) h.Quar.Lst)⟩}
def mw(h:ab)(n:Int):List Int:=(h.Quar.Lst.take (qO (h.Clock+n) h.Quar.Lst)).map (·.Addr)
def tick(h:ab)(n:Int):ab:=freeAs (aged h n) (mw h n)
theorem oe(x:aL)(xs:List aL):∀n,quarCells (x::xs) (n+1)=csz x.Class+quarCells xs n
 | 0=>by simp only[quarCells];show 0+csz x.Class=csz x.Class+0;omega
 | n+1=>by
  rw[io,oe x xs n,io];show csz x.Class+quarCells xs n+csz (nth xs n).Class=_;omega
theorem NC(k:Int):0<=csz k:=by
 unfold csz;split
 ·exact Int.le_of_lt (Int.pow_pos (by decide))
 ·decide
theorem Gu:∀(l:List aL)(k:Nat),qc (l.drop k)<=qc l
 | [],k=>by simp
 | x::xs,0=>t4 _
 | x::xs,k+1=>by
  have a:=Gu xs k;have b:=NC x.Class;have c:qc (x::xs)=csz x.Class+qc xs:=oe x xs xs.length;show qc (xs.drop k)<=qc (x::xs);omega
theorem bn.aged{h:ab}{E:List Int}{n:Int}(a:bn h E)(t:0<=n)(u:h.Clock+n<=1000000):bn (aged h n) (mw h n++E):=by
 obtain⟨i,j,k,o,p,q⟩:=iV.1 a.quar;have c:=a.nums;unfold cj at c;rw[C0]at c;have e:=List.drop_sublist (qO (h.Clock+n) h.Quar.Lst) h.Quar.Lst;have g:(E++holders h).Perm ((mw h n++E)++holders (Ab.aged h n)):=by
  refine List.perm_iff_count.2 λb=>?_
  have r:=T0 (λl:List aL=>(l.map (·.Addr)).count b) (List.take_append_drop (qO (h.Clock+n) h.Quar.Lst) h.Quar.Lst);simp only[R4,V4]at r;simp only[holders,bT,Ab.aged,mw,V4];omega
 exact {a with
   nums:=by unfold cj;rw[C0];simp only[Ab.aged];omega
   quar:=iV.2 ⟨λy d=>i y (e.subset d),j.sublist e,k.sublist (e.map _),o,p,Int.le_trans (Gu _ _) q⟩
   snc:=λy d=>by
     have:=a.snc y (e.subset d);show y.Since<=h.Clock+n;omega
   hqu:=λy d=>a.hqu y (e.subset d)
   hin:=λb f=>by
     rcases O2.1 f with f|f
     · obtain⟨y,d,rfl⟩:=T3.1 f
       exact(a.hqu y (List.mem_of_mem_take d)).any
     · exact a.hin b f
   nd:=g.nodup_iff.1 a.nd
   mem:=λb=>by rw[<-g.mem_iff];exact a.mem b}
theorem bn.tick{h:ab}{n:Int}(a:bn h [])(b:0<=n)(c:h.Clock+n<=1000000):bn (tick h n) []/\JK h (tick h n):=by
 have h1:=a.aged b c;exact⟨bn.freeAs h1,JK.trans (h1:=Ab.aged h n) (JK.eq rfl rfl rfl rfl) (JK.freeAs h1)⟩
def collect(h:ab)(t:Nat):ab:=recycs t {h with Mail:=kr h.Mail t} (nth h.Mail.Inbox t)
theorem bn.collect{h:ab}{t:Nat}(a:bn h [])(b:t<h.Caches.length):bn (collect h t) []/\JK h (collect h t):=by
 have h1:=a.coll (t:=t) (by rw[(dC.1 a.mail).1.2.2,<-a.nc];exact b);exact⟨bn.recycs h1 b,JK.trans (h1:={h with Mail:=kr h.Mail t}) (JK.eq rfl rfl rfl rfl) (JK.recycs h1 b)⟩
def MY(h:ab)(t i:Nat):ab:={h with Kernel:=fN h.Kernel (nth h.Objs i).Addr (csz (aI (nth h.Objs i).Size)).toNat,Objs:=dele h.Objs i,Mail:=gE h.Mail t ⟨(nth h.Objs i).Thread,(nth h.Objs i).Addr⟩}
def freeT(h:ab)(t i:Nat):ab × Int:=
 if aI (nth h.Objs i).Size<0 then(freeL h i (tV h (nth h.Objs i).Addr),0)
 else if(ar (tbl h) ((nth h.Objs i).Addr / 16)).Mode=1 then(h,5)
 else if(nth h.Objs i).Thread=t then(Kr h t i,0)
 else if bA (gE h.Mail t ⟨(nth h.Objs i).Thread,(nth h.Objs i).Addr⟩)=true then(MY h t i,0) else(h,5)
theorem ym{h:ab}{t i:Nat}(e:(nth h.Objs i).Thread=t):freeT h t i=freeOb h t i:=by
 unfold freeT freeOb;rw[C8 e]
theorem bn.freeT{h:ab}{t i:Nat}(a:bn h [])(b:i<h.Objs.length)(c:t<h.Caches.length):bn (freeT h t i).1 []/\JK h (freeT h t i).1:=by
 by_cases e:(nth h.Objs i).Thread=t
 ·rw[ym e];exact⟨a.freeOb b c,JK.freeOb a b c⟩
 have d:=a.freeOb b c;have f:=JK.freeOb a b c;unfold Ab.freeOb at d f;unfold Ab.freeT;split
 ·rename_i g
  rw[C8 g]at d f;exact⟨d,f⟩
 rename_i g;rw[C7 g]at d f;split
 ·exact⟨a,JK.refl h⟩
 split
 ·rename_i j
  obtain⟨⟨s,l,n,o⟩,u⟩:=(fe a (am b)).2 g;have q:=a.dropO b (iS.any ⟨s,l,n,.inr o⟩);have r:=q.cells (k:=fN h.Kernel (nth h.Objs i).Addr (csz (aI (nth h.Objs i).Size)).toNat) (AS a.ker _ _) rfl;exact⟨bn.send (p:=⟨(nth h.Objs i).Thread,(nth h.Objs i).Addr⟩) r (by show t<h.Mail.Buffers.length;rw[<-a.nc];exact c) j,JK.eq rfl rfl rfl rfl⟩
 ·exact⟨a,JK.refl h⟩
def kG(k:af)(a v:Int):af:=setCell k (fQ k a) (a % 16) v
theorem vg{k:af}(h:aB k=true){a v:Int}(b:(ar k.Machine.Table (a / 16)).Mode≠0)(c:0<=v/\v<=999):aB (kG k a v)=true:=by
 obtain⟨d,e,-⟩:=iC h b;exact qf h (f:=fQ k a) d e c
theorem bn.store{h:ab}{a v:Int}(b:bn h [])(c:(ar h.Kernel.Machine.Table (a / 16)).Mode≠0)(d:0<=v/\v<=999):bn {h with Kernel:=kG h.Kernel a v} []/\JK h {h with Kernel:=kG h.Kernel a v}:=
 ⟨b.cells (vg b.ker c d) rfl,JK.eq rfl rfl rfl rfl⟩
open Go.RowKit
set_option maxRecDepth 20000
set_option maxHeartbeats 4000000
theorem L0{xs:List Int}{x:Int}(h:cw xs.length (λj=>decide (nth xs j≠x))=true):x∉xs:=λb=>by
 obtain⟨j,a⟩:=List.mem_iff_getElem?.1 b;have:=d5 h (V1.1 a).1;rw[bp a]at this;simp at this
theorem D0(xs:List Int)(x:Int)(g:xs.length<=4611686018427387904):ao Tryz.prog 268 false [.val none (aF .imm xs),.val none [I x]] .one [B (decide (x∈xs))]:=by
 refine fO 18 [] Tryz.func268 rfl ?_
 repeat'(first|refine gO ?_|fail)
 (conv=>whnf)
 refine CD (ι:=Nat) (λi=>[(0,.hold .one (aF .imm xs)),(1,.hold .one [I (x)]),(5,.hold .one [I ((i:Nat):Int)])]) (λi=>i<=xs.length/\cw i (λj=>decide (nth xs j≠x))=true) (λi=>xs.length - i) 0 ?_ ⟨R0 _,rfl⟩ λi a=>?_
 ·exact wB
 obtain⟨a,b⟩:=a;by_cases c:i<xs.length
 ·have d:=ah c
  by_cases e:nth xs i=x
  ·repeat'(first|refine gA ?_|(conv=>whnf);first|with_reducible refine CA (aa d) ?_)
   exact T0 (λz=>[B z]) ((by symm;exact O0 (by rw[<-e];exact am c)))
  ·repeat'(first|refine gA ?_|(conv=>whnf);first|with_reducible refine CA (aa d) ?_)
   ((conv=>whnf);refine CB (i+1) ⟨ω,bE b (O0 e)⟩ ω ?_;(exact wB))
 ·repeat'(first|refine gD ?_|fail)
  obtain rfl:i=xs.length:=ω
  exact T0 (λz=>[B z]) ((by symm;exact Q0 (L0 b)))
theorem B1(xs:List Int)(x:Int)(h:xs.length<=4611686018427387904):ao Tryz.prog 180 false [.val none (aF .imm xs),.val none [I x]] .one [I (df (λy=>decide (y=x)) xs)]:=by
 refine fO 19 [] Tryz.func180 rfl ?_
 repeat'(first|refine gO ?_|fail)
 (conv=>whnf)
 refine CD (ι:=Nat) (λi=>[(0,.hold .one (aF .imm xs)),(1,.hold .one [I (x)]),(7,.hold .one [I (xs.length)]),(8,.hold .one [I ((i:Nat):Int)])]) (λi=>i<=xs.length/\∀(j:Nat)(z:Int),j<i->xs[j]? = some z->decide (z=x)=false) (λi=>xs.length - i) (0) ?_ (⟨R0 _,λj z d _=>absurd d (Nat.not_lt_zero _)⟩) λi c=>?_
 ·exact wB
 obtain⟨c,b⟩:=c;by_cases g:i<xs.length
 ·have a:=ah g
  by_cases e:nth xs i=x
  ·repeat'(first|refine gD ?_|(conv=>whnf);first|with_reducible refine CA (aa a) ?_|refine Bf.t (by simp[e]) ?_)
   exact T0 (λz=>[I z]) (d2 a (O0 e) b).symm
  ·repeat'(first|refine gD ?_|(conv=>whnf);first|with_reducible refine CA (aa a) ?_|refine Bf.f (by simp[Ne.symm e]) ?_)
   ((conv=>whnf);refine CB (i+1) ⟨ω,cX a (Q0 e) b⟩ ω ?_;(exact wB))
 ·repeat'(first|refine gD ?_|fail)
  exact T0 (λz=>[I z]) (eB ω b).symm
theorem od(xs:List Int)(x:Int)(a:xs.length<=4611686018427387904):ao Tryz.prog 84 false [.val none (aF .imm xs),.val none [I x]] .one [B (decide (x∈xs))]:=by
 refine fO 9 [] Tryz.func84 rfl ?_
 repeat'(first|refine gO ?_|(conv=>whnf);first|refine C6 (B1 xs x a) ?_)
 exact T0 (λz=>[B z]) ((by rw[fY];rw[Y3];simp))
theorem bI.more{M f:ac}{w g:World}(h:bI M w g)(e:∀b o,M b o->f b o):bI f w g:=
 ⟨h.os,h.tape,h.output,h.size,λb a c=>h.blk b a λo d=>c o (e b o d),λb o a c=>h.cel b o a λd=>c (e b o d),λb o a c=>h.fro b o a λd=>c (e b o d)⟩
theorem aS.wk{P:Program}{f:Nat}{sh:Bool}{c u:List C}{A B:List MA}{k:Kd}{rcs:List C}(h:aS P f sh A (.ptr c::B) k rcs)(y:Ju c u):aS P f sh A (.ptr u::B) k rcs:=by
 refine⟨h.has,λw S V i E F l G=>(h.run w S V i E F l G).mono λe w1 H=>?_⟩;obtain⟨v,J,K,X,L,M,N,n,p,a,q,r,b,O,Q,D⟩:=H;refine⟨v,J,K,X,L,M,N,n,p,a,q,r,b,O,Q,?_⟩;cases i with
 | nil=>exact D.elim
 | cons v0 i=>
  obtain⟨⟨R,Y,T,U,W,⟨g,o,Z,e2⟩,d⟩,t⟩:=D;refine⟨⟨R,Y,T,U,W,⟨g,o,Z,λj hj=>e2 j (by rw[(rn y).1];exact hj)⟩,zL y d⟩,t⟩
theorem aS.frame{P:Program}{f:Nat}{sh:Bool}{c c' r:List C}{A B:List MA}{k:Kd}{rcs:List C}(h:aS P f sh (.ptr c::A) (.ptr c'::B) k rcs)(hl:c'.length=c.length):aS P f sh (.ptr (c++r)::A) (.ptr (c'++r)::B) k rcs:=by
 refine⟨h.has,λw S V vs hS hV hVd hA=>?_⟩;cases vs with
 | nil=>exact hA.elim
 | cons v0 vs=>
 obtain⟨⟨X1,Y,hX1,hY,O,⟨g,q,rfl,u⟩,ff,hf1,J,hf3⟩,hA'⟩:=hA;have hlen:(c++r).length=c.length+r.length:=U2
 let V0:ac:=piece g q ff 0 c.length
 let W:Nat->ac:=K5 V0 (λi=>V (i+1))
 have hcX:∀o,q<=o->o<q+(c++r).length->X1 g o:=λo l a=>by
  have:=(u (o - q) ω).1
  rwa [show q+(o - q)=o by omega]at this
 have hV0:∀b o,V0 b o->V 0 b o:=λb o p=>by
  rcases p with⟨rfl,l,a⟩|⟨j,-,a,Q⟩
  ·exact hX1 _ _ (hcX o ω ω)
  ·exact hY _ _ (J j ω b o Q)
 have K:∀i b o,W i b o->V i b o:=λi b o p=>by
  cases i with
  | zero=>exact hV0 b o p
  | succ i=>exact p
 have hA2:Lr w S W (.ptr c::A) (.pointer (some ⟨g,q,none⟩)::vs):=by
  refine⟨?_,hA'⟩;have:=sC (lo:=0) (n:=c.length) (cs:=c++r) ω u hf1 J hf3 O;rw[show br (c++r) 0 c.length=c by simp[br]]at this;simp only[C5,Nat.add_zero]at this;exact this
 refine(h.run w S W _ hS (λi b o p=>hV i b o (K i b o p)) (λi i' D b o l a=>hVd i i' D b o (K i b o l) (K i' b o a)) hA2).mono λe w1 hv=>?_
 obtain⟨v,he,hk,X,V',S1,hX,E,hS1,hVd',hXV,hXS,hVS1,hh,hr,hm⟩:=hv;have H:∀b o,(∃i,W i b o)->∃i,V i b o:=λb o ⟨i,Z⟩=>⟨i,K i b o Z⟩
 let R:ac:=λb o=>V 0 b o/\¬V0 b o
 have hRW:∀b o,R b o->¬∃i,W i b o:=λb o y ⟨i,Z⟩=>by
  cases i with
  | zero=>exact y.2 Z
  | succ i=>exact hVd 0 (i+1) ω b o y.1 Z
 have F:∀b o,R b o->b<w.heap.size:=λb o y=>(hV 0 b o y.1).1
 have t:∀b o,R b o->¬((∃i,W i b o)\/(b<w1.heap.size/\w.heap.size<=b)):=λb o y p=>by
  rcases p with p|p
  ·exact hRW b o y p
  ·have:=F b o y;omega
 have hRsame:bj R w w1:=λb o y=>⟨hk.cel b o (F b o y) (hRW b o y),hk.fro b o (F b o y) (hRW b o y)⟩
 have hRS1:∀b o,R b o->¬S1 b o:=λb o y hs=>by
  rcases hS1 b o hs with⟨-,l⟩|l
  ·exact(hV 0 b o y.1).2 l
  ·exact t b o y l
 have hSsame:bj S w w1:=λb o hb=>⟨hk.cel b o (hS b o hb) (λ⟨i,Z⟩=>(hV i b o (K i b o Z)).2 hb),hk.fro b o (hS b o hb) (λ⟨i,Z⟩=>(hV i b o (K i b o Z)).2 hb)⟩
 have hRc:∀j,c.length<=j->j<(c++r).length->R g (q+j):=λj l a=>by
  refine⟨hX1 _ _ (u j a).1,λp=>?_⟩;rcases p with⟨-,Q,h4⟩|⟨N,Q,h4,h5⟩
  ·omega
  ·exact O _ _ (u j a).1 (J N ω _ _ h5)
 have L:∀j,c.length<=j->j<(c++r).length->∀b o,ff j b o->R b o:=λj l a b o p=>by
  refine⟨hY _ _ (J j a b o p),λhp=>?_⟩;rcases hp with⟨rfl,Q,h4⟩|⟨N,Q,h4,h5⟩
  ·exact O _ _ (hcX o ω ω) (J j a _ _ p)
  ·exact hf3 j N a ω ω b o p h5
 let U:Nat->ac:=K5 (λb o=>V' 0 b o\/R b o) (λi=>V' (i+1))
 have hU:∀i b o,U i b o->V' i b o\/(i=0/\R b o):=λi b o p=>by
  cases i with
  | zero=>exact p.imp id (λh=>⟨rfl,h⟩)
  | succ i=>exact .inl p
 refine⟨v,he,hk.more H,X,U,S1,λb o p=>(hX b o p).imp (H b o) id,λi b o p=>?_,λb o p=>(hS1 b o p).imp id (Or.imp (H b o) id),λi i' D b o l a=>?_,λi b o l a=>?_,hXS,λi b o l a=>?_,hh,hr,?_,hm.2⟩
 ·rcases hU i b o p with l|⟨-,l⟩
  ·exact(E i b o l).imp (H b o) id
  ·exact .inl ⟨0,l.1⟩
 ·rcases hU i b o l with l|⟨e1,l⟩
  ·rcases hU i' b o a with a|⟨e2,a⟩
   ·exact hVd' i i' D b o l a
   ·exact t b o a (E i b o l)
  ·rcases hU i' b o a with a|⟨e2,a⟩
   ·exact t b o l (E i' b o a)
   ·exact D ω
 ·rcases hU i b o a with a|⟨-,a⟩
  ·exact hXV i b o l a
  ·exact t b o a (hX b o l)
 ·rcases hU i b o l with l|⟨-,l⟩
  ·exact hVS1 i b o l a
  ·exact hRS1 b o l a
 ·obtain⟨Xa,Ya,ha1,ha2,ha3,⟨ga,oa,hea,ha4⟩,fa,ha5,ha6,ha7⟩:=(show oM w1 (λb o=>S b o\/S1 b o) (V' 0) (.ptr c') (.pointer (some ⟨g,q,none⟩)) from hm.1)
  obtain⟨rfl,rfl⟩ : g=ga/\q=oa:=by simpa using hea
  have G:(c'++r).length=c.length+r.length:=by rw[U2,hl]
  show oM w1 (λb o=>S b o\/S1 b o) (λb o=>V' 0 b o\/R b o) (.ptr (c'++r)) (.pointer (some ⟨g,q,none⟩));have faV:∀j,j<c.length->∀b o,fa j b o->V' 0 b o:=λj M b o p=>ha2 _ _ (ha6 j ω b o p)
  refine⟨λb o=>Xa b o\/(R b o/\∃j,c.length<=j/\j<(c++r).length/\b=g/\o=q+j),λb o=>Ya b o\/∃j,c.length<=j/\j<(c++r).length/\ff j b o,λb o p=>?_,λb o p=>?_,λb o l a=>?_,⟨g,q,rfl,λj M=>?_⟩,λj=>if j<c.length then fa j else ff j,λj d M=>?_,λj M b o p=>?_,λj N M hj' D b o l a=>?_⟩
  ·exact p.imp (ha1 b o) (·.1)
  ·rcases p with p|⟨j,l,a,Q⟩
   ·exact .inl (ha2 b o p)
   ·exact .inr (L j l a b o Q)
  ·rcases l with l|⟨l,j,j1,j2,rfl,rfl⟩
   ·rcases a with a|⟨j,j1,j2,j3⟩
    ·exact ha3 b o l a
    ·exact t b o (L j j1 j2 b o j3) (E 0 b o (ha1 b o l))
   ·rcases a with a|⟨N,j3,j4,j5⟩
    ·exact t _ _ l (E 0 _ _ (ha2 _ _ a))
    ·exact O _ _ (u j j2).1 (J N j4 _ _ j5)
  ·rw[G]at M
   by_cases hc:j<c.length
   ·have:=ha4 j ω
    exact⟨.inl this.1,this.2⟩
   ·have y:=hRc j ω ω
    have hs:=hRsame _ _ y;have T:=u j ω;refine⟨.inr ⟨y,j,ω,ω,rfl,rfl⟩,?_,?_⟩
    ·rw[hs.1];exact T.2.1
    ·rw[hs.2];exact T.2.2
  ·dsimp only
   by_cases hc:j<c.length
   ·rw[C8 hc]
    rw[V3 ω]at M;exact ha5 j d M
   ·rw[C7 hc]
    rw[W3 ω,hl]at M;have hj2:(c++r)[j]? = some d:=by rw[W3 ω];exact M
    have hjl:=(V1.1 hj2).1;have Q:=(hf1 j d hj2).keep hSsame (λb o p=>hRsame b o (L j ω hjl b o p));have T:=(hRsame _ _ (hRc j ω hjl)).1;have:bW w1 .box (.pointer (some ⟨g,q,none⟩)) j=bW w .box (.pointer (some ⟨g,q,none⟩)) j:=by
     simp only[bW];rw[T]
    rw[this];exact Q.mono (λ_ _ h=>.inl h) (λ_ _ h=>h)
  ·rw[G]at M
   split at p
   ·rename_i hc;exact .inl (ha6 j ω b o p)
   ·exact .inr ⟨j,ω,ω,p⟩
  ·rw[G]at M hj'
   split at l
   ·rename_i c1
    split at a
    ·exact ha7 j N ω ω D b o l a
    ·exact t b o (L N ω ω b o a) (E 0 b o (faV j c1 b o l))
   ·split at a
    ·rename_i c1;exact t b o (L j ω ω b o l) (E 0 b o (faV N c1 b o a))
    ·exact hf3 j N ω ω D b o l a
mutual
theorem Pc:∀c:C,fz (fz c)=fz c
 | .v x=>by simp[fz]
 | .s o rows=>by simp only[fz];rw[FN rows]
 | .x=>by simp[fz]
 | .z=>by simp[fz]
 | .m _=>by simp[fz]
 | .it _ _=>by simp[fz]
theorem FN:∀a:List (List C),fzR (fzR a)=fzR a
 | []=>rfl
 | r::a=>by simp only[fzR];rw[qw r,FN a]
theorem qw:∀cs:List C,dE (dE cs)=dE cs
 | []=>rfl
 | c::cs=>by simp only[dE];rw[Pc c,qw cs]
end
theorem m6(k:af)(a:aB k=true)(e:k.Calls≠100000):aS Tryz.prog 347 false [.ptr (af.enc .own k)] [.ptr (af.enc .own (dw k))] .one [B (!refd k)]:=by
 have b:=bG a;have c:=(aE.1 a).2.2.2.2;have d:=D0 k.Refuse k.Calls (by have:=b.2;omega);refine fM 22 [] [(2,9,[11,12,13,14,15,16,17,18,19])] [(0,0)] Tryz.func347 rfl (λu q=>?_)
 repeat'(first|refine gO ?_|(conv=>whnf);first|refine CF (d) ⟨⟨rfl,dS _⟩,⟨rfl,T0 (λz=>[I z]) ω⟩,trivial⟩ ?_)
 refine CE rfl ?_ ?_
 ·rfl
 ·exact wB
theorem mP(k:af)(p m:Int)(a:aB k=true)(j:k.Calls≠100000)(d:(ar k.Machine.Table p).Mode≠0)(l:m=1\/m=2):aS Tryz.prog 406 false [.ptr (af.enc .own k),.val none [I p],.val none [I m]] [.ptr (af.enc .own (kj k p m).1),.val none [I p],.val none [I m]] .one [B (kj k p m).2]:=by
 have n:=bG a;have b:=m6 k a j;have g:=er (dw k) p n.1.2;have c:=aG m 1 2;rw[O0 ω]at c;obtain⟨o,t,w,-⟩:=cA a d;have h:=ah (xs:=k.Machine.Table.Entries) (i:=p.toNat) ω;have r:¬(ar (dw k).Machine.Table p).Mode=0:=d;unfold kj;cases e:refd k<;>rw[e]at b
 ·rw[C7 (by simp),GE]
  refine fM 31 [(347,[2])] [] [(0,0),(0,0),(0,0)] Tryz.func406 rfl (λu q=>?_)
  repeat'(first|refine gA ?_|(conv=>whnf);first|refine CH (b) (.inl rfl) ?_|refine CF (g) ⟨CO (dw k),⟨rfl,rfl⟩,trivial⟩ ?_|refine C6 (c) ?_|refine CK o (aa h) ?_|refine CM rfl rfl (aa h) rfl (X0 rfl) rfl ?_)
  refine CE rfl ?_ ?_
  ·rfl
  ·exact wB
 ·rw[C8 rfl]
  refine fM 31 [(347,[2])] [] [(0,0),(0,0),(0,0)] Tryz.func406 rfl (λu q=>?_)
  repeat'(first|refine gA ?_|(conv=>whnf);first|refine CH (b) (.inl rfl) ?_|refine CF (g) ⟨CO (dw k),⟨rfl,rfl⟩,trivial⟩ ?_|refine C6 (c) ?_)
  refine CE rfl ?_ ?_
  ·rfl
  ·exact wB
theorem Rw.two{c:List C}{off i k j d e b:Nat}{K:List C->Nat->Prop}{o f:d9}{rows rows2:List (List C)}{r a:List C}(h1:c[off]? = some (.s o rows))(g:rows[i]? = some r)(h:r.length=k)(l:r[j]? = some (.s f rows2))(n:rows2[d]? = some a)(p:a.length=e)(q:K a b):Rw c off [(i,k,j),(d,e,b)] K:=
 Rw.mk (r:=a) (j:=b) (by simp[bV,h1,g,h,l,n,p]) q
theorem xd(k:af)(a b c:Int)(h:aB k=true)(F:(ar k.Machine.Table a).Mode≠0)(G:(ar k.Machine.Table b).Mode≠0)(g:0<=c/\c<=15):aS Tryz.prog 407 false [.ptr (af.enc .own k),.val none [I a],.val none [I b],.val none (aF .imm [c])] [.ptr (af.enc .own (xX k a b c)),.val none [I a],.val none [I b],.val none (aF .imm [c])] .one [B true]:=by
 have w:=bG h;have H:=er k a w.1.2;have J:=er k b w.1.2;have y:=aG c 0 15;rw[O0 g]at y;obtain⟨K,O,L,C,P⟩:=cA h F;obtain⟨M,Q,D,E,R⟩:=cA h G;have N:=(bg.1 (aE.1 h).2.1).2.2.1;have S:=row16 h (f:=ma k a) (by unfold ma;omega);have T:=row16 h (f:=ma k b) (by unfold ma;omega);have d:k.Machine.Frames.Cells[(ar k.Machine.Table a).Frame.toNat]? = some (nth k.Machine.Frames.Cells (ma k a)):=ah ω;have e:k.Machine.Frames.Cells[(ar k.Machine.Table b).Frame.toNat]? = some (nth k.Machine.Frames.Cells (ma k b)):=ah ω;have l:=ah (xs:=nth k.Machine.Frames.Cells (ma k a)) (i:=c.toNat) ω;have o:=ah (xs:=nth k.Machine.Frames.Cells (ma k b)) (i:=c.toNat) ω;have p:=ah (xs:=k.Machine.Table.Entries) (i:=a.toNat) ω;have r:=ah (xs:=k.Machine.Table.Entries) (i:=b.toNat) ω;rw[L]at C d;rw[D]at E e;have t:[c][0]? = some c:=rfl;refine fM 90 [] [(13,28,[61,62,63,64,65,66,67,68,69,70,71,72,73,74,75,76,77,78,79,80,81,82,83,84,85,86,87,88])] [(0,0),(0,0),(0,0),(0,0)] Tryz.func407 rfl (λu q=>?_)
 repeat'(first|refine gA ?_|(conv=>whnf);first|refine C9 ?_|refine CF (H) ⟨CO k,⟨rfl,rfl⟩,trivial⟩ ?_|refine CF (J) ⟨CO k,⟨rfl,rfl⟩,trivial⟩ ?_)
 (conv=>whnf)
 refine CD (ι:=Nat) (λn=>[(0,.hold .box (af.enc .own k)),(1,.hold .one [I (a)]),(2,.hold .one [I (b)]),(3,.hold .one (aF .imm [c])),(9,.hold .one [I ((n:Nat):Int)])]) (λn=>n<=1) (λn=>1 - n) (0) ?_ (R0 _) λn U=>?_
 ·exact wB
 by_cases V:n<1
 ·obtain rfl:n=0:=ω
  repeat'(first|refine gD ?_|(conv=>whnf);first|refine C9 ?_|refine CK (by decide) (aa t) ?_|refine C6 (y) ?_)
  ((conv=>whnf);refine CB 1 ω ω ?_;(exact wB))
 ·obtain rfl:n=1:=ω
  repeat'(first|refine gD ?_|(conv=>whnf);first|refine C9 ?_|refine CK K (aa p) ?_|refine CK M (aa r) ?_|refine CG rfl (aa p) rfl ?_|refine CG rfl (aa r) rfl ?_)
  (conv=>whnf)
  refine CD (ι:=Nat) (λj=>[(0,.hold .box (af.enc .own (Na k a b c j))),(3,.hold .one (aF .imm [c])),(10,.hold .one [I ((nth k.Machine.Table.Entries a.toNat).Frame)]),(11,.hold .one [I ((nth k.Machine.Table.Entries b.toNat).Frame)]),(12,.hold .one [I ((j:Nat):Int)])]) (λj=>j<=1) (λj=>1 - j) (0) ?_ (R0 _) λj W=>?_
  ·exact wB
  by_cases X:j<1
  ·obtain rfl:j=0:=ω
   repeat'(first|refine gD ?_|(conv=>whnf);first|refine C9 ?_|refine CK (by decide) (aa t) ?_|refine CK C (aa d) ?_|refine CK E (aa e) ?_|refine CK g.1 (aa l) ?_|refine CK g.1 (aa o) ?_|refine CG rfl (aa e) rfl ?_|refine CG rfl (aa d) rfl ?_|refine Rw.two rfl (aa d) rfl rfl (aa l) rfl ?_|refine Pu.two rfl rfl (aa e) rfl rfl rfl (aa o) rfl (Q2 _) rfl ?_)
   ((conv=>whnf);refine CB 1 ω ω ?_)
   rw[show Na k a b c 1=xX k a b c from rfl];unfold xX;rw[AE,show ma k b=(nth k.Machine.Table.Entries b.toNat).Frame.toNat by unfold ma;rw[D]];exact wB
  ·obtain rfl:j=1:=ω
   repeat'(first|refine gD ?_|(conv=>whnf);first|refine C9 ?_)
   refine CE rfl ?_ ?_
   ·rfl
   ·exact wB
theorem Fd(k:af)(p o:Int)(a:aB k=true)(y:k.Calls≠100000)(g:(ar k.Machine.Table p).Mode≠0)(h:(ar k.Machine.Table o).Mode≠0)(C:p≠o):aS Tryz.prog 408 false [.ptr (af.enc .own k),.val none [I p],.val none [I o]] [.ptr (af.enc .own (Al k p o).1),.val none [I p],.val none [I o]] .one [B (Al k p o).2]:=by
 have b:=bG a;have c:=m6 k a y;have j:=er (dw k) p b.1.2;have l:=er (dw k) o b.1.2;obtain⟨D,K,E,n,r⟩:=cA a g;obtain⟨F,L,M,N,O⟩:=cA a h;have G:=(bg.1 (aE.1 a).2.1).2.2.1;have d:=ah (xs:=k.Machine.Table.Entries) (i:=p.toNat) ω;have t:=ah (xs:=k.Machine.Table.Entries) (i:=o.toNat) ω;have H:¬(ar (dw k).Machine.Table p).Mode=0:=g;have J:¬(ar (dw k).Machine.Table o).Mode=0:=h;rw[E]at n r;have w:=zo (vK (dw k) p.toNat ⟨2,(nth k.Machine.Table.Entries o.toNat).Frame⟩) (nth k.Machine.Table.Entries p.toNat).Frame (KH _ _ b.1.2) ⟨n,by show _<((k.Machine.Frames.Cells.length:Nat):Int);omega,r⟩;rw[KD]at w;unfold Al;cases e:refd k<;>rw[e]at c
 ·rw[C7 (by simp)]
  refine fM 60 [(347,[2]),(349,[2,0])] [(4,274,[38,39,40,41,42,43,44,45,46,47,48,49,50,51,52,53,54,56,0,1,2,3,4,5,6,7,8,9,10,11,12,13,14,15,16,17,1000,1001,1002,1003,1004,1005,1006,18,19])] [(0,0),(0,0),(0,0)] Tryz.func408 rfl (λu q=>?_)
  repeat'(first|refine gA ?_|(conv=>whnf);first|refine C9 ?_|refine CH (c) (.inl rfl) ?_|refine CF (j) ⟨CO (dw k),⟨rfl,rfl⟩,trivial⟩ ?_|refine CF (l) ⟨CO (dw k),⟨rfl,rfl⟩,trivial⟩ ?_|refine CK D (aa d) ?_|refine CK F (aa t) ?_|refine CG rfl (aa d) rfl ?_|refine CG rfl (aa t) rfl ?_|refine CM rfl rfl (aa d) rfl (X0 rfl) rfl ?_|refine CH (w) (.inl rfl) ?_)
  refine CE rfl ?_ ?_
  ·rfl
  ·exact wB
 ·rw[C8 rfl]
  refine fM 60 [(347,[2]),(349,[2,0])] [(4,274,[38,39,40,41,42,43,44,45,46,47,48,49,50,51,52,53,54,56,0,1,2,3,4,5,6,7,8,9,10,11,12,13,14,15,16,17,1000,1001,1002,1003,1004,1005,1006,18,19])] [(0,0),(0,0),(0,0)] Tryz.func408 rfl (λu q=>?_)
  repeat'(first|refine gA ?_|(conv=>whnf);first|refine C9 ?_|refine CH (c) (.inl rfl) ?_|refine CF (j) ⟨CO (dw k),⟨rfl,rfl⟩,trivial⟩ ?_|refine CF (l) ⟨CO (dw k),⟨rfl,rfl⟩,trivial⟩ ?_)
  refine CE rfl ?_ ?_
  ·rfl
  ·exact wB
theorem xc(m:aT)(a:Int)(d:aT.sml m)(c:0<=a/\a<512):ao Tryz.prog 411 false [.val (some 3) (aT.enc .imm m),.val none [I a]] (.tup [some 2,none]) (bi.enc .own (ar m.Table (a / 16))++[I (a % 16)]):=by
 have e:=cQ m.Table (a / 16) d.2;have b:a.tmod 16=a % 16:=fK c.1;refine fO 16 [] Tryz.func411 rfl ?_ (.inr ⟨trivial,trivial,trivial,trivial⟩)
 repeat'(first|refine gD ?_|(conv=>whnf);first|refine C9 ?_|refine C6 (e) ?_|refine CJ (pm c) ?_|refine CL (by decide) ?_|refine CR b ?_)
 rfl
theorem Ef(m:aT)(a v:Int)(o:dt m=true)(e:aT.sml m)(p:0<=a/\a<512)(q:0<=v/\v<=999)(r:(ar m.Table (a / 16)).Mode≠0->0<=(ar m.Table (a / 16)).Frame/\(ar m.Table (a / 16)).Frame<m.Frames.Cells.length/\(nth m.Frames.Cells (ar m.Table (a / 16)).Frame.toNat).length=16):ao Tryz.prog 410 false [.val (some 3) (aT.enc .imm m),.val none [I a],.val none [I v]] (.tup [some 3,none]) (aT.enc .own (lb m a v).1++[I (lb m a v).2]):=by
 have c:=og m e;rw[o]at c;have g:=ql m e;have h:=xc m a e p;have d:=aG v 0 999;rw[O0 q]at d;have b:=aT.enc_fr (lb m a v).1;unfold lb at b |-;by_cases j:(ar m.Table (a / 16)).Mode=0
 ·rw[C8 j]at b |-
  refine fO 47 [] Tryz.func410 rfl ?_ (.inr (aZ b ⟨trivial,trivial⟩))
  repeat'(first|refine gA ?_|(conv=>whnf);first|refine C9 ?_|refine C6 (c) ?_|refine C6 (g) ?_|refine C6 (h) ?_|refine C6 (d) ?_)
  rfl
 ·rw[C7 j]at b |-
  by_cases l:(ar m.Table (a / 16)).Mode=1
  ·rw[C8 l]at b |-
   refine fO 47 [] Tryz.func410 rfl ?_ (.inr (aZ b ⟨trivial,trivial⟩))
   repeat'(first|refine gA ?_|(conv=>whnf);first|refine C9 ?_|refine C6 (c) ?_|refine C6 (g) ?_|refine C6 (h) ?_|refine C6 (d) ?_)
   rfl
  ·rw[C7 l]at b |-
   obtain⟨t,u,w⟩:=r j;have k:=ah (xs:=m.Frames.Cells) (i:=(ar m.Table (a / 16)).Frame.toNat) ω;have n:=ah (xs:=nth m.Frames.Cells (ar m.Table (a / 16)).Frame.toNat) (i:=(a % 16).toNat) ω;simp only at b |-;rw[E5]at b |-;refine fO 47 [] Tryz.func410 rfl ?_ (.inr (aZ b ⟨trivial,trivial⟩))
   repeat'(first|refine gA ?_|(conv=>whnf);first|refine C9 ?_|refine C6 (c) ?_|refine C6 (g) ?_|refine C6 (h) ?_|refine C6 (d) ?_|refine CK t (aa k) ?_|refine CK ω (aa n) ?_|refine CG rfl (aa k) rfl ?_|refine Pu.two rfl rfl (aa k) rfl rfl rfl (aa n) rfl (Q2 _) rfl ?_)
   rfl
theorem lG{k:af}{j:cP} : jmay k j=true↔(aB k=true/\k.Calls≠100000)/\jh j=true/\(ar k.Machine.Table j.Plan.Keep).Mode≠0/\(ar k.Machine.Table j.Plan.Move).Mode≠0/\(ar k.Machine.Table j.Plan.Keep).Frame≠(ar k.Machine.Table j.Plan.Move).Frame:=by
 unfold jmay;simp only[I0,C0]
theorem lB{p:cB}(h:eN p=true):p.Cells.length<=16:=by
 unfold eN at h;simp only[I0]at h;have a:∀i,i<p.Cells.length->(i:Int)<=nth p.Cells i:=λi=>by
  induction i with
  | zero=>
   intro a;have:=d5 h.1 a;unfold mg at this;rw[C0]at this;exact this.1
  | succ i b=>
   intro a;have c:=b ω;have:=d5 h.1 a;unfold mg at this;rw[C0]at this;have d:=this.2.2.resolve_left ω;rw[Nat.add_sub_cancel]at d;omega
 by_cases e:p.Cells.length<=16
 ·exact e
 ·exfalso
  have c:=a 16 ω;have:=d5 h.1 (show 16<p.Cells.length by omega);unfold mg at this;rw[C0]at this;omega
theorem Hs{j:cP}(h:jh j=true):cP.sml j:=by
 have:=lB (f8.1 h).1;show j.Plan.Cells.length<=1048576;omega
theorem rX{k:af}(h:aB k=true):dt k.Machine=true:=by
 unfold aB at h;simp only[I0]at h;exact h.1.2
theorem zT(k:af)(j:cP)(p:jmay k j=true)(g:j.Phase=3):aS Tryz.prog 409 false [.ptr (af.enc .own k),.ptr (uV j)] [.ptr (af.enc .own (jstep k j).1),.ptr (uV (jstep k j).2)] (.tup []) []:=by
 obtain⟨⟨a,r⟩,t,c,d,w⟩:=lG.1 p;obtain⟨h,H,J,K,L⟩:=f8.1 t;have y:=bG a;obtain⟨M,N,O,B,P⟩:=cA a c;have l:=(bw.1 (aE.1 a).2.2.1).2.2;have C:=lB h;have D:=(bg.1 (aE.1 a).2.1).2.2.1;unfold jstep;rw[C7 ω,C7 ω,C7 ω,C8 g];by_cases n:0<j.Next
 ·rw[C8 n]
  have o:=lC h (i:=(j.Next - 1).toNat) ω;have E:=ah (xs:=j.Plan.Cells) (i:=(j.Next - 1).toNat) ω;have F:0<=j.Plan.Keep*16+nth j.Plan.Cells (j.Next - 1).toNat/\j.Plan.Keep*16+nth j.Plan.Cells (j.Next - 1).toNat<512:=ω
  have G:(j.Plan.Keep*16+nth j.Plan.Cells (j.Next - 1).toNat) / 16=j.Plan.Keep:=ω
  have b:=Ef k.Machine (j.Plan.Keep*16+nth j.Plan.Cells (j.Next - 1).toNat) 0 (rX a) y.1 F ω (λ_=>by rw[G];exact⟨B,ω,row16 a (f:=ma k j.Plan.Keep) (by unfold ma;omega)⟩);generalize (lb k.Machine (j.Plan.Keep*16+nth j.Plan.Cells (j.Next - 1).toNat) 0).1=m at b |-;generalize (lb k.Machine (j.Plan.Keep*16+nth j.Plan.Cells (j.Next - 1).toNat) 0).2=e at b;refine fM 59 [(406,[2,0,0])] [(2,283,[20,21,22,23,24,25,26,27,28,29,30,31,32,33,34,35,36,37,38,39,40,41,42,19,43,44,4,0,1,2,3,4,5,6,7,8,9,10,11,12,13,14,15,16,17,18,19,20,21,22,23,24,25,26,27,1025,28])] [(0,0),(1,0)] Tryz.func409 rfl (λu q=>?_) (.inr trivial)
  repeat'(first|refine gD ?_|(conv=>whnf);first|refine C9 ?_|refine CF (b) ⟨⟨rfl,aT.enc_fz k.Machine⟩,⟨rfl,rfl⟩,⟨rfl,rfl⟩,trivial⟩ ?_|refine CK ω (aa E) ?_|refine C9 ?_)
  refine CE rfl rfl ?_;exact wC
 ·rw[C7 n]
  have b:=mP k j.Plan.Move 2 a r d (.inr rfl);cases e:(kj k j.Plan.Move 2).2<;>rw[e]at b
  ·refine fM 59 [(406,[2,0,0])] [(2,283,[20,21,22,23,24,25,26,27,28,29,30,31,32,33,34,35,36,37,38,39,40,41,42,19,43,44,4,0,1,2,3,4,5,6,7,8,9,10,11,12,13,14,15,16,17,18,19,20,21,22,23,24,25,26,27,1025,28])] [(0,0),(1,0)] Tryz.func409 rfl (λu q=>?_) (.inr trivial)
   repeat'(first|refine gD ?_|(conv=>whnf);first|refine C9 ?_|refine CH (b) (.inl rfl) ?_)
   refine CE rfl rfl ?_;rw[<-g];exact wC
  ·refine fM 59 [(406,[2,0,0])] [(2,283,[20,21,22,23,24,25,26,27,28,29,30,31,32,33,34,35,36,37,38,39,40,41,42,19,43,44,4,0,1,2,3,4,5,6,7,8,9,10,11,12,13,14,15,16,17,18,19,20,21,22,23,24,25,26,27,1025,28])] [(0,0),(1,0)] Tryz.func409 rfl (λu q=>?_) (.inr trivial)
   repeat'(first|refine gD ?_|(conv=>whnf);first|refine C9 ?_|refine CH (b) (.inl rfl) ?_)
   refine CE rfl rfl ?_;exact wC
theorem zM(k:af)(j:cP)(g:jmay k j=true):aS Tryz.prog 396 false [.ptr (af.enc .own k),.ptr (uV j)] [.ptr (af.enc .own (jstep k j).1),.ptr (uV (jstep k j).2)] (.tup []) []:=by
 obtain⟨⟨h,p⟩,B,c,b,l⟩:=lG.1 g;obtain⟨r,F,G,H,J⟩:=f8.1 B;have n:j.Plan.Move≠j.Plan.Keep:=λe=>l (by rw[e])
 have C:=lB r;by_cases d:j.Phase=0
 ·have a:=mP k j.Plan.Move 1 h p b (.inl rfl)
  unfold jstep;rw[C8 d];cases e:(kj k j.Plan.Move 1).2<;>rw[e]at a
  ·refine fM 80 [(406,[2,0,0]),(407,[2,0,0,0]),(408,[2,0,0]),(409,[2,2])] [(7,7,[27,28,29,30,31,32,33]),(9,14,[38,39,40,41,42,43,44,45,46,47,48,49,50,51])] [(0,0),(1,0)] Tryz.func396 rfl (λu q=>?_) (.inr trivial)
   repeat'(first|refine gA ?_|(conv=>whnf);first|refine C9 ?_|refine CH (a) (.inl rfl) ?_)
   refine CE rfl rfl ?_;exact wC
  ·refine fM 80 [(406,[2,0,0]),(407,[2,0,0,0]),(408,[2,0,0]),(409,[2,2])] [(7,7,[27,28,29,30,31,32,33]),(9,14,[38,39,40,41,42,43,44,45,46,47,48,49,50,51])] [(0,0),(1,0)] Tryz.func396 rfl (λu q=>?_) (.inr trivial)
   repeat'(first|refine gA ?_|(conv=>whnf);first|refine C9 ?_|refine CH (a) (.inl rfl) ?_)
   refine CE rfl rfl ?_;exact wC
 by_cases o:j.Phase=1
 ·unfold jstep
  rw[C7 d,C8 o];by_cases t:j.Next=j.Plan.Cells.length
  ·rw[C8 t]
   refine fM 80 [(406,[2,0,0]),(407,[2,0,0,0]),(408,[2,0,0]),(409,[2,2])] [(7,7,[27,28,29,30,31,32,33]),(9,14,[38,39,40,41,42,43,44,45,46,47,48,49,50,51])] [(0,0),(1,0)] Tryz.func396 rfl (λu q=>?_) (.inr trivial)
   repeat'(first|refine gA ?_|(conv=>whnf);first|refine C9 ?_|refine C9 ?_)
   refine CE rfl rfl ?_;exact wC
  ·rw[C7 t]
   have D:=ah (xs:=j.Plan.Cells) (i:=j.Next.toNat) ω;have a:=xd k j.Plan.Move j.Plan.Keep (nth j.Plan.Cells j.Next.toNat) h b c (lC r ω);have E:=(lG.1 g).2.1;refine fM 80 [(406,[2,0,0]),(407,[2,0,0,0]),(408,[2,0,0]),(409,[2,2])] [(7,7,[27,28,29,30,31,32,33]),(9,14,[38,39,40,41,42,43,44,45,46,47,48,49,50,51])] [(0,0),(1,0)] Tryz.func396 rfl (λu q=>?_) (.inr trivial)
   repeat'(first|refine gA ?_|(conv=>whnf);first|refine C9 ?_|refine CH a (.inr ⟨rfl,af.enc_fr _,trivial⟩) ?_|refine CK ω (aa D) ?_|refine C9 ?_)
   refine CE rfl rfl ?_;exact wC
 by_cases w:j.Phase=2
 ·have a:=Fd k j.Plan.Move j.Plan.Keep h p b c n
  unfold jstep;rw[C7 d,C7 o,C8 w];cases e:(Al k j.Plan.Move j.Plan.Keep).2<;>rw[e]at a
  ·refine fM 80 [(406,[2,0,0]),(407,[2,0,0,0]),(408,[2,0,0]),(409,[2,2])] [(7,7,[27,28,29,30,31,32,33]),(9,14,[38,39,40,41,42,43,44,45,46,47,48,49,50,51])] [(0,0),(1,0)] Tryz.func396 rfl (λu q=>?_) (.inr trivial)
   repeat'(first|refine gA ?_|(conv=>whnf);first|refine C9 ?_|refine CH (a) (.inl rfl) ?_)
   refine CE rfl rfl ?_;exact wC
  ·refine fM 80 [(406,[2,0,0]),(407,[2,0,0,0]),(408,[2,0,0]),(409,[2,2])] [(7,7,[27,28,29,30,31,32,33]),(9,14,[38,39,40,41,42,43,44,45,46,47,48,49,50,51])] [(0,0),(1,0)] Tryz.func396 rfl (λu q=>?_) (.inr trivial)
   repeat'(first|refine gA ?_|(conv=>whnf);first|refine C9 ?_|refine CH (a) (.inl rfl) ?_)
   refine CE rfl rfl ?_;exact wC
 by_cases y:j.Phase=3
 ·have a:=zT k j g y
  refine fM 80 [(406,[2,0,0]),(407,[2,0,0,0]),(408,[2,0,0]),(409,[2,2])] [(7,7,[27,28,29,30,31,32,33]),(9,14,[38,39,40,41,42,43,44,45,46,47,48,49,50,51])] [(0,0),(1,0)] Tryz.func396 rfl (λu q=>?_) (.inr trivial)
  repeat'(first|refine gA ?_|(conv=>whnf);first|refine C9 ?_|refine CH (a) (.inl rfl) ?_)
  refine CE rfl rfl ?_;exact wC
 ·unfold jstep
  rw[C7 d,C7 o,C7 w,C7 y];refine fM 80 [(406,[2,0,0]),(407,[2,0,0,0]),(408,[2,0,0]),(409,[2,2])] [(7,7,[27,28,29,30,31,32,33]),(9,14,[38,39,40,41,42,43,44,45,46,47,48,49,50,51])] [(0,0),(1,0)] Tryz.func396 rfl (λu q=>?_) (.inr trivial)
  repeat'(first|refine gA ?_|(conv=>whnf);first|refine C9 ?_)
  refine CE rfl rfl ?_;exact wC
theorem DA(k:af)(j:cP)(e:aB k=true)(i:jh j=true):ao Tryz.prog 395 false [.val (some 5) (af.enc .imm k),.val (some 5) (cP.enc .imm j)] .one [B (jmay k j)]:=by
 have c:=bG e;have b:dE (af.enc .imm k)=af.enc .imm k:=by rw[<-CO k,qw]
 have r:=(aE.1 e).2.2.2.2;have a:=kF k c;rw[e]at a;have d:=vo j (Hs i);rw[i]at d;have l:=er k j.Plan.Keep c.1.2;have n:=er k j.Plan.Move c.1.2;have t:=cQ k.Machine.Table j.Plan.Keep c.1.2;have u:=cQ k.Machine.Table j.Plan.Move c.1.2;by_cases o:k.Calls=100000
 ·rw[Q0 ω]at a
  rw[show jmay k j=false by rw[<-I4,lG];exact λh=>h.1.2 o];refine fO 44 [(3,16,[27,28,29,30,31,32,33,34,35,36,37,38,39,40,41,42])] Tryz.func395 rfl ?_
  repeat'(first|refine gO ?_|(conv=>whnf);first|refine C9 ?_|refine C6 (a) ?_|refine C6 (d) ?_)
  rfl
 rw[O0 ω]at a;by_cases p:(ar k.Machine.Table j.Plan.Keep).Mode=0
 ·rw[show jmay k j=false by rw[<-I4,lG];exact λh=>h.2.2.1 p]
  refine fO 44 [(3,16,[27,28,29,30,31,32,33,34,35,36,37,38,39,40,41,42])] Tryz.func395 rfl ?_
  repeat'(first|refine gA ?_|(conv=>whnf);first|refine C9 ?_|refine C6 (a) ?_|refine C6 (d) ?_|refine CF (l) ⟨b,⟨rfl,rfl⟩,trivial⟩ ?_|refine CF (n) ⟨b,⟨rfl,rfl⟩,trivial⟩ ?_)
  rfl
 by_cases q:(ar k.Machine.Table j.Plan.Move).Mode=0
 ·rw[show jmay k j=false by rw[<-I4,lG];exact λh=>h.2.2.2.1 q]
  refine fO 44 [(3,16,[27,28,29,30,31,32,33,34,35,36,37,38,39,40,41,42])] Tryz.func395 rfl ?_
  repeat'(first|refine gA ?_|(conv=>whnf);first|refine C9 ?_|refine C6 (a) ?_|refine C6 (d) ?_|refine CF (l) ⟨b,⟨rfl,rfl⟩,trivial⟩ ?_|refine CF (n) ⟨b,⟨rfl,rfl⟩,trivial⟩ ?_)
  rfl
 refine fO 44 [(3,16,[27,28,29,30,31,32,33,34,35,36,37,38,39,40,41,42])] Tryz.func395 rfl ?_
 repeat'(first|refine gA ?_|(conv=>whnf);first|refine C9 ?_|refine C6 (a) ?_|refine C6 (d) ?_|refine CF (l) ⟨b,⟨rfl,rfl⟩,trivial⟩ ?_|refine CF (n) ⟨b,⟨rfl,rfl⟩,trivial⟩ ?_|refine C6 (t) ?_|refine C6 (u) ?_|refine C9 ?_)
 exact T0 (λz=>[B z]) (by
   unfold jmay;rw[e,i,O0 o];by_cases g:(ar k.Machine.Table j.Plan.Keep).Frame=(ar k.Machine.Table j.Plan.Move).Frame
   · rw[Q0 (λh=>h.2.2 g)];simp[g]
   · rw[O0 ⟨p,q,g⟩];simp[g])
theorem zR(j:cP):ao Tryz.prog 397 false [.val (some 5) (cP.enc .imm j)] .one [B (over j)]:=by
 by_cases a:j.Phase=4
 ·rw[show over j=true from O0 (.inl a)]
  refine fO 11 [] Tryz.func397 rfl ?_
  repeat'(first|refine gA ?_|(conv=>whnf);first|refine C9 ?_)
  rfl
 ·rw[show over j=decide (j.Phase=5) from decide_eq_decide.2 ω]
  refine fO 11 [] Tryz.func397 rfl ?_
  repeat'(first|refine gA ?_|(conv=>whnf);first|refine C9 ?_)
  exact T0 (λz=>[B z]) (by rw[Y3];simp)
def F6(x:ab):List C:=(bu x).set 21 .z
theorem BB{x:ab}(h:x.Job.Plan.Cells=[]):Ju (F6 x) (bu x):=by
 unfold F6 bu;simp only[List.set,h,List.map_nil]
 repeat'(first|exact trivial|exact dX _|refine CI ?_ ?_|rfl)
theorem Ay(h:ab)(j:bn h [])(k:h.Meshing=true):aS Tryz.prog 368 false [.ptr (bu h)] [.ptr (bu (mStep h))] .one [B (By h)]:=by
 obtain⟨l,-,-⟩:=j.job k;have b:=DA h.Kernel h.Job j.ker l;have a:=zR (jd h.Kernel h.Job).2;unfold By mStep;cases e:jmay h.Kernel h.Job with
 | false=>
  rw[e]at b;have d:jd h.Kernel h.Job=(h.Kernel,h.Job):=by unfold jd;rw[e];rfl
  rw[d]at a |-;simp only at a |-;cases g:over h.Job<;>rw[g]at a
  ·refine fM 39 [(396,[3,5,5])] [(1,8,[4,5,6,7,8,9,10,11]),(2,6,[13,14,15,16,17,18])] [(0,0)] Tryz.func368 rfl (λu q=>?_)
   repeat'(first|refine gO ?_|(conv=>whnf);first|refine CF (b) ⟨⟨rfl,CO h.Kernel⟩,⟨rfl,rfl⟩,trivial⟩ ?_|refine C6 (a) ?_|refine C9 ?_)
   refine CE rfl ?_ ?_
   ·exact T0 (λz=>[B z]) (by rw[Y3];simp)
   ·exact wC
  ·refine aS.wk (c:=F6 _) ?_ (BB rfl)
   refine fM 39 [(396,[3,5,5])] [(1,8,[4,5,6,7,8,9,10,11]),(2,6,[13,14,15,16,17,18])] [(0,0)] Tryz.func368 rfl (λu q=>?_)
   repeat'(first|refine gO ?_|(conv=>whnf);first|refine CF (b) ⟨⟨rfl,CO h.Kernel⟩,⟨rfl,rfl⟩,trivial⟩ ?_|refine C6 (a) ?_|refine C9 ?_)
   refine CE rfl ?_ ?_
   ·exact T0 (λz=>[B z]) (by rw[Y3];simp)
   ·exact wC
 | true=>
  rw[e]at b;have d:jd h.Kernel h.Job=jstep h.Kernel h.Job:=by unfold jd;rw[e];rfl
  have i:=zM h.Kernel h.Job e;rw[d]at a |-;generalize jstep h.Kernel h.Job=r at i a |-;cases g:over r.2<;>rw[g]at a
  ·refine fM 39 [(396,[3,5,5])] [(1,8,[4,5,6,7,8,9,10,11]),(2,6,[13,14,15,16,17,18])] [(0,0)] Tryz.func368 rfl (λu q=>?_)
   repeat'(first|refine gO ?_|(conv=>whnf);first|refine CF (b) ⟨⟨rfl,CO h.Kernel⟩,⟨rfl,rfl⟩,trivial⟩ ?_|refine C6 (a) ?_|refine CH (i) (.inl rfl) ?_|refine C9 ?_)
   refine CE rfl ?_ ?_
   ·exact T0 (λz=>[B z]) (by rw[Y3];simp)
   ·exact wC
  ·refine aS.wk (c:=F6 _) ?_ (BB rfl)
   refine fM 39 [(396,[3,5,5])] [(1,8,[4,5,6,7,8,9,10,11]),(2,6,[13,14,15,16,17,18])] [(0,0)] Tryz.func368 rfl (λu q=>?_)
   repeat'(first|refine gO ?_|(conv=>whnf);first|refine CF (b) ⟨⟨rfl,CO h.Kernel⟩,⟨rfl,rfl⟩,trivial⟩ ?_|refine C6 (a) ?_|refine CH (i) (.inl rfl) ?_|refine C9 ?_)
   refine CE rfl ?_ ?_
   ·exact T0 (λz=>[B z]) (by rw[Y3];simp)
   ·exact wC
theorem Gv{k:Int} : ∀{l s s2 c:List Int}(n:Nat),(∀x∈s2,x∈s)->qh k s l=some c->∃d,qh k s2 (l.take n)=some d/\∀x∈d,x∈c
 | [],s,s2,c,n,h,e=>by
  simp only[qh,U0,List.take_nil]at e |-;subst e;exact⟨s2,rfl,h⟩
 | a::l,s,s2,c,0,h,e=>⟨s2,rfl,λx b=>(n8 (λ_ y=>y) e).1 x (h x b)⟩
 | a::l,s,s2,c,n+1,h,e=>by
  simp only[List.take_succ_cons,qh]at e |-;split at e
  ·rename_i g
   rw[C8 (show good k s2 a from⟨g.1,g.2.1,g.2.2.1,λx=>g.2.2.2 (h a x)⟩)];exact Gv (l:=l) (s:=s++[a]) (s2:=s2++[a]) n (λx b=>by
     rcases O2.1 b with b|b
     · exact O2.2 (.inl (h x b))
     · exact O2.2 (.inr b)) e
  ·cases e
theorem DK:∀{a:List (List Int)}{k:Nat}{s s2:List Int}(i n:Nat),(∀x∈s2,x∈s)->(fI k s a).isSome=true->(fI k s2 (a.set i ((nth a i).take n))).isSome=true
 | [],_,_,_,_,_,_,_=>rfl
 | l::a,k,s,s2,i,n,h,e=>by
  simp only[fI,ee]at e;split at e
  ·rename_i g
   cases b:qh k s l with
   | none=>rw[b]at e;cases e
   | some j=>
    rw[b]at e;cases i with
    | zero=>
     obtain⟨c,d,f⟩:=Gv n h b;simp only[List.set_cons_zero,fI,ee];rw[C8 ⟨by have:=g.1;simp only[nth,List.getD_cons_zero,I1];omega,g.2⟩];show((qh (k:Nat) s2 (l.take n)).bind λj=>fI (k+1) j a).isSome=true;rw[d];exact sj f e
    | succ i=>
     obtain⟨o,c,d,f⟩:=n8 h b;simp only[List.set_cons_succ,fI,ee];rw[C8 g,d];exact DK i n f e
  ·cases e
theorem Mf{c:aA}(h:bm c=true)(k:Nat):bm (rj c k)=true:=by
 unfold bm at h |-;simp only[I0,C0]at h |-;exact⟨by simp only[rj,C1];exact h.1,DK k _ (λ_ h=>h) h.2⟩
def nN(b:Int):Nat->List Int
 | 0=>[]
 | j+1=>if aQ b (j:Nat)=true then nN b j else nN b j++[((j:Nat):Int)]
theorem sI{b:Int} : ∀{n:Nat}{z:Int},z∈nN b n->0<=z/\z<n/\aQ b z=false
 | 0,_,h=>by cases h
 | n+1,z,h=>by
  unfold nN at h;split at h
  ·have:=sI h;exact⟨this.1,ω,this.2.2⟩
  ·rename_i e
   rcases O2.1 h with h|h
   ·have:=sI h;exact⟨this.1,ω,this.2.2⟩
   ·rw[Z0.1 h];exact⟨ω,ω,by simpa using e⟩
theorem rR(b:Int):∀n,(nN b n).length<=n
 | 0=>Q2 _
 | n+1=>by have:=rR b n;unfold nN;split<;>simp<;>omega
def pS(k b:Int):List Int:=if KQ k b=true then nN b (slots k).toNat else []
def me(h:ab)(i:Nat):List Int:=pS (nth h.Spans i).Class (gw h i)
theorem wN{k b z:Int}(h:z∈pS k b):0<=z/\z<slots k/\aQ b z=false:=by
 unfold pS at h;split at h
 ·have:=sI h;exact⟨this.1,ω,this.2.2⟩
 ·cases h
theorem EU(k b:Int):(pS k b).length<=16:=by
 unfold pS;split
 ·rename_i h
  unfold KQ at h;rw[C0]at h;have:=(gh (k:=k) ⟨h.1,h.2.1⟩).2.2.1;have:=rR b (slots k).toNat;omega
 ·exact R0 _
def pn(h:ab)(i:Nat):Int:=nth (me h i) (Jg h.Seed ((me h i).length:Nat)).toNat
def slotT(h:ab)(i:Nat):ab:={h with Seed:=FT h.Seed,Spans:=h.Spans.set i (pB (nth h.Spans i) (pn h i))}
def sT(h:ab)(i:Nat):Int:=16*(nth h.Spans i).Page+pn h i*csz (nth h.Spans i).Class
theorem xR{h:ab}{i:Nat}(a:0<(me h i).length):pn h i∈me h i:=by
 have:=wx h.Seed (n:=((me h i).length:Nat)) ω;exact am ω
theorem bn.slotT{h:ab}{E:List Int}{i:Nat}(a:bn h E)(b:i<h.Spans.length)(e:0<(me h i).length):bn (slotT h i) (sT h i::E)/\iS (slotT h i).Spans (sT h i) (nth h.Spans i).Class:=by
 obtain⟨c,d,f⟩:=wN (xR e);exact⟨a.take b ⟨c,d⟩ f (Fp _),(iS.setS a.L b ⟨c,d⟩ _ _).2 (.inr ⟨rfl,.inr rfl⟩)⟩
def rT(h:ab)(c:Int)(i:Nat):Bool:=decide ((nth h.Spans i).Class=c)&&(!gC h (nth h.Spans i).Page&&decide (0<(me h i).length))
def rD(h:ab)(c:Int):Option Nat:=(List.range h.Spans.length).find? (rT h c)
def vX(h:ab)(c:Int):ab:=addS h (ge h.Kernel (ay h.Free 1).2.1).1 (ay h.Free 1).1 (ay h.Free 1).2.1 c
def ue(h:ab):Nat:=jx (He (ay h.Free 1).2.1) h.Spans
def qJ(h:ab)(i:Nat):ab × Int:=if(me h i).length=0 then(h,-1) else(slotT h i,sT h i)
def gr(h:ab)(t c:Nat):ab × Int:=
 if 0<(nth (nth h.Caches t).Lists c).length then({h with Caches:=h.Caches.set t (rj (nth h.Caches t) c)},nth (nth (nth h.Caches t).Lists c) ((nth (nth h.Caches t).Lists c).length - 1))
 else match rD h c with
 | some i=>(slotT h i,sT h i)
 | none=>if(ay h.Free 1).2.2=false then(h,-1)
  else if(ge h.Kernel (ay h.Free 1).2.1).2=false then({h with Kernel:=(ge h.Kernel (ay h.Free 1).2.1).1},-1)
  else qJ (vX h c) (ue h)
theorem FH{α:Type}[Inhabited α](p:α->Bool)(xs:List α)(y:α):jx p xs<(jf p xs y).length/\nth (jf p xs y) (jx p xs)=y:=by
 have b:=Mt p xs;have a:(xs.take (jx p xs)).length=jx p xs:=by rw[I1];omega
 refine⟨by rw[(jL p xs y).length_eq,List.length_cons];omega,bp ?_⟩;unfold jf;rw[W3 ω,a,Nat.sub_self]
 rfl
theorem bn.tEq{h:ab}{E:List Int}(a:bn h E){k:af}(c:aB k=true)(b:tEq (tbl h) k.Machine.Table):bn {h with Kernel:=k} E/\JK h {h with Kernel:=k}:=
 ⟨a.step (j:=h.Job) (m:=h.Meshing) c b.1 (a.pg.tEq b) a.job a.noj,⟨rfl,rfl,λs d _=>⟨s,d,rfl,λ_ z=>z⟩,λq e=>.inl ⟨(b.2 q).1.1 e,(b.2 q).2⟩⟩⟩
structure Pi(h:ab)(c:Int)(r:ab × Int):Prop where
 no:r.2<0->bn r.1 []
 yes:0<=r.2->bn r.1 [r.2]/\iS r.1.Spans r.2 c
 jk:JK h r.1
 nx:r.1.Next=h.Next
 cl:r.1.Caches.length=h.Caches.length
theorem iS.nn{h:ab}{E:List Int}(b:bn h E){a c:Int}(d:iS h.Spans a c):0<=a:=(iS.bd b d).1
theorem Pi.slot{h h':ab}{i:Nat}{c:Int}(g:bn h' [])(j:i<h'.Spans.length)(k:0<(me h' i).length)(l:(nth h'.Spans i).Class=c)(n:JK h h')(a:gC h' (nth h'.Spans i).Page=false)(h1:h'.Next=h.Next)(o:h'.Caches.length=h.Caches.length):Pi h c (slotT h' i,sT h' i):=by
 obtain⟨d,f⟩:=g.slotT j k;have b:=iS.nn d f;exact⟨λe=>absurd b (by simp only at e;omega),λ_=>⟨d,by rw[<-l];exact f⟩,n.trans (JK.take a),h1,o⟩
theorem yA{h:ab}{t c:Nat}(a:bn h [])(q:t<h.Caches.length)(P:c<=3)(B:h.Kernel.Calls<=90000):Pi h c (gr h t c):=by
 have f:=a.cach _ (am q);have C:=sK f;unfold gr;split
 ·rename_i D
  obtain⟨d,b⟩:=a.pop q ω D (Mf f c);have l:=iS.nn a b;exact⟨λe=>absurd l (by simp only at e;omega),λ_=>⟨d,b⟩,JK.eq rfl rfl rfl rfl,rfl,C1 ..⟩
 split
 ·rename_i i r
  have g:=List.find?_some r;have E:=List.mem_range.1 (List.mem_of_find?_eq_some r);unfold rT at g;simp only[I0,C0,Bool.not_eq_true']at g;exact Pi.slot a E g.2.2 g.1 (JK.refl h) g.2.1 rfl rfl
 split
 ·exact⟨λ_=>a,λe=>absurd e (by show ¬(0:Int)<=-1;decide),JK.refl h,rfl,rfl⟩
 rename_i F;have j:(ay h.Free 1).2.2=true:=by simpa using F
 obtain⟨G,H,J,u⟩:=kL a (t4 1) j;have s:=zD.of (p:=(ay h.Free 1).2.1) a.ker ω ⟨G,by have:(ay h.Free 1).2.1+1<=(h.Kernel.Machine.Table.Entries.length:Nat):=H;omega⟩ (J _ ω ω);split
 ·rename_i n
  rw[s.no n];obtain⟨d,b⟩:=a.tEq (ly a.ker ω) (tEq.refl _);exact⟨λ_=>d,λe=>absurd e (by show ¬(0:Int)<=-1;decide),b,rfl,rfl⟩
 rename_i n;have o:(ge h.Kernel (ay h.Free 1).2.1).2=true:=by simpa using n
 have w:zD h.Kernel (ay h.Free 1).2.1 ((ge h.Kernel (ay h.Free 1).2.1).1,true):=by rw[<-o];exact s
 have d:=a.addS (c:=c) ⟨ω,ω⟩ j w;have b:JK h (vX h c):=JK.addS w;obtain⟨K,A⟩:=FH (He (ay h.Free 1).2.1) h.Spans ⟨(ay h.Free 1).2.1,c,0⟩;unfold qJ;split
 ·exact⟨λ_=>d,λe=>absurd e (by show ¬(0:Int)<=-1;decide),b,rfl,rfl⟩
 ·refine Pi.slot (h':=vX h c) (i:=ue h) d K ω (by show(nth (jf (He (ay h.Free 1).2.1) h.Spans ⟨(ay h.Free 1).2.1,c,0⟩) (ue h)).Class=_;unfold ue;rw[A]) b ?_ rfl rfl
  show gC (vX h c) (nth (jf (He (ay h.Free 1).2.1) h.Spans ⟨(ay h.Free 1).2.1,c,0⟩) (ue h)).Page=false;unfold ue;rw[A,b.pg];rw[<-I4];intro k;unfold gC at k;simp only[I0,X4,C0]at k;obtain⟨-,⟨y,L,M⟩,⟨z,N,O⟩⟩:=a.job k.1;rcases k.2 with e|e
  ·exact u _ (t4 _) ω (by rw[e,<-M];exact d6 L)
  ·exact u _ (t4 _) ω (by rw[e,<-O];exact d6 N)
def l7(size:Int):Nat:=((size+15) / 16).toNat
def iH(h:ab)(size:Int):af × Nat:=cL h.Kernel (ay h.Free (l7 size:Nat)).2.1 (l7 size)
def pu(h:ab)(t size:Int):ab × Int × Int:=
 if(ay h.Free (l7 size:Nat)).2.2=false then(h,-1,4)
 else if(iH h size).2=l7 size then(addL h (iH h size).1 (ay h.Free (l7 size:Nat)).1 (ay h.Free (l7 size:Nat)).2.1 (l7 size:Nat) size t,16*(ay h.Free (l7 size:Nat)).2.1,0)
 else({h with Kernel:=dZ (iH h size).1 (ay h.Free (l7 size:Nat)).2.1 (iH h size).2},-1,4)
def si(xs:List bx):Nat->Int
 | 0=>0
 | i+1=>si xs i+(nth xs i).Size
def wQ(h:ab):Int:=si h.Objs h.Objs.length
def gq(h:ab)(t size:Int):ab × Int × Int:=
 if 1000000<=h.Next\/90000<h.Kernel.Calls then(h,-1,5)
 else if ¬(0<=t/\t<=h.Caches.length - 1) then(h,-1,1)
 else if ¬(1<=size/\size<=1000) then(h,-1,2)
 else if h.Limit<wQ h+size then(h,-1,3)
 else if 0<=aI size then(if(gr h t.toNat (aI size).toNat).2<0 then((gr h t.toNat (aI size).toNat).1,-1,4) else(addO (gr h t.toNat (aI size).toNat).1 (gr h t.toNat (aI size).toNat).2 size t,(gr h t.toNat (aI size).toNat).2,0))
 else pu h t size
theorem GQ{h:ab}{t size:Int}(a:bn h [])(g:9<=size/\size<=1000)(i:h.Next<1000000)(j:h.Kernel.Calls<=90000)(k:0<=t/\t<=h.Caches.length - 1):bn (pu h t size).1 []/\JK h (pu h t size).1:=by
 have l:(l7 size:Int)=(size+15) / 16:=by unfold l7;omega
 unfold pu;split
 ·exact⟨a,JK.refl h⟩
 rename_i o;have b:(ay h.Free (l7 size:Nat)).2.2=true:=by simpa using o
 obtain⟨c,d,e,w⟩:=kL a (show(1:Int)<=(l7 size:Nat) by omega) b;have s:=nt.of (p:=(ay h.Free (l7 size:Nat)).2.1) (n:=l7 size) a.ker ω ⟨c,d⟩ e (l7 size) (Q2 _);split
 ·rename_i q
  have f:nt h.Kernel (ay h.Free (l7 size:Nat)).2.1 (l7 size) ((iH h size).1,l7 size):=by
   have:((iH h size).1,l7 size)=iH h size:=by rw[<-q]
   rw[this];exact s
  exact⟨a.addL g l b f i k,JK.addL f⟩
 ·obtain⟨r,u⟩:=s.undo a.ker ⟨c,d⟩ e
  exact a.tEq r u
theorem Hb{h:ab}{t size:Int}(a:bn h []):bn (gq h t size).1 []/\JK h (gq h t size).1:=by
 unfold gq;split
 ·exact⟨a,JK.refl h⟩
 rename_i d;rw[not_or]at d;split
 ·exact⟨a,JK.refl h⟩
 rename_i n;split
 ·exact⟨a,JK.refl h⟩
 rename_i o;split
 ·exact⟨a,JK.refl h⟩
 split
 ·rename_i b
  have f:aI size<=3:=by unfold aI;repeat' split<;>omega
  have s:=yA (t:=t.toNat) (c:=(aI size).toNat) a ω ω ω;generalize gr h t.toNat (aI size).toNat=r at s;split
  ·rename_i e;exact⟨s.no e,s.jk⟩
  ·rename_i e
   obtain⟨g,i⟩:=s.yes ω;refine⟨g.addO (.inl ?_) (by rw[s.nx];omega) (by rw[s.cl];omega),s.jk.trans (JK.eq rfl rfl rfl rfl)⟩;obtain⟨z,j,k,p⟩:=i;exact⟨z,j,k,by show z.Class=aI size;omega⟩
 ·rename_i b
  have l:9<=size:=by
   unfold aI at b
   repeat' split at b<;>omega
  exact GQ a ⟨l,ω⟩ ω ω ω
theorem mG{α β:Type}[Inhabited α]{f:α->β}{xs:List α}{i:Nat}{y:α}(a:i<xs.length)(e:f y=f (nth xs i)):(xs.set i y).map f=xs.map f:=by
 rw[W4];refine List.ext_getElem (by simp) λj b c=>?_
 rw[List.getElem_set];split
 ·rename_i g;subst g
  rw[List.getElem_map,e,bp (U1 a)]
 ·rfl
theorem mU{α β:Type}[Inhabited α](f:α->List β):∀(xs:List α)(i:Nat)(y:α),i<xs.length->(f y).Sublist (f (nth xs i))->((xs.set i y).flatMap f).Sublist (xs.flatMap f)
 | [],_,_,h,_=>absurd h (Nat.not_lt_zero _)
 | x::xs,0,y,_,a=>by
  rw[List.set_cons_zero,v5,v5];exact List.Sublist.append a (List.Sublist.refl _)
 | x::xs,i+1,y,h,a=>by
  rw[List.set_cons_succ,v5,v5];exact List.Sublist.append (List.Sublist.refl _) (mU f xs i y (by simpa using h) a)
def zK(k:af)(a:Int):Nat->af
 | 0=>k
 | m+1=>kG (zK k a m) (a+m) 0
theorem vY(k:af)(a:Int):∀m,(zK k a m).Machine.Table=k.Machine.Table/\(zK k a m).Calls=k.Calls/\(zK k a m).Refuse=k.Refuse
 | 0=>⟨rfl,rfl,rfl⟩
 | m+1=>vY k a m
theorem MU{k:af}(h:aB k=true){a:Int} : ∀{m:Nat},(∀j:Nat,j<m->(ar k.Machine.Table ((a+j) / 16)).Mode≠0)->aB (zK k a m)=true
 | 0,_=>h
 | m+1,b=>vg (MU h λj c=>b j ω) (by rw[(vY k a m).1];exact b m ω) ⟨ω,ω⟩
theorem Fk{h:ab}{E:List Int}(j:bn h E){sp:List au}{la:List a8}{o:List a7}{p:Int}{n:Nat}(y:p+n<=h.Kernel.Machine.Table.Entries.length)(A:sp.Sublist h.Spans)(M:∀l∈la,∀q∈lpgs l l.Pages.toNat,∃w∈h.Larges,q∈lpgs w w.Pages.toNat)(N:0<=p)(B:∀q,q∈pgs sp la↔q∈pgs h.Spans h.Larges/\¬(p<=q/\q<p+n))(O:∀q,RH o q↔RH h.Free q\/(p<=q/\q<p+n)) :
  Pg (dZ h.Kernel p n).Machine.Table o sp la:=by
 have b:=(im h.Kernel p n).1;have d:=lz j.ker N n y;have f:∀q:Nat,(q:Int)∈pgs sp la->nth (dZ h.Kernel p n).Machine.Table.Entries q=nth (tbl h).Entries q:=λq c=>by rw[d,C7 ((B q).1 c).2];rfl
 have a:∀q:Nat,(nth (dZ h.Kernel p n).Machine.Table.Entries q).Mode≠0↔(nth (tbl h).Entries q).Mode≠0/\¬(p<=q/\(q:Int)<p+n):=λq=>by
  rw[d];by_cases e:p<=q/\(q:Int)<p+n
  ·rw[C8 e];exact⟨λx=>absurd rfl x,λx=>absurd e x.2⟩
  ·rw[C7 e];exact⟨λx=>⟨x,e⟩,λx=>x.1⟩
 refine⟨λl g q c r J C k=>?_,λq c=>?_,λq c=>?_,λq c=>?_,λs g u D F K=>?_⟩
 ·have t:=(a r).1 C
  rw[b]at J;rw[f q (fm g c),d,C7 t.2]at k;obtain⟨w,G,H⟩:=M l g _ c;exact j.pg.one w G q H r J t.1 k
 ·rw[b];exact j.pg.bnd q ((B q).1 c).1
 ·rw[b]at c
  rw[a,B,j.pg.own q c]
 ·rw[b]at c
  rw[a,O,j.pg.fre q c]
  grind
 ·have i:∀s∈sp,0<=s.Page:=λs g=>(aD (j.L.sok s (A.subset g))).1
  have P:=f s.Page.toNat (by rw[Int.toNat_of_nonneg (i s g)];exact d6 g);have Q:=f u.Page.toNat (by rw[Int.toNat_of_nonneg (i u D)];exact d6 D);rw[P,Q]at K;exact j.pg.mesh s (A.subset g) u (A.subset D) F K
def trimL(l:a8)(size:Int):a8:=⟨l.Page,(size+15) / 16,size⟩
def dG(l:a8)(size:Int):Nat:=(l.Pages - (size+15) / 16).toNat
theorem bn.trimL{h:ab}{E:List Int}{i k:Nat}{size:Int}(t:bn h E)(T:i<h.Objs.length)(H:k<h.Larges.length)(Y:(nth h.Objs i).Addr=16*(nth h.Larges k).Page)(N:9<=size/\size<=(nth h.Larges k).Size) :
  ∃o,(dG (nth h.Larges k) size=0->o=h.Free)/\(0<dG (nth h.Larges k) size->dz (dK h) h.Free ⟨(nth h.Larges k).Page+(size+15) / 16,(dG (nth h.Larges k) size:Nat)⟩ = some o)/\
   bn {h with Kernel:=dZ h.Kernel ((nth h.Larges k).Page+(size+15) / 16) (dG (nth h.Larges k) size),Larges:=h.Larges.set k (trimL (nth h.Larges k) size),Objs:=h.Objs.set i {nth h.Objs i with Size:=size},Free:=o} E:=by
 have U:=t.L;have C:=U.lok _ (am H);have hf:=aN C;unfold bO at C;rw[C0]at C;obtain⟨b1,b2⟩:=yZ t H;have O:=U.dis;have G:=λj n=>U.one j k n H
 have y:=(am H:nth h.Larges k∈h.Larges)
 have d:∀z∈h.Larges.set k (Ab.trimL (nth h.Larges k) size),z=Ab.trimL (nth h.Larges k) size\/∃j,j<h.Larges.length/\j≠k/\nth h.Larges j=z:=λz N=>eS N
 have p:Ab.trimL (nth h.Larges k) size∈h.Larges.set k (Ab.trimL (nth h.Larges k) size):=hJ _ H;have u:∀j,j<h.Larges.length->j≠k->nth h.Larges j∈h.Larges.set k (Ab.trimL (nth h.Larges k) size):=λj n e=>iY _ n e
 have hpageM:(h.Larges.set k (Ab.trimL (nth h.Larges k) size)).map (·.Page)=h.Larges.map (·.Page):=mG H rfl;have w:(pgs h.Spans (h.Larges.set k (Ab.trimL (nth h.Larges k) size))).Sublist (pgs h.Spans h.Larges):=by
  unfold pgs;refine List.Sublist.append (List.Sublist.refl _) (mU _ _ _ _ H ?_);unfold lpgs;exact(List.range_sublist.2 (by simp only[Ab.trimL];omega)).map _
 obtain⟨l,V⟩ : ∃l,nth h.Larges k=l:=⟨_,rfl⟩
 rw[V]at C hf b1 b2 G y d p u hpageM w Y N |-;generalize hla:h.Larges.set k (Ab.trimL l size)=la at d p u hpageM w |-;have hn1:(1:Int)<=(size+15) / 16/\(size+15) / 16+(dG l size:Nat)=l.Pages:=by unfold dG;omega
 have D:∀q,q∈lpgs l l.Pages.toNat↔l.Page<=q/\q<l.Page+l.Pages:=λq=>by
  rw[dn];constructor
  ·rintro⟨j,n,rfl⟩;omega
  ·rintro⟨Z,q2⟩;exact⟨(q - l.Page).toNat,ω,ω⟩
 have J:∀q,q∈lpgs (Ab.trimL l size) (Ab.trimL l size).Pages.toNat↔l.Page<=q/\q<l.Page+(size+15) / 16:=λq=>by
  rw[dn];simp only[Ab.trimL];constructor
  ·rintro⟨j,n,rfl⟩;omega
  ·rintro⟨Z,q2⟩;exact⟨(q - l.Page).toNat,ω,ω⟩
 have hpe:l.Page+(size+15) / 16+(dG l size:Nat)=l.Page+l.Pages:=ω
 have P:∀q,q∈pgs h.Spans la↔q∈pgs h.Spans h.Larges/\¬(l.Page+(size+15) / 16<=q/\q<l.Page+(size+15) / 16+(dG l size:Nat)):=λq=>by
  rw[o9,o9,hpe];constructor
  ·rintro(⟨s,W,rfl⟩|⟨z,c,B⟩)
   ·exact⟨.inl ⟨s,W,rfl⟩,λe=>O s W l y (s.Page - l.Page).toNat ω ω⟩
   ·rcases d z c with rfl|⟨j,n,hjk,rfl⟩
    ·have:=(J q).1 B
     exact⟨.inr ⟨l,y,(D q).2 ⟨ω,ω⟩⟩,ω⟩
    ·refine⟨.inr ⟨_,am n,B⟩,λe=>?_⟩
     obtain⟨m,hm,rfl⟩:=dn.1 B;exact hjk (G j n m ((nth h.Larges j).Page+(m:Int) - l.Page).toNat hm ω ω)
  ·rintro⟨⟨s,W,rfl⟩|⟨z,c,B⟩,hne⟩
   ·exact .inl ⟨s,W,rfl⟩
   ·obtain⟨j,n,rfl⟩:=aW c
    by_cases e:j=k
    ·subst e
     rw[V]at B;have:=(D q).1 B;exact .inr ⟨_,p,(J q).2 ⟨ω,ω⟩⟩
    ·exact .inr ⟨_,u j n e,B⟩
 have K:∃o,(dG l size=0->o=h.Free)/\(0<dG l size->dz (dK h) h.Free ⟨l.Page+(size+15) / 16,(dG l size:Nat)⟩ = some o)/\bv (dK h) o=true/\∀q,RH o q↔RH h.Free q\/(l.Page+(size+15) / 16<=q/\q<l.Page+(size+15) / 16+(dG l size:Nat)):=by
  by_cases e:dG l size=0
  ·refine⟨h.Free,λ_=>rfl,λg=>absurd g ω,t.rng,λq=>⟨.inl,λg=>g.resolve_right ω⟩⟩
  ·obtain⟨o,o1,o2,o3⟩:=tg (r:=⟨l.Page+(size+15) / 16,(dG l size:Nat)⟩) t.rng ⟨by simp only;omega,by simp only;omega,by show l.Page+(size+15) / 16+(dG l size:Nat)<=(dK h:Int);have:((tbl h).Entries.length:Int)=(dK h:Int):=rfl;omega⟩ λq Z q2=>by
    simp only at Z q2;obtain⟨m,rfl⟩:=I2 (show 0<=q by omega);have Q:m<(tbl h).Entries.length:=ω
    exact(t.pg.fre m Q).1 ((t.pg.own m Q).2 (fm y ((D _).2 ⟨ω,ω⟩)))
   exact⟨o,λg=>absurd g e,λ_=>o1,o2,o3⟩
 obtain⟨o,o0,o1,o2,o3⟩:=K;have R:=(im h.Kernel (l.Page+(size+15) / 16) (dG l size)).1;have M:∀z∈h.Objs.set i {nth h.Objs i with Size:=size},z = {nth h.Objs i with Size:=size}\/∃j,j<h.Objs.length/\j≠i/\nth h.Objs j=z:=λz N=>eS N
 have F:(h.Objs.set i {nth h.Objs i with Size:=size}).map (·.Addr)=h.Objs.map (·.Addr):=mG T rfl;have S:(h.Objs.set i {nth h.Objs i with Size:=size}).map (·.Id)=h.Objs.map (·.Id):=mG T rfl;have hli:=(am T:nth h.Objs i∈h.Objs)
 generalize h.Objs.set i {nth h.Objs i with Size:=size} = ob at M F S |-;refine⟨o,o0,o1,{t with
   ker:=kx t.ker _ _
   rng:=by show bv (((dZ h.Kernel (l.Page+(size+15) / 16) (dG l size)).Machine.Table.Entries.length:Nat):Int) o=true;rw[R];exact o2
   lay:=?_
   srl:=?_
   pg:=Fk t (by have:((tbl h).Entries.length:Int)=(h.Kernel.Machine.Table.Entries.length:Int):=rfl;omega) (List.Sublist.refl _) (λz c q B=>?_) ω P o3
   osr:=?_
   onu:=λz c=>?_
   oid:=by show(ob.map (·.Id)).Nodup;rw[S];exact t.oid
   oow:=λz c=>?_
   nd:=?_
   mem:=λb=>?_}⟩
 ·obtain⟨l1,l2,l3⟩:=cS t.lay
  unfold bf;simp only[I0,C0];refine⟨⟨l1,I3.2 λz c=>?_⟩,l3.sublist w⟩;rcases d z c with rfl|⟨j,n,-,rfl⟩
  ·exact O0 ⟨N.1,by show size<=1000;omega,rfl,by show 0<=l.Page;omega,by show l.Page<=32 - (size+15) / 16;omega⟩
  ·exact U.lok _ (am n)
 ·have A:(h.Larges.map (·.Page)).Pairwise (λa b=>a<b):=List.pairwise_map.2 t.srl
  rw[<-hpageM]at A;exact List.pairwise_map.1 A
 ·rcases d z c with rfl|⟨j,n,-,rfl⟩
  ·have:=(J q).1 B
   exact⟨l,y,(D q).2 ⟨ω,ω⟩⟩
  ·exact⟨_,am n,B⟩
 ·have A:(h.Objs.map (·.Addr)).Pairwise (λa b=>a<b):=List.pairwise_map.2 t.osr
  rw[<-F]at A;exact List.pairwise_map.1 A
 ·rcases M z c with rfl|⟨j,n,-,rfl⟩
  ·exact t.onu (nth h.Objs i) hli
  ·exact t.onu _ (am n)
 ·rcases M z c with rfl|⟨j,n,hji,rfl⟩
  ·exact .inr ⟨_,p,Y,rfl⟩
  ·rcases t.oow _ (am n) with A|⟨l',hl',e1,X⟩
   ·exact .inl A
   ·obtain⟨m,hm,rfl⟩:=aW hl'
    by_cases e:m=k
    ·subst e
     rw[V]at e1;exact absurd (gH (f:=(·.Addr)) (gP t.osr) n T (e1.trans Y.symm)) hji
    ·exact .inr ⟨_,u m hm e,e1,X⟩
 ·have hh:holders {h with Kernel:=dZ h.Kernel (l.Page+(size+15) / 16) (dG l size),Larges:=la,Objs:=ob,Free:=o} = holders h:=by
   show((ob.map (·.Addr)++bT h)++h.Quar.Lst.map (·.Addr))++aC h.Mail=_;rw[F];rfl
  rw[hh];exact t.nd
 ·have hh:holders {h with Kernel:=dZ h.Kernel (l.Page+(size+15) / 16) (dG l size),Larges:=la,Objs:=ob,Free:=o} = holders h:=by
   show((ob.map (·.Addr)++bT h)++h.Quar.Lst.map (·.Addr))++aC h.Mail=_;rw[F];rfl
  rw[hh,t.mem b];show Live h.Spans h.Larges b↔Live h.Spans la b;unfold Live;constructor
  ·rintro(A|⟨z,c,e⟩)
   ·exact .inl A
   ·obtain⟨j,n,rfl⟩:=aW c
    by_cases X:j=k
    ·subst X
     rw[V]at e;exact .inr ⟨_,p,e⟩
    ·exact .inr ⟨_,u j n X,e⟩
  ·rintro(A|⟨z,c,e⟩)
   ·exact .inl A
   ·rcases d z c with rfl|⟨j,n,-,rfl⟩
    ·exact .inr ⟨l,y,e⟩
    ·exact .inr ⟨_,am n,e⟩
def tl(h:ab)(k:Nat)(size:Int):af:=zK h.Kernel (16*(nth h.Larges k).Page+size) (16*((size+15) / 16) - size).toNat
def Fw(h:ab)(k:Nat)(size:Int):List a7:=if 0<dG (nth h.Larges k) size then(dz (dK h) h.Free ⟨(nth h.Larges k).Page+(size+15) / 16,(dG (nth h.Larges k) size:Nat)⟩).getD h.Free else h.Free
def trimH(h:ab)(i k:Nat)(size:Int):ab:={h with Kernel:=dZ (tl h k size) ((nth h.Larges k).Page+(size+15) / 16) (dG (nth h.Larges k) size),Larges:=h.Larges.set k (trimL (nth h.Larges k) size),Objs:=h.Objs.set i {nth h.Objs i with Size:=size},Free:=Fw h k size}
theorem nk{h:ab}{E:List Int}(b:bn h E){k:Nat}(c:k<h.Larges.length){a:Int}(g:16*(nth h.Larges k).Page<=a/\a<16*(nth h.Larges k).Page+16*(nth h.Larges k).Pages):(ar h.Kernel.Machine.Table (a / 16)).Mode≠0:=by
 obtain⟨i,j⟩:=yZ b c;have l:=aN (b.L.lok _ (am c));have d:(a / 16)∈pgs h.Spans h.Larges:=fm (am c) (dn.2 ⟨(a / 16 - (nth h.Larges k).Page).toNat,ω,ω⟩);have e:=b.pg.bnd _ d;have f:=(b.pg.own (a / 16).toNat ω).2 (by rw[show(((a / 16).toNat:Nat):Int)=a / 16 by omega];exact d);unfold ar;rw[C8 ⟨ω,e⟩];exact f
theorem AU{h:ab}{E:List Int}(b:bn h E){k:Nat}(c:k<h.Larges.length){size:Int}(d:9<=size/\size<=(nth h.Larges k).Size):∀{m:Nat},m<=(16*((size+15) / 16) - size).toNat->aB (zK h.Kernel (16*(nth h.Larges k).Page+size) m)=true:=fun {m} hm=>by
 have a:=b.L.lok _ (am c);unfold bO at a;rw[C0]at a;exact MU b.ker λj e=>nk b c ⟨ω,ω⟩
theorem bn.trimH{h:ab}{i k:Nat}{size:Int}(d:bn h [])(A:i<h.Objs.length)(f:k<h.Larges.length)(B:(nth h.Objs i).Addr=16*(nth h.Larges k).Page)(r:9<=size/\size<=(nth h.Larges k).Size):bn (trimH h i k size) []/\JK h (trimH h i k size):=by
 have t:=AU d f r (Q2 _);have l:=(vY h.Kernel (16*(nth h.Larges k).Page+size) (16*((size+15) / 16) - size).toNat).1;have C:=d.cells t l;obtain⟨o,u,w,y⟩:=C.trimL (i:=i) (k:=k) (size:=size) A f B r;simp only at u w y;have n:dK {h with Kernel:=zK h.Kernel (16*(nth h.Larges k).Page+size) (16*((size+15) / 16) - size).toNat} = dK h:=by
  unfold dK;simp only[l]
 have D:Fw h k size=o:=by
  unfold Fw;split
  ·rename_i g;have:=w g;rw[n]at this;rw[this];rfl
  ·exact(u ω).symm
 have E:Ab.trimH h i k size = {h with Kernel:=dZ (tl h k size) ((nth h.Larges k).Page+(size+15) / 16) (dG (nth h.Larges k) size),Larges:=h.Larges.set k (Ab.trimL (nth h.Larges k) size),Objs:=h.Objs.set i {nth h.Objs i with Size:=size},Free:=o}:=by unfold Ab.trimH;rw[D]
 refine⟨by rw[E];exact y,JK.less rfl rfl rfl λq j=>?_⟩;have a:=d.L.lok _ (am f);unfold bO at a;rw[C0]at a;obtain⟨F,G⟩:=yZ d f;have b:(tl h k size).Machine.Table=h.Kernel.Machine.Table:=l;have c:=lz (k:=tl h k size) t (p:=(nth h.Larges k).Page+(size+15) / 16) ω (dG (nth h.Larges k) size) (by rw[b];have:((tbl h).Entries.length:Int)=(h.Kernel.Machine.Table.Entries.length:Int):=rfl;unfold dG;omega) q;change (nth (dZ (tl h k size) ((nth h.Larges k).Page+(size+15) / 16) (dG (nth h.Larges k) size)).Machine.Table.Entries q).Mode≠0 at j;show nth (dZ (tl h k size) ((nth h.Larges k).Page+(size+15) / 16) (dG (nth h.Larges k) size)).Machine.Table.Entries q=nth h.Kernel.Machine.Table.Entries q;rw[c]at j |-;split at j
 ·exact absurd rfl j
 ·rename_i e;rw[C7 e,b]
theorem E9{t:Nat}(h:1<=t/\t<=4):bA (dA t)=true:=by
 have f:∀n,n<=t->bq (dA t) n=0:=λn=>by
  induction n with
  | zero=>intro _;rfl
  | succ n g=>
   intro j;have a:nth (dA t).Buffers n=[]:=cT ω;have b:nth (dA t).Inbox n=[]:=cT ω;simp only[bq,g ω,a,b,List.length_nil]
   decide
 have e:(dA t).Buffers.length=t:=List.length_replicate ..;refine dC.2 ⟨⟨ω,ω,by simp[dA]⟩,λi c=>?_,by rw[e,f t (Q2 _)];omega⟩;rw[e]at c;have a:nth (dA t).Buffers i=[]:=cT c;have b:nth (dA t).Inbox i=[]:=cT c;rw[a,b];exact⟨λp d=>(by cases d),λp d=>(by cases d)⟩
theorem sP(t:Nat):aC (dA t)=[]:=by
 unfold aC;split
 ·simp[dA]
 ·rfl
def p9(k:af)(t:Nat)(sd ck lim:Int):ab:=⟨k,[⟨0,(k.Machine.Table.Entries.length:Nat)⟩],[],[],[],List.replicate t eL,dA t,⟨16,[]⟩,sd,ck,lim,1,false,⟨⟨0,0,[]⟩,0,0⟩⟩
theorem BV:bm eL=true:=by decide
theorem bn.fresh{k:af}{t:Nat}{lim sd ck:Int}(B:aB k=true)(C:∀q,q<k.Machine.Table.Entries.length->(nth k.Machine.Table.Entries q).Mode=0)(F:1<=t/\t<=4)(h:0<=lim/\lim<=1000)(i:0<=sd/\sd<=1073741823)(d:0<=ck/\ck<=1000000):bn (p9 k t sd ck lim) []:=by
 obtain⟨H,J,K⟩:=bw.1 (aE.1 B).2.2.1;have g:bT (p9 k t sd ck lim)=[]:=by
  unfold bT;refine List.flatMap_eq_nil_iff.2 λc d=>?_
  rw[(List.mem_replicate.1 d).2]
  rfl
 have D:holders (p9 k t sd ck lim)=[]:=by
  unfold holders;rw[g];show(([]++[])++[])++aC (dA t)=[];rw[sP];rfl
 have n:∀a,¬Live (p9 k t sd ck lim).Spans (p9 k t sd ck lim).Larges a:=λa=>by
  rintro(⟨s,i,-⟩|⟨l,h,-⟩)
  ·cases i
  ·cases h
 exact {
   ker:=B
   rng:=dY.2 ⟨⟨List.pairwise_singleton ..,λy r=>by rw[Z0.1 r];show(1:Int)<=(k.Machine.Table.Entries.length:Nat);omega⟩,λy r=>by
       rw[Z0.1 r];refine⟨t4 _,by show(1:Int)<=(k.Machine.Table.Entries.length:Nat);omega,?_⟩;show(0:Int)+(k.Machine.Table.Entries.length:Nat)<=(k.Machine.Table.Entries.length:Nat);omega,by show(1:Int)<=(k.Machine.Table.Entries.length:Nat);omega,by show((k.Machine.Table.Entries.length:Nat):Int)<=32;omega⟩
   lay:=by show bf [] []=true;decide
   srs:=List.Pairwise.nil
   srl:=List.Pairwise.nil
   pg:=⟨λl h=>(by cases h),λp f=>(by cases f),λp f=>⟨λe=>absurd (C p f) e,λe=>by cases e⟩,λp f=>⟨λe=>absurd (C p f) e,λe=>absurd ⟨_,Z0.2 rfl,by show(0:Int)<=p;omega,by
       show(p:Int)<0+(k.Machine.Table.Entries.length:Nat);have G:p<k.Machine.Table.Entries.length:=f;omega⟩ e⟩,λs i=>by cases i⟩
   mail:=E9 F
   nc:=by show(List.replicate t eL).length=(List.replicate t _).length;simp
   quar:=by show eK ⟨16,[]⟩ = true;decide
   snc:=λx u=>by cases u
   cach:=λc d=>by rw[(List.mem_replicate.1 d).2];exact BV
   nums:=by unfold cj;rw[C0];simp only[p9];omega
   osr:=List.Pairwise.nil
   onu:=λo w=>by cases w
   oid:=List.nodup_nil
   oow:=λo w=>by cases w
   hca:=λc d j E a b=>by
     rw[(List.mem_replicate.1 d).2]at E b;have A:j<4:=E;have:nth eL.Lists j=[]:=cT A;rw[this]at b;cases b
   hqu:=λx u=>by cases u
   hfl:=λa b=>by
     have:aC (dA t)=[]:=sP t;change a∈aC (dA t) at b;rw[this]at b;cases b
   hin:=λa b=>by cases b
   nd:=by rw[D];exact List.nodup_nil
   mem:=λa=>by rw[D];exact⟨λe=>(by cases e),λe=>absurd e (n a)⟩
   job:=λe=>by cases e
   noj:=λ_=>by show qK ⟨⟨0,0,[]⟩,0,0⟩ = true;decide}
theorem JI.no{h:ab}(a:h.Meshing=false):JI h:=⟨λe=>(by rw[a]at e;cases e),λe=>(by rw[a]at e;cases e),λe=>(by rw[a]at e;cases e),λe=>(by rw[a]at e;cases e)⟩
theorem oP{p f:Nat}{a:List Int}(d:1<=p/\p<=32)(e:1<=f/\f<=32)(b:a.length<=40/\∀x∈a,0<=x):aB (b8 p f a)=true:=by
 obtain⟨-,g,h,i,c⟩:=aE.1 (zE d e);exact aE.2 ⟨λj k=>b.2 _ (am k),g,h,i,c.1,c.2.1,b.1⟩
theorem Bk{p f t:Nat}{lim:Int}{a:List Int}(c:1<=p/\p<=32)(d:1<=f/\f<=32)(g:1<=t/\t<=4)(i:0<=lim/\lim<=1000)(j:a.length<=40/\∀x∈a,0<=x):bn (uk p f t lim a) []:=by
 have h:=bn.fresh (k:=b8 p f a) (t:=t) (lim:=lim) (sd:=0) (ck:=0) (oP c d j) (λq l=>by
   have b:q<p:=by simpa[b8,dO] using l
   rw[show nth (b8 p f a).Machine.Table.Entries q = ⟨0,0⟩ from cT b]) g i ω ω
 have e:(b8 p f a).Machine.Table.Entries.length=p:=by simp[b8,dO]
 unfold p9 at h;rw[e]at h;exact h
structure eD where
 Kind:Int
 Thread:Int
 N:Int
 At:Int
 Value:Int
deriving DecidableEq,Inhabited
def eD.enc(_:d9)(x:eD):List C:=[I x.Kind,I x.Thread,I x.N,I x.At,I x.Value]
def mf(id:Int)(o:bD):Bool:=decide (o.Id=id)
def nh(r:ax)(id:Int):Int:=df (mf id) r.Objs
def jZ(r:ax)(n:Int):ax:=if 1<=n/\n<=1000 then {r with Next:=r.Next+1,Objs:=r.Objs++[⟨r.Next,List.replicate n.toNat 0⟩]} else r
def kH(r:ax)(id:Int):ax:=if nh r id<0 then r else {r with Objs:=dele r.Objs (nh r id).toNat}
def eO(r:ax)(id at_ v:Int):ax:=if 0<=nh r id/\(0<=at_/\at_<=(nth r.Objs (nh r id).toNat).Cells.length - 1)/\0<=v/\v<=999 then {r with Objs:=r.Objs.set (nh r id).toNat ⟨(nth r.Objs (nh r id).toNat).Id,(nth r.Objs (nh r id).toNat).Cells.set at_.toNat v⟩} else r
def fX(r:ax)(id n:Int):ax:=if 0<=nh r id/\1<=n/\n<=(nth r.Objs (nh r id).toNat).Cells.length then {r with Objs:=r.Objs.set (nh r id).toNat ⟨(nth r.Objs (nh r id).toNat).Id,(nth r.Objs (nh r id).toNat).Cells.take n.toNat⟩} else r
structure qX(r:ax)(m:Nat):Prop where
 len:r.Objs.length<=m
 cel:∀o∈r.Objs,o.Cells.length<=1000
 nx:0<=r.Next/\r.Next<=m+1
theorem qX.more{r:ax}{m n:Nat}(h:qX r m)(a:m<=n):qX r n:=⟨by have:=h.len;omega,h.cel,h.nx.1,by have:=h.nx.2;omega⟩
theorem qX.sml{r:ax}{m:Nat}(h:qX r m)(b:m<=1000):ax.sml r:=⟨by have:=h.len;omega,λo a=>by have:=h.cel o a;show o.Cells.length<=1048576;omega⟩
theorem qX.alloc{r:ax}{m:Nat}(h:qX r m)(n:Int):qX (jZ r n) (m+1):=by
 unfold jZ;split
 ·refine⟨by have:=h.len;simp only[U2,List.length_singleton];omega,λo a=>?_,by have:=h.nx.1;simp only;omega,by have:=h.nx.2;simp only;omega⟩
  rcases O2.1 a with a|a
  ·exact h.cel o a
  ·rw[Z0.1 a];simp only[List.length_replicate];omega
 ·exact h.more ω
theorem qX.free{r:ax}{m:Nat}(h:qX r m)(id:Int):qX (kH r id) m:=by
 unfold kH;split
 ·exact h
 ·have a:=fx r.Objs (nh r id).toNat
  exact⟨Z3 a.length_le h.len,λo b=>h.cel o (a.subset b),h.nx⟩
theorem qX.set{r:ax}{m i:Nat}{x:bD}(h:qX r m)(b:x.Cells.length<=1000):qX {r with Objs:=r.Objs.set i x} m:=
 ⟨by simp only[C1];exact h.len,λo a=>by
   rcases Z4 a with a|rfl
   · exact h.cel o a
   · exact b,h.nx⟩
theorem fU{α:Type}[Inhabited α](p:α->Bool)(xs:List α)(h:0<=df p xs):(df p xs).toNat<xs.length/\p (nth xs (df p xs).toNat)=true/\df p xs=((df p xs).toNat:Nat):=by
 rcases nu p xs with e|⟨n,a,e,b⟩
 ·omega
 ·rw[e,C2];exact⟨a,b,rfl⟩
theorem qX.store{r:ax}{m:Nat}(h:qX r m)(id a v:Int):qX (eO r id a v) m:=by
 unfold eO;split
 ·rename_i e
  refine h.set ?_;simp only[C1];exact h.cel (nth r.Objs (nh r id).toNat) (am (fU _ _ e.1).1)
 ·exact h
theorem qX.trim{r:ax}{m:Nat}(h:qX r m)(id n:Int):qX (fX r id n) m:=by
 unfold fX;split
 ·rename_i e
  refine h.set ?_;have:=h.cel (nth r.Objs (nh r id).toNat) (am (fU _ _ e.1).1);simp only[I1];omega
 ·exact h
def KB(id:Int)(o:bx):Bool:=decide (o.Id=id)
def qD(h:ab)(id:Int):Int:=df (KB id) h.Objs
def Ga(a:Int)(l:a8):Bool:=decide (l.Page*16=a)
def x5(h:ab)(a:Int):Int:=df (Ga a) h.Larges
def ny(h:ab)(a:eD):Prop:=0<=a.Thread/\a.Thread<=h.Caches.length - 1
instance (h:ab) (a:eD):Decidable (ny h a):=by unfold ny;infer_instance
def ul(w:bH)(a:eD)(i:Nat):bH × Int:=
 if w.Heap.Kernel.Calls=100000 then(w,6)
 else if ny w.Heap a then(⟨(freeT w.Heap a.Thread.toNat i).1,if(freeT w.Heap a.Thread.toNat i).2=0 then kH w.Ref (nth w.Heap.Objs i).Id else w.Ref⟩,(freeT w.Heap a.Thread.toNat i).2)
 else(w,1)
def qE(w:bH)(a:eD)(i:Nat):bH × Int:=
 if ¬(0<=a.At/\a.At<=(nth w.Heap.Objs i).Size - 1) then(w,90)
 else if(ar w.Heap.Kernel.Machine.Table (((nth w.Heap.Objs i).Addr+a.At) / 16)).Mode=1 then(w,2)
 else if ¬(0<=a.Value/\a.Value<=999) then(w,3)
 else(⟨{w.Heap with Kernel:=kG w.Heap.Kernel ((nth w.Heap.Objs i).Addr+a.At) a.Value},eO w.Ref (nth w.Heap.Objs i).Id a.At a.Value⟩,0)
def kA(h:ab)(i:Nat)(n:Int):Prop:=0<=x5 h (nth h.Objs i).Addr/\9<=n/\n<=(nth h.Larges (x5 h (nth h.Objs i).Addr).toNat).Size
instance (h:ab) (i:Nat) (n:Int):Decidable (kA h i n):=by unfold kA;infer_instance
def ui(w:bH)(a:eD)(i:Nat):bH × Int:=
 if w.Heap.Kernel.Calls≠100000/\kA w.Heap i a.Value then(⟨trimH w.Heap i (x5 w.Heap (nth w.Heap.Objs i).Addr).toNat a.Value,fX w.Ref (nth w.Heap.Objs i).Id a.Value⟩,0) else(w,90)
def pQ(w:bH)(a:eD)(i:Nat):bH × Int:=if a.Kind=2 then ul w a i else if a.Kind=3 then qE w a i else ui w a i
def gU(h:ab)(a:eD):ab × Int:=
 if a.Kind=5 then(if ny h a/\0<(nth h.Mail.Buffers a.Thread.toNat).length then({h with Mail:=fB h.Mail a.Thread.toNat},0) else(h,90))
 else if ¬(h.Kernel.Calls≠100000/\ny h a) then(h,0)
 else if a.Kind=6 then(collect h a.Thread.toNat,((nth h.Mail.Inbox a.Thread.toNat).length:Nat))
 else((flushN a.Thread.toNat h 4).1,((flushN a.Thread.toNat h 4).2:Nat))
def rg(h:ab)(n:Int):ab × Int:=if h.Kernel.Calls≠100000/\(0<=n/\n<=1000)/\h.Clock+n<=1000000 then(tick h n,((mw h n).length:Nat)) else(h,0)
def tJ(h:ab):Bool:=h.Meshing&&decide (h.Kernel.Calls<=99000)
def mW(h:ab):Nat->ab × Nat
 | 0=>(h,0)
 | i+1=>if tJ (mW h i).1=true then(mStep (mW h i).1,(mW h i).2+1) else mW h i
def qi(h:ab):ab × Int:=if h.Meshing=true then(h,90) else((started h).1,if(started h).2=true then 0 else 90)
def qW(w:bH)(a:eD):bH × Int:=
 if a.Kind=1 then(⟨(gq w.Heap a.Thread a.N).1,if(gq w.Heap a.Thread a.N).2.2=0 then jZ w.Ref a.N else w.Ref⟩,(gq w.Heap a.Thread a.N).2.2)
 else if a.Kind=2\/a.Kind=3\/a.Kind=4 then(if qD w.Heap a.N<0 then(w,90) else pQ w a (qD w.Heap a.N).toNat)
 else if a.Kind=5\/a.Kind=6\/a.Kind=7 then(⟨(gU w.Heap a).1,w.Ref⟩,(gU w.Heap a).2)
 else if a.Kind=8 then(⟨(rg w.Heap a.N).1,w.Ref⟩,(rg w.Heap a.N).2)
 else if a.Kind=9 then(⟨(qi w.Heap).1,w.Ref⟩,(qi w.Heap).2)
 else if a.Kind=10/\0<=a.N/\a.N<=50 then(⟨(mW w.Heap a.N.toNat).1,w.Ref⟩,((mW w.Heap a.N.toNat).2:Nat))
 else(w,90)
structure tz(w:bH)(m:Nat):Prop where
 inv:bn w.Heap []
 ji:JI w.Heap
 ref:qX w.Ref m
theorem tz.more{w:bH}{m n:Nat}(h:tz w m)(a:m<=n):tz w n:=⟨h.inv,h.ji,h.ref.more a⟩
theorem tz.jk{w:bH}{m:Nat}(h:tz w m){g:ab}{r:ax}(a:bn g []/\JK w.Heap g)(b:qX r m):tz ⟨g,r⟩ m:=⟨a.1,h.ji.keep a.1 a.2,b⟩
theorem lW{h:ab}{E:List Int}(a:bn h E){o:bx}(p:o∈h.Objs){k:Int}(D:0<=k/\k<=o.Size - 1):(ar h.Kernel.Machine.Table ((o.Addr+k) / 16)).Mode≠0/\0<=o.Addr/\o.Addr+k<512:=by
 rcases a.oow o p with⟨s,g,q,r⟩|⟨l,i,F,G⟩
 ·have b:=a.L.sok s g
  have t:=aD b;obtain⟨u,w,y⟩:=a.mapped g;have d:=bM t.2.2;obtain⟨H,J,A,-⟩:=q;have f:o.Size<=csz s.Class:=by
   have K:=mJ (n:=o.Size) ω;rw[r];have:o.Size=1\/o.Size=2\/o.Size=3\/o.Size=4\/o.Size=5\/o.Size=6\/o.Size=7\/o.Size=8:=ω
   rcases this with e|e|e|e|e|e|e|e<;>rw[e]<;>decide
  have B:(o.Addr+k) / 16=s.Page:=by
   rcases d with e|e|e|e<;>rw[e]at A f<;>omega
  rw[B];refine⟨?_,ω,ω⟩;unfold ar;rw[C8 ⟨u,w⟩];exact y
 ·obtain⟨j,C,rfl⟩:=aW i
  have c:=a.L.lok _ i;unfold bO at c;rw[C0]at c;exact⟨nk a C ⟨ω,ω⟩,ω,ω⟩
theorem tz.obj{w:bH}{m:Nat}(h:tz w m)(a:eD){i:Nat}(b:i<w.Heap.Objs.length):tz (pQ w a i).1 m:=by
 unfold pQ;split
 ·unfold ul
  split
  ·exact h
  split
  ·rename_i d
   unfold ny at d;refine h.jk (h.inv.freeT b ω) ?_;split
   ·exact h.ref.free _
   ·exact h.ref
  ·exact h
 split
 ·unfold qE
  split
  ·exact h
  rename_i l;split
  ·exact h
  split
  ·exact h
  rename_i n;exact h.jk (h.inv.store (lW h.inv (am b) ω).1 ω) (h.ref.store _ _ _)
 ·unfold ui
  split
  ·rename_i e
   obtain⟨-,f,g⟩:=e;obtain⟨j,k,o⟩:=fU _ _ f;have c:=of_decide_eq_true k;exact h.jk (h.inv.trimH b j (c.symm.trans (Int.mul_comm _ _)) g) (h.ref.trim _ _)
  ·exact h
theorem tz.thread{w:bH}{m:Nat}(h:tz w m)(a:eD):tz ⟨(gU w.Heap a).1,w.Ref⟩ m:=by
 unfold gU;split
 ·split
  ·rename_i e
   obtain⟨b,i⟩:=e;unfold ny at b;exact h.jk (g:={w.Heap with Mail:=fB w.Heap.Mail a.Thread.toNat}) ⟨h.inv.deliv (by rw[<-h.inv.nc];omega) i,JK.eq rfl rfl rfl rfl⟩ h.ref
  ·exact h
 split
 ·exact h
 rename_i e;have e:=Classical.not_not.1 e;obtain⟨-,b⟩:=e;unfold ny at b;split
 ·exact h.jk (g:=collect w.Heap a.Thread.toNat) (h.inv.collect ω) h.ref
 ·have c:a.Thread.toNat<w.Heap.Caches.length:=ω
  have d:=(jY h.inv c (Q2 4)).1;have f:=JK.flushN h.inv c (Q2 4);generalize flushN a.Thread.toNat w.Heap 4=r at d f |-;exact h.jk (g:=r.1) ⟨d,f⟩ h.ref
theorem yW{h:ab}(a:bn h [])(b:JI h):∀n,bn (mW h n).1 []/\JI (mW h n).1
 | 0=>⟨a,b⟩
 | n+1=>by
  obtain⟨c,d⟩:=yW a b n;unfold mW;split
  ·rename_i e
   unfold tJ at e;rw[I0]at e;exact c.mStep d e.1
  ·exact⟨c,d⟩
theorem tz.act{w:bH}{m:Nat}(h:tz w m)(a:eD):tz (qW w a).1 (m+1):=by
 unfold qW;split
 ·have b:=Hb (t:=a.Thread) (size:=a.N) h.inv
  refine⟨b.1,h.ji.keep b.1 b.2,?_⟩;show qX (if _ then _ else _) (m+1);split
  ·exact h.ref.alloc _
  ·exact h.ref.more ω
 refine tz.more (m:=m) ?_ ω;split
 ·split
  ·exact h
  ·rename_i e
   exact h.obj a (fU _ _ (by unfold qD at e;omega)).1
 split
 ·exact h.thread a
 split
 ·unfold rg
  split
  ·rename_i e
   exact h.jk (h.inv.tick e.2.1.1 e.2.2) h.ref
  ·exact h
 split
 ·unfold qi
  split
  ·exact h
  ·rename_i e
   have b:=EX h.inv (by simpa using e);exact⟨b.1,b.2,h.ref⟩
 split
 ·have b:=yW h.inv h.ji a.N.toNat
  exact⟨b.1,b.2,h.ref⟩
 ·exact h
structure cK where
 Pages:Nat
 Frames:Nat
 Threads:Nat
 Limit:Int
 Refuse:List Int
deriving Inhabited
structure GJ(c:cK):Prop where
 p:1<=c.Pages/\c.Pages<=32
 f:1<=c.Frames/\c.Frames<=32
 t:1<=c.Threads/\c.Threads<=4
 l:0<=c.Limit/\c.Limit<=1000
 r:c.Refuse.length<=40/\∀x∈c.Refuse,0<=x
def world0(c:cK):bH:=⟨uk c.Pages c.Frames c.Threads c.Limit c.Refuse,{Next:=1,Objs:=[]}⟩
def A7(c:cK)(acts:List eD):Nat->bH × List Int
 | 0=>(world0 c,[])
 | i+1=>((qW (A7 c acts i).1 (nth acts i)).1,(A7 c acts i).2++[(qW (A7 c acts i).1 (nth acts i)).2])
theorem HF{c:cK}(h:GJ c):tz (world0 c) 0:=
 ⟨Bk h.p h.f h.t h.l h.r,JI.no rfl,⟨Q2 _,λo a=>(by cases a),by show(0:Int)<=1;omega,by show(1:Int)<=((0:Nat):Int)+1;omega⟩⟩
theorem zd{c:cK}(h:GJ c)(acts:List eD):∀n,tz (A7 c acts n).1 n
 | 0=>HF h
 | n+1=>(zd h acts n).act _
theorem H0(t:aH)(d:aH.sml t):ao Tryz.prog 56 false [.val (some 1) (aH.enc .imm t)] .one [I (dN t)]:=by
 have k:t.Entries.length<=1048576:=d.1;refine fO 22 [] Tryz.func56 rfl ?_
 repeat'(first|refine gO ?_|fail)
 (conv=>whnf)
 refine CD (ι:=Nat) (λi=>[(1,.hold .box (aH.enc .imm t)),(3,.hold .one [I (de bX t.Entries i)]),(4,.hold .one [I ((i:Nat):Int)])]) (λi=>i<=t.Entries.length) (λi=>t.Entries.length - i) (0) ?_ (R0 _) λi g=>?_
 ·exact wB
 have h:=eZ (f:=bX) (xs:=t.Entries) (b:=1) (λe _=>t8 e) i g;by_cases j:i<t.Entries.length
 ·have c:=ah j
  have a:de bX t.Entries (i+1)=de bX t.Entries i+bX (nth t.Entries i):=rfl;by_cases e:(nth t.Entries i).Mode=0
  ·rw[show bX (nth t.Entries i)=0 by unfold bX;rw[C7 (by simpa using e)]]at a
   repeat'(first|refine gA ?_|(conv=>whnf);first|with_reducible refine CA (aa c) ?_)
   ((conv=>whnf);refine CB (i+1) ω ω ?_;(exact wB))
  ·rw[show bX (nth t.Entries i)=1 by unfold bX;rw[C8 e]]at a
   repeat'(first|refine gA ?_|(conv=>whnf);first|with_reducible refine CA (aa c) ?_)
   ((conv=>whnf);refine CB (i+1) ω ω ?_;(exact wB))
 ·obtain rfl:i=t.Entries.length:=ω
  repeat'(first|refine gD ?_|fail)
  rfl
theorem rW(t:aH)(d:aH.sml t):ao Tryz.prog 85 false [.val (some 1) (aH.enc .imm t)] .one [I (dN t)]:=by
 have k:t.Entries.length<=1048576:=d.1;refine fO 20 [] Tryz.func85 rfl ?_
 repeat'(first|refine gO ?_|fail)
 (conv=>whnf)
 refine CD (ι:=Nat) (λi=>[(3,.hold .one [I (de bX t.Entries i)]),(7,.hold .one (uI .imm t.Entries)),(8,.hold .one [I (t.Entries.length)]),(9,.hold .one [I ((i:Nat):Int)])]) (λi=>i<=t.Entries.length) (λi=>t.Entries.length - i) (0) ?_ (R0 _) λi g=>?_
 ·exact wB
 have h:=eZ (f:=bX) (xs:=t.Entries) (b:=1) (λe _=>t8 e) i g;by_cases j:i<t.Entries.length
 ·have c:=ah j
  have a:de bX t.Entries (i+1)=de bX t.Entries i+bX (nth t.Entries i):=rfl;by_cases e:(nth t.Entries i).Mode=0
  ·rw[show bX (nth t.Entries i)=0 by unfold bX;rw[C7 (by simpa using e)]]at a
   repeat'(first|refine gA ?_|(conv=>whnf);first|with_reducible refine CA (aa c) ?_)
   ((conv=>whnf);refine CB (i+1) ω ω ?_;(exact wB))
  ·rw[show bX (nth t.Entries i)=1 by unfold bX;rw[C8 e]]at a
   repeat'(first|refine gA ?_|(conv=>whnf);first|with_reducible refine CA (aa c) ?_)
   ((conv=>whnf);refine CB (i+1) ω ω ?_;(exact wB))
 ·obtain rfl:i=t.Entries.length:=ω
  repeat'(first|refine gD ?_|fail)
  rfl
theorem HO(s:au)(a:aY s=true):ao Tryz.prog 394 false [.val (some 3) (au.enc .imm s)] .one (aF .own (pw s 16)):=by
 have b:=eR s;rw[a]at b;have g:=aD a;have n:=bM g.2.2;refine fO 27 [(5,7,[14,15,16,17,18,19,20])] Tryz.func394 rfl ?_ (.inr (bJ _))
 repeat'(first|refine gO ?_|fail)
 (conv=>whnf)
 refine CD (ι:=Nat) (λi=>[(1,.hold .box (au.enc .imm s)),(3,.hold .one (aF .own (pw s i))),(4,.hold .one [I ((i:Nat):Int)])]) (λi=>i<=16) (λi=>16 - i) (0) ?_ (R0 _) λi o=>?_
 ·exact wB
 have h:=rk s i;by_cases j:i<16
 ·have k:=BE a j
  have d:IntKind.i64.wrap (((i:Nat):Int).tdiv (csz s.Class))=((i:Nat):Int) / csz s.Class:=by rw[km ω];exact ek ω ω
  have c:=gl s.Bits (((i:Nat):Int) / csz s.Class) (dM a).2;cases e:mi s i
  ·rw[show aQ s.Bits (((i:Nat):Int) / csz s.Class)=false from e]at c
   repeat'(first|refine gD ?_|(conv=>whnf);first|refine C6 (b) ?_|refine C6 (cR _) ?_|refine CL ω ?_|refine CJ d ?_|refine C6 (c) ?_)
   ((conv=>whnf);refine CB (i+1) ω ω ?_)
   rw[FK e];exact wB
  ·rw[show aQ s.Bits (((i:Nat):Int) / csz s.Class)=true from e]at c
   repeat'(first|refine gD ?_|(conv=>whnf);first|refine C6 (b) ?_|refine C6 (cR _) ?_|refine CL ω ?_|refine CJ d ?_|refine C6 (c) ?_|refine CP co (λr l=>by rw[Z0.1 l];rfl) (by simp[aV,d8]) (by simp;omega) (by simp only[W0];exact wT (by simp;omega) (by decide)) rfl ?_)
   ((conv=>whnf);refine CB (i+1) ω ω ?_)
   rw[BX e]
   (repeat'(first|exact trivial|rfl|exact CI rfl (CI (T0 (C.s d9.own) (by simp[rI])) trivial)|refine CI ?_ ?_))
 ·obtain rfl:i=16:=ω
  repeat'(first|refine gD ?_|(conv=>whnf);first|refine C6 (b) ?_)
  rfl
theorem tU(s:au)(a:aY s=true):ao Tryz.prog 181 false [.val (some 3) (au.enc .imm s)] .one (aF .own (pw s 16)):=by
 have c:=gQ s;rw[a]at c;have g:=aD a;have n:=bM g.2.2;refine fO 26 [(7,7,[13,14,15,16,17,18,19])] Tryz.func181 rfl ?_ (.inr (bJ _))
 repeat'(first|refine gO ?_|(conv=>whnf);first|refine C6 (c) ?_)
 (conv=>whnf)
 refine CD (ι:=Nat) (λi=>[(1,.hold .box (au.enc .imm s)),(3,.hold .one (aF .own (pw s i))),(4,.hold .one [I ((i:Nat):Int)])]) (λi=>i<=16) (λi=>16 - i) (0) ?_ (R0 _) λi o=>?_
 ·exact wB
 have h:=rk s i;by_cases j:i<16
 ·have k:=BE a j
  have d:IntKind.i64.wrap (((i:Nat):Int).tdiv (csz s.Class))=((i:Nat):Int) / csz s.Class:=by rw[km ω];exact ek ω ω
  have b:=lR s.Bits (((i:Nat):Int) / csz s.Class) (dM a).2;cases e:mi s i
  ·rw[show aQ s.Bits (((i:Nat):Int) / csz s.Class)=false from e]at b
   repeat'(first|refine gD ?_|(conv=>whnf);first|refine C6 (ci _) ?_|refine CL ω ?_|refine CJ d ?_|refine C6 (b) ?_)
   ((conv=>whnf);refine CB (i+1) ω ω ?_)
   rw[FK e];exact wB
  ·rw[show aQ s.Bits (((i:Nat):Int) / csz s.Class)=true from e]at b
   repeat'(first|refine gD ?_|(conv=>whnf);first|refine C6 (ci _) ?_|refine CL ω ?_|refine CJ d ?_|refine C6 (b) ?_|refine CP co (λr l=>by rw[Z0.1 l];rfl) (by simp[aV,d8]) (by simp;omega) (by simp only[W0];exact wT (by simp;omega) (by decide)) rfl ?_)
   ((conv=>whnf);refine CB (i+1) ω ω ?_)
   rw[BX e]
   (repeat'(first|exact trivial|rfl|exact CI rfl (CI (T0 (C.s d9.own) (by simp[rI])) trivial)|refine CI ?_ ?_))
 ·obtain rfl:i=16:=ω
  repeat'(first|refine gD ?_|fail)
  rfl
theorem v7(sp:List au)(la:List a8)(c:du sp)(d:dr la)(a:bf sp la=true):ao Tryz.prog 86 false [.val none (cg .imm sp),.val none (bS .imm la)] .one [I (jP sp la)]:=by
 have o:=c.1;have p:=d.1;have j:=kO sp la c d;rw[a]at j;have q:=oR.of a;have e:=MO (cS a).2.1;refine fO 38 [] Tryz.func86 rfl ?_
 repeat'(first|refine gO ?_|(conv=>whnf);first|refine C6 (j) ?_)
 (conv=>whnf)
 refine CD (ι:=Nat) (λi=>[(1,.hold .one (bS .imm la)),(5,.hold .one [I (de GT sp i)]),(14,.hold .one (cg .imm sp)),(15,.hold .one [I (sp.length)]),(16,.hold .one [I ((i:Nat):Int)])]) (λi=>i<=sp.length) (λi=>sp.length - i) (0) ?_ (R0 _) λi r=>?_
 ·exact wB
 have t:=eZ (f:=GT) (xs:=sp) (b:=16) (λs _=>KX s) i r;by_cases l:i<sp.length
 ·have g:=ah l
  have h:de GT sp (i+1)=de GT sp i+((pw (nth sp i) 16).length:Nat):=rfl;have u:=rk (nth sp i) 16
  repeat'(first|refine gD ?_|(conv=>whnf);first|with_reducible refine CA (aa g) ?_|refine C6 (tU (nth sp i) (q.sok _ (am l))) ?_)
  ((conv=>whnf);refine CB (i+1) ω ω ?_;(exact wB))
 ·obtain rfl:i=sp.length:=ω
  have w:de (·.Size) la 0=0:=rfl
  repeat'(first|refine gD ?_|fail)
  (conv=>whnf)
  refine CD (ι:=Nat) (λk=>[(5,.hold .one [I (de GT sp sp.length+de (·.Size) la k)]),(26,.hold .one (bS .imm la)),(27,.hold .one [I (la.length)]),(28,.hold .one [I ((k:Nat):Int)])]) (λk=>k<=la.length) (λk=>la.length - k) (0) ?_ (R0 _) λk y=>?_
  ·exact wB
  have B:=eZ (f:=(·.Size)) (xs:=la) (b:=1000) e k y;by_cases n:k<la.length
  ·have g:=ah n
   have C:=e _ (am n);have h:de (·.Size) la (k+1)=de (·.Size) la k+(nth la k).Size:=rfl
   repeat'(first|refine gD ?_|(conv=>whnf);first|with_reducible refine CA (aa g) ?_)
   ((conv=>whnf);refine CB (k+1) ω ω ?_;(exact wB))
  ·obtain rfl:k=la.length:=ω
   repeat'(first|refine gD ?_|fail)
   rfl
theorem xw(h:ab):ao Tryz.prog 66 false [.val (some 24) (ab.enc .imm h)] .one [I (dK h:Nat)]:=by
 refine fO 9 [] Tryz.func66 rfl ?_
 repeat'(first|refine gO ?_|fail)
 rfl
def jA(a:Int)(o:bx):Bool:=decide (o.Addr=a)
def LG(a:Int)(l:List Int):Bool:=decide (a∈l)
def iy(a:Int)(c:aA):Bool:=c.Lists.any (LG a)
theorem xJ(o:bx)(a:Int):ao Tryz.prog 102 false [.val (some 4) (bx.enc .imm o),.ptr [I a]] .one [B (jA a o)]:=by
 refine fO 8 [] Tryz.func102 rfl ?_
 repeat'(first|refine gO ?_|fail)
 exact T0 (λz=>[B z]) ((by unfold jA;rw[Y3];simp))
theorem D5(h:ab)(a:Int)(c:h.Objs.length<=1048576):ao Tryz.prog 29 false [.val (some 24) (ab.enc .imm h),.val none [I a]] .one [I (df (jA a) h.Objs)]:=by
 refine fO 9 [] Tryz.func29 rfl ?_
 repeat'(first|refine gO ?_|(conv=>whnf);first|refine Cq.mk (rx (some 4) (bx.enc .imm) (jA a) h.Objs) (xJ default a).has (λL k rcs b=>?_) ?_|refine C6 (oS h.Objs (jA a) ω) ?_)
 ·obtain⟨y,-,rfl,rfl,rfl⟩:=b
  exact xJ y a
 ·rfl
theorem Ag(q:bF)(a:Int)(b:q.Lst.length<=1048576):ao Tryz.prog 83 false [.val (some 2) (bF.enc .imm q),.val none [I a]] .one [B (q.Lst.any (dl a))]:=by
 refine fO 9 [] Tryz.func83 rfl ?_
 repeat'(first|refine gO ?_|(conv=>whnf);first|refine C6 (pf q.Lst a ω) ?_)
 rfl
theorem vr(xs:List (List Int))(pr:List Int->Bool)(g:xs.length<=9223372036854775807):ao Tryz.prog 251 false [.val none (iq .imm xs),.fn (lg Tryz.prog (rx none (aF .imm) pr xs))] .one [I (df pr xs)]:=by
 refine fO 19 [] Tryz.func251 rfl ?_
 repeat'(first|refine gO ?_|fail)
 (conv=>whnf)
 refine CD (ι:=Nat) (λi=>[(0,.hold .one (iq .imm xs)),(1,.fv (lg Tryz.prog (rx none (aF .imm) pr xs))),(7,.hold .one [I xs.length]),(8,.hold .one [I (i:Nat)])]) (λi=>i<=xs.length/\∀(j:Nat)(z:List Int),j<i->xs[j]? = some z->pr z=false) (λi=>xs.length - i) 0 ?_ ⟨R0 _,λj z h=>ω⟩ λi d=>?_
 ·exact wB
 ·obtain⟨d,b⟩:=d
  by_cases c:i<xs.length
  ·obtain⟨y,a⟩ : ∃y,xs[i]? = some y:=⟨_,U1 c⟩
   repeat'(first|refine gD ?_|(conv=>whnf);first|with_reducible refine CA (aa a) ?_|refine Fv.mk (k:=.one) (rcs:=[B (pr y)]) ⟨y,Q1 a,rfl,rfl,rfl⟩ ?_|refine Bf.P (λe=>?_) (λe=>?_))
   ·exact T0 (λz=>[I z]) (d2 a ‹_› b).symm
   ·(conv=>whnf)
    refine CB (i+1) ⟨ω,cX a (by assumption) b⟩ ω ?_;exact wB
  ·repeat'(first|refine gD ?_|fail)
   exact T0 (λz=>[I z]) (eB ω b).symm
theorem rd(xs:List (List Int))(pr:List Int->Bool)(a:xs.length<=9223372036854775807):ao Tryz.prog 177 false [.val none (iq .imm xs),.fn (lg Tryz.prog (rx none (aF .imm) pr xs))] .one [B (xs.any pr)]:=by
 refine fO 9 [] Tryz.func177 rfl ?_
 repeat'(first|refine gO ?_|(conv=>whnf);first|refine C6 (vr xs pr a) ?_)
 exact T0 (λz=>[B z]) (fY pr xs)
theorem tH(xs:List aA)(pr:aA->Bool)(g:xs.length<=9223372036854775807):ao Tryz.prog 176 false [.val none (jm .imm xs),.fn (lg Tryz.prog (rx (some 1) (aA.enc .imm) pr xs))] .one [I (df pr xs)]:=by
 refine fO 19 [] Tryz.func176 rfl ?_
 repeat'(first|refine gO ?_|fail)
 (conv=>whnf)
 refine CD (ι:=Nat) (λi=>[(0,.hold .one (jm .imm xs)),(1,.fv (lg Tryz.prog (rx (some 1) (aA.enc .imm) pr xs))),(7,.hold .one [I xs.length]),(8,.hold .one [I (i:Nat)])]) (λi=>i<=xs.length/\∀(j:Nat)(z:aA),j<i->xs[j]? = some z->pr z=false) (λi=>xs.length - i) 0 ?_ ⟨R0 _,λj z h=>ω⟩ λi d=>?_
 ·exact wB
 ·obtain⟨d,b⟩:=d
  by_cases c:i<xs.length
  ·obtain⟨y,a⟩ : ∃y,xs[i]? = some y:=⟨_,U1 c⟩
   repeat'(first|refine gD ?_|(conv=>whnf);first|with_reducible refine CA (aa a) ?_|refine Fv.mk (k:=.one) (rcs:=[B (pr y)]) ⟨y,Q1 a,rfl,rfl,rfl⟩ ?_|refine Bf.P (λe=>?_) (λe=>?_))
   ·exact T0 (λz=>[I z]) (d2 a ‹_› b).symm
   ·(conv=>whnf)
    refine CB (i+1) ⟨ω,cX a (by assumption) b⟩ ω ?_;exact wB
  ·repeat'(first|refine gD ?_|fail)
   exact T0 (λz=>[I z]) (eB ω b).symm
theorem pY(xs:List aA)(pr:aA->Bool)(a:xs.length<=9223372036854775807):ao Tryz.prog 80 false [.val none (jm .imm xs),.fn (lg Tryz.prog (rx (some 1) (aA.enc .imm) pr xs))] .one [B (xs.any pr)]:=by
 refine fO 9 [] Tryz.func80 rfl ?_
 repeat'(first|refine gO ?_|(conv=>whnf);first|refine C6 (tH xs pr a) ?_)
 exact T0 (λz=>[B z]) (fY pr xs)
theorem sW(l:List Int)(a:Int)(b:l.length<=1048576):ao Tryz.prog 178 false [.val none (aF .imm l),.ptr [I a]] .one [B (LG a l)]:=by
 refine fO 7 [] Tryz.func178 rfl ?_
 repeat'(first|refine gO ?_|(conv=>whnf);first|refine C6 (od l a ω) ?_)
 rfl
theorem wY(c:aA)(a:Int)(b:aA.sml c):ao Tryz.prog 82 false [.val (some 1) (aA.enc .imm c),.val none [I a]] .one [B (iy a c)]:=by
 have g:=b.1;refine fO 9 [] Tryz.func82 rfl ?_
 repeat'(first|refine gO ?_|(conv=>whnf);first|refine Cq.mk (rx none (aF .imm) (LG a) c.Lists) (sW [] a (R0 _)).has (λL k rcs d=>?_) ?_|refine C6 (rd c.Lists (LG a) ω) ?_)
 ·obtain⟨y,e,rfl,rfl,rfl⟩:=d
  exact sW y a (b.2 y e)
 ·rfl
theorem ja(c:aA)(a:Int)(b:aA.sml c):ao Tryz.prog 81 false [.val (some 1) (aA.enc .imm c),.ptr [I a]] .one [B (iy a c)]:=by
 refine fO 7 [] Tryz.func81 rfl ?_
 repeat'(first|refine gO ?_|(conv=>whnf);first|refine C6 (wY c a b) ?_)
 rfl
theorem LR{h:ab}(f:dB h=true){a:Int}(d:a∈gv h.Spans h.Larges)(h1:df (jA a) h.Objs<0)(g:h.Caches.any (iy a)=false)(i:h.Quar.Lst.any (dl a)=false):a∈aC h.Mail:=by
 obtain⟨-,j,-⟩:=lL f;have k:=oR.of j;have n:a∈gn h.Spans h.Larges:=by
  unfold gv sorted at d;rw[List.mem_mergeSort,Db k]at d;exact d
 have b:=Hr f n;unfold holders at b;simp only[O2]at b;rcases b with((b|b)|b)|b
 ·obtain⟨o,p,rfl⟩:=T3.1 b
  have e:=fY (jA o.Addr) h.Objs;rw[Q0 ω]at e;have:=List.any_eq_false.1 e.symm o p;unfold jA at this;simp at this
 ·unfold bT at b
  obtain⟨c,r,b⟩:=List.mem_flatMap.1 b;obtain⟨l,t,b⟩:=List.mem_flatten.1 b;have e:=List.any_eq_false.1 g c r;exact absurd (C3.2 ⟨l,t,O0 b⟩) e
 ·obtain⟨q,u,rfl⟩:=T3.1 b
  have e:=List.any_eq_false.1 i q u;unfold dl at e;simp at e
 ·exact b
theorem EW(h:ab)(F:ab.sml h)(B:dB h=true):ao Tryz.prog 21 false [.val (some 24) (ab.enc .imm h)] .one (aF .own []):=by
 obtain⟨-,G,-,-,H,-⟩:=lL B;have J:=j8 H;obtain⟨-,-,l,n,⟨q,-⟩,⟨K,b⟩,r,t,-⟩:=F;have u:h.Quar.Lst.length<=1048576:=t.1;have M:=ne h.Spans h.Larges l n G;have N:=xQ l.1 n.1;refine fO 53 [] Tryz.func21 rfl ?_ (.inr (bJ _))
 repeat'(first|refine gO ?_|(conv=>whnf);first|refine C6 (M) ?_|refine C6 (lh h.Mail r) ?_)
 (conv=>whnf)
 refine CD (ι:=Nat) (λi=>[(1,.hold .box (ab.enc .imm h)),(3,.hold .one (aF .own [])),(4,.hold .one (aF .own (aC h.Mail))),(16,.hold .one (aF .own (gv h.Spans h.Larges))),(17,.hold .one [I ((gv h.Spans h.Larges).length)]),(18,.hold .one [I ((i:Nat):Int)])]) (λi=>i<=(gv h.Spans h.Larges).length) (λi=>(gv h.Spans h.Larges).length - i) (0) ?_ (R0 _) λi S=>?_
 ·exact wB
 by_cases C:i<(gv h.Spans h.Larges).length
 ·have c:=ah C
  have d:=LR B (am C);generalize nth (gv h.Spans h.Larges) i=a at c d;have p:=D5 h a q;have o:=pY h.Caches (iy a) ω;have w:=Ag h.Quar a u;have E:=od (aC h.Mail) a ω;by_cases O:df (jA a) h.Objs<0
  ·cases P:h.Caches.any (iy a)<;>rw[P]at o d
   ·cases Q:h.Quar.Lst.any (dl a)<;>rw[Q]at w d
    ·rw[O0 (d O rfl rfl)]at E
     repeat'(first|refine gD ?_|(conv=>whnf);first|with_reducible refine CA (aa c) ?_|refine CG rfl (aa c) rfl ?_|refine Cq.mk (rx (some 1) (aA.enc .imm) (iy a) h.Caches) (ja default a ⟨R0 _,λ_ e=>by cases e⟩).has (λL k rcs g=>?_) ?_|refine C6 (o) ?_|refine C6 (p) ?_|refine C6 (w) ?_|refine CF (E) ⟨⟨rfl,dS _⟩,⟨rfl,rfl⟩,trivial⟩ ?_)
     ·obtain⟨y,j,rfl,rfl,rfl⟩:=g
      exact ja y a (b y j)
     ·((conv=>whnf);refine CB (i+1) ω ω ?_;(exact wB))
    ·repeat'(first|refine gD ?_|(conv=>whnf);first|with_reducible refine CA (aa c) ?_|refine CG rfl (aa c) rfl ?_|refine Cq.mk (rx (some 1) (aA.enc .imm) (iy a) h.Caches) (ja default a ⟨R0 _,λ_ e=>by cases e⟩).has (λL k rcs g=>?_) ?_|refine C6 (o) ?_|refine C6 (p) ?_|refine C6 (w) ?_)
     ·obtain⟨y,j,rfl,rfl,rfl⟩:=g
      exact ja y a (b y j)
     ·((conv=>whnf);refine CB (i+1) ω ω ?_;(exact wB))
   ·repeat'(first|refine gD ?_|(conv=>whnf);first|with_reducible refine CA (aa c) ?_|refine CG rfl (aa c) rfl ?_|refine Cq.mk (rx (some 1) (aA.enc .imm) (iy a) h.Caches) (ja default a ⟨R0 _,λ_ e=>by cases e⟩).has (λL k rcs g=>?_) ?_|refine C6 (o) ?_|refine C6 (p) ?_)
    ·obtain⟨y,j,rfl,rfl,rfl⟩:=g
     exact ja y a (b y j)
    ·((conv=>whnf);refine CB (i+1) ω ω ?_;(exact wB))
  ·repeat'(first|refine gD ?_|(conv=>whnf);first|with_reducible (first|refine CA (aa c) ?_|refine Bf.D (λR=>?_) (λR=>?_))|refine CG rfl (aa c) rfl ?_|refine Cq.mk (rx (some 1) (aA.enc .imm) (iy a) h.Caches) (ja default a ⟨R0 _,λ_ e=>by cases e⟩).has (λL k rcs g=>?_) ?_|refine C6 (o) ?_|refine C6 (p) ?_)
   ·obtain⟨y,j,rfl,rfl,rfl⟩:=g
    exact ja y a (b y j)
   ·((conv=>whnf);refine CB (i+1) ω ω ?_;(exact wB))
 ·obtain rfl:i=(gv h.Spans h.Larges).length:=ω
  repeat'(first|refine gD ?_|fail)
  rfl
theorem tF(c:aA)(e:aA.sml c):ao Tryz.prog 90 false [.val (some 1) (aA.enc .imm c)] .one [I (ce c)]:=by
 have r:=e.1;cases d:bm c with
 | false=>
  have a:=mc c e;rw[d]at a;refine fO 26 [] Tryz.func90 rfl ?_
  repeat'(first|refine gO ?_|(conv=>whnf);first|refine C6 a ?_)
  exact T0 (λz=>[I z]) (by unfold ce;rw[d];rfl)
 | true=>
  obtain⟨o,g⟩:=kB d;have a:=mc c e;rw[d]at a;refine fO 26 [] Tryz.func90 rfl ?_
  repeat'(first|refine gO ?_|(conv=>whnf);first|refine C6 a ?_)
  (conv=>whnf)
  refine CD (ι:=Nat) (λi=>[(1,.hold .box (aA.enc .imm c)),(3,.hold .one [I (cY 0 (c.Lists.take i))]),(10,.hold .one (iq .imm c.Lists)),(11,.hold .one [I c.Lists.length]),(12,.hold .one [I (i:Nat)])]) (λi=>i<=c.Lists.length/\0<=cY 0 (c.Lists.take i)/\cY 0 (c.Lists.take i)<=64*(i:Nat)) (λi=>c.Lists.length - i) 0 ?_ ⟨R0 _,by simp[cY],by simp[cY]⟩ λi k=>?_
  ·exact wB
  ·obtain⟨k,p,q⟩:=k
   by_cases h:i<c.Lists.length
   ·obtain⟨l,b⟩ : ∃l,c.Lists[i]? = some l:=⟨_,U1 h⟩
    have j:=g l (Q1 b);have n:=Ka i;have t:=Fu j n.1 n.2
    repeat'(first|refine gD ?_|(conv=>whnf);first|with_reducible refine CA (aa b) ?_|refine C6 (ci (i:Nat)) ?_)
    (conv=>whnf)
    refine CB (i+1) ⟨ω,by rw[kS b];omega,by rw[kS b];omega⟩ ω ?_;rw[kS b];exact wB
   ·repeat'(first|refine gD ?_|fail)
    rw[O5 ω];exact T0 (λz=>[I z]) (by unfold ce;rw[d];rfl)
def pI(a:cv):List Int:=[a.Pages,a.Mapped,a.Frames,a.Held,a.Live,a.Cached,a.Stale,a.Posted]
def v8(a:cv)(i:Nat):Bool:=decide (0<=nth (pI a) i/\nth (pI a) i<=100000)
theorem Gp(a:cv):cw (pI a).length (v8 a)=true↔(0<=a.Pages/\a.Pages<=100000)/\(0<=a.Mapped/\a.Mapped<=100000)/\(0<=a.Frames/\a.Frames<=100000)/\(0<=a.Held/\a.Held<=100000)/\(0<=a.Live/\a.Live<=100000)/\(0<=a.Cached/\a.Cached<=100000)/\(0<=a.Stale/\a.Stale<=100000)/\(0<=a.Posted/\a.Posted<=100000):=by
 rw[cn];constructor
 ·intro h
  have f:∀i,i<8->0<=nth (pI a) i/\nth (pI a) i<=100000:=λi b=>by simpa[v8] using h i b
  exact⟨f 0 ω,f 1 ω,f 2 ω,f 3 ω,f 4 ω,f 5 ω,f 6 ω,f 7 ω⟩
 ·rintro⟨d,e,g,j,k,l,n,o⟩ i b
  have c:i<8:=b;unfold v8;rw[C0];obtain rfl|rfl|rfl|rfl|rfl|rfl|rfl|rfl:i=0\/i=1\/i=2\/i=3\/i=4\/i=5\/i=6\/i=7:=ω
  all_goals assumption
theorem DW{a:cv}(h:cw (pI a).length (v8 a)=false):ov a=false:=by
 unfold ov;refine Q0 λe=>?_
 have:=(Gp a).2 ⟨e.1,e.2.1,e.2.2.1,e.2.2.2.1,e.2.2.2.2.1,e.2.2.2.2.2.1,e.2.2.2.2.2.2.1,e.2.2.2.2.2.2.2.1⟩;rw[h]at this;cases this
theorem sB(a:cv):ao Tryz.prog 30 false [.val (some 8) (cv.enc .imm a)] .one [B (ov a)]:=by
 have k:(pI a).length=8:=rfl;refine fO 59 [] Tryz.func30 rfl ?_
 repeat'(first|refine gO ?_|(conv=>whnf);first|refine Ln.mk (show List.length _=8 from rfl) ?_)
 (conv=>whnf)
 refine CD (ι:=Nat) (λi=>[(1,.hold .box (cv.enc .imm a)),(21,.hold .one (aF .own (pI a))),(22,.hold .one [I (8)]),(23,.hold .one [I ((i:Nat):Int)])]) (λi=>i<=(pI a).length/\cw i (v8 a)=true) (λi=>(pI a).length - i) 0 ?_ ⟨R0 _,rfl⟩ λi g=>?_
 ·exact wB
 obtain⟨g,h⟩:=g;by_cases j:i<(pI a).length
 ·have b:=ah j
  have c:=aM (nth (pI a) i) 0 100000;rw[show decide (0<=nth (pI a) i/\nth (pI a) i<=100000)=v8 a i from rfl]at c;cases e:v8 a i<;>rw[e]at c
  ·repeat'(first|refine gD ?_|(conv=>whnf);first|with_reducible refine CA (aa b) ?_|refine CG rfl (aa b) rfl ?_|refine C6 (c) ?_)
   exact T0 (λz=>[B z]) ((DW (ca j e)).symm)
  ·repeat'(first|refine gD ?_|(conv=>whnf);first|with_reducible refine CA (aa b) ?_|refine CG rfl (aa b) rfl ?_|refine C6 (c) ?_)
   ((conv=>whnf);refine CB (i+1) ⟨ω,bE h e⟩ ω ?_;(exact wB))
 ·obtain rfl:i=(pI a).length:=ω
  have l:=(Gp a).1 h
  repeat'(first|refine gD ?_|(conv=>whnf);first|with_reducible (first|refine Bf.D (λd=>?_) (λd=>?_)|refine Bf.E (λd=>?_) (λd=>?_)))
  all_goals exact T0 (λz=>[B z]) ((by unfold ov;first|(symm;exact Q0 ω)|(symm;exact O0 ω)|exact decide_eq_decide.2 ω))
theorem D6{o:bx}(h:0<=aI o.Size):di o=csz (aI o.Size):=by unfold di;rw[C8 h]
theorem Ed{o:bx}(h:¬0<=aI o.Size):di o=o.Size:=by unfold di;rw[C7 h]
theorem wg(h:ab)(G:ab.sml h)(l:dB h=true):ao Tryz.prog 22 false [.val (some 24) (ab.enc .imm h)] .agg (cv.enc .own (bU h)):=by
 have cH:=Bz h G;rw[GY,l]at cH;obtain⟨k1,R,-,-,H,⟨k6,k6b⟩,-⟩:=lL l;have S:=jE H;have T:=j8 H;have u:=qx l;have w:=Eh l;obtain⟨n,-,o,p,⟨V,-⟩,⟨W,q⟩,y,r,-⟩:=G;have X:h.Quar.Lst.length<=1048576:=r.1;have J:=rW h.Kernel.Machine.Table n.1.2;have K:=tP h.Kernel.Machine.Frames n.1.1;have N:=v7 h.Spans h.Larges o p R;have P:=nR h.Quar.Lst r;have Y:=lh h.Mail y;have Z:de di h.Objs 0=0:=rfl;have hc0:de ce h.Caches 0=0:=rfl;have hp0:de (dJ h) (aC h.Mail) 0=0:=rfl;generalize hM:dN h.Kernel.Machine.Table=M at J;generalize hU:d3 h.Kernel.Machine.Frames=U at K;generalize hL:jP h.Spans h.Larges=L at N;generalize hQ:quarCells h.Quar.Lst h.Quar.Lst.length=Q at P;refine fO 103 [(3,23,[15,16,17,18,19,20,21,22,23,24,25,26,27,28,29,30,31,32,33,34,35,36,3]),(9,4,[49,50,51,52]),(15,4,[69,70,71,72]),(20,15,[84,85,86,87,88,89,90,91,92,93,94,95,96,97,98])] Tryz.func22 rfl ?_ (.inr (cv.enc_fr _))
 repeat'(first|refine gO ?_|(conv=>whnf);first|refine C6 (cH) ?_|refine C6 (xw h) ?_|refine C6 (J) ?_|refine C6 (K) ?_|refine C6 (N) ?_|refine C6 (P) ?_)
 (conv=>whnf)
 refine CD (ι:=Nat) (λi=>[(1,.hold .box (ab.enc .imm h)),(2,.hold .box ([I 0,I 0,I 0,I 0,I 0,I 0,I 0,I 0])),(3,.hold .box ([I (dK h:Nat),I M,I U,I L,I (de di h.Objs i),I 0,I Q,I 0])),(38,.hold .one (lv .imm h.Objs)),(39,.hold .one [I (h.Objs.length)]),(40,.hold .one [I ((i:Nat):Int)])]) (λi=>i<=h.Objs.length) (λi=>h.Objs.length - i) (0) ?_ (R0 _) λi t=>?_
 ·exact wB
 have hb:=eZ (f:=di) (xs:=h.Objs) (b:=1000) w i t;by_cases g:i<h.Objs.length
 ·have k:=ah g
  have hsz:=u _ (am g);have d:de di h.Objs (i+1)=de di h.Objs i+di (nth h.Objs i):=rfl;have B:=pV (aI (nth h.Objs i).Size);by_cases e:0<=aI (nth h.Objs i).Size
  ·rw[D6 e]at d
   repeat'(first|refine gD ?_|(conv=>whnf);first|with_reducible refine CA (aa k) ?_|refine C6 (j7 _) ?_|refine C6 (ci _) ?_)
   ((conv=>whnf);refine CB (i+1) ω ω ?_;(exact wB))
  ·rw[Ed e]at d
   repeat'(first|refine gD ?_|(conv=>whnf);first|with_reducible (first|refine CA (aa k) ?_|refine Bf.D (λhq=>?_) (λhq=>?_))|refine C6 (j7 _) ?_)
   ((conv=>whnf);refine CB (i+1) ω ω ?_;(exact wB))
 obtain rfl:i=h.Objs.length:=ω
 generalize hO:de di h.Objs h.Objs.length=O at hb
 repeat'(first|refine gD ?_|fail)
 (conv=>whnf)
 refine CD (ι:=Nat) (λi=>[(1,.hold .box (ab.enc .imm h)),(2,.hold .box ([I 0,I 0,I 0,I 0,I 0,I 0,I 0,I 0])),(3,.hold .box ([I (dK h:Nat),I M,I U,I L,I O,I (de ce h.Caches i),I Q,I 0])),(63,.hold .one (jm .imm h.Caches)),(64,.hold .one [I (h.Caches.length)]),(65,.hold .one [I ((i:Nat):Int)])]) (λi=>i<=h.Caches.length) (λi=>h.Caches.length - i) (0) ?_ (R0 _) λi t=>?_
 ·exact wB
 have C:=eZ (f:=ce) (xs:=h.Caches) (b:=256) (λc _=>oT c) i t;by_cases g:i<h.Caches.length
 ·have k:=ah g
  have hcb:=oT (nth h.Caches i);have d:de ce h.Caches (i+1)=de ce h.Caches i+ce (nth h.Caches i):=rfl
  repeat'(first|refine gD ?_|(conv=>whnf);first|with_reducible refine CA (aa k) ?_|refine C6 (tF (nth h.Caches i) (q _ (am g))) ?_)
  ((conv=>whnf);refine CB (i+1) ω ω ?_;(exact wB))
 obtain rfl:i=h.Caches.length:=ω
 generalize hC:de ce h.Caches h.Caches.length=CC at C
 repeat'(first|refine gD ?_|(conv=>whnf);first|refine C6 (Y) ?_)
 (conv=>whnf)
 refine CD (ι:=Nat) (λi=>[(1,.hold .box (ab.enc .imm h)),(2,.hold .box ([I 0,I 0,I 0,I 0,I 0,I 0,I 0,I 0])),(3,.hold .box ([I (dK h:Nat),I M,I U,I L,I O,I CC,I Q,I (de (dJ h) (aC h.Mail) i)])),(78,.hold .one (aF .own (aC h.Mail))),(79,.hold .one [I ((aC h.Mail).length)]),(80,.hold .one [I ((i:Nat):Int)])]) (λi=>i<=(aC h.Mail).length) (λi=>(aC h.Mail).length - i) (0) ?_ (R0 _) λi t=>?_
 ·exact wB
 have hb3:=eZ (f:=dJ h) (xs:=aC h.Mail) (b:=8) (λa _=>pV _) i t;by_cases g:i<(aC h.Mail).length
 ·have k:=ah g
  obtain⟨j,hj,E,F,ha0,ha1⟩:=Nw l (am g);have d:de (dJ h) (aC h.Mail) (i+1)=de (dJ h) (aC h.Mail) i+dJ h (nth (aC h.Mail) i):=rfl;rw[show dJ h (nth (aC h.Mail) i)=csz (nth h.Spans j).Class by unfold dJ;rw[F,C2]]at d;have hy:h.Spans[(denotes h.Spans h.Larges (nth (aC h.Mail) i)).Index.toNat]? = some (nth h.Spans j):=by rw[E,C2];exact ah hj
  have B:=pV (nth h.Spans j).Class
  repeat'(first|refine gD ?_|(conv=>whnf);first|with_reducible refine CA (aa k) ?_|refine CG rfl (aa k) rfl ?_|refine C6 (mb h.Spans h.Larges (nth (aC h.Mail) i) o p) ?_|refine CK ω (aa hy) ?_|refine C6 (ci _) ?_)
  ((conv=>whnf);refine CB (i+1) ω ω ?_;(exact wB))
 obtain rfl:i=(aC h.Mail).length:=ω
 repeat'(first|refine gD ?_|fail)
 unfold bU;rw[hM,hU,hL,hO,hC,hQ]
 rfl
theorem or64{z1 z2:Int}(h1:0<=z1/\z1<=65535)(a:0<=z2/\z2<=65535):IntKind.i64.wrap ((BitVec.ofInt IntKind.i64.bits z1 ||| BitVec.ofInt IntKind.i64.bits z2).toNat:Nat)=bor z1 z2:=by
 rw[BitVec.toNat_or,my ω,my ω];have b:=KN h1 a;unfold bor at b |-;exact ek ω ω
theorem xC(h:ab)(i:Nat)(n:du h.Spans)(d:xE h)(a:∀s∈h.Spans,aY s=true)(y:i<h.Spans.length):ao Tryz.prog 342 false [.val (some 24) (ab.enc .imm h),.val none [I (i:Nat)]] .one [I (gw h i)]:=by
 have F:=n.1;have G:=ah y;have g:=ur a y;have B:=aG ((i:Nat):Int) 0 ((h.Spans.length:Int) - 1);rw[O0 (show(0:Int)<=(i:Nat)/\((i:Nat):Int)<=(h.Spans.length:Int) - 1 by omega)]at B;have C:=gG h (nth h.Spans i).Page d;have o:=gu h (nth h.Spans i).Page;have H:dK h<=1048576:=d.1;have c:gw h i=jw h.Spans (aO h (nth h.Spans i).Page) (nth h.Spans i).Bits (aO h (nth h.Spans i).Page).length:=rfl;obtain⟨ps,q⟩ : ∃ps,aO h (nth h.Spans i).Page=ps:=⟨_,rfl⟩
 obtain⟨b,r⟩ : ∃b,(nth h.Spans i).Bits=b:=⟨_,rfl⟩
 rw[q]at C o c;rw[r]at c g;rw[c];have J:jw h.Spans ps b 0=b:=rfl;refine fO 63 [(4,7,[22,23,24,25,26,27,28]),(11,10,[43,44,45,46,47,48,49,50,51,52])] Tryz.func342 rfl ?_
 repeat'(first|refine gO ?_|(conv=>whnf);first|with_reducible refine CA (aa G) ?_|refine C6 (B) ?_|refine C6 (C) ?_)
 (conv=>whnf)
 refine CD (ι:=Nat) (λu=>[(2,.hold .box (ab.enc .imm h)),(5,.hold .one [I (jw h.Spans ps b u)]),(6,.hold .one (aF .own ps)),(7,.hold .one [I ((u:Nat):Int)])]) (λu=>u<=ps.length) (λu=>ps.length - u) (0) ?_ (R0 _) λu M=>?_
 ·exact wB
 by_cases K:u<ps.length
 ·have l:=ah K
  have t:=qZ a (ps:=ps) g u
  repeat'(first|refine gD ?_|fail)
  (conv=>whnf)
  refine CD (ι:=Nat) (λj=>[(2,.hold .box (ab.enc .imm h)),(5,.hold .one [I (rp h.Spans (nth ps u) (jw h.Spans ps b u) j)]),(6,.hold .one (aF .own ps)),(7,.hold .one [I ((u:Nat):Int)]),(8,.hold .one [I ((j:Nat):Int)])]) (λj=>j<=h.Spans.length) (λj=>h.Spans.length - j) (0) ?_ (R0 _) λj L=>?_
  ·exact wB
  by_cases D:j<h.Spans.length
  ·have E:=ah D
   have w:=uq a (p:=nth ps u) t j L;by_cases e:(nth h.Spans j).Page=nth ps u
   ·have k:rp h.Spans (nth ps u) (jw h.Spans ps b u) (j+1)=bor (rp h.Spans (nth ps u) (jw h.Spans ps b u) j) (nth h.Spans j).Bits:=C8 e
    repeat'(first|refine gA ?_|(conv=>whnf);first|with_reducible (first|refine CA (aa l) ?_|refine CA (aa E) ?_)|refine CG rfl (aa l) rfl ?_|refine CJ (or64 w (ur a D)) ?_)
    ((conv=>whnf);refine CB (j+1) ω ω ?_;(exact wB))
   ·have k:rp h.Spans (nth ps u) (jw h.Spans ps b u) (j+1)=rp h.Spans (nth ps u) (jw h.Spans ps b u) j:=C7 e
    repeat'(first|refine gA ?_|(conv=>whnf);first|with_reducible (first|refine CA (aa l) ?_|refine CA (aa E) ?_)|refine CG rfl (aa l) rfl ?_)
    ((conv=>whnf);refine CB (j+1) ω ω ?_;(exact wB))
  ·obtain rfl:j=h.Spans.length:=ω
   repeat'(first|refine gD ?_|fail)
   ((conv=>whnf);refine CB (u+1) ω ω ?_;(exact wB))
 ·obtain rfl:u=ps.length:=ω
  repeat'(first|refine gD ?_|fail)
  rfl
theorem sF{xs:List bx}(h:∀o∈xs,0<=o.Size/\o.Size<=1000):∀k:Nat,k<=xs.length->0<=si xs k/\si xs k<=1000*k
 | 0,_=>⟨t4 _,t4 _⟩
 | k+1,a=>by
  have b:=sF h k ω;have c:=h _ (am (xs:=xs) (i:=k) ω);simp only[si];omega
theorem uZ(h:ab)(a:∀o∈h.Objs,0<=o.Size/\o.Size<=1000)(e:h.Objs.length<=1048576):ao Tryz.prog 51 false [.val (some 24) (ab.enc .imm h)] .one [I (wQ h)]:=by
 refine fO 21 [] Tryz.func51 rfl ?_
 repeat'(first|refine gO ?_|fail)
 (conv=>whnf)
 refine CD (ι:=Nat) (λk=>[(1,.hold .box (ab.enc .imm h)),(3,.hold .one [I (si h.Objs k)]),(4,.hold .one [I ((k:Nat):Int)])]) (λk=>k<=h.Objs.length) (λk=>h.Objs.length - k) (0) ?_ (R0 _) λk c=>?_
 ·exact wB
 have g:=sF a k c;by_cases b:k<h.Objs.length
 ·have d:=ah b
  have i:=a _ (am b)
  repeat'(first|refine gD ?_|(conv=>whnf);first|refine CA (aa d) ?_)
  ((conv=>whnf);refine CB (k+1) ω ω ?_;(exact wB))
 ·obtain rfl:k=h.Objs.length:=ω
  repeat'(first|refine gD ?_|fail)
  rfl
theorem vI(k b:Int)(h:b<=9223372036854775807):ao Tryz.prog 341 false [.val none [I (slots k)],.val none [I b]] .one (aF .own (pS k b)):=by
 have c:=pk k b;have p:0<=slots k/\slots k<=16:=by unfold slots;repeat' split<;>omega
 unfold pS;cases e:KQ k b<;>rw[e]at c
 ·rw[C7 (by simp)]
  refine fO 27 [] Tryz.func341 rfl ?_ (.inr (bJ _))
  repeat'(first|refine gO ?_|fail)
  (conv=>whnf)
  refine CD (ι:=Nat) (λj=>[(0,.hold .one [I (slots k)]),(1,.hold .one [I (b)]),(5,.hold .one (aF .own [])),(6,.hold .one [I ((j:Nat):Int)])]) (λj=>j=0) (λj=>1 - j) (0) ?_ (rfl) λj g=>?_
  ·exact wB
  subst g
  repeat'(first|refine gD ?_|(conv=>whnf);first|with_reducible refine Bf.D (λi=>?_) (λi=>?_)|refine C6 (c) ?_)
  all_goals rfl
 ·rw[C8 rfl]
  refine fO 27 [] Tryz.func341 rfl ?_ (.inr (bJ _))
  repeat'(first|refine gO ?_|fail)
  (conv=>whnf)
  refine CD (ι:=Nat) (λj=>[(0,.hold .one [I (slots k)]),(1,.hold .one [I (b)]),(5,.hold .one (aF .own (nN b j))),(6,.hold .one [I ((j:Nat):Int)])]) (λj=>j<=(slots k).toNat) (λj=>(slots k).toNat - j) (0) ?_ (R0 _) λj g=>?_
  ·exact wB
  have l:=rR b j;by_cases q:j<(slots k).toNat
  ·have d:=gl b (j:Nat) h
   have a:nN b (j+1)=if aQ b (j:Nat)=true then nN b j else nN b j++[((j:Nat):Int)]:=rfl
   cases n:aQ b (j:Nat)<;>rw[n]at d a
   ·rw[C7 (by simp)]at a
    repeat'(first|refine gD ?_|(conv=>whnf);first|refine C6 (c) ?_|refine C6 (d) ?_|refine CP co (λr o=>by rw[Z0.1 o];rfl) (by simp[aV,d8]) (by simp;omega) (by simp only[W0];exact wT (by simp;omega) (by decide)) rfl ?_)
    ((conv=>whnf);refine CB (j+1) ω ω ?_)
    rw[a]
    repeat'(first|exact trivial|rfl|exact CI rfl (CI (T0 (C.s d9.own) (by simp[rI])) trivial)|refine CI ?_ ?_|(exact Dy (by first|omega|(simp only;omega)|(simp;omega))))
   ·rw[C8 rfl]at a
    repeat'(first|refine gD ?_|(conv=>whnf);first|refine C6 (c) ?_|refine C6 (d) ?_)
    ((conv=>whnf);refine CB (j+1) ω ω ?_)
    rw[a];exact wB
  ·obtain rfl:j=(slots k).toNat:=ω
   repeat'(first|refine gD ?_|fail)
   rfl
theorem GV(b i:Int):bor b (2 ^ i.toNat)=gp b i:=by
 unfold bor gp;have:((2 ^ i.toNat:Nat):Int)=(2:Int) ^ i.toNat:=Int.natCast_pow 2 i.toNat;rw[<-this,C2]
theorem xg(b i:Int)(d:0<=b/\b<=65535)(a:0<=i/\i<=15):ao Tryz.prog 344 false [.val none [I b],.val none [I i]] .one [I (gp b i)]:=by
 have c:=oF b i;rw[O0 ω]at c;have e:IntKind.u64.wrap i=i:=by unfold IntKind.wrap;simp[IntKind.signed,IntKind.bits];omega
 have h:=(shl64 a).2;have g:=(or64 (z1:=b) (z2:=2 ^ i.toNat) d ω).trans (GV b i);refine fO 15 [] Tryz.func344 rfl ?_
 repeat'(first|refine gO ?_|(conv=>whnf);first|refine C6 (c) ?_|refine CL ω ?_|refine CJ e ?_|refine CJ (shl64 a).1 ?_|refine CJ g ?_)
 rfl
theorem Jf{s:au}(b:aY s=true){k:Int}(d:0<=k/\k<slots s.Class):0<=k*csz s.Class/\k*csz s.Class<=15:=by
 have a:=aD b;have c:=gh a.2.2;rcases bM a.2.2 with e|e|e|e<;>rw[e]at c |-<;>omega
theorem xh(s:au)(k:Int)(a:aY s=true)(d:0<=k/\k<slots s.Class):ao Tryz.prog 345 false [.val (some 3) (au.enc .imm s),.val none [I k]] .one [I (16*s.Page+k*csz s.Class)]:=by
 have e:=aD a;have i:=Jf a d;have j:=gh e.2.2;have b:=eR s;rw[a]at b;have g:=lV s.Class;have c:=aG k 0 (slots s.Class - 1);rw[O0 ω]at c;have h:=cR s.Class;refine fO 26 [(3,8,[17,18,19,20,21,22,23,24])] Tryz.func345 rfl ?_
 repeat'(first|refine gO ?_|(conv=>whnf);first|refine C6 (b) ?_|refine C6 (g) ?_|refine C6 (c) ?_|refine C6 (h) ?_|refine C9 ?_)
 exact T0 (λz=>[I z]) ω
theorem zi(f:aU)(g:f.Used.length<=1048576):ao Tryz.prog 346 false [.val (some 2) (aU.enc .imm f)] .one [I (df (λu=>!u) f.Used)]:=by
 refine fO 18 [] Tryz.func346 rfl ?_
 repeat'(first|refine gO ?_|fail)
 (conv=>whnf)
 refine CD (ι:=Nat) (λi=>[(1,.hold .box (aU.enc .imm f)),(3,.hold .one [I ((i:Nat):Int)])]) (λi=>i<=f.Used.length/\∀(j:Nat)(z:Bool),j<i->f.Used[j]? = some z->(!z)=false) (λi=>f.Used.length - i) (0) ?_ (⟨R0 _,λj z h=>ω⟩) λi c=>?_
 ·exact wB
 obtain⟨c,b⟩:=c;by_cases d:i<f.Used.length
 ·have a:=ah d
  cases e:nth f.Used i<;>rw[e]at a
  ·repeat'(first|refine gD ?_|(conv=>whnf);first|with_reducible refine CA (aa a) ?_)
   exact T0 (λz=>[I z]) (d2 a rfl b).symm
  ·repeat'(first|refine gD ?_|(conv=>whnf);first|with_reducible refine CA (aa a) ?_)
   ((conv=>whnf);refine CB (i+1) ⟨ω,cX a rfl b⟩ ω ?_;(exact wB))
 ·repeat'(first|refine gD ?_|fail)
  exact T0 (λz=>[I z]) (eB ω b).symm
theorem mr(m:aK):∀(n i:Nat),i<n->((nth m.Buffers i).length:Int)+(nth m.Inbox i).length<=bq m n/\0<=bq m n
 | 0,i,h=>absurd h (Nat.not_lt_zero i)
 | n+1,i,h=>by
  have a:0<=bq m n:=by
   cases n with
   | zero=>exact t4 _
   | succ k=>exact(mr m (k+1) 0 ω).2
  simp only[bq];by_cases e:i=n
  ·subst e;omega
  ·have:=(mr m n i ω).1;omega
structure kM(m:aK):Prop where
 b4:1<=m.Buffers.length/\m.Buffers.length<=4
 i4:m.Inbox.length=m.Buffers.length
 bl:∀i,i<m.Buffers.length->(nth m.Buffers i).length<=30
 il:∀i,i<m.Buffers.length->(nth m.Inbox i).length<=30
theorem kM.of{m:aK}(h:bA m=true):kM m:=by
 obtain⟨⟨b,c,d⟩,-,e⟩:=dC.1 h;exact⟨⟨b,c⟩,d,λi a=>by have:=(mr m m.Buffers.length i a).1;omega,λi a=>by have:=(mr m m.Buffers.length i a).1;omega⟩
theorem kM.sml{m:aK}(h:kM m):aK.sml m:=by
 have c:=h.b4;have d:=h.i4;refine⟨⟨ω,λl a=>?_⟩,⟨ω,λl a=>?_⟩⟩
 ·obtain⟨i,b,rfl⟩:=aW a
  have:=h.bl i b;exact⟨ω,λ_ _=>trivial⟩
 ·obtain⟨i,b,rfl⟩:=aW a
  have:=h.il i ω;show(nth m.Inbox i).length<=1048576;omega
theorem qA(m:aK)(k:Int)(a:aK.sml m):ao Tryz.prog 388 false [.val (some 2) (aK.enc .imm m),.val none [I k]] .one [B (bA m&&decide (0<=k/\k<=m.Buffers.length - 1))]:=by
 have b:=ky m a;have c:m.Buffers.length<=1048576:=a.1.1;cases e:bA m<;>rw[e]at b
 all_goals
  refine fO 15 [] Tryz.func388 rfl ?_
  repeat'(first|refine gO ?_|(conv=>whnf);first|refine C9 ?_|refine C6 (b) ?_|refine C6 (aG k 0 (m.Buffers.length - 1:Int)) ?_)
  all_goals rfl
theorem Pb{m:aK}{f:Nat}(a:f<m.Buffers.length):m.Buffers[f]? = some (nth m.Buffers f):=ah a
theorem HE(m:aK)(f:Nat)(p:dh):aK.enc .own (gE m f p)=[.s .own ((m.Buffers.map (cZ .own)).set f (cZ .own (nth m.Buffers f++[p]))),.s .own (m.Inbox.map (aF .own))]:=by simp[aK.enc,gE,W4]
theorem GP{m:aK}(h:kM m){f:Nat}(c:f<m.Buffers.length)(p:dh):aK.sml (gE m f p):=by
 have d:=h.b4;have b:=h.sml;refine⟨⟨by simp only[gE,C1];omega,λl a=>?_⟩,b.2⟩;rcases Z4 a with a|rfl
 ·exact b.1.2 l a
 ·have:=h.bl f c
  exact⟨by simp;omega,λ_ _=>trivial⟩
theorem Hl(m:aK)(f:Nat)(p:dh)(j:bA m=true)(g:f<m.Buffers.length):ao Tryz.prog 381 false [.val (some 2) (aK.enc .imm m),.val none [I (f:Nat)],.val (some 2) (dh.enc .imm p)] (.tup [some 2,none]) (aK.enc .own (if bA (gE m f p)=true then gE m f p else m)++[B (bA (gE m f p))]):=by
 have c:=kM.of j;have k:=c.sml;have q:=c.b4;have h:=qA m f k;rw[j,O0 ω]at h;have l:=eY m k;have b:=GP c g p;have i:=ky (gE m f p) b;have n:=eY (gE m f p) b;have a:=Pb g;have o:=c.bl f g;have d:=aK.enc_fz (gE m f p);rw[HE]at d;cases e:bA (gE m f p)<;>rw[e]at i
 ·rw[C7 (by simp)]
  refine fO 35 [(4,267,[16,17,18,19,20,21,22,23,24,25,27,0,1,2,3,4,5,6,7,8,9,10,1000,1001,1002,11,12])] Tryz.func381 rfl ?_ (.inr (aZ (aK.enc_fr _) ⟨trivial,trivial⟩))
  repeat'(first|refine gO ?_|(conv=>whnf);first|with_reducible refine CA (aa a) ?_|refine C9 ?_|refine CA (fJ a) ?_|refine CG rfl (fJ a) rfl ?_|refine C6 (h) ?_|refine C6 (l) ?_|refine Lq.one rfl rfl (aa a) rfl (X0 rfl) rfl rfl ?_|refine CG rfl (aa a) rfl ?_|refine CM rfl rfl (fJ a) rfl (X0 rfl) (show [C.s d9.own ((m.Buffers.map (cZ .own)).set f (cZ .own (nth m.Buffers f++[p]))),C.s .own (m.Inbox.map (aF .own))]=_ from by simp only[List.set_cons_zero,List.set_set,C2];rfl) ?_|refine Ap.sm (aR λ_=>rfl) rfl (by simp;omega) (by decide) (iu _ _ _) ?_|refine CF (i) ⟨⟨rfl,d⟩,trivial⟩ ?_)
  rfl
 ·rw[C8 rfl]
  refine fO 35 [(4,267,[16,17,18,19,20,21,22,23,24,25,27,0,1,2,3,4,5,6,7,8,9,10,1000,1001,1002,11,12])] Tryz.func381 rfl ?_ (.inr (aZ (aK.enc_fr _) ⟨trivial,trivial⟩))
  repeat'(first|refine gO ?_|(conv=>whnf);first|with_reducible refine CA (aa a) ?_|refine C9 ?_|refine CA (fJ a) ?_|refine CG rfl (fJ a) rfl ?_|refine C6 (h) ?_|refine C6 (l) ?_|refine Lq.one rfl rfl (aa a) rfl (X0 rfl) rfl rfl ?_|refine CG rfl (aa a) rfl ?_|refine CM rfl rfl (fJ a) rfl (X0 rfl) (show [C.s d9.own ((m.Buffers.map (cZ .own)).set f (cZ .own (nth m.Buffers f++[p]))),C.s .own (m.Inbox.map (aF .own))]=_ from by simp only[List.set_cons_zero,List.set_set,C2];rfl) ?_|refine Ap.sm (aR λ_=>rfl) rfl (by simp;omega) (by decide) (iu _ _ _) ?_|refine CF (i) ⟨⟨rfl,d⟩,trivial⟩ ?_|refine CF (n) ⟨⟨rfl,d⟩,trivial⟩ ?_)
  rfl
theorem EZ(m:aK)(f:Int)(a:bA m=true)(d:¬(0<=f/\f<=m.Buffers.length - 1)):ao Tryz.prog 360 false [.val (some 2) (aK.enc .imm m),.val none [I f]] (.tup [some 2,none]) (aK.enc .own m++[B false]):=by
 have e:=kM.of a;have b:=e.sml;have c:=qA m f b;rw[a,Q0 d]at c;have g:=eY m b;refine fO 60 [(5,267,[31,32,33,34,35,36,37,38,39,40,42,0,1,2,3,4,5,6,7,8,9,10,1000,1001,1002,11,12]),(6,270,[43,44,45,46,47,48,49,50,51,52,53,54,55,57,0,1,2,3,4,5,6,7,8,9,10,11,12,13,1000,1001,1002,1003,14,15])] Tryz.func360 rfl ?_ (.inr (aZ (aK.enc_fr _) ⟨trivial,trivial⟩))
 repeat'(first|refine gO ?_|(conv=>whnf);first|refine C9 ?_|refine C6 (c) ?_|refine C6 (g) ?_)
 rfl
theorem Fo(m:aK)(f t:Nat)(a:(nth (nth m.Buffers f) 0).To=t):aK.enc .own (fB m f)=[.s .own ((m.Buffers.map (cZ .own)).set f [.s .own (((nth m.Buffers f).drop 1).map (dh.enc .imm))]),.s .own ((m.Inbox.map (aF .own)).set t (aF .own (nth m.Inbox t++[(nth (nth m.Buffers f) 0).Addr])))]:=by
 unfold aK.enc fB;simp only[W4,a,C2]
 rfl
theorem AZ(m:aK)(f:Nat)(h:bA m=true)(i:f<m.Buffers.length):ao Tryz.prog 360 false [.val (some 2) (aK.enc .imm m),.val none [I (f:Nat)]] (.tup [some 2,none]) (aK.enc .own (if 0<(nth m.Buffers f).length then fB m f else m)++[B (decide (0<(nth m.Buffers f).length))]):=by
 have d:=kM.of h;have u:=d.sml;have K:=d.b4;have D:=d.i4;have j:=qA m f u;rw[h,O0 ω]at j;have w:=eY m u;have a:=Pb i;have F:=d.bl f i;by_cases e:0<(nth m.Buffers f).length
 ·rw[C8 e,O0 e]
  have g:=((dC.1 h).2.1 f i).1 _ (am e);obtain⟨t,k⟩:=I2 g.1;have l:t<m.Inbox.length:=ω
  have y:=ah e;have c:=ah l;have G:=d.il t ω;have n:=(kM.of (B2 h i e)).sml;have H:=eY (fB m f) n;have o:=aK.enc_fz (fB m f);rw[Fo m f t k]at o;have q:=aZ (b:=[B true]) (aK.enc_fr (fB m f)) ⟨trivial,trivial⟩;generalize L:nth (nth m.Buffers f) 0=p at *;obtain⟨M,J⟩:=p;simp only at k g o;subst k;refine fO 60 [(5,267,[31,32,33,34,35,36,37,38,39,40,42,0,1,2,3,4,5,6,7,8,9,10,1000,1001,1002,11,12]),(6,270,[43,44,45,46,47,48,49,50,51,52,53,54,55,57,0,1,2,3,4,5,6,7,8,9,10,11,12,13,1000,1001,1002,1003,14,15])] Tryz.func360 rfl ?_ (.inr q)
  repeat'(first|refine gA ?_|(conv=>whnf);first|with_reducible (first|refine CA (aa a) ?_|refine CA (aa c) ?_|refine Bf.E (λr=>?_) (λr=>?_))|refine C9 ?_|refine CK (by decide) (aa y) ?_|refine CA (fJ a) ?_|refine CA (fJ c) ?_|refine CG rfl (fJ a) rfl ?_|refine CG rfl (fJ c) rfl ?_|refine C6 (j) ?_|refine C6 (w) ?_|refine CG rfl (aa a) rfl ?_|refine CG rfl (aa c) rfl ?_|refine CG rfl (aa y) rfl ?_|refine Lq.one rfl rfl (aa c) rfl (X0 rfl) rfl rfl ?_|refine Sl.suf 1 rfl (by rw[W0];omega) (aR λ_=>rfl) R3 ?_|refine CS (λ_=>rfl) (λ_=>rfl) (by rw[W2];omega) (by decide) ?_|refine CQ (λ_=>rfl) (λ_=>rfl) (by rw[W2];omega) (by decide) ?_|refine CM rfl rfl (aa a) rfl (X0 rfl) rfl ?_|refine CM rfl rfl (fJ c) rfl (X0 rfl) (show [C.s d9.own ((m.Buffers.map (cZ .own)).set f [.s .own (((nth m.Buffers f).drop 1).map (dh.enc .imm))]),C.s .own ((m.Inbox.map (aF .own)).set t (aF .own (nth m.Inbox t++[J])))]=_ from by simp only[List.set_cons_zero,List.set_cons_succ,List.set_set,C2];rfl) ?_|refine Ap.sm (aR λ_=>rfl) rfl (by simp;omega) (by decide) (iu _ _ _) ?_|refine C9 ?_|refine CF (H) ⟨⟨rfl,o⟩,trivial⟩ ?_)
  rfl
 ·rw[C7 e,Q0 e]
  refine fO 60 [(5,267,[31,32,33,34,35,36,37,38,39,40,42,0,1,2,3,4,5,6,7,8,9,10,1000,1001,1002,11,12]),(6,270,[43,44,45,46,47,48,49,50,51,52,53,54,55,57,0,1,2,3,4,5,6,7,8,9,10,11,12,13,1000,1001,1002,1003,14,15])] Tryz.func360 rfl ?_ (.inr (aZ (aK.enc_fr _) ⟨trivial,trivial⟩))
  repeat'(first|refine gA ?_|(conv=>whnf);first|with_reducible (first|refine CA (aa a) ?_|refine Bf.E (λr=>?_) (λr=>?_))|refine C9 ?_|refine C6 (j) ?_|refine C6 (w) ?_|refine CG rfl (aa a) rfl ?_)
  rfl
theorem HR.set(rows:List (List C))(i:Nat){r n:List C}(h:J9 r n):HR (.s .own (rows.set i r)) (.s .own (rows.set i n)):=by
 refine .own_ _ _ (by simp) (λj a b d f=>?_) (λj l a b c p d f o g=>?_)
 ·by_cases e:i=j
  ·subst e
   have k:i<rows.length:=by have:=(V1.1 d).1;simpa using this
   rw[Z2 k]at d f;cases d;cases f;exact h.1
  ·rw[List.getElem?_set_ne e]at d f
   rw[d]at f;cases f;rfl
 ·by_cases e:i=j
  ·subst e
   have k:i<rows.length:=by have:=(V1.1 d).1;simpa using this
   rw[Z2 k]at d f;cases d;cases f;exact h.2 l c p o g
  ·rw[List.getElem?_set_ne e]at d f
   rw[d]at f;cases f;rw[o]at g;cases g;exact .rfl_ _
theorem yN(m:aK)(t:Nat)(d:bA m=true)(h:t<m.Buffers.length):ao Tryz.prog 389 false [.val (some 2) (aK.enc .imm m),.val none [I (t:Nat)]] (.tup [some 2,none]) (aK.enc .own (kr m t)++aF .own (nth m.Inbox t)):=by
 have b:=kM.of d;have e:=b.sml;have o:=b.b4;have j:=b.i4;have g:=qA m t e;rw[d,O0 ω]at g;have k:=eY m e;have c:=ah (xs:=m.Inbox) (i:=t) ω;have l:=b.il t h;have a:=aZ (aK.enc_fr (kr m t)) (bJ (nth m.Inbox t));have n:aK.enc .own (kr m t)=[.s .own (m.Buffers.map (cZ .own)),.s .own ((m.Inbox.map (aF .own)).set t [.s .own []])]:=by simp[aK.enc,kr,W4];rfl
 rw[n]at a |-;refine fO 28 [(5,263,[20,21,22,23,24,25,26,0,1,2,3,4,5,6,7,1000,8,9])] Tryz.func389 rfl ?_ (.inr a)
 repeat'((conv=>whnf);first|with_reducible (first|refine Lm ?_|refine Wm ω ?_|refine CA (aa c) ?_|refine Bn ?_|refine jt.dk rfl ?_)|refine Bt ?_|refine Bu ?_|refine C9 ?_|refine C6 (g) ?_|refine C6 (k) ?_|refine CG rfl (aa c) rfl ?_|refine CM rfl rfl (aa c) rfl (X0 rfl) rfl ?_|refine CS (λ_=>rfl) (λ_=>rfl) ω (by decide) ?_|refine CQ (λ_=>rfl) (λ_=>rfl) ω (by decide) ?_|refine C9 ?_)
 exact .cons (.rfl_ _) (.cons (HR.set _ _ (.cons .z_ .nil)) (.cons (.rfl_ _) .nil))
theorem FU(now:Int):∀{l:List aL}{i:Nat},i<=l.length->(∀j,j<i->(nth l j).Since<now - 100)->(i<l.length->¬(nth l i).Since<now - 100)->qO now l=i
 | [],i,h,_,_=>by simp at h;subst h;rfl
 | x::xs,0,_,_,h=>by
  unfold qO;exact C7 (h (by simp))
 | x::xs,i+1,b,a,c=>by
  unfold qO;refine(C8 (a 0 ω)).trans ?_;rw[FU now (l:=xs) (i:=i) (by simp at b;omega) (λj d=>a (j+1) ω) (λe=>c (by simp;omega))]
def Mq(q:bF)(now:Int):List C:=bF.enc .own ⟨q.Room,q.Lst.drop (qO now q.Lst)⟩++cE .own (q.Lst.take (qO now q.Lst))
theorem tO(q:bF)(now:Int)(g:eK q=true)(G:q.Lst.length<=4096)(u:0<=now/\now<=1000000):ao Tryz.prog 363 false [.val (some 2) (bF.enc .imm q),.val none [I now],.val none [I 100]] (.tup [some 2,none]) (Mq q now):=by
 have w:bF.sml q:=⟨ω,λ_ _=>trivial⟩
 have n:=nJ q w;rw[g]at n;have o:=aG now 0 1000000;rw[O0 u]at o;have p:=aG 100 0 1000000;rw[O0 (by decide)]at p;have h:=(iV.1 g).1;have a:gF (Mq q now):=aZ (bF.enc_fr _) (t6 _);have y:∀i,i<q.Lst.length->0<=(nth q.Lst i).Since:=λi b=>(h _ (am b)).2.2.2
 unfold Mq at a |-;generalize B:qO now q.Lst=k at a |-;refine fO 59 [(6,270,[44,45,46,47,48,49,50,51,53,54,55,56,57,58,0,1,2,3,4,5,6,7,9,10,11,12,13,14,8,1009,1010,1011,1012,1013,1014,15,16])] Tryz.func363 rfl ?_ (.inr a)
 repeat'(first|refine gO ?_|(conv=>whnf);first|refine C9 ?_|refine C6 (n) ?_|refine C6 (o) ?_|refine C6 (p) ?_)
 (conv=>whnf)
 refine CD (ι:=Nat) (λi=>[(1,.hold .one [I (now)]),(2,.hold .one [I (100)]),(3,.hold .box (bF.enc .imm q)),(6,.hold .box [I 0,.z]),(8,.hold .one [I ((i:Nat):Int)])]) (λi=>i<=q.Lst.length/\∀j,j<i->(nth q.Lst j).Since<now - 100) (λi=>q.Lst.length - i) (0) ?_ (⟨R0 _,λj C=>ω⟩) λi b=>?_
 ·exact wC
 obtain⟨b,r⟩:=b;by_cases l:i<q.Lst.length/\(nth q.Lst i).Since<now - 100
 ·have c:=ah l.1
  repeat'(first|refine gD ?_|(conv=>whnf);first|with_reducible refine CA (aa c) ?_|refine C9 ?_|refine CG rfl (aa c) rfl ?_)
  ((conv=>whnf);refine CB (i+1) ⟨ω,λj C=>by by_cases e:j=i;(subst e;exact l.2);exact r j ω⟩ ω ?_;(exact wC))
 ·have d:=FU now (i:=i) b r (λE F=>l ⟨E,F⟩)
  rw[B]at d;subst d;by_cases t:k<q.Lst.length
  ·have c:=ah t
   have:=y k t
   repeat'(first|refine gD ?_|(conv=>whnf);first|with_reducible (first|refine CA (aa c) ?_|refine Bf.D (λg=>?_) (λg=>?_))|refine C9 ?_|refine CG rfl (aa c) rfl ?_|refine CT k rfl (by rw[W0];omega) (aR λ_=>rfl) Q3 ?_|refine Sl.suf k rfl (by rw[W0];omega) (aR λ_=>rfl) R3 ?_|refine CS (λ_=>rfl) (λ_=>rfl) (by rw[I1];omega) (by decide) ?_|refine CS (λ_=>rfl) (λ_=>rfl) (by rw[W2];omega) (by decide) ?_|refine CQ (λ_=>rfl) (λ_=>rfl) (by rw[W2];omega) (by decide) ?_|refine C9 ?_)
   rfl
  ·repeat'(first|refine gD ?_|(conv=>whnf);first|refine C9 ?_|refine CT k rfl (by rw[W0];omega) (aR λ_=>rfl) Q3 ?_|refine Sl.suf k rfl (by rw[W0];omega) (aR λ_=>rfl) R3 ?_|refine CS (λ_=>rfl) (λ_=>rfl) (by rw[I1];omega) (by decide) ?_|refine CS (λ_=>rfl) (λ_=>rfl) (by rw[W2];omega) (by decide) ?_|refine CQ (λ_=>rfl) (λ_=>rfl) (by rw[W2];omega) (by decide) ?_|refine C9 ?_)
   rfl
theorem Az(h:ab)(n:Int)(g:bn h [])(r:0<=n/\n<=1000)(p:h.Clock+n<=1000000):aS Tryz.prog 306 false [.ptr (bu h),.val none [I n]] [.ptr (bu (tick h n)),.val none [I n]] .one [I ((mw h n).length:Nat)]:=by
 have a:=g.nums;unfold cj at a;rw[C0]at a;have t:=g.lens.quar;have i:=tO h.Quar (h.Clock+n) g.quar ω ⟨ω,p⟩;have j:=g.aged r.1 p;unfold Mq at i;unfold tick mw aged at *;have l:(h.Quar.Lst.take (qO (h.Clock+n) h.Quar.Lst)).length<=4096:=by rw[I1];omega
 rw[W0];generalize h.Quar.Lst.take (qO (h.Clock+n) h.Quar.Lst)=out at i j l |-;generalize h.Quar.Lst.drop (qO (h.Clock+n) h.Quar.Lst)=rest at i j |-;refine fM 48 [(364,[2,0])] [(2,269,[18,19,20,21,22,23,24,25,26,17,27,28,5,0,1,2,3,4,5,6,7,8,9,10,11,12,13,1011,14])] [(0,0),(0,0)] Tryz.func306 rfl (λu q=>?_)
 repeat'(first|refine gO ?_|(conv=>whnf);first|refine C9 ?_|refine CF (i) ⟨⟨rfl,bF.enc_fz h.Quar⟩,⟨rfl,rfl⟩,⟨rfl,rfl⟩,trivial⟩ ?_|refine C9 ?_)
 (conv=>whnf)
 refine CD (ι:=Nat) (λk=>[(0,.hold .box (bu (freeAs {h with Clock:=h.Clock+n,Quar:=⟨h.Quar.Room,rest⟩} ((out.map (·.Addr)).take k)))),(6,.hold .one (cE .own out)),(7,.hold .one [I ((k:Nat):Int)])]) (λk=>k<=out.length) (λk=>out.length - k) (0) ?_ (R0 _) λk y=>?_
 ·exact wC
 by_cases o:k<out.length
 ·have b:=ah o
  have c:k<(out.map (·.Addr)).length:=by rw[W0];exact o
  have d:nth (out.map (·.Addr)) k=(nth out k).Addr:=bp (by rw[R2,ah o];rfl);have e:bn (freeAs {h with Clock:=h.Clock+n,Quar:=⟨h.Quar.Room,rest⟩} ((out.map (·.Addr)).take k)) (nth (out.map (·.Addr)) k::(out.map (·.Addr)).drop (k+1)):=by
   refine bn.freeAs ?_;rw[<-iZ c,List.take_append_drop];rw[List.append_nil]at j;exact j
  rw[d]at e;have w:=mB _ _ _ e
  repeat'(first|refine gD ?_|(conv=>whnf);first|refine C9 ?_|refine CA (aa b) ?_|refine CG rfl (aa b) rfl ?_|refine CH (w) (.inl rfl) ?_)
  ((conv=>whnf);refine CB (k+1) ω ω ?_)
  rw[td _ _ _ c,d];exact wC
 ·obtain rfl:k=out.length:=ω
  rw[O5 (by rw[W0];omega)]
  repeat'(first|refine gD ?_|(conv=>whnf);first|refine C9 ?_)
  refine CE rfl rfl ?_;exact wC
theorem Dk(t:Nat)(h:ab)(az:List Int)(k:Nat)(a:k<az.length):recycs t h (az.take (k+1))=recyc t (recycs t h (az.take k)) (nth az k):=by
 unfold recycs;rw[O4,ah a,Option.toList_some,List.foldl_append];rfl
theorem tD(h:ab)(t:Nat)(a:bn h [])(i:t<h.Caches.length):aS Tryz.prog 361 false [.ptr (bu h),.val none [I (t:Nat)]] [.ptr (bu (collect h t)),.val none [I (t:Nat)]] .one [I ((nth h.Mail.Inbox t).length:Nat)]:=by
 have l:=a.nc;have n:=(dC.1 a.mail).1.2.2;have j:=yN h.Mail t a.mail ω;have c:=(kM.of a.mail).il t ω;have d:=a.coll (t:=t) ω;rw[List.append_nil]at d;unfold collect;generalize nth h.Mail.Inbox t=out at j d c |-;refine fM 36 [(384,[2,0,0])] [] [(0,0),(0,0)] Tryz.func361 rfl (λu q=>?_)
 repeat'(first|refine gO ?_|(conv=>whnf);first|refine C9 ?_|refine CF (j) ⟨⟨rfl,aK.enc_fz h.Mail⟩,⟨rfl,rfl⟩,trivial⟩ ?_)
 (conv=>whnf)
 refine CD (ι:=Nat) (λk=>[(0,.hold .box (bu (recycs t {h with Mail:=kr h.Mail t} (out.take k)))),(1,.hold .one [I ((t:Nat):Int)]),(6,.hold .one (aF .own out)),(7,.hold .one [I ((k:Nat):Int)])]) (λk=>k<=out.length) (λk=>out.length - k) (0) ?_ (R0 _) λk p=>?_
 ·exact wC
 by_cases e:k<out.length
 ·have b:=ah e
  have g:bn (recycs t {h with Mail:=kr h.Mail t} (out.take k)) (nth out k::out.drop (k+1)):=by
   refine bn.recycs ?_ i;rw[<-iZ e,List.take_append_drop];exact d
  have o:=mQ _ _ t _ g (by rw[(jb t _ _).1];exact i)
  repeat'(first|refine gD ?_|(conv=>whnf);first|refine C9 ?_|refine CA (aa b) ?_|refine CG rfl (aa b) rfl ?_|refine CH (o) (.inl rfl) ?_)
  ((conv=>whnf);refine CB (k+1) ω ω ?_)
  rw[Dk _ _ _ _ e];exact wC
 ·obtain rfl:k=out.length:=ω
  rw[v4]
  repeat'(first|refine gD ?_|(conv=>whnf);first|refine C9 ?_)
  refine CE rfl rfl ?_;exact wC
def Je(a:Int)(o:bx):Bool:=decide (o.Addr<=a/\a<o.Addr+o.Size)
theorem DS(h:ab)(E:List Int)(a:Int)(d:bn h E):aS Tryz.prog 126 false [.ptr (bu h),.val none [I a]] [.ptr (bu h),.val none [I a]] .one [I (df (Je a) h.Objs)]:=by
 have r:=d.lens.objs;refine fM 47 [] [(4,29,[15,16,17,18,19,20,21,22,23,24,25,26,27,28,29,30,31,32,33,34,35,36,37,38,39,40,41,42,43])] [(0,0),(0,0)] Tryz.func126 rfl (λu q=>?_)
 repeat'(first|refine gO ?_|(conv=>whnf);first|refine C9 ?_)
 (conv=>whnf)
 refine CD (ι:=Nat) (λi=>[(0,.hold .box (bu h)),(1,.hold .one [I (a)]),(5,.hold .one [I ((i:Nat):Int)])]) (λi=>i<=h.Objs.length/\∀(j:Nat)(z:bx),j<i->h.Objs[j]? = some z->Je a z=false) (λi=>h.Objs.length - i) (0) ?_ (⟨R0 _,λj z C=>ω⟩) λi d=>?_
 ·exact wC
 obtain⟨t,c⟩:=d;by_cases e:i<h.Objs.length
 ·have b:=ah e
  have w:=rA ‹bn h E› (am e);have y:0<=(nth h.Objs i).Size/\(nth h.Objs i).Size<=1000:=by
   rcases bn.oow ‹bn h E› _ (am e) with⟨s,B,F,G⟩|⟨l,g,k,o⟩
   ·have H:=aD ((bn.L ‹bn h E›).sok s B)
    have:=mJ (n:=(nth h.Objs i).Size) ω;omega
   ·have J:=bP ((bn.L ‹bn h E›).lok l g)
    omega
  by_cases k:(nth h.Objs i).Addr<=a
  ·by_cases o:a<(nth h.Objs i).Addr+(nth h.Objs i).Size
   ·repeat'(first|refine gD ?_|(conv=>whnf);first|with_reducible refine CA (aa b) ?_|refine C9 ?_|refine CG rfl (aa b) rfl ?_|refine C9 ?_)
    refine CE rfl (T0 (λz=>[I z]) (d2 b (O0 ⟨k,o⟩) c).symm) ?_;exact wC
   ·repeat'(first|refine gD ?_|(conv=>whnf);first|with_reducible (first|refine CA (aa b) ?_|refine Bf.D (λp=>?_) (λp=>?_))|refine C9 ?_|refine CG rfl (aa b) rfl ?_|refine C9 ?_)
    ((conv=>whnf);refine CB (i+1) ⟨ω,cX b (Q0 λx=>o x.2) c⟩ ω ?_;(exact wC))
  ·repeat'(first|refine gD ?_|(conv=>whnf);first|with_reducible (first|refine CA (aa b) ?_|refine Bf.D (λp=>?_) (λp=>?_))|refine C9 ?_|refine CG rfl (aa b) rfl ?_|refine C9 ?_)
   ((conv=>whnf);refine CB (i+1) ⟨ω,cX b (Q0 λx=>k x.1) c⟩ ω ?_;(exact wC))
 ·repeat'(first|refine gD ?_|(conv=>whnf);first|refine C9 ?_)
  refine CE rfl (T0 (λz=>[I z]) (eB ω c).symm) ?_;exact wC
theorem Gc(h:ab)(a v:Int):bu {h with Kernel:=kG h.Kernel a v} = (bu h).set 0 (.s .own ((h.Kernel.Machine.Frames.Cells.map (aF .own)).set (ar h.Kernel.Machine.Table (a / 16)).Frame.toNat ((aF .own (nth h.Kernel.Machine.Frames.Cells (fQ h.Kernel a))).set 0 (.s .own (((nth h.Kernel.Machine.Frames.Cells (fQ h.Kernel a)).map (rI .own)).set (a % 16).toNat (splice (rI .own (nth (nth h.Kernel.Machine.Frames.Cells (fQ h.Kernel a)) (a % 16).toNat)) 0 [I v])))))):=by
 simp[bu,kG,setCell,W4,aF,splice,fQ,rI]
theorem Do{α:Type}{p:α->Bool}{xs:List α}{x:α}(a:x∈xs)(b:p x=true):0<=df p xs:=by
 have:=fY p xs;rw[show xs.any p=true from C3.2 ⟨x,a,b⟩,C0]at this;exact this
theorem xb(h:ab)(i:Nat)(j v:Int)(e:bn h [])(C:i<h.Objs.length)(D:0<=j/\j<=(nth h.Objs i).Size - 1):aS Tryz.prog 356 false [.ptr (bu h),.val none [I ((nth h.Objs i).Addr+j)],.val none [I v]]
  [.ptr (bu (if(ar h.Kernel.Machine.Table (((nth h.Objs i).Addr+j) / 16)).Mode=1\/¬(0<=v/\v<=999) then h else {h with Kernel:=kG h.Kernel ((nth h.Objs i).Addr+j) v})),.val none [I ((nth h.Objs i).Addr+j)],.val none [I v]] .one [I (if(ar h.Kernel.Machine.Table (((nth h.Objs i).Addr+j) / 16)).Mode=1 then 2 else if ¬(0<=v/\v<=999) then 3 else 0)]:=by
 obtain⟨E,J,K⟩:=lW e (am C) D;have F:0<=df (Je ((nth h.Objs i).Addr+j)) h.Objs:=Do (am C) (O0 ω);have p:=DS h [] ((nth h.Objs i).Addr+j) e;have r:=bG e.ker;have t:=cQ h.Kernel.Machine.Table (((nth h.Objs i).Addr+j) / 16) r.1.2;have n:=aG v 0 999;generalize L:(nth h.Objs i).Addr+j=a at *;have b:0<=a/\a<512:=ω
 obtain⟨-,-,-,G,M⟩:=cA e.ker E;have H:=(bg.1 (aE.1 e.ker).2.1).2.2.1;have k:fQ h.Kernel a<h.Kernel.Machine.Frames.Cells.length:=by unfold fQ;omega
 have d:h.Kernel.Machine.Frames.Cells[(ar h.Kernel.Machine.Table (a / 16)).Frame.toNat]? = some (nth h.Kernel.Machine.Frames.Cells (fQ h.Kernel a)):=ah k;have w:=e.lens.row _ (am k);have l:=ah (xs:=nth h.Kernel.Machine.Frames.Cells (fQ h.Kernel a)) (i:=(a % 16).toNat) (by rw[w];omega);have B:a.tmod 16=a % 16:=fK b.1;refine fM 42 [(126,[2,0])] [(8,14,[27,28,29,30,31,32,33,34,35,36,37,38,39,40])] [(0,0),(0,0),(0,0)] Tryz.func356 rfl (λu q=>?_);by_cases o:(ar h.Kernel.Machine.Table (a / 16)).Mode=1
 ·rw[C8 (Or.inl o),C8 o]
  repeat'(first|refine gA ?_|(conv=>whnf);first|refine C9 ?_|refine CH (p) (.inl rfl) ?_|refine CF (t) ⟨⟨rfl,CV _⟩,⟨rfl,rfl⟩,trivial⟩ ?_|refine CL (by decide) ?_|refine CJ (pm b) ?_)
  refine CE rfl rfl ?_;exact wC
 rw[C7 (c:=_=(1:Int)) o];by_cases g:0<=v/\v<=999
 ·rw[O0 g]at n
  rw[C7 (c:=¬(0<=v/\v<=999)) (O3 g),C7 (c:=_\/¬(0<=v/\v<=999)) (λy=>y.elim o λy=>y g)]
  repeat'(first|refine gA ?_|(conv=>whnf);first|refine C9 ?_|refine CH (p) (.inl rfl) ?_|refine CF (t) ⟨⟨rfl,CV _⟩,⟨rfl,rfl⟩,trivial⟩ ?_|refine C6 (n) ?_|refine CL (by decide) ?_|refine CJ (pm b) ?_|refine CR B ?_|refine CK G (aa d) ?_|refine CG rfl (aa d) rfl ?_|refine CK ω (aa l) ?_|refine Pu.two rfl rfl (aa d) rfl rfl rfl (aa l) rfl (Q2 _) (Gc h a v) ?_|refine C9 ?_)
  refine CE rfl rfl ?_;exact wC
 ·rw[Q0 g]at n
  rw[C8 (Or.inr g),C8 g]
  repeat'(first|refine gA ?_|(conv=>whnf);first|refine C9 ?_|refine CH (p) (.inl rfl) ?_|refine CF (t) ⟨⟨rfl,CV _⟩,⟨rfl,rfl⟩,trivial⟩ ?_|refine C6 (n) ?_|refine CL (by decide) ?_|refine CJ (pm b) ?_)
  refine CE rfl rfl ?_;exact wC
def wh(l:a8)(n:Int):a7:=if(n+15) / 16<l.Pages then⟨l.Page+(n+15) / 16,l.Pages - (n+15) / 16⟩ else⟨0,0⟩
theorem wi(l:a8)(n:Int)(d:bO l=true):ao Tryz.prog 386 false [.val (some 3) (a8.enc .imm l),.val none [I n]] (.tup [some 3,some 2,none]) (if 9<=n/\n<=l.Size then a8.enc .own (trimL l n)++a7.enc .own (wh l n)++[B true] else a8.enc .own l++[I 0,I 0]++[B false]):=by
 have b:=lS l;rw[d]at b;have a:=aG n 9 l.Size;have g:=d;unfold bO at g;rw[C0]at g;by_cases e:9<=n/\n<=l.Size
 ·rw[O0 e]at a
  rw[C8 e];have c:=kR n;rw[show eM n=(n+15) / 16 by unfold eM;rw[C8 ω]]at c;unfold wh;by_cases h:(n+15) / 16<l.Pages
  ·rw[C8 h]
   refine fO 43 [(7,261,[37,38,39,40,42,0,1,2,3,5,4,1005,6,1005,7,8])] Tryz.func386 rfl ?_ (.inr ⟨trivial,trivial,trivial,trivial,trivial,trivial,trivial⟩)
   repeat'(first|refine gD ?_|(conv=>whnf);first|refine C9 ?_|refine C6 (b) ?_|refine C6 (a) ?_|refine C6 (c) ?_|refine C9 ?_)
   rfl
  ·rw[C7 h]
   refine fO 43 [(7,261,[37,38,39,40,42,0,1,2,3,5,4,1005,6,1005,7,8])] Tryz.func386 rfl ?_ (.inr ⟨trivial,trivial,trivial,trivial,trivial,trivial,trivial⟩)
   repeat'(first|refine gD ?_|(conv=>whnf);first|refine C9 ?_|refine C6 (b) ?_|refine C6 (a) ?_|refine C6 (c) ?_|refine C9 ?_)
   rfl
 ·rw[Q0 e]at a
  rw[C7 e];refine fO 43 [(7,261,[37,38,39,40,42,0,1,2,3,5,4,1005,6,1005,7,8])] Tryz.func386 rfl ?_ (.inr ⟨trivial,trivial,trivial,trivial,trivial,trivial,trivial⟩)
  repeat'(first|refine gO ?_|(conv=>whnf);first|refine C9 ?_|refine C6 (b) ?_|refine C6 (a) ?_|refine C9 ?_)
  rfl
end Go.Proofs.YtembpgjjnioagaaGreat.Ab
