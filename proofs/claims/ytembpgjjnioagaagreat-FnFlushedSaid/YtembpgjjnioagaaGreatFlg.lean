/- The kernel calls of a job leave a kernel valid; what they do to the pages. No condition. -/
import Derived.Test.YtembpgjjnioagaaGreatFld
import Derived.Test.YtembpgjjnioagaaGreatFlf
import Derived.Test.YtembpgjjnioagaaGreatFle
set_option linter.unusedVariables false
set_option linter.unusedSimpArgs false
set_option linter.constructorNameAsVariable false
namespace Go.Proofs.YtembpgjjnioagaaGreat.Ab
theorem Lj{k:af}{f:Int}(h1:∀j,j<k.Refuse.length->0<=nth k.Refuse j)(d:cN k.Machine.Frames=true)(g:fZ k.Machine.Table k.Machine.Frames.Used.length=true)(h:∀j:Nat,j<k.Machine.Frames.Used.length->(j:Int)≠f->nth k.Machine.Frames.Used j=decide (0<(pagesOn k.Machine.Table (j:Int)).length))(t:0<=f/\f<k.Machine.Frames.Used.length)(l:nth k.Machine.Frames.Used f.toNat=true)(i:0<=k.Calls/\k.Calls<=100000/\k.Refuse.length<=40):aB (gF k f)=true:=by
 obtain⟨n,o,p,q⟩:=bc.1 d;unfold gF;split
 ·rename_i c
  rw[aD];simp only[O1];refine⟨h1,?_,g,λj b=>?_,i⟩
  ·rw[bc]
   simp only[O1,ch];refine⟨n,o,p,λj b=>?_⟩;by_cases a:f.toNat=j
   ·rw[C9 ⟨a,b⟩,C9 ⟨a,ω⟩];decide
   ·rw[C8 (λe=>a e.1),C8 (λe=>a e.1)];exact q j b
  ·rw[ch]
   by_cases a:f.toNat=j
   ·rw[C9 ⟨a,b⟩]
    have:(j:Int)=f:=ω
    rw[this];exact(T0 λr=>absurd c (Nat.ne_of_gt r)).symm
   ·rw[C8 (λe=>a e.1)];exact h j b ω
 ·rename_i c
  rw[aD];refine⟨h1,d,g,λj b=>?_,i⟩;by_cases a:(j:Int)=f
  ·rw[a,show j=f.toNat by omega,l]
   exact(O0 (Nat.pos_of_ne_zero c)).symm
  ·exact h j b a
def tEq(t a:aH):Prop:=a.Entries.length=t.Entries.length/\∀q:Nat,((nth a.Entries q).Mode≠0↔(nth t.Entries q).Mode≠0)/\(nth a.Entries q).Frame=(nth t.Entries q).Frame
theorem tEq.refl(t:aH):tEq t t:=⟨rfl,λ_=>⟨Iff.rfl,rfl⟩⟩
theorem tEq.of{t a:aH}(h:a=t):tEq t a:=by rw[h];exact tEq.refl t
theorem tEq.pagesOn{t a:aH}(h:tEq t a)(f:Int):Ab.pagesOn a f=Ab.pagesOn t f:=by
 unfold Ab.pagesOn jq;rw[h.1]
 congr 1
 refine List.filter_congr λq _=>?_
 obtain⟨b,c⟩:=h.2 q;unfold Kj;rw[c];exact decide_eq_decide.2 (and_congr b Iff.rfl)
theorem B7{k:af}(h:aB k=true){a:aH}(c:tEq k.Machine.Table a)(i:∀q,q<a.Entries.length->0<=(nth a.Entries q).Mode/\(nth a.Entries q).Mode<=2):aB {k with Machine:=⟨k.Machine.Frames,a⟩} = true:=by
 obtain⟨l,n,o,p,r⟩:=aD.1 h;obtain⟨t,u,w⟩:=bx.1 o;rw[aD];refine⟨l,n,bx.2 ⟨λj b=>?_,?_,?_⟩,λj b=>?_,r⟩
 ·replace b:j<a.Entries.length:=b
  have e:=t j (by rw[<-c.1];exact b);have d:=i j b;obtain⟨g,y⟩:=c.2 j;show ku _ (nth a.Entries j)=true;unfold ku at e |-;rw[C0]at e |-;rw[y];refine⟨d.1,d.2,λf=>e.2.2.1 (Classical.byContradiction λA=>(g.2 A) f),λf=>e.2.2.2 (g.1 f)⟩
 ·show 1<=a.Entries.length;rw[c.1];exact u
 ·show a.Entries.length<=32;rw[c.1];exact w
 ·show nth k.Machine.Frames.Used j=decide (0<(Ab.pagesOn a (j:Int)).length)
  rw[c.pagesOn];exact p j b
theorem lT{k:af}(h:aB k=true)(f:k.Calls≠100000):aB (dx k)=true:=by
 obtain⟨a,b,c,d,g,i,e⟩:=aD.1 h;rw[aD];exact⟨a,b,c,d,by show 0<=k.Calls+1;omega,by show k.Calls+1<=100000;omega,e⟩
theorem sO{k:af}{p m:Int}(a:(nth k.Machine.Table.Entries p.toNat).Mode≠0)(b:m=1\/m=2):tEq k.Machine.Table (w5 k p m).Machine.Table:=by
 refine⟨by simp[w5],λq=>?_⟩;simp only[w5,ch];split
 ·rename_i e
  rw[<-e.1];exact⟨⟨λ_=>a,λ_=>by show m≠0;omega⟩,rfl⟩
 ·exact⟨Iff.rfl,rfl⟩
theorem Mj{k:af}(h:aB k=true){p m:Int}(d:(nth k.Machine.Table.Entries p.toNat).Mode≠0)(a:m=1\/m=2):aB (w5 k p m)=true:=by
 refine B7 h (sO d a) λq e=>?_
 obtain⟨i,j,f,l,n⟩:=aD.1 h;obtain⟨g,o,r⟩:=bx.1 f;have c:q<k.Machine.Table.Entries.length:=by rw[<-(sO d a).1];exact e
 have b:=g q c;unfold ku at b;rw[C0]at b;simp only[ch];split
 ·show 0<=m/\m<=2;omega
 ·exact⟨b.1,b.2.1⟩
theorem Ep{k:af}{p m:Int}(h:aB k=true)(c:k.Calls≠100000)(b:(au k.Machine.Table p).Mode≠0)(a:m=1\/m=2):aB (kj k p m).1=true/\tEq k.Machine.Table (kj k p m).1.Machine.Table:=by
 obtain⟨e,f,d,-⟩:=cu h b;rw[d]at b;unfold kj;split
 ·exact⟨lT h c,tEq.refl _⟩
 ·exact⟨Mj (lT h c) b a,sO (k:=dx k) b a⟩
theorem iV{k:af}(h:aB k=true){p:Int}(b:(au k.Machine.Table p).Mode≠0):ng k p<k.Machine.Frames.Cells.length/\nth k.Machine.Frames.Used (ng k p)=true/\((ng k p:Nat):Int)=(nth k.Machine.Table.Entries p.toNat).Frame:=by
 obtain⟨f,g,a,i,j⟩:=cu h b;obtain⟨l,d,n,e,o⟩:=aD.1 h;obtain⟨q,r,t,u⟩:=bc.1 d;have c:((ng k p:Nat):Int)=(au k.Machine.Table p).Frame:=by unfold ng;omega
 refine⟨ω,?_,by rw[c,a]⟩;rw[e _ ω,c];refine O0 (eN.2 ⟨p.toNat,ω,?_,?_⟩)
 ·rw[<-a];exact b
 ·rw[<-a]
theorem LM{k:af}(h:aB k=true){f:Nat}{a:List Int}(c:a.length=16)(d:∀v∈a,0<=v/\v<=999)(g:nth k.Machine.Frames.Used f=true):aB {k with Machine:=⟨⟨k.Machine.Frames.Cells.set f a,k.Machine.Frames.Used⟩,k.Machine.Table⟩} = true:=by
 obtain⟨i,l,n,o,p⟩:=aD.1 h;obtain⟨q,r,t,u⟩:=bc.1 l;refine aD.2 ⟨i,bc.2 ⟨?_,?_,?_,λj b=>?_⟩,n,o,p⟩
 ·simp only[O1];exact q
 ·simp only[O1];exact r
 ·simp only[O1];exact t
 ·simp only[O1]at b |-
  simp only[ch];split
  ·rename_i e
   obtain⟨rfl,-⟩:=e;unfold ir;simp only[I0,C0,Y3];refine⟨c,λv w=>?_⟩;have:=d v w;unfold iO;simp[g,this]
  ·exact u j b
theorem AH{k:af}(h:aB k=true){f:Nat}(b:f<k.Machine.Frames.Cells.length):(nth k.Machine.Frames.Cells f).length=16/\∀v∈nth k.Machine.Frames.Cells f,0<=v/\v<=999:=by
 obtain⟨g,c,i,j,l⟩:=aD.1 h;obtain⟨n,o,p,d⟩:=bc.1 c;have a:=d f b;unfold ir at a;simp only[I0,C0,Y3]at a;refine⟨a.1,λv e=>?_⟩;have:=a.2 v e;unfold iO at this;simp only[I0,C0]at this;exact this.1
theorem qw{k:af}(h:aB k=true){f:Nat}(b:f<k.Machine.Frames.Cells.length)(d:nth k.Machine.Frames.Used f=true){c v:Int}(e:0<=v/\v<=999):aB (setCell k f c v)=true:=by
 obtain⟨g,i⟩:=AH h b;refine LM h (by rw[O1];exact g) (λz a=>?_) d;rcases Z5 a with a|rfl
 ·exact i z a
 ·exact e
theorem K7{k:af}(h:aB k=true){a b c:Int}(d:(au k.Machine.Table a).Mode≠0)(e:(au k.Machine.Table b).Mode≠0)(l:0<=c/\c<=15):aB (z8 k a b c)=true:=by
 obtain⟨f,n,-⟩:=iV h d;obtain⟨g,i,-⟩:=iV h e;obtain⟨o,j⟩:=AH h f;exact qw h g i (j _ (am ω))
theorem PI{k:af}{p o:Int}(h:aB k=true)(u:k.Calls≠100000)(i:(au k.Machine.Table p).Mode≠0)(d:(au k.Machine.Table o).Mode≠0)(w:p≠o):aB (Bq k p o).1=true:=by
 unfold Bq;split
 ·exact lT h u
 obtain⟨O,y,A⟩:=iV h i;obtain⟨P,Q,R⟩:=iV h d;obtain⟨S,T,B,r,t⟩:=cu h i;obtain⟨U,V,C,D,E⟩:=cu h d;obtain⟨F,G,H,J,W,X,K⟩:=aD.1 h;obtain⟨L,M,N⟩:=bx.1 H;rw[C]at D E d;rw[B]at r t i;have a:∀q,nth (k.Machine.Table.Entries.set p.toNat ⟨2,(nth k.Machine.Table.Entries o.toNat).Frame⟩) q=if p.toNat=q then⟨2,(nth k.Machine.Table.Entries o.toNat).Frame⟩ else nth k.Machine.Table.Entries q:=λq=>by
  rw[ch];by_cases f:p.toNat=q
  ·rw[C9 ⟨f,ω⟩,C9 f]
  ·rw[C8 (λe=>f e.1),C8 f]
 refine Lj F G (bx.2 ⟨λj c=>?_,?_,?_⟩) (λj c l=>?_) ⟨r,t⟩ (by rw[<-A];exact y) ⟨by show 0<=k.Calls+1;omega,by show k.Calls+1<=100000;omega,K⟩
 ·simp only[xe,dx,O1]at c |-
  rw[a];split
  ·unfold ku;rw[C0];simp only;omega
  ·exact L j c
 ·simp only[xe,dx,O1];exact M
 ·simp only[xe,dx,O1];exact N
 ·replace c:j<k.Machine.Frames.Used.length:=c
  show nth k.Machine.Frames.Used j=_;rw[J j c];refine decide_eq_decide.2 ?_;rw[eN,eN];simp only[xe,dx,O1,a];constructor
  ·rintro⟨q,n,g,b⟩
   refine⟨q,n,?_⟩;rw[C8 (λe=>l (by rw[<-b,<-e]))];exact⟨g,b⟩
  ·rintro⟨q,n,g,b⟩
   by_cases e:p.toNat=q
   ·rw[C9 e]at b
    exact⟨o.toNat,ω,d,b⟩
   ·rw[C8 e]at g b
    exact⟨q,n,g,b⟩
theorem Pk{k:af}{p o:Int}(h:aB k=true)(b:(au k.Machine.Table p).Mode≠0)(a:(Bq k p o).2=true)(q:Nat):(Bq k p o).1.Machine.Table.Entries.length=k.Machine.Table.Entries.length/\nth (Bq k p o).1.Machine.Table.Entries q=if(q:Int)=p then⟨2,(nth k.Machine.Table.Entries o.toNat).Frame⟩ else nth k.Machine.Table.Entries q:=by
 obtain⟨d,f,-⟩:=cu h b;unfold Bq at a |-;split at a
 ·cases a
 rename_i c;rw[C8 c];simp only[(pc _ _).1];simp only[xe,dx,O1,ch];refine⟨trivial,?_⟩;by_cases e:(q:Int)=p
 ·rw[C9 ⟨ω,ω⟩,C9 e]
 ·rw[C8 λz=>e ω,C8 e]
theorem PG{k:af}{p o:Int}(a:(Bq k p o).2=false):(Bq k p o).1=dx k:=by
 unfold Bq at a |-;split
 ·rfl
 ·rename_i b;rw[C8 b]at a;cases a
theorem JG{k:af}{a v:Int}(h:aB k=true)(g:0<=a)(b:0<=v/\v<=999):aB {k with Machine:=(lF k.Machine a v).1} = true/\(lF k.Machine a v).1.Table=k.Machine.Table:=by
 unfold lF;split
 ·exact⟨h,rfl⟩
 rename_i d;split
 ·exact⟨h,rfl⟩
 ·obtain⟨e,f,-⟩:=iV h d
  exact⟨qw h e f (c:=a % 16) b,rfl⟩
def oh(t:aH)(p:Int):Prop:=∀q:Nat,(nth t.Entries q).Mode≠0->(nth t.Entries q).Frame=(nth t.Entries p.toNat).Frame->(q:Int)=p
structure JI(h:ab):Prop where
 ph:h.Meshing=true->0<=h.Job.Phase/\h.Job.Phase<=3
 sp:h.Meshing=true->∃a∈h.Spans,∃b∈h.Spans,a.Page=h.Job.Plan.Keep/\b.Page=h.Job.Plan.Move/\meshable a b=true
 sk:h.Meshing=true->oh (tbl h) h.Job.Plan.Keep
 sm:h.Meshing=true->oh (tbl h) h.Job.Plan.Move
theorem oh.tEq{t a:aH}{p:Int}(h:oh t p)(b:tEq t a):oh a p:=λq c d=>by
 obtain⟨e,f⟩:=b.2 q;exact h q (e.1 c) (by rw[<-f,<-(b.2 p.toNat).2];exact d)
theorem Pg.tEq{t b:aH}{c:List ax}{sp:List ar}{la:List a7}(h:Pg t c sp la)(a:tEq t b):Pg b c sp la where
 one l hl p hp q hq h1 h2:=h.one l hl p hp q (by rw[<-a.1];exact hq) ((a.2 q).1.1 h1) (by rw[<-(a.2 q).2,<-(a.2 p).2];exact h2)
 bnd p hp:=by rw[a.1];exact h.bnd p hp
 own p hp:=(a.2 p).1.trans (h.own p (by rw[<-a.1];exact hp))
 fre p hp:=(a.2 p).1.trans (h.fre p (by rw[<-a.1];exact hp))
 mesh s hs u hu hne hf:=h.mesh s hs u hu hne (by rw[<-(a.2 _).2,<-(a.2 u.Page.toNat).2];exact hf)
theorem bm.step{h:ab}{E:List Int}(a:bm h E){k:af}(b:aB k=true)(c:k.Machine.Table.Entries.length=(tbl h).Entries.length)(d:Pg k.Machine.Table h.Free h.Spans h.Larges){j:cG}{m:Bool}(h1:m=true->jx j=true/\(∃s∈h.Spans,s.Page=j.Plan.Keep)/\∃s∈h.Spans,s.Page=j.Plan.Move)(e:m=false->qX j=true):bm {h with Kernel:=k,Meshing:=m,Job:=j} E:=
 {a with
   ker:=b
   rng:=by show bt ((k.Machine.Table.Entries.length:Nat):Int) h.Free=true;rw[c];exact a.rng
   pg:=d
   job:=h1
   noj:=e}
theorem qx.apart{sp:List ar}{la:List a7}(b:qx sp la){s:ar}(c:s∈sp){l:a7}(d:l∈la){p:Int}(a:p∈lpgs l l.Pages.toNat):s.Page≠p:=by
 unfold lpgs at a;simp only[z4,List.mem_range]at a;obtain⟨k,e,rfl⟩:=a;exact b.dis s c l d k e
theorem Pg.on{t H:aH}{Q:List ax}{sp:List ar}{la:List a7}(h:Pg t Q sp la)(r:qx sp la){a b:ar}(w:a∈sp)(L:b∈sp)(R:meshable a b=true)(A:oh t a.Page)(M:(nth t.Entries a.Page.toNat).Mode≠0)(N:(nth t.Entries b.Page.toNat).Mode≠0)(U:0<=b.Page)(J:H.Entries.length=t.Entries.length)(B:∀q:Nat,nth H.Entries q=if(q:Int)=b.Page then⟨2,(nth t.Entries a.Page.toNat).Frame⟩ else nth t.Entries q):Pg H Q sp la:=by
 have c:∀q:Nat,(nth H.Entries q).Mode≠0↔(nth t.Entries q).Mode≠0:=λq=>by
  rw[B];split
  ·rename_i e
   rw[show q=b.Page.toNat by omega];exact⟨λ_=>N,λ_=>by show(2:Int)≠0;omega⟩
  ·rfl
 have V:0<=a.Page:=by have:=r.sok a w;unfold aY at this;rw[C0]at this;omega
 refine⟨λl k p g q W S C=>?_,λp g=>by rw[J];exact h.bnd p g,λp g=>(c p).trans (h.own p (by rw[<-J];exact g)),λp g=>(c p).trans (h.fre p (by rw[<-J];exact g)),λs D u E F n=>?_⟩
 ·have O:¬(p:Int)=b.Page:=λe=>r.apart L k g e.symm
  rw[B p,C8 O,B q]at C;rw[c]at S;by_cases e:(q:Int)=b.Page
  ·rw[C9 e]at C
   have T:=h.one l k p g a.Page.toNat (by have:=h.bnd _ (dJ (la:=la) w);omega) M C;exact absurd (show a.Page=(p:Int) by omega) (r.apart w k g)
  ·rw[C8 e]at C
   exact h.one l k p g q (by rw[<-J];exact W) S C
 ·have X:0<=s.Page:=by have:=r.sok s D;unfold aY at this;rw[C0]at this;omega
  have Y:0<=u.Page:=by have:=r.sok u E;unfold aY at this;rw[C0]at this;omega
  have d:∀x∈sp,∀y∈sp,x.Page=y.Page->x=y:=λx G y Z e=>by
   obtain⟨i,hi,rfl⟩:=aW G;obtain⟨j,hj,rfl⟩:=aW Z;rw[gY (f:=(·.Page)) r.nd hi hj e]
  have o:∀x∈sp,(nth t.Entries x.Page.toNat).Mode≠0:=λx G=>by
   have hx0:0<=x.Page:=by have:=r.sok x G;unfold aY at this;rw[C0]at this;omega
   refine(h.own x.Page.toNat (by have:=h.bnd _ (dJ (la:=la) G);omega)).2 ?_;rw[show((x.Page.toNat:Nat):Int)=x.Page by omega];exact dJ G
  rw[B,B]at n;simp only[show((s.Page.toNat:Nat):Int)=s.Page by omega,show((u.Page.toNat:Nat):Int)=u.Page by omega]at n;by_cases K:s.Page=b.Page
  ·rw[C9 K,C8 (λe=>F (K.trans e.symm))]at n
   have T:=A u.Page.toNat (o u E) n.symm;rw[d s D b L K,d u E a w ω,iT];exact R
  ·rw[C8 K]at n
   by_cases P:u.Page=b.Page
   ·rw[C9 P]at n
    have T:=A s.Page.toNat (o s D) n;rw[d u E b L P,d s D a w ω];exact R
   ·rw[C8 P]at n
    exact h.mesh s D u E F n
def over(j:cG):Bool:=decide (j.Phase=4\/j.Phase=5)
def jz(k:af)(j:cG):af × cG:=if jmay k j=true then jstep k j else(k,j)
def mStep(h:ab):ab:={h with Kernel:=(jz h.Kernel h.Job).1,Meshing:=if over (jz h.Kernel h.Job).2=true then false else h.Meshing,Job:=if over (jz h.Kernel h.Job).2=true then⟨⟨0,0,[]⟩,0,0⟩ else(jz h.Kernel h.Job).2}
def Dt(h:ab):Bool:=decide ((jz h.Kernel h.Job).2.Phase=4)
theorem fQ{j:cG} : jx j=true↔fj j.Plan=true/\0<=j.Phase/\j.Phase<=5/\0<=j.Next/\j.Next<=j.Plan.Cells.length:=by
 unfold jx;simp only[I0,C0]
theorem mn{p:cv}(h:fj p=true){i:Nat}(a:i<p.Cells.length):0<=nth p.Cells i/\nth p.Cells i<=15:=by
 unfold fj at h;simp only[I0]at h;have:=dI h.1 a;unfold mJ at this;rw[C0]at this;exact⟨this.1,this.2.1⟩
structure JS(h:ab)(k:af)(j:cG):Prop where
 ker:aB k=true
 len:k.Machine.Table.Entries.length=(tbl h).Entries.length
 pg:j.Phase≠4\/JI h->Pg k.Machine.Table h.Free h.Spans h.Larges
 ph:0<=j.Phase/\j.Phase<=5
 plan:j.Plan=h.Job.Plan
 nxt:0<=j.Next/\j.Next<=j.Plan.Cells.length
 eq:j.Phase≠4->tEq (tbl h) k.Machine.Table
 calls:h.Kernel.Calls<=k.Calls/\k.Calls<=h.Kernel.Calls+1/\k.Refuse=h.Kernel.Refuse
theorem vI(k:af)(p m:Int):(kj k p m).1.Calls=k.Calls+1/\(kj k p m).1.Refuse=k.Refuse:=by
 unfold kj;split<;>exact⟨rfl,rfl⟩
theorem KQ(k:af)(p o:Int):(Bq k p o).1.Calls=k.Calls+1/\(Bq k p o).1.Refuse=k.Refuse:=by
 unfold Bq;split
 ·exact⟨rfl,rfl⟩
 ·obtain⟨-,a,b,-⟩:=pc (xe (dx k) p.toNat ⟨2,(nth k.Machine.Table.Entries o.toNat).Frame⟩) (nth k.Machine.Table.Entries p.toNat).Frame
  simp only[a,b];exact⟨rfl,rfl⟩
theorem JS.of{h:ab}{E:List Int}(c:bm h E)(B:h.Meshing=true):JS h (jz h.Kernel h.Job).1 (jz h.Kernel h.Job).2:=by
 obtain⟨R,-,-⟩:=c.job B;obtain⟨O,y,A,o,p⟩:=fQ.1 R;unfold jz;split
 case isFalse=>exact⟨c.ker,rfl,λ_=>c.pg,⟨y,A⟩,rfl,⟨o,p⟩,λ_=>tEq.refl _,X4 _,by show h.Kernel.Calls<=h.Kernel.Calls+1;omega,rfl⟩
 rename_i d;unfold jmay at d;simp only[I0,C0]at d;obtain⟨⟨-,C⟩,-,u,r,D⟩:=d;have fin:∀(k:af)(j:cG),aB k=true->tEq (tbl h) k.Machine.Table->0<=j.Phase/\j.Phase<=5->j.Plan=h.Job.Plan->0<=j.Next/\j.Next<=j.Plan.Cells.length->h.Kernel.Calls<=k.Calls/\k.Calls<=h.Kernel.Calls+1/\k.Refuse=h.Kernel.Refuse->JS h k j:=
  λk j S F T U V W=>⟨S,F.1,λ_=>c.pg.tEq F,T,U,V,λ_=>F,W⟩
 have P:=(aD.1 c.ker).2.2.2.2;unfold jstep;split
 ·obtain⟨l,w⟩:=Ep c.ker C r (m:=1) (.inl rfl)
  obtain⟨g,t⟩:=vI h.Kernel h.Job.Plan.Move 1;refine fin _ _ l w ?_ rfl ⟨o,p⟩ ⟨by rw[g];omega,by rw[g];omega,t⟩;show 0<=(if _ then _ else _:Int)/\(if _ then _ else _:Int)<=5;split<;>omega
 split
 ·split
  ·exact fin _ _ c.ker (tEq.refl _) ⟨by show(0:Int)<=2;omega,by show(2:Int)<=5;omega⟩ rfl ⟨o,p⟩ ⟨X4 _,by show h.Kernel.Calls<=h.Kernel.Calls+1;omega,rfl⟩
  ·have n:=mn O (i:=h.Job.Next.toNat) ω
   refine fin _ _ (K7 c.ker r u n) (tEq.refl _) ⟨y,A⟩ rfl ⟨by show 0<=h.Job.Next+1;omega,by show h.Job.Next+1<=h.Job.Plan.Cells.length;omega⟩ ⟨X4 _,by show h.Kernel.Calls<=h.Kernel.Calls+1;omega,rfl⟩
 split
 ·have G:h.Job.Plan.Move≠h.Job.Plan.Keep:=λe=>D (by rw[e])
  have l:=PI c.ker C r u G;obtain⟨g,t⟩:=KQ h.Kernel h.Job.Plan.Move h.Job.Plan.Keep;cases e:(Bq h.Kernel h.Job.Plan.Move h.Job.Plan.Keep).2 with
  | false=>
   rw[C8 (by simp)];refine fin _ _ l (tEq.of ?_) ⟨by show(0:Int)<=3;omega,by show(3:Int)<=5;omega⟩ rfl ⟨o,p⟩ ⟨by rw[g];omega,by rw[g];omega,t⟩;rw[PG e];rfl
  | true=>
   rw[C9 rfl];obtain⟨X,m2,Y,-⟩:=cu c.ker r;obtain⟨n1,n2,Z,-⟩:=cu c.ker u;have f:=Pk c.ker r e;refine⟨l,(f 0).1,λH=>?_,⟨by show(0:Int)<=4;omega,by show(4:Int)<=5;omega⟩,rfl,⟨o,p⟩,λJ=>absurd rfl J,by rw[g];omega,by rw[g];omega,t⟩;have Q:JI h:=H.elim (λJ=>absurd rfl J) id;obtain⟨a,ha,b,hb,K,M,N⟩:=Q.sp B;refine c.pg.on c.L ha hb N (by rw[K];exact Q.sk B) (by rw[K];show(nth h.Kernel.Machine.Table.Entries _).Mode≠0;rw[<-Z];exact u) (by rw[M];show(nth h.Kernel.Machine.Table.Entries _).Mode≠0;rw[<-Y];exact r) (by rw[M];exact X) (f 0).1 λq=>?_
   rw[(f q).2,M,K];rfl
 split
 ·split
  ·rename_i hn0
   have n:=mn O (i:=(h.Job.Next - 1).toNat) ω;have hk0:=(cu c.ker u).1;obtain⟨l,w⟩:=JG c.ker (a:=h.Job.Plan.Keep*16+nth h.Job.Plan.Cells (h.Job.Next - 1).toNat) (v:=0) ω ⟨ω,ω⟩;exact fin _ _ l (tEq.of w) ⟨y,A⟩ rfl ⟨by show 0<=h.Job.Next - 1;omega,by show h.Job.Next - 1<=h.Job.Plan.Cells.length;omega⟩ ⟨X4 _,by show h.Kernel.Calls<=h.Kernel.Calls+1;omega,rfl⟩
  ·obtain⟨l,w⟩:=Ep c.ker C r (m:=2) (.inr rfl)
   obtain⟨g,t⟩:=vI h.Kernel h.Job.Plan.Move 2;refine fin _ _ l w ?_ rfl ⟨o,p⟩ ⟨by rw[g];omega,by rw[g];omega,t⟩;show 0<=(if _ then _ else _:Int)/\(if _ then _ else _:Int)<=5;split<;>omega
 ·exact fin _ _ c.ker (tEq.refl _) ⟨y,A⟩ rfl ⟨o,p⟩ ⟨X4 _,by show h.Kernel.Calls<=h.Kernel.Calls+1;omega,rfl⟩
theorem bm.mStep{h:ab}{E:List Int}(d:bm h E)(f:JI h)(c:h.Meshing=true):bm (mStep h) E/\JI (mStep h):=by
 have s:=JS.of d c;unfold Ab.mStep;generalize (jz h.Kernel h.Job).1=k at s |-;generalize (jz h.Kernel h.Job).2=j at s |-;cases e:over j with
 | true=>
  refine⟨d.step s.ker s.len (s.pg (.inr f)) (λh=>by simp at h) (λ_=>by simp[qX]),?_⟩;exact⟨λh=>by simp at h,λh=>by simp at h,λh=>by simp at h,λh=>by simp at h⟩
 | false=>
  simp only[Bool.false_eq_true,if_false];unfold over at e;simp only[T4,not_or]at e;have g:=s.eq e.1;have i:=s.ph;refine⟨d.step s.ker s.len (s.pg (.inr f)) (λ_=>⟨fQ.2 ⟨by rw[s.plan];exact(fQ.1 (d.job c).1).1,s.ph.1,s.ph.2,s.nxt⟩,by rw[s.plan];exact(d.job c).2⟩) (λh=>by rw[c]at h;cases h),?_⟩;refine⟨λ_=>⟨s.ph.1,by show j.Phase<=3;omega⟩,λ_=>?_,λ_=>?_,λ_=>?_⟩
  ·show ∃a∈h.Spans,∃b∈h.Spans,a.Page=j.Plan.Keep/\b.Page=j.Plan.Move/\meshable a b=true
   rw[s.plan];exact f.sp c
  ·show oh k.Machine.Table j.Plan.Keep
   rw[s.plan];exact(f.sk c).tEq g
  ·show oh k.Machine.Table j.Plan.Move
   rw[s.plan];exact(f.sm c).tEq g
open Go.RowKit
set_option maxRecDepth 20000
set_option maxHeartbeats 4000000
def PK(k:af)(a:Int):Int:=nth (nth k.Machine.Frames.Cells (au k.Machine.Table (a / 16)).Frame.toNat) (a % 16).toNat
def cellsOf(k:af)(a:Int)(n:Nat):List Int:=(List.range n).map λ(i:Nat)=>PK k (a+i)
theorem ro{sp:List ar}{la:List a7}{a:Int}(h:(denotes sp la a).Kind=1):∃i:Nat,i<sp.length/\(denotes sp la a).Index=i/\cm (nth sp i) a=true/\denotes sp la a=mV i (nth sp i) a:=by
 unfold denotes at h |-;cases e:sp.findIdx? (cm · a) with
 | some i=>
  obtain⟨b,d,-⟩:=U6.1 e;refine⟨i,b,rfl,?_,rfl⟩;rw[bq (I2 b)];exact d
 | none=>
  rw[e]at h;simp only at h;cases c:la.findIdx? (bo · a) with
  | some i=>rw[c]at h;simp at h
  | none=>rw[c]at h;simp at h
theorem DN{sp:List ar}{la:List a7}{a:Int}(h:(denotes sp la a).Kind=3):∃i:Nat,i<la.length/\(denotes sp la a).Index=i/\bo (nth la i) a=true/\denotes sp la a = ⟨3,i,0,a - 16*(nth la i).Page⟩:=by
 unfold denotes at h |-;cases e:sp.findIdx? (cm · a) with
 | some i=>
  rw[e]at h;simp only[mV]at h;split at h<;>simp at h
 | none=>
  rw[e]at h;simp only at h |-;cases b:la.findIdx? (bo · a) with
  | some i=>
   obtain⟨c,d,-⟩:=U6.1 b;refine⟨i,c,rfl,?_,rfl⟩;rw[bq (I2 c)];exact d
  | none=>rw[b]at h;simp at h
theorem mZ{n:Int}(h:0<=aL n):1<=n/\n<=8:=by
 unfold aL at h;split at h
 ·omega
 ·split at h
  ·omega
  ·split at h
   ·omega
   ·split at h
    ·omega
    ·split at h<;>omega
theorem Pd{h:ab}{o:bK}(c:iL h o=true):0<=o.Addr/\o.Addr<=2000/\1<=o.Size/\o.Size<=1000:=by
 unfold iL at c;simp only[I0,X5,C0]at c;obtain⟨-,⟨d,e⟩|⟨d,e⟩⟩:=c
 ·obtain⟨i,f,a,b,-⟩:=ro d
  rw[a,X2]at e;unfold cm aY at b;simp only[I0,C0]at b;have:=mZ (n:=o.Size) ω;omega
 ·obtain⟨i,f,a,b,-⟩:=DN d
  rw[a,X2]at e;unfold bo bQ at b;simp only[I0,C0]at b;omega
theorem ww{h:ab}(a:dM h=true):bX h=true/\eO h=true:=by
 unfold dM at a;simp only[I0]at a;exact⟨a.1.1.2,a.1.2.1⟩
theorem Ps{h:ab}(a:dM h=true):1<=h.Next/\h.Next<=1000000:=by
 have:=(ww a).1;unfold bX at this;rw[C0]at this;omega
theorem MV{h:ab}(c:dM h=true){i:Nat}(f:i<h.Objs.length):1<=(nth h.Objs i).Id/\(nth h.Objs i).Id<h.Next/\0<=(nth h.Objs i).Addr/\(nth h.Objs i).Addr<=2000/\1<=(nth h.Objs i).Size/\(nth h.Objs i).Size<=1000/\∀j,j<i->(nth h.Objs j).Id≠(nth h.Objs i).Id:=by
 obtain⟨-,g⟩:=ww c;obtain⟨o,p⟩:=Ps c;have a:=dI g f;rw[eM ω ω]at a;unfold objAt gy at a;simp only[I0,C0,Bool.not_eq_true']at a;obtain⟨⟨k,d⟩,l⟩:=a;have b:=Pd l;refine⟨k.2.1,ω,b.1,b.2.1,b.2.2.1,b.2.2.2,λj n e=>?_⟩;rw[List.any_eq_false]at d;refine d (nth h.Objs j) ?_ (by unfold jA;exact O0 e);have:(h.Objs.take i)[j]? = some (nth h.Objs j):=by rw[List.getElem?_take,C9 n,ah ω]
 exact Z1 this
def dD{α:Type}[Inhabited α](f:α->Int)(xs:List α):Nat->Int
 | 0=>0
 | i+1=>dD f xs i+f (nth xs i)
theorem jh{α:Type}[Inhabited α]{f:α->Int}{xs:List α}{b:Int}(h:∀y∈xs,0<=f y/\f y<=b):∀i:Nat,i<=xs.length->0<=dD f xs i/\dD f xs i<=b*i
 | 0,_=>by simp[dD]
 | i+1,a=>by
  have c:=jh h i ω;have d:=h _ (am (xs:=xs) (i:=i) ω);have e:b*((i+1:Nat):Int)=b*i+b:=by rw[Int.natCast_add,Int.mul_add];simp
  simp only[dD];omega
def bZ(e:bf):Int:=if e.Mode≠0 then 1 else 0
theorem uy(e:bf):0<=bZ e/\bZ e<=1:=by unfold bZ;split<;>omega
def fy(t:aH):Int:=dD bZ t.Entries t.Entries.length
def mY(s:ar)(c:Nat):Bool:=aU s.Bits (((c:Nat):Int) / csz s.Class)
def qP(s:ar)(n:Nat):List Int:=((List.range n).filter (mY s)).map λ(i:Nat)=>(i:Int)
theorem ER{s:ar}{n:Nat}(h:mY s n=true):qP s (n+1)=qP s n++[(n:Int)]:=by
 unfold qP;rw[List.range_succ,List.filter_append,O5];simp[h]
theorem Ho{s:ar}{n:Nat}(h:mY s n=false):qP s (n+1)=qP s n:=by
 unfold qP;rw[List.range_succ,List.filter_append,O5];simp[h]
theorem rJ(s:ar)(n:Nat):(qP s n).length<=n:=by
 unfold qP;rw[Z0];exact V4 (List.length_filter_le _ _) (by simp)
def Jm(s:ar):Int:=((qP s 16).length:Nat)
theorem LC(s:ar):0<=Jm s/\Jm s<=16:=by have:=rJ s 16;unfold Jm;omega
def kb(sp:List ar)(la:List a7):Int:=dD Jm sp sp.length+dD (·.Size) la la.length
theorem NK{la:List a7}(h:la.all bQ=true):∀l∈la,0<=l.Size/\l.Size<=1000:=λl b=>by
 have a:=Y3.1 h l b;unfold bQ at a;rw[C0]at a;omega
def dK(o:bK):Int:=if 0<=aL o.Size then csz (aL o.Size) else o.Size
theorem vH{h:ab}(a:dM h=true):∀o∈h.Objs,1<=o.Size/\o.Size<=1000:=λo b=>by
 obtain⟨i,c,rfl⟩:=aW b;obtain⟨f,g,j,k,d,e,-⟩:=MV a c;exact⟨d,e⟩
theorem csz8(k:Int):0<=csz k/\csz k<=8:=sA k
theorem FG{h:ab}(a:dM h=true):∀o∈h.Objs,0<=dK o/\dK o<=1000:=λo b=>by
 have c:=vH a o b;have d:=csz8 (aL o.Size);unfold dK;split<;>omega
theorem uz:∀(a:List (List Int))(k:Nat),(∀l∈a,l.length<=8)->0<=cK k a/\cK k a<=64*a.length
 | [],_,_=>by simp[cK]
 | l::a,k,h=>by
  have d:=uz a (k+1) λy c=>h y (v5 _ c)
  have b:=Lc k;have e:=Hq (h l (V1 ..)) b.1 b.2;simp only[cK,List.length_cons];omega
theorem qf(c:aA):0<=bj c/\bj c<=256:=by
 unfold bj;split
 ·rename_i h
  obtain⟨b,a⟩:=kV h;have:=uz c.Lists 0 a;omega
 ·omega
def ed(h:ab)(a:Int):Int:=csz (nth h.Spans (eB h (a / 16)).toNat).Class
def cC(h:ab):gS:=
 ⟨dS h,fy h.Kernel.Machine.Table,dX h.Kernel.Machine.Frames,kb h.Spans h.Larges,dD dK h.Objs h.Objs.length,dD bj h.Caches h.Caches.length,quarCells h.Quar.Lst h.Quar.Lst.length,dD (ed h) (aE h.Mail) (aE h.Mail).length⟩
theorem Qr{h:ab}(e:dM h=true){a:Int}(f:a∈aE h.Mail):∃i:Nat,i<h.Spans.length/\(denotes h.Spans h.Larges a).Index=i/\eB h (a / 16)=i/\0<=a/\a<=600:=by
 obtain⟨-,g,-,-,-,-,-,-,j,-⟩:=zL e;have c:=Y3.1 ((j7 h).1 j).2 a f;unfold jl cZ at c;simp only[I0,C0]at c;obtain⟨i,b,k,l,-⟩:=ro c.1.1;have d:=qx.of g;have n:=aC (d.sok _ (am b));have o:=(fA (d.sok _ (am b))).1 l;refine⟨i,b,k,?_,ω,ω⟩;rw[show a / 16=(nth h.Spans i).Page by omega];exact jZ d b
def BF(a:gS):Bool:=decide ((0<=a.Pages/\a.Pages<=100000)/\(0<=a.Mapped/\a.Mapped<=100000)/\(0<=a.Frames/\a.Frames<=100000)/\(0<=a.Held/\a.Held<=100000)/\(0<=a.Live/\a.Live<=100000)/\(0<=a.Cached/\a.Cached<=100000)/\(0<=a.Stale/\a.Stale<=100000)/\(0<=a.Posted/\a.Posted<=100000)/\a.Held=a.Live+a.Cached+a.Stale+a.Posted/\a.Frames<=a.Mapped/\a.Mapped<=a.Pages)
def bor(n m:Int):Int:=((n.toNat ||| m.toNat:Nat):Int)
def si(sp:List ar)(p:Int)(b:Int):Nat->Int
 | 0=>b
 | j+1=>if(nth sp j).Page=p then bor (si sp p b j) (nth sp j).Bits else si sp p b j
def jE(sp:List ar)(ps:List Int)(b:Int):Nat->Int
 | 0=>b
 | k+1=>si sp (nth ps k) (jE sp ps b k) sp.length
def gW(h:ab)(i:Nat):Int:=jE h.Spans (aT h (nth h.Spans i).Page) (nth h.Spans i).Bits (aT h (nth h.Spans i).Page).length
theorem Lr{n m:Int}(h1:0<=n/\n<=65535)(a:0<=m/\m<=65535):0<=bor n m/\bor n m<=65535:=by
 have b:n.toNat ||| m.toNat<2 ^ 16:=Nat.or_lt_two_pow ω ω
 unfold bor;omega
theorem vj{sp:List ar}(h:∀s∈sp,aY s=true){j:Nat}(b:j<sp.length):0<=(nth sp j).Bits/\(nth sp j).Bits<=65535:=by
 have a:=h _ (am b);have c:=Gn (nth sp j).Class;unfold aY at a;rw[C0]at a;omega
theorem vd{sp:List ar}(h:∀s∈sp,aY s=true){p b:Int}(a:0<=b/\b<=65535):∀j,j<=sp.length->0<=si sp p b j/\si sp p b j<=65535
 | 0,_=>a
 | j+1,d=>by
  have c:=vd h (p:=p) a j ω;simp only[si];split
  ·exact Lr c (vj h ω)
  ·exact c
theorem rK{sp:List ar}(h:∀s∈sp,aY s=true){ps:List Int}{b:Int}(a:0<=b/\b<=65535):∀k,0<=jE sp ps b k/\jE sp ps b k<=65535
 | 0=>a
 | k+1=>by simp only[jE];exact vd h (rK h a k) _ (z3 _)
theorem na{b i:Int}(a:0<=b)(c:0<=i/\i<=15):aU b i=b.toNat.testBit i.toNat:=by
 unfold aU;rw[Nat.testBit_eq_decide_div_mod_eq];refine decide_eq_decide.2 ?_;obtain⟨n,rfl⟩ : ∃n:Nat,b=n:=⟨b.toNat,ω⟩
 rw[X2];have d:((n / 2 ^ i.toNat:Nat):Int)=(n:Int) / 2 ^ i.toNat:=by simp
 omega
theorem Gm{n m i:Int}(b:0<=n)(c:0<=m)(a:0<=i/\i<=15):aU (bor n m) i=(aU n i || aU m i):=by
 rw[na (by unfold bor;omega) a,na b a,na c a];unfold bor;rw[X2,Nat.testBit_or]
theorem DB{sp:List ar}(h:∀s∈sp,aY s=true){p b i:Int}(k:0<=b/\b<=65535)(l:0<=i/\i<=15):∀j,j<=sp.length->(aU (si sp p b j) i=true↔aU b i=true\/∃q,q<j/\(nth sp q).Page=p/\aU (nth sp q).Bits i=true)
 | 0,_=>by simp[si]
 | j+1,t=>by
  have n:=DB h (p:=p) k l j ω;have o:=vd h (p:=p) k j ω;have r:=vj h (j:=j) ω;simp only[si];split
  ·rename_i d
   rw[Gm o.1 r.1 l,X5,n];constructor
   ·rintro((e|⟨q,f,a⟩)|e)
    ·exact .inl e
    ·exact .inr ⟨q,ω,a⟩
    ·exact .inr ⟨j,ω,d,e⟩
   ·rintro(e|⟨q,f,a,c⟩)
    ·exact .inl (.inl e)
    ·by_cases g:q=j
     ·subst g;exact .inr c
     ·exact .inl (.inr ⟨q,ω,a,c⟩)
  ·rename_i d
   rw[n];constructor
   ·rintro(e|⟨q,f,a⟩)
    ·exact .inl e
    ·exact .inr ⟨q,ω,a⟩
   ·rintro(e|⟨q,f,a,c⟩)
    ·exact .inl e
    ·by_cases g:q=j
     ·subst g;exact absurd a d
     ·exact .inr ⟨q,ω,a,c⟩
theorem zM{sp:List ar}(h:∀s∈sp,aY s=true){ps:List Int}{b i:Int}(d:0<=b/\b<=65535)(f:0<=i/\i<=15):∀k,(aU (jE sp ps b k) i=true↔aU b i=true\/∃u,u<k/\∃q,q<sp.length/\(nth sp q).Page=nth ps u/\aU (nth sp q).Bits i=true)
 | 0=>by simp[jE]
 | k+1=>by
  have g:=zM h (ps:=ps) d f k;have j:=rK h (ps:=ps) d k;simp only[jE];rw[DB h j f _ (z3 _),g];constructor
  ·rintro((e|⟨u,c,a⟩)|⟨q,c,a⟩)
   ·exact .inl e
   ·exact .inr ⟨u,ω,a⟩
   ·exact .inr ⟨k,ω,q,c,a⟩
  ·rintro(e|⟨u,c,a⟩)
   ·exact .inl (.inl e)
   ·by_cases l:u=k
    ·subst l;exact .inr a
    ·exact .inl (.inr ⟨u,ω,a⟩)
theorem Dp{s:ar}(a:aY s=true){c:Nat}(d:c<16):0<=((c:Nat):Int) / csz s.Class/\((c:Nat):Int) / csz s.Class<=15:=by
 have f:=aC a;have b:csz s.Class=1\/csz s.Class=2\/csz s.Class=4\/csz s.Class=8:=bO ω;rcases b with e|e|e|e<;>rw[e]<;>omega
def jY{α:Type}(p:α->Bool)(xs:List α):Nat:=(xs.findIdx? p).getD xs.length
def jv{α:Type}(p:α->Bool)(xs:List α)(y:α):List α:=xs.take (jY p xs)++y::xs.drop (jY p xs)
theorem Pb{α:Type}(p:α->Bool)(xs:List α):jY p xs<=xs.length:=by
 unfold jY;cases e:xs.findIdx? p with
 | none=>exact z3 _
 | some i=>exact Nat.le_of_lt (U6.1 e).1
theorem kg{α:Type}(p:α->Bool)(xs:List α)(y:α):(jv p xs y).Perm (y::xs):=by
 unfold jv;refine List.perm_middle.trans ?_;rw[List.take_append_drop]
theorem dt{α:Type}{p:α->Bool}{xs:List α}{y z:α} : z∈jv p xs y↔z=y\/z∈xs:=by
 rw[(kg p xs y).mem_iff,List.mem_cons]
theorem vo{α:Type}{p:α->Bool}{xs:List α}{i:Nat}(c:i<=xs.length)(a:∀(j:Nat)(z:α),j<i->xs[j]? = some z->p z=false)(b:∀z,xs[i]? = some z->p z=true):jY p xs=i:=by
 unfold jY;by_cases e:i<xs.length
 ·rw[vb (I2 e) (b _ (I2 e)) a];rfl
 ·rw[wa ω a];show xs.length=i;omega
theorem kQ{α:Type}{f:α->Int}{xs:List α}{y:α}(h:xs.Pairwise λa b=>f a<f b)(p:∀z∈xs,f z≠f y):(jv (λz=>decide (f y<=f z)) xs y).Pairwise λa b=>f a<f b:=by
 have q:∀z∈xs.drop (jY (λz=>decide (f y<=f z)) xs),f y<f z:=λz g=>by
  obtain⟨j,k,rfl⟩:=List.mem_drop_iff_getElem.1 g;have C:=p _ (List.getElem_mem k);cases e:xs.findIdx? (λz=>decide (f y<=f z)) with
  | none=>
   have l:jY (λz=>decide (f y<=f z)) xs=xs.length:=by unfold jY;rw[e];rfl
   rw[l]at k;omega
  | some i=>
   have l:jY (λz=>decide (f y<=f z)) xs=i:=by unfold jY;rw[e];rfl
   obtain⟨r,t,-⟩:=U6.1 e;rw[C0]at t;have c:i+j<xs.length:=by rw[<-l];omega
   have n:f xs[i+j]≠f y:=p _ (List.getElem_mem c);have d:f y<f xs[i+j]:=by
    cases j with
    | zero=>simp only[Nat.add_zero]at n |-;omega
    | succ j=>
     have:=List.pairwise_iff_getElem.1 h i (i+(j+1)) r c ω;omega
   have w:xs[jY (λz=>decide (f y<=f z)) xs+j]? = xs[i+j]?:=by rw[l]
   rw[I2 ω,I2 c]at w;rw[Option.some.inj w];exact d
 have A:∀z∈xs.take (jY (λz=>decide (f y<=f z)) xs),f z<f y:=λz g=>by
  obtain⟨j,k,rfl⟩:=List.mem_take_iff_getElem.1 g;unfold jY at k;cases e:xs.findIdx? (λz=>decide (f y<=f z)) with
  | none=>
   have:=List.findIdx?_eq_none_iff.1 e _ (List.getElem_mem (show j<xs.length by omega));simp only[T4]at this;omega
  | some i=>
   obtain⟨r,t,B⟩:=U6.1 e;simp only[e,Option.getD_some]at k;have:=B j ω;simp only[C0]at this;omega
 unfold jv;refine List.pairwise_append.2 ⟨h.sublist (List.take_sublist ..),List.pairwise_cons.2 ⟨q,h.sublist (List.drop_sublist ..)⟩,λz g u o=>?_⟩;rcases List.mem_cons.1 o with rfl|o
 ·exact A z g
 ·exact Int.lt_trans (A z g) (q u o)
def gI(b i:Int):Int:=((b.toNat ||| 2 ^ i.toNat:Nat):Int)
def qr(s:ar)(i:Int):ar:={s with Bits:=gI s.Bits i}
theorem vA(b i:Int)(j:Nat):(gI b i).toNat.testBit j=(b.toNat.testBit j || decide (i.toNat=j)):=by
 unfold gI;rw[X2,Nat.testBit_or,Nat.testBit_two_pow]
theorem GB{b i:Int}(g:0<=b)(e:0<=i/\i<=15)(j:Int):aU (gI b i) j=true↔aU b j=true\/j=i:=by
 rw[gt,gt,vA,X5,C0];have f:0<=gI b i:=by unfold gI;omega
 constructor
 ·rintro⟨h,c,d,a|a⟩
  ·exact .inl ⟨g,c,d,a⟩
  ·exact .inr ω
 ·rintro(⟨h,c,d,a⟩|rfl)
  ·exact⟨f,c,d,.inl a⟩
  ·exact⟨f,e.1,e.2,.inr rfl⟩
theorem gE{k:Int}(h:0<=k/\k<=3):lim k=2 ^ (slots k).toNat - 1/\0<=slots k/\slots k<=16/\slots k*csz k=16:=by
 obtain rfl|rfl|rfl|rfl:k=0\/k=1\/k=2\/k=3:=ω
 all_goals decide
theorem BE{s:ar}(h:aY s=true){i:Int}(k:0<=i/\i<slots s.Class):aY (qr s i)=true:=by
 have b:=aC h;obtain⟨c,l,o,-⟩:=gE b.2.2;unfold aY at h;rw[C0]at h;obtain⟨d,e,f,g,p,a⟩:=h;refine O0 ⟨d,e,f,g,by show 0<=gI s.Bits i;unfold gI;omega,?_⟩;show gI s.Bits i<=lim s.Class;rw[c]at a |-;have j:((2 ^ (slots s.Class).toNat:Nat):Int)=(2:Int) ^ (slots s.Class).toNat:=by norm_cast
 rw[<-j]at a |-;have:=Nat.or_lt_two_pow (x:=s.Bits.toNat) (y:=2 ^ i.toNat) (n:=(slots s.Class).toNat) ω (Nat.pow_lt_pow_right ω ω);unfold gI;omega
theorem z7{s u:ar}{i:Int}(b:0<=i/\i<slots s.Class)(c:aU u.Bits i=false)(h:meshable s u=true):meshable (qr s i) u=true:=by
 unfold meshable at h |-;simp only[I0,C0]at h |-;obtain⟨⟨d,f⟩,k,l,o⟩:=h;have p:=aC d;obtain⟨r,t,w,-⟩:=gE p.2.2;have a:=en f;refine⟨⟨BE d b,f⟩,k,l,?_⟩;refine Nat.eq_of_testBit_eq λj=>?_
 have g:=W0 (λn=>Nat.testBit n j) o;simp only[Nat.testBit_and,Nat.zero_testBit,qr,vA]at g |-;by_cases e:i.toNat=j
 ·have:u.Bits.toNat.testBit j=false:=by
   rw[<-z5];intro q;have:=(gt u.Bits i).2 ⟨a.1,b.1,ω,by rw[e];exact q⟩;rw[this]at c;cases c
  rw[this];simp
 ·rw[T0 e,Bool.or_false];exact g
theorem tn{s:ar}(h:aY s=true){i:Int}(n:0<=i/\i<slots s.Class)(b:Int):eE (qr s i) b↔eE s b\/b=16*s.Page+i*csz s.Class:=by
 have g:=aC h;obtain⟨o,p,k,l⟩:=gE g.2.2;have j:=bO g.2.2;unfold eE;simp only[qr];rw[GB (en h).1 ω];constructor
 ·rintro⟨d,f,c,a|a⟩
  ·exact .inl ⟨d,f,c,a⟩
  ·right
   rcases j with e|e|e|e<;>rw[e]at c a |-<;>omega
 ·rintro(⟨d,f,c,a⟩|rfl)
  ·exact⟨d,f,c,.inl a⟩
  ·have q:slots s.Class<=16:=k
   rcases j with e|e|e|e<;>rw[e]at l |-<;>refine⟨?_,?_,?_,.inr ?_⟩<;>omega
theorem Kf{sp:List ar}{i:Nat}(k:Int)(a:i<sp.length):(sp.set i (qr (nth sp i) k)).map (·.Page)=sp.map (·.Page):=by
 rw[W5];refine List.ext_getElem (by simp) λj b c=>?_
 rw[List.getElem_set];split
 ·rename_i e;subst e
  rw[List.getElem_map];show(nth sp i).Page=_;rw[bq (I2 a)]
 ·rfl
theorem jj.setS{sp:List ar}{la:List a7}(p:qx sp la){i:Nat}(g:i<sp.length){k:Int}(h:0<=k/\k<slots (nth sp i).Class)(b c:Int):jj (sp.set i (qr (nth sp i) k)) b c↔jj sp b c\/(b=16*(nth sp i).Page+k*csz (nth sp i).Class/\(c<0\/(nth sp i).Class=c)):=by
 have d:=p.sok _ (am g);constructor
 ·rintro⟨s,l,f,a⟩
  rcases fw l with rfl|⟨j,n,q,rfl⟩
  ·rcases(tn d h b).1 f with o|o
   ·exact .inl ⟨_,am g,o,a⟩
   ·exact .inr ⟨o,a⟩
  ·exact .inl ⟨_,am n,f,a⟩
 ·rintro(⟨s,l,f,a⟩|⟨f,a⟩)
  ·obtain⟨j,n,rfl⟩:=aW l
   by_cases e:j=i
   ·subst e
    exact⟨_,iI _ g,(tn d h b).2 (.inl f),a⟩
   ·exact⟨_,jo _ n e,f,a⟩
  ·exact⟨_,iI _ g,(tn d h b).2 (.inr f),a⟩
theorem Nf{h:ab}{E:List Int}(d:bm h E){i:Nat}(l:i<h.Spans.length){k:Int}(p:0<=k/\k<=15)(b:aU (gW h i) k=false):aU (nth h.Spans i).Bits k=false/\∀u∈h.Spans,(nth (tbl h).Entries u.Page.toNat).Frame=(nth (tbl h).Entries (nth h.Spans i).Page.toNat).Frame->aU u.Bits k=false:=by
 have e:=d.L;have q:=en (e.sok _ (am l));unfold gW at b;rw[<-z5,zM e.sok q p]at b;rw[not_or]at b;have r:aU (nth h.Spans i).Bits k=false:=by simpa using b.1
 have a:∀s∈h.Spans,s.Page.toNat<dS h/\(nth (tbl h).Entries s.Page.toNat).Mode≠0/\((s.Page.toNat:Nat):Int)=s.Page:=λs f=>by
  have K:=aC (e.sok s f);have M:=d.pg.bnd s.Page (dJ f);have n:s.Page.toNat<(tbl h).Entries.length:=ω
  have o:((s.Page.toNat:Nat):Int)=s.Page:=ω
  exact⟨n,(d.pg.own _ n).2 (by rw[o];exact dJ f),o⟩
 refine⟨r,λu c t=>?_⟩;rw[<-z5];intro w;obtain⟨y,A,B⟩:=a _ (am l);obtain⟨C,D,F⟩:=a u c;have G:u.Page∈aT h (nth h.Spans i).Page:=by
  rw[<-B,eX y A,<-F];exact d9.2 ⟨C,D,t⟩
 obtain⟨v,H,g⟩:=aW G;obtain⟨j,J,rfl⟩:=aW c;exact b.2 ⟨v,H,j,J,g.symm,w⟩
theorem bm.take{h:ab}{E:List Int}{i:Nat}{k sd:Int}(g:bm h E)(C:i<h.Spans.length)(D:0<=k/\k<slots (nth h.Spans i).Class)(r:aU (gW h i) k=false)(M:0<=sd/\sd<=1073741823) :
  bm {h with Seed:=sd,Spans:=h.Spans.set i (qr (nth h.Spans i) k)} ((16*(nth h.Spans i).Page+k*csz (nth h.Spans i).Class)::E):=by
 have F:=g.L;have T:=F.sok _ (am C);have Q:=aC T;obtain⟨l1,l2,l3,l4⟩:=gE Q.2.2;have hz:=bO Q.2.2;obtain⟨u1,u2⟩:=Nf g C ⟨D.1,ω⟩ r;have n:=λb c=>jj.setS F C D b c
 have w:=Kf k C;generalize ha:16*(nth h.Spans i).Page+k*csz (nth h.Spans i).Class=a at n |-;have G:¬eE (nth h.Spans i) a:=by
  rintro⟨-,-,-,h4⟩
  have:(a - 16*(nth h.Spans i).Page) / csz (nth h.Spans i).Class=k:=by
   rw[<-ha];rcases hz with e|e|e|e<;>rw[e]<;>omega
  rw[this,u1]at h4;cases h4
 have hrange:16*(nth h.Spans i).Page<=a/\a<=16*(nth h.Spans i).Page+15:=by
  rcases hz with e|e|e|e<;>rw[e]at ha l4<;>omega
 have U:¬Live h.Spans h.Larges a:=by
  rintro(⟨s,p,d,-⟩|⟨l,hl,e⟩)
  ·obtain⟨j,V,rfl⟩:=aW p
   have:=gY (f:=(·.Page)) F.nd V C (by have a1:=d.1;have a2:=d.2.1;omega);subst this;exact G d
  ·exact(vz F hl).1 _ (am C) ω
 have W:a∉E++holders h:=λX=>U ((g.mem a).1 X)
 have q:∀s∈h.Spans.set i (qr (nth h.Spans i) k),∃u∈h.Spans,u.Page=s.Page/\(s=u\/(u=nth h.Spans i/\s=qr u k)):=λs p=>by
  rcases fw p with rfl|⟨j,V,hji,rfl⟩
  ·exact⟨_,am C,rfl,.inr ⟨rfl,rfl⟩⟩
  ·exact⟨_,am V,rfl,.inl rfl⟩
 generalize hsp:h.Spans.set i (qr (nth h.Spans i) k)=sp at n w q |-;have t:pgs sp h.Larges=pgs h.Spans h.Larges:=by unfold pgs;rw[w]
 have N:∀u∈h.Spans,∃s∈sp,s.Page=u.Page:=λu r=>by
  have:u.Page∈sp.map (·.Page):=by rw[w];exact z4.2 ⟨u,r,rfl⟩
  obtain⟨s,p,e⟩:=z4.1 this;exact⟨s,p,e⟩
 exact {g with
   lay:=by
     obtain⟨l1,l2,l3⟩:=db g.lay;unfold bh;simp only[I0,C0];refine⟨⟨Y3.2 λs p=>?_,l2⟩,by rw[t];exact l3⟩;obtain⟨u,r,-,rfl|⟨rfl,rfl⟩⟩:=q s p
     · exact F.sok _ r
     · exact BE (F.sok _ r) D
   srs:=by
     have d:(h.Spans.map (·.Page)).Pairwise (λa b=>a<b):=List.pairwise_map.2 g.srs;rw[<-w]at d;exact List.pairwise_map.1 d
   pg:=⟨g.pg.one,by rw[t];exact g.pg.bnd,by rw[t];exact g.pg.own,g.pg.fre,λs p u r O hf=>by
     obtain⟨R,A,Y,Z⟩:=q s p;obtain⟨S,B,eu,P⟩:=q u r;have H:(nth (tbl h).Entries R.Page.toNat).Frame=(nth (tbl h).Entries S.Page.toNat).Frame:=by rw[Y,eu];exact hf
     have d:=g.pg.mesh R A S B (by rw[Y,eu];exact O) H;rcases Z with rfl|⟨rfl,rfl⟩
     · rcases P with rfl|⟨rfl,rfl⟩
       · exact d
       · rw[iT]at d |-
         exact z7 D (u2 _ A H) d
     · rcases P with rfl|⟨rfl,rfl⟩
       · exact z7 D (u2 _ B H.symm) d
       · exact absurd (Y.symm.trans eu) O⟩
   nums:=by
     have:=g.nums;unfold bX at this |-;rw[C0]at this |-;exact⟨M.1,M.2,this.2.2⟩
   oow:=λo ho=>by
     rcases g.oow o ho with⟨s,p,d,h2⟩|d
     · obtain⟨u,r,g1,K⟩:=(n o.Addr (aL o.Size)).2 (.inl ⟨s,p,d,.inr h2⟩)
       refine .inl ⟨u,r,g1,?_⟩;rcases K with K|K
       · have:=aC (F.sok _ p);omega
       · exact K
     · exact .inr d
   hca:=λc Q k D b J=>(n b k).2 (.inl (g.hca c Q k D b J))
   hqu:=λy hy=>(n _ _).2 (.inl (g.hqu y hy))
   hfl:=λb J=>(n _ _).2 (.inl (g.hfl b J))
   hin:=λb J=>by
     rcases List.mem_cons.1 J with rfl|J
     · exact(n _ _).2 (.inr ⟨rfl,.inl (by decide)⟩)
     · exact(n _ _).2 (.inl (g.hin b J))
   nd:=by
     rw[List.cons_append];exact List.nodup_cons.2 ⟨W,g.nd⟩
   mem:=λb=>by
     show b∈a::E++holders h↔Live sp h.Larges b;rw[List.cons_append,List.mem_cons,g.mem b];unfold Live;rw[n];constructor
     · rintro(rfl|d|d)
       · exact .inl (.inr ⟨rfl,.inl (by decide)⟩)
       · exact .inl (.inl d)
       · exact .inr d
     · rintro((d|⟨d,-⟩)|d)
       · exact .inr (.inl d)
       · exact .inl d
       · exact .inr (.inr d)
   job:=λX=>by
     obtain⟨j1,⟨s,p,e1⟩,⟨u,r,e2⟩⟩:=g.job X;obtain⟨R,A,g1⟩:=N s p;obtain⟨S,B,K⟩:=N u r;exact⟨j1,⟨R,A,g1.trans e1⟩,⟨S,B,K.trans e2⟩⟩}
def ri(c:aA)(k:Nat):aA:=⟨c.Lists.set k ((nth c.Lists k).take ((nth c.Lists k).length - 1))⟩
theorem Lb{l:List Int}(h:0<l.length):l=l.take (l.length - 1)++[nth l (l.length - 1)]:=by
 have a:l.drop (l.length - 1)=[nth l (l.length - 1)]:=by
  rw[gQ ω,show l.length - 1+1=l.length by omega,List.drop_length]
 rw[<-a,List.take_append_drop]
theorem bm.pop{h:ab}{E:List Int}{t k:Nat}(f:bm h E)(l:t<h.Caches.length)(p:k<(nth h.Caches t).Lists.length)(u:0<(nth (nth h.Caches t).Lists k).length)(w:bn (ri (nth h.Caches t) k)=true) :
  bm {h with Caches:=h.Caches.set t (ri (nth h.Caches t) k)} (nth (nth (nth h.Caches t).Lists k) ((nth (nth h.Caches t).Lists k).length - 1)::E)/\jj h.Spans (nth (nth (nth h.Caches t).Lists k) ((nth (nth h.Caches t).Lists k).length - 1)) k:=by
 have q:=Lb u;have n:=f.hca _ (am l) k p (nth (nth (nth h.Caches t).Lists k) ((nth (nth h.Caches t).Lists k).length - 1)) (am ω);refine⟨?_,n⟩;generalize D:nth (nth (nth h.Caches t).Lists k) ((nth (nth h.Caches t).Lists k).length - 1)=a at q n |-;have r:(E++holders h).Perm (a::E++holders {h with Caches:=h.Caches.set t (ri (nth h.Caches t) k)}):=by
  refine List.perm_iff_count.2 λb=>?_
  have A:=iB (λc:aA=>c.Lists.flatten) b h.Caches t (ri (nth h.Caches t) k) l;have B:=iB (λy:List Int=>y) b (nth h.Caches t).Lists k ((nth (nth h.Caches t).Lists k).take ((nth (nth h.Caches t).Lists k).length - 1)) p;rw[<-kC,<-kC]at B;have C:=W0 (List.count b) q;simp only[V5,List.count_singleton]at C;simp only[ri]at A;simp only[holders,cb,ri,V5,List.cons_append,List.count_cons];omega
 exact {f with
   nc:=by show(h.Caches.set ..).length=_;rw[O1];exact f.nc
   cach:=λc d=>by
     rcases Z5 d with d|rfl
     · exact f.cach c d
     · exact w
   onu:=by show ∀o∈h.Objs,1<=o.Id/\o.Id<=h.Next - 1/\0<=o.Thread/\o.Thread<=(h.Caches.set t _).length - 1;rw[O1];exact f.onu
   hca:=λc d j i b g=>by
     rcases Z5 d with d|rfl
     · exact f.hca c d j i b g
     · simp only[ri,O1]at i
       simp only[ri,ch]at g;by_cases e:k=j
       · subst e
         rw[C9 ⟨rfl,i⟩]at g;exact f.hca _ (am l) _ i b (List.mem_of_mem_take g)
       · rw[C8 λy=>e y.1]at g
         exact f.hca _ (am l) _ i b g
   hin:=λb g=>by
     rcases List.mem_cons.1 g with rfl|g
     · exact n.any
     · exact f.hin b g
   nd:=r.nodup_iff.1 f.nd
   mem:=λb=>by rw[<-r.mem_iff];exact f.mem b}
def MR(a:Int)(o:bK):Bool:=decide (a<=o.Addr)
def addO(h:ab)(a size t:Int):ab:={h with Objs:=jv (MR a) h.Objs ⟨h.Next,a,size,t⟩,Next:=h.Next+1}
theorem yZ{h:ab}(a:bX h=true)(b:h.Next<1000000):decide (0<=h.Seed/\h.Seed<=1073741823/\0<=h.Clock/\h.Clock<=1000000/\0<=h.Limit/\h.Limit<=1000/\1<=h.Next+1/\h.Next+1<=1000000)=true:=by
 unfold bX at a;rw[C0]at a |-;omega
theorem bm.addO{h:ab}{E:List Int}{a size t:Int}(c:bm h (a::E))(d:Ks h.Spans h.Larges ⟨h.Next,a,size,t⟩)(p:h.Next<1000000)(q:0<=t/\t<=h.Caches.length - 1):bm (addO h a size t) E:=by
 have i:=kg (MR a) h.Objs ⟨h.Next,a,size,t⟩;have n:(a::E++holders h).Perm (E++holders (Ab.addO h a size t)):=by
  have r:=i.map (·.Addr);refine List.perm_iff_count.2 λb=>?_
  have u:=r.count_eq b;simp only[U5,List.count_cons]at u;simp only[holders,cb,Ab.addO,V5,List.cons_append,List.count_cons];omega
 have j:=c.nd;rw[List.cons_append]at j;obtain⟨k,-⟩:=List.nodup_cons.1 j;have l:∀o∈h.Objs,o.Addr≠a:=λo d e=>k (v3.2 (.inr (by unfold holders;simp only[v3];exact .inl (.inl (.inl (z4.2 ⟨o,d,e⟩))))))
 exact {c with
   nums:=yZ c.nums p
   osr:=kQ (f:=λo:bK=>o.Addr) (y:=⟨h.Next,a,size,t⟩) c.osr l
   onu:=λo d=>by
     rcases dt.1 d with rfl|d
     · have:=c.nums
       unfold bX at this;rw[C0]at this;exact⟨by show 1<=h.Next;omega,by show h.Next<=h.Next+1 - 1;omega,q⟩
     · have:=c.onu o d
       exact⟨this.1,by show o.Id<=h.Next+1 - 1;omega,this.2.2⟩
   oid:=by
     show((jv (MR a) h.Objs ⟨h.Next,a,size,t⟩).map (·.Id)).Nodup;rw[(i.map _).nodup_iff,U5];refine List.nodup_cons.2 ⟨λw=>?_,c.oid⟩;obtain⟨o,d,e⟩:=z4.1 w;have:=(c.onu o d).2.1;simp only at e;omega
   oow:=λo g=>by
     rcases dt.1 g with rfl|g
     · exact d
     · exact c.oow o g
   hin:=λb A=>c.hin b (v5 _ A)
   nd:=n.nodup_iff.1 c.nd
   mem:=λb=>by rw[<-n.mem_iff];exact c.mem b}
def iR(xs:List ax)(n:Int):Nat->Int
 | 0=>-1
 | i+1=>if n<=(nth xs i).Len/\(iR xs n i<0\/(nth xs i).Len<(nth xs (iR xs n i).toNat).Len) then(i:Nat) else iR xs n i
def gK(xs:List ax)(n:Int):Int:=iR xs n xs.length
def a8(xs:List ax)(n:Int):List ax × Int × Bool:=
 if gK xs n<0 then(xs,-1,false)
 else if(nth xs (gK xs n).toNat).Len=n then(dele xs (gK xs n).toNat,(nth xs (gK xs n).toNat).At,true)
 else(xs.set (gK xs n).toNat ⟨(nth xs (gK xs n).toNat).At+n,(nth xs (gK xs n).toNat).Len - n⟩,(nth xs (gK xs n).toNat).At,true)
theorem wW(xs:List ax)(n:Int):∀i,i<=xs.length->iR xs n i = -1\/(0<=iR xs n i/\iR xs n i<i/\n<=(nth xs (iR xs n i).toNat).Len)
 | 0,_=>.inl rfl
 | i+1,b=>by
  have a:=wW xs n i ω;unfold iR;split
  ·rename_i h;right;rw[X2];exact⟨ω,ω,h.1⟩
  ·rcases a with h|h
   ·exact .inl h
   ·exact .inr ⟨h.1,ω,h.2.2⟩
theorem wy{xs:List ax}(h:oe xs){i j:Nat}(a:i<j)(b:j<xs.length):(nth xs i).At+(nth xs i).Len<(nth xs j).At:=by
 have:=List.pairwise_iff_getElem.1 h.1 i j ω b a
 rwa [<-bq (I2 (show i<xs.length by omega)),<-bq (I2 b)]at this
theorem vF{xs:List ax}{p:Int} : RH xs p↔∃j,j<xs.length/\(nth xs j).At<=p/\p<(nth xs j).At+(nth xs j).Len:=by
 unfold RH;constructor
 ·rintro⟨r,b,h⟩
  obtain⟨j,a,rfl⟩:=aW b;exact⟨j,a,h⟩
 ·rintro⟨j,a,h⟩
  exact⟨_,am a,h⟩
theorem nt{pages:Int}{xs:List ax}{n:Int}(h:bt pages xs=true)(T:1<=n)(t:(a8 xs n).2.2=true) :
  bt pages (a8 xs n).1=true/\0<=(a8 xs n).2.1/\(a8 xs n).2.1+n<=pages/\(∀p,RH (a8 xs n).1 p↔RH xs p/\¬((a8 xs n).2.1<=p/\p<(a8 xs n).2.1+n))/\∀p,(a8 xs n).2.1<=p->p<(a8 xs n).2.1+n->RH xs p:=by
 obtain⟨o,u,J⟩:=fD.1 h;have K:=wW xs n xs.length (z3 _);unfold a8 at t |-;change gK xs n = -1\/_ at K;split at t
 ·cases t
 rename_i w;rw[C8 w];obtain⟨O,P,L⟩:=K.resolve_left ω;change 0<=gK xs n at O;change gK xs n<xs.length at P;change n<=(nth xs (gK xs n).toNat).Len at L;generalize Q:(gK xs n).toNat=b at L |-;have g:b<xs.length:=ω
 have M:=u _ (am g);have q:∀j,j<xs.length->j≠b->(nth xs j).At+(nth xs j).Len<(nth xs b).At\/(nth xs b).At+(nth xs b).Len<(nth xs j).At:=λj a k=>by
  rcases Nat.lt_or_gt_of_ne k with A|B
  ·exact .inl (wy o A g)
  ·exact .inr (wy o B a)
 split
 ·rename_i R
  have C:(dele xs b).Sublist xs:=eL ..;refine⟨fD.2 ⟨⟨o.1.sublist C,λy l=>o.2 y (C.subset l)⟩,λy l=>u y (C.subset l),J⟩,M.1,by show(nth xs b).At+n<=pages;omega,λp=>?_,λp D E=>vF.2 ⟨b,g,D,by show p<_;simp only at E;omega⟩⟩;simp only;rw[vF (xs:=xs)];constructor
  ·rintro⟨r,F,f,d⟩
   obtain⟨j,a,k,rfl⟩:=eK.1 F;refine⟨⟨j,a,f,d⟩,λe=>?_⟩;have:=q j a k;omega
  ·rintro⟨⟨j,a,f,d⟩,G⟩
   exact⟨_,eK.2 ⟨j,a,λe=>by subst e;omega,rfl⟩,f,d⟩
 ·rename_i R
  have c:∀j,nth (xs.set b ⟨(nth xs b).At+n,(nth xs b).Len - n⟩) j=if j=b then⟨(nth xs b).At+n,(nth xs b).Len - n⟩ else nth xs j:=λj=>by
   rw[ch];by_cases e:j=b
   ·rw[C9 ⟨e.symm,ω⟩,C9 e]
   ·rw[C8 λz=>e z.1.symm,C8 e]
  refine⟨fD.2 ⟨⟨?_,λy l=>?_⟩,λy l=>?_,J⟩,M.1,by show(nth xs b).At+n<=pages;omega,λp=>?_,λp D E=>vF.2 ⟨b,g,D,by simp only at E;omega⟩⟩
  ·rw[List.pairwise_iff_getElem]
   intro i j N a H;rw[<-bq (I2 N),<-bq (I2 a),c,c];simp only[O1]at N a;have S:=wy o H a;split
   ·rename_i e;subst e
    rw[C8 ω];simp only;omega
   ·split
    ·rename_i e;subst e
     simp only;omega
    ·exact S
  ·rcases fw l with rfl|⟨j,a,-,rfl⟩
   ·simp only;omega
   ·exact o.2 _ (am a)
  ·rcases fw l with rfl|⟨j,a,-,rfl⟩
   ·simp only;omega
   ·exact u _ (am a)
  ·simp only
   rw[vF,vF,O1];constructor
   ·rintro⟨j,a,f,d⟩
    rw[c]at f d;split at f
    ·rename_i e;subst e
     rw[C9 rfl]at d;simp only at f d;exact⟨⟨j,a,ω,ω⟩,ω⟩
    ·rename_i e
     rw[C8 e]at d;have:=q j a e;exact⟨⟨j,a,f,d⟩,ω⟩
   ·rintro⟨⟨j,a,f,d⟩,G⟩
    refine⟨j,a,?_⟩;rw[c];split
    ·rename_i e;subst e
     simp only;omega
    ·exact⟨f,d⟩
def sf(k:af):Int:=dP (λu=>!u) k.Machine.Frames.Used
def qD(k:af)(p:Int)(f:Nat):af:={k with Machine:=⟨⟨k.Machine.Frames.Cells,k.Machine.Frames.Used.set f true⟩,⟨k.Machine.Table.Entries.set p.toNat ⟨2,(f:Nat)⟩⟩⟩}
def gc(k:af)(p:Int):af × Bool:=if refd k=true\/sf k<0 then(dx k,false) else(qD (dx k) p (sf k).toNat,true)
theorem Ds{k:af}(h:¬sf k<0):(sf k).toNat<k.Machine.Frames.Used.length/\nth k.Machine.Frames.Used (sf k).toNat=false:=by
 unfold sf at h |-;rcases oG (λu=>!u) k.Machine.Frames.Used with e|⟨n,a,e,b⟩
 ·omega
 ·rw[e,X2]
  exact⟨a,by simpa using b⟩
theorem ze{k:af}(h:aB k=true){f:Nat}(b:f<k.Machine.Frames.Used.length)(c:nth k.Machine.Frames.Used f=false)(q:Nat)(d:q<k.Machine.Table.Entries.length)(g:(nth k.Machine.Table.Entries q).Mode≠0):(nth k.Machine.Table.Entries q).Frame≠(f:Nat):=by
 obtain⟨j,l,n,i,o⟩:=aD.1 h;intro e;have a:=i f b;rw[c]at a;have:=of_decide_eq_false a.symm;exact this (eN.2 ⟨q,d,g,e⟩)
theorem N6{k:af}{p:Int}{f:Nat}(h:aB k=true)(L:0<=p/\p<k.Machine.Table.Entries.length)(n:(nth k.Machine.Table.Entries p.toNat).Mode=0)(o:f<k.Machine.Frames.Used.length)(r:nth k.Machine.Frames.Used f=false):aB (qD k p f)=true:=by
 have t:=ze h o r;obtain⟨u,w,y,A,B⟩:=aD.1 h;obtain⟨C,D,E,F⟩:=bc.1 w;obtain⟨G,H,J⟩:=bx.1 y;have a:∀q,nth (k.Machine.Table.Entries.set p.toNat ⟨2,(f:Nat)⟩) q=if p.toNat=q then⟨2,(f:Nat)⟩ else nth k.Machine.Table.Entries q:=λq=>by
  rw[ch];by_cases i:p.toNat=q
  ·rw[C9 ⟨i,ω⟩,C9 i]
  ·rw[C8 (λe=>i e.1),C8 i]
 refine aD.2 ⟨u,bc.2 ⟨C,D,by simp only[qD,O1];exact E,λj b=>?_⟩,bx.2 ⟨λj b=>?_,?_,?_⟩,λj b=>?_,B⟩
 ·replace b:j<k.Machine.Frames.Cells.length:=b
  show ir (nth k.Machine.Frames.Cells j) (nth (k.Machine.Frames.Used.set f true) j)=true;have d:=F j b;rw[ch];split
  ·unfold ir at d |-
   simp only[I0,C0,Y3]at d |-;refine⟨d.1,λv K=>?_⟩;have:=d.2 v K;unfold iO at this |-;simp only[I0]at this;rw[this.1];rfl
  ·exact d
 ·simp only[qD,O1]at b |-
  rw[a];split
  ·unfold ku;rw[C0];simp only;omega
  ·exact G j b
 ·simp only[qD,O1];exact H
 ·simp only[qD,O1];exact J
 ·simp only[qD,O1]at b
  show nth (k.Machine.Frames.Used.set f true) j=_;rw[ch];by_cases e:f=j
  ·subst e
   rw[C9 ⟨rfl,b⟩];refine(O0 (eN.2 ⟨p.toNat,?_,?_,?_⟩)).symm
   ·simp only[qD,O1];omega
   ·simp only[qD,a,C9];decide
   ·simp only[qD,a,C9]
  ·rw[C8 λz=>e z.1,A j b]
   refine decide_eq_decide.2 ?_;rw[eN,eN];simp only[qD,O1,a];constructor
   ·rintro⟨q,l,g,c⟩
    refine⟨q,l,?_⟩;rw[C8 λz=>g (by rw[<-z];exact n)];exact⟨g,c⟩
   ·rintro⟨q,l,g,c⟩
    by_cases z:p.toNat=q
    ·rw[C9 z]at c
     simp only at c;omega
    ·rw[C8 z]at g c
     exact⟨q,l,g,c⟩
structure Bd(k:af)(p:Int)(r:af × Bool):Prop where
 ker:aB r.1=true
 len:r.1.Machine.Table.Entries.length=k.Machine.Table.Entries.length
 calls:r.1.Calls=k.Calls+1
 ref:r.1.Refuse=k.Refuse
 cells:r.1.Machine.Frames.Cells=k.Machine.Frames.Cells
 no:r.2=false->r.1=dx k
 yes:r.2=true->∃f:Nat,f<k.Machine.Frames.Used.length/\nth k.Machine.Frames.Used f=false/\(∀q:Nat,nth r.1.Machine.Table.Entries q=if(q:Int)=p then⟨2,(f:Nat)⟩ else nth k.Machine.Table.Entries q)/\∀q,q<k.Machine.Table.Entries.length->(nth k.Machine.Table.Entries q).Mode≠0->(nth k.Machine.Table.Entries q).Frame≠(f:Nat)
theorem Bd.of{k:af}{p:Int}(h:aB k=true)(c:k.Calls≠100000)(f:0<=p/\p<k.Machine.Table.Entries.length)(g:(nth k.Machine.Table.Entries p.toNat).Mode=0):Bd k p (gc k p):=by
 unfold gc;split
 ·exact⟨lT h c,rfl,rfl,rfl,rfl,λ_=>rfl,λe=>by cases e⟩
 ·rename_i d
  rw[not_or]at d;obtain⟨a,b⟩:=Ds d.2;refine⟨N6 (lT h c) f g a b,by simp[qD,dx],rfl,rfl,rfl,λe=>(by cases e),λ_=>⟨_,a,b,λq=>?_,λq=>ze h a b q⟩⟩;simp only[qD,dx,ch];by_cases e:(q:Int)=p
  ·rw[C9 ⟨ω,ω⟩,C9 e]
  ·rw[C8 λz=>e ω,C8 e]
def cI(k:af)(p:Int):Nat->af × Nat
 | 0=>(k,0)
 | i+1=>if(cI k p i).2=i then((gc (cI k p i).1 (p+(i:Nat))).1,if(gc (cI k p i).1 (p+(i:Nat))).2=true then i+1 else i) else cI k p i
structure om(k:af)(p:Int)(i:Nat)(r:af × Nat):Prop where
 ker:aB r.1=true
 len:r.1.Machine.Table.Entries.length=k.Machine.Table.Entries.length
 calls:k.Calls<=r.1.Calls/\r.1.Calls<=k.Calls+i
 ref:r.1.Refuse=k.Refuse
 cells:r.1.Machine.Frames.Cells=k.Machine.Frames.Cells
 le:r.2<=i
 out:∀q:Nat,¬(p<=q/\(q:Int)<p+r.2)->nth r.1.Machine.Table.Entries q=nth k.Machine.Table.Entries q
 new:∀q:Nat,p<=q->(q:Int)<p+r.2->(nth r.1.Machine.Table.Entries q).Mode=2/\∀u:Nat,u<k.Machine.Table.Entries.length->(nth r.1.Machine.Table.Entries u).Mode≠0->(nth r.1.Machine.Table.Entries u).Frame=(nth r.1.Machine.Table.Entries q).Frame->u=q
theorem om.of{k:af}{p:Int}{n:Nat}(h:aB k=true)(G:k.Calls+n<=100000)(H:0<=p/\p+n<=k.Machine.Table.Entries.length)(C:∀q:Nat,p<=q->(q:Int)<p+n->(nth k.Machine.Table.Entries q).Mode=0):∀i,i<=n->om k p i (cI k p i)
 | 0,_=>⟨h,rfl,⟨X4 _,by show k.Calls<=k.Calls+((0:Nat):Int);omega⟩,rfl,rfl,z3 _,λ_ _=>rfl,λq o d=>by simp only[cI]at d;omega⟩
 | i+1,L=>by
  have a:=om.of h G H C i ω;unfold cI;split
  case isFalse=>exact⟨a.ker,a.len,⟨a.calls.1,by have:=a.calls.2;omega⟩,a.ref,a.cells,by have:=a.le;omega,a.out,a.new⟩
  rename_i t;generalize cI k p i=r at a t |-;have J:=a.calls;have y:(nth r.1.Machine.Table.Entries (p+(i:Nat)).toNat).Mode=0:=by
   rw[a.out _ ω];exact C _ ω ω
  have s:=Bd.of (p:=p+(i:Nat)) a.ker ω ⟨ω,by rw[a.len];omega⟩ y;generalize gc r.1 (p+(i:Nat))=w at s |-;refine⟨s.ker,s.len.trans a.len,⟨by simp only[s.calls];omega,by simp only[s.calls];omega⟩,s.ref.trans a.ref,s.cells.trans a.cells,by simp only;split<;>omega,λq j=>?_,λq o d=>?_⟩
  ·simp only at j |-
   cases e:w.2 with
   | false=>
    rw[s.no e];rw[e]at j;exact a.out q (by rw[t];simpa using j)
   | true=>
    obtain⟨f,-,-,g,-⟩:=s.yes e;rw[e,C9 rfl]at j;rw[g,C8 ω];exact a.out q ω
  ·simp only at d |-
   cases e:w.2 with
   | false=>
    rw[s.no e];rw[e]at d;exact a.new q o (by rw[t];simpa using d)
   | true=>
    obtain⟨f,-,-,g,D⟩:=s.yes e;rw[e,C9 rfl]at d;have A:q<k.Machine.Table.Entries.length:=ω
    rw[g];by_cases E:(q:Int)=p+(i:Nat)
    ·rw[C9 E]
     refine⟨rfl,λu B c b=>?_⟩;rw[g]at c b;by_cases l:(u:Int)=p+(i:Nat)
     ·omega
     ·rw[C8 l]at c b
      exact absurd b (D u (by rw[a.len];exact B) c)
    ·rw[C8 E]
     obtain⟨F,K⟩:=a.new q o ω;refine⟨F,λu B c b=>?_⟩;rw[g]at c b;by_cases l:(u:Int)=p+(i:Nat)
     ·rw[C9 l]at b
      exact absurd b.symm (D q (by rw[a.len];exact A) (by rw[F];decide))
     ·rw[C8 l]at c b
      exact K u B c b
theorem om.undo{k:af}{p:Int}{i:Nat}{r:af × Nat}(s:om k p i r)(h:aB k=true)(d:0<=p/\p+i<=k.Machine.Table.Entries.length)(e:∀q:Nat,p<=q->(q:Int)<p+i->(nth k.Machine.Table.Entries q).Mode=0):aB (dO r.1 p r.2)=true/\tEq k.Machine.Table (dO r.1 p r.2).Machine.Table:=by
 have f:=s.le;have g:=lU s.ker d.1 r.2 (by rw[s.len];omega);refine⟨jV s.ker p r.2,((gM r.1 p r.2).1).trans s.len,λq=>?_⟩;rw[g];split
 ·rename_i a
  have c:=e q a.1 ω;obtain⟨-,-,j,-⟩:=aD.1 h;have b:=(bx.1 j).1 q ω;unfold ku at b;rw[C0]at b;exact⟨⟨λz=>absurd rfl z,λz=>absurd c z⟩,(b.2.2.1 c).symm⟩
 ·rename_i a
  rw[s.out q a];exact⟨Iff.rfl,rfl⟩
theorem Pg.add{t h:aH}{O r:List ax}{sp b:List ar}{la d:List a7}{p:Int}{n:Nat}(i:Pg t O sp la)(E:h.Entries.length=t.Entries.length)(S:p+n<=t.Entries.length)(hp:0<=p)(j:∀q:Nat,¬(p<=q/\(q:Int)<p+n)->nth h.Entries q=nth t.Entries q)(a:∀q:Nat,p<=q->(q:Int)<p+n->(nth h.Entries q).Mode=2/\∀u:Nat,u<t.Entries.length->(nth h.Entries u).Mode≠0->(nth h.Entries u).Frame=(nth h.Entries q).Frame->u=q)(J:∀q,RH r q↔RH O q/\¬(p<=q/\q<p+n))(F:∀q,q∈pgs b d↔q∈pgs sp la\/(p<=q/\q<p+n))(w:∀s∈b,0<=s.Page/\(s∈sp\/(p<=s.Page/\s.Page<p+n)))(K:∀l∈d,l∈la\/∀q∈lpgs l l.Pages.toNat,p<=q/\q<p+n):Pg h r b d:=by
 have f:∀q:Nat,q<t.Entries.length->((nth h.Entries q).Mode≠0↔(q:Int)∈pgs b d):=λq c=>by
  rw[F];by_cases e:p<=q/\(q:Int)<p+n
  ·have:=(a q e.1 e.2).1
   exact⟨λ_=>.inr e,λ_=>by rw[this];decide⟩
  ·rw[j q e,i.own q c]
   exact⟨.inl,λz=>z.resolve_right e⟩
 refine⟨λl A q c u k L G=>?_,λq c=>?_,λq c=>f q (by rw[<-E];exact c),λq c=>?_,λs P u k M H=>?_⟩
 ·rw[E]at k
  have B:=fE (sp:=b) A c;have C:q<t.Entries.length:=by
   rcases(F _).1 B with g|g
   ·have:=i.bnd _ g;omega
   ·omega
  by_cases e:p<=q/\(q:Int)<p+n
  ·exact(a q e.1 e.2).2 u k L G
  ·have N:=(K l A).resolve_right λg=>e (g _ c)
   by_cases o:p<=u/\(u:Int)<p+n
   ·exact((a u o.1 o.2).2 q C ((f q C).2 B) G.symm).symm
   ·rw[j q e,j u o]at G
    rw[j u o]at L;exact i.one l N q c u k L G
 ·rw[E]
  rcases(F _).1 c with g|g
  ·exact i.bnd _ g
  ·omega
 ·rw[E]at c
  rw[J];by_cases e:p<=q/\(q:Int)<p+n
  ·have:=(a q e.1 e.2).1
   exact⟨λ_ z=>z.2 e,λ_=>by rw[this];decide⟩
  ·rw[j q e,i.fre q c]
   exact⟨λz y=>z y.1,λz y=>z ⟨y,e⟩⟩
 ·obtain⟨T,U⟩:=w s P
  obtain⟨V,W⟩:=w u k;have D:∀y∈b,0<=y.Page->y.Page.toNat<t.Entries.length/\((y.Page.toNat:Nat):Int)=y.Page/\(nth h.Entries y.Page.toNat).Mode≠0:=λy X Y=>by
   have g:=dJ (la:=d) X;have Q:y.Page.toNat<t.Entries.length:=by
    rcases(F _).1 g with R|R
    ·have:=i.bnd _ R;omega
    ·omega
   exact⟨Q,ω,(f _ Q).2 (by rw[show((y.Page.toNat:Nat):Int)=y.Page by omega];exact g)⟩
  obtain⟨Z,sc,sd⟩:=D s P T;obtain⟨ub,uc,ud⟩:=D u k V;by_cases es:p<=s.Page/\s.Page<p+n
  ·have:=(a s.Page.toNat ω ω).2 _ ub ud H.symm
   omega
  ·by_cases o:p<=u.Page/\u.Page<p+n
   ·have:=(a u.Page.toNat ω ω).2 _ Z sd H
    omega
   ·rw[j _ ω,j _ ω]at H
    exact i.mesh s (U.resolve_right es) u (W.resolve_right o) M H
theorem E2{sp a:List ar}{la b:List a7}(c:a.Perm sp)(d:b.Perm la):(pgs a b).Perm (pgs sp la):=by
 unfold pgs;exact(c.map _).append (d.flatMap_right _)
def J4(p:Int)(s:ar):Bool:=decide (p<=s.Page)
def PB(p:Int)(l:a7):Bool:=decide (p<=l.Page)
def addS(h:ab)(k:af)(a:List ax)(p c:Int):ab:={h with Kernel:=k,Free:=a,Spans:=jv (J4 p) h.Spans ⟨p,c,0⟩}
theorem kU{h:ab}{E:List Int}(a:bm h E){n:Int}(j:1<=n)(k:(a8 h.Free n).2.2=true):0<=(a8 h.Free n).2.1/\(a8 h.Free n).2.1+n<=(tbl h).Entries.length/\(∀q:Nat,(a8 h.Free n).2.1<=q->(q:Int)<(a8 h.Free n).2.1+n->(nth (tbl h).Entries q).Mode=0)/\∀q:Int,(a8 h.Free n).2.1<=q->q<(a8 h.Free n).2.1+n->q∉pgs h.Spans h.Larges:=by
 obtain⟨r,l,f,t,o⟩:=nt a.rng j k;have g:∀q:Nat,(a8 h.Free n).2.1<=q->(q:Int)<(a8 h.Free n).2.1+n->(nth (tbl h).Entries q).Mode=0:=λq b c=>by
  have d:q<(tbl h).Entries.length:=by
   have:(a8 h.Free n).2.1+n<=((tbl h).Entries.length:Nat):=f;omega
  by_cases e:(nth (tbl h).Entries q).Mode=0
  ·exact e
  ·exact absurd (o q b c) ((a.pg.fre q d).1 e)
 refine⟨l,f,g,λq b c i=>?_⟩;have u:=a.pg.bnd q i;obtain⟨m,rfl⟩:=Z2 (show 0<=q by omega);have p:=(a.pg.own m ω).2 i;exact p (g m b c)
theorem bm.addS{h:ab}{E:List Int}{c:Int}(a:bm h E)(H:0<=c/\c<=3)(F:(a8 h.Free 1).2.2=true){k:af}(s:Bd h.Kernel (a8 h.Free 1).2.1 (k,true)):bm (addS h k (a8 h.Free 1).1 (a8 h.Free 1).2.1 c) E:=by
 obtain⟨U,G,r3,J,r5⟩:=nt a.rng (X4 _) F;obtain⟨-,V,u3,W⟩:=kU a (X4 _) F;generalize (a8 h.Free 1).2.1=p at G r3 J r5 V u3 W s |-;generalize (a8 h.Free 1).1=fr at U J |-;obtain⟨f,f1,f2,K,f4⟩:=s.yes rfl;have M:=(bx.1 (aD.1 a.ker).2.2.1).2.2;change (tbl h).Entries.length<=32 at M;have X:=a.L;have N:=kg (J4 p) h.Spans ⟨p,c,0⟩;have O:=E2 N (List.Perm.refl h.Larges);have w:(pgs (jv (J4 p) h.Spans ⟨p,c,0⟩) h.Larges).Perm (p::pgs h.Spans h.Larges):=O;have B:p∉pgs h.Spans h.Larges:=W p (X4 _) ω;have P:∀z∈h.Spans,z.Page≠p:=λz g e=>B (by rw[<-e];exact dJ g)
 have i:∀b d,jj (jv (J4 p) h.Spans ⟨p,c,0⟩) b d↔jj h.Spans b d:=λb d=>by
  constructor
  ·rintro⟨s,C,A,Q⟩
   rcases dt.1 C with rfl|C
   ·exact absurd A (B5 rfl b)
   ·exact⟨s,C,A,Q⟩
  ·rintro⟨s,C,A⟩
   exact⟨s,dt.2 (.inr C),A⟩
 exact {a with
   ker:=s.ker
   rng:=by show bt ((k.Machine.Table.Entries.length:Nat):Int) fr=true;rw[s.len];exact U
   lay:=by
     obtain⟨l1,l2,l3⟩:=db a.lay;unfold bh;simp only[I0,C0];refine⟨⟨Y3.2 λz g=>?_,l2⟩,w.nodup_iff.2 (List.nodup_cons.2 ⟨B,l3⟩)⟩;rcases dt.1 g with rfl|g
     · have R:0<=lim c:=by
         have:=(gE H).1;obtain rfl|rfl|rfl|rfl:c=0\/c=1\/c=2\/c=3:=ω
         all_goals decide
       exact O0 ⟨G,by show p<=31;omega,H.1,H.2,X4 _,R⟩
     · exact X.sok z g
   srs:=kQ (f:=λz:ar=>z.Page) (y:=⟨p,c,0⟩) a.srs P
   pg:=by
     refine a.pg.add (p:=p) (n:=1) s.len (by exact V) G (λq Y=>?_) (λq q1 q2=>?_) (λq=>J q) (λq=>?_) (λz g=>?_) (λl hl=>.inl hl)
     · exact(K q).trans (C8 ω)
     · have Y:(q:Int)=p:=ω
       have Z:nth k.Machine.Table.Entries q = ⟨2,(f:Nat)⟩:=(K q).trans (C9 Y);refine⟨W0 bf.Mode Z,λu S t r=>?_⟩;have fu:nth k.Machine.Table.Entries u=if(u:Int)=p then⟨2,(f:Nat)⟩ else nth h.Kernel.Machine.Table.Entries u:=K u
       change (nth k.Machine.Table.Entries u).Mode≠0 at t;change (nth k.Machine.Table.Entries u).Frame=(nth k.Machine.Table.Entries q).Frame at r;rw[fu]at t r;rw[Z]at r;by_cases eu:(u:Int)=p
       · omega
       · rw[C8 eu]at t r
         exact absurd r (f4 u S t)
     · show q∈pgs (jv (J4 p) h.Spans ⟨p,c,0⟩) h.Larges↔_
       rw[w.mem_iff,List.mem_cons];constructor
       · rintro(e|e)
         · exact .inr ⟨ω,ω⟩
         · exact .inl e
       · rintro(e|e)
         · exact .inr e
         · exact .inl ω
     · rcases dt.1 g with rfl|g
       · exact⟨G,.inr ⟨X4 _,by show p<p+((1:Nat):Int);omega⟩⟩
       · exact⟨(aC (X.sok z g)).1,.inl g⟩
   oow:=λo F=>by
     rcases a.oow o F with⟨z,g,A,Q⟩|A
     · exact .inl ⟨z,dt.2 (.inr g),A,Q⟩
     · exact .inr A
   hca:=λd hd j hj b D=>(i b j).2 (a.hca d hd j hj b D)
   hqu:=λy T=>(i _ _).2 (a.hqu y T)
   hfl:=λb D=>(i _ _).2 (a.hfl b D)
   hin:=λb D=>(i _ _).2 (a.hin b D)
   mem:=λb=>(a.mem b).trans (by
     show Live h.Spans h.Larges b↔Live (jv (J4 p) h.Spans ⟨p,c,0⟩) h.Larges b;unfold Live;rw[i])
   job:=λhm=>by
     obtain⟨j1,⟨y,T,e1⟩,⟨u,S,e2⟩⟩:=a.job hm;exact⟨j1,⟨y,dt.2 (.inr T),e1⟩,⟨u,dt.2 (.inr S),e2⟩⟩}
def addL(h:ab)(k:af)(a:List ax)(p n size t:Int):ab:={h with Kernel:=k,Free:=a,Larges:=jv (PB p) h.Larges ⟨p,n,size⟩,Objs:=jv (MR (16*p)) h.Objs ⟨h.Next,16*p,size,t⟩,Next:=h.Next+1}
theorem bm.addL{h:ab}{E:List Int}{size t:Int}{n:Nat}(a:bm h E)(g:9<=size/\size<=1000)(J:(n:Int)=(size+15) / 16)(i:(a8 h.Free n).2.2=true){k:af}(s:om h.Kernel (a8 h.Free n).2.1 n (k,n))(hn:h.Next<1000000)(ht:0<=t/\t<=h.Caches.length - 1) :
  bm (addL h k (a8 h.Free n).1 (a8 h.Free n).2.1 n size t) E:=by
 have B:(1:Int)<=n:=ω
 obtain⟨V,K,r3,M,r5⟩:=nt a.rng B i;obtain⟨-,W,u3,H⟩:=kU a B i;generalize (a8 h.Free n).2.1=p at K r3 M r5 W u3 H s |-;generalize (a8 h.Free n).1=fr at V M |-;have N:=(bx.1 (aD.1 a.ker).2.2.1).2.2;change (tbl h).Entries.length<=32 at N;have O:=a.L;have P:=kg (PB p) h.Larges ⟨p,n,size⟩;have C:=kg (MR (16*p)) h.Objs ⟨h.Next,16*p,size,t⟩;have Q:lpgs ⟨p,n,size⟩ ((n:Nat):Int).toNat=lpgs ⟨p,n,size⟩ n:=by rw[X2]
 have D:(pgs h.Spans (jv (PB p) h.Larges ⟨p,n,size⟩)).Perm (lpgs ⟨p,n,size⟩ n++pgs h.Spans h.Larges):=by
  refine(E2 (List.Perm.refl h.Spans) P).trans ?_;unfold pgs;rw[I6];simp only[Q];rw[<-I5,<-I5];exact List.perm_append_comm.append_right _
 have u:∀q,q∈lpgs ⟨p,n,size⟩ n↔p<=q/\q<p+n:=λq=>by
  rw[dn];constructor
  ·rintro⟨j,hj,rfl⟩;exact⟨by show p<=p+(j:Int);omega,by show p+(j:Int)<_;omega⟩
  ·rintro⟨X,Y⟩;exact⟨(q - p).toNat,ω,by show q=p+_;omega⟩
 have R:(lpgs ⟨p,n,size⟩ n).Nodup:=by
  unfold lpgs List.Nodup;rw[List.pairwise_map];exact List.nodup_range.imp λr e=>r (by simp only at e;omega)
 have r:∀z∈h.Larges,z.Page≠p:=λz g e=>H p (X4 _) ω (by rw[<-e];exact fE g (dn.2 ⟨0,by have:=aQ (O.lok z g);omega,ω⟩))
 have S:¬Live h.Spans h.Larges (16*p):=by
  rintro(⟨z,g,d,-⟩|⟨l,c,e⟩)
  ·exact H p (X4 _) ω (by rw[show p=z.Page by have a1:=d.1;have a2:=d.2.1;omega];exact dJ g)
  ·exact r l c ω
 have F:(16*p)∉E++holders h:=λT=>S ((a.mem _).1 T)
 have U:∀o∈h.Objs,o.Addr≠16*p:=λo i e=>F (v3.2 (.inr (by unfold holders;simp only[v3];exact .inl (.inl (.inl (z4.2 ⟨o,i,e⟩))))))
 have Z:(E++holders (Ab.addL h k fr p n size t)).Perm ((16*p)::(E++holders h)):=by
  have h0:=C.map (·.Addr);refine List.perm_iff_count.2 λb=>?_
  have d:=h0.count_eq b;simp only[U5,List.count_cons]at d;simp only[holders,cb,Ab.addL,V5,List.count_cons];omega
 exact {a with
   ker:=s.ker
   rng:=by show bt ((k.Machine.Table.Entries.length:Nat):Int) fr=true;rw[s.len];exact V
   lay:=by
     obtain⟨l1,l2,l3⟩:=db a.lay;unfold bh;simp only[I0,C0];refine⟨⟨l1,Y3.2 λz w=>?_⟩,D.nodup_iff.2 (List.nodup_append.2 ⟨R,l3,λq G b hb e=>?_⟩)⟩
     · rcases dt.1 w with rfl|w
       · exact O0 ⟨g.1,g.2,J,K,by show p<=32 - (n:Int);omega⟩
       · exact O.lok z w
     · subst e
       have:=(u q).1 G;exact H q this.1 this.2 hb
   srl:=kQ (f:=λz:a7=>z.Page) (y:=⟨p,n,size⟩) a.srl r
   pg:=by
     refine a.pg.add (p:=p) (n:=n) s.len (by exact W) K (λq G=>s.out q G) (λq X Y=>s.new q X Y) (λq=>M q) (λq=>?_) (λz g=>⟨(aC (O.sok z g)).1,.inl g⟩) (λl c=>?_)
     · show q∈pgs h.Spans (jv (PB p) h.Larges ⟨p,n,size⟩)↔_
       rw[D.mem_iff,v3,u];exact Or.comm
     · rcases dt.1 c with rfl|c
       · exact .inr λq G=>(u q).1 (by simpa using G)
       · exact .inl c
   nums:=yZ a.nums hn
   osr:=kQ (f:=λo:bK=>o.Addr) (y:=⟨h.Next,16*p,size,t⟩) a.osr U
   onu:=λo i=>by
     rcases dt.1 i with rfl|i
     · have:=a.nums
       unfold bX at this;rw[C0]at this;exact⟨by show 1<=h.Next;omega,by show h.Next<=h.Next+1 - 1;omega,ht⟩
     · have:=a.onu o i
       exact⟨this.1,by show o.Id<=h.Next+1 - 1;omega,this.2.2⟩
   oid:=by
     show((jv (MR (16*p)) h.Objs ⟨h.Next,16*p,size,t⟩).map (·.Id)).Nodup;rw[(C.map _).nodup_iff,U5];refine List.nodup_cons.2 ⟨λT=>?_,a.oid⟩;obtain⟨o,i,e⟩:=z4.1 T;have:=(a.onu o i).2.1;simp only at e;omega
   oow:=λo A=>by
     rcases dt.1 A with rfl|A
     · exact .inr ⟨_,dt.2 (.inl rfl),rfl,rfl⟩
     · rcases a.oow o A with d|⟨l,c,d⟩
       · exact .inl d
       · exact .inr ⟨l,dt.2 (.inr c),d⟩
   nd:=Z.nodup_iff.2 (List.nodup_cons.2 ⟨F,a.nd⟩)
   mem:=λb=>by
     rw[Z.mem_iff,List.mem_cons,a.mem b];show _↔Live h.Spans (jv (PB p) h.Larges ⟨p,n,size⟩) b;unfold Live;constructor
     · rintro(rfl|d|⟨l,c,e⟩)
       · exact .inr ⟨_,dt.2 (.inl rfl),rfl⟩
       · exact .inl d
       · exact .inr ⟨l,dt.2 (.inr c),e⟩
     · rintro(d|⟨l,c,e⟩)
       · exact .inr (.inl d)
       · rcases dt.1 c with rfl|c
         · exact .inl e
         · exact .inr (.inr ⟨l,c,e⟩)}
structure JK(h h':ab):Prop where
 job:h'.Job=h.Job
 msh:h'.Meshing=h.Meshing
 sp:∀s∈h.Spans,fo h s.Page=true->∃s'∈h'.Spans,s'.Page=s.Page/\∀u,meshable s u=true->meshable s' u=true
 ent:∀q:Nat,(nth (tbl h').Entries q).Mode≠0->((nth (tbl h).Entries q).Mode≠0/\(nth (tbl h').Entries q).Frame=(nth (tbl h).Entries q).Frame)\/∀u:Nat,(nth (tbl h').Entries u).Mode≠0->(nth (tbl h').Entries u).Frame=(nth (tbl h').Entries q).Frame->u=q
theorem JK.refl(h:ab):JK h h:=⟨rfl,rfl,λs a _=>⟨s,a,rfl,λ_ z=>z⟩,λ_ b=>.inl ⟨b,rfl⟩⟩
theorem JK.pg{h h':ab}(k:JK h h')(p:Int):fo h' p=fo h p:=by unfold fo;rw[k.job,k.msh]
theorem JK.trans{h h1 g:ab}(a:JK h h1)(b:JK h1 g):JK h g:=by
 refine⟨b.job.trans a.job,b.msh.trans a.msh,λs o i=>?_,λq j=>?_⟩
 ·obtain⟨p,r,k,t⟩:=a.sp s o i
  obtain⟨w,y,A,B⟩:=b.sp p r (by rw[a.pg,k];exact i);exact⟨w,y,A.trans k,λu c=>B u (t u c)⟩
 ·rcases b.ent q j with⟨d,l⟩|d
  ·rcases a.ent q d with⟨e,C⟩|e
   ·exact .inl ⟨e,l.trans C⟩
   ·refine .inr λu c n=>?_
    rcases b.ent u c with⟨f,D⟩|f
    ·exact e u f (by rw[<-D,<-l];exact n)
    ·exact(f q j n.symm).symm
  ·exact .inr d
theorem oh.keep{h h':ab}{p:Int}(f:0<=p)(d:(nth (tbl h').Entries p.toNat).Mode≠0)(g:oh (tbl h) p)(k:JK h h'):oh (tbl h') p:=λq e c=>by
 rcases k.ent p.toNat d with⟨n,i⟩|a
 ·rcases k.ent q e with⟨j,l⟩|b
  ·exact g q j (by rw[<-l,c,i])
  ·have:=b p.toNat d c.symm;omega
 ·have:=a q e c;omega
theorem bm.mapped{h:ab}{E:List Int}(a:bm h E){s:ar}(b:s∈h.Spans):0<=s.Page/\s.Page<(tbl h).Entries.length/\(nth (tbl h).Entries s.Page.toNat).Mode≠0:=by
 have c:=(aC (a.L.sok s b)).1;have d:=a.pg.bnd _ (dJ (la:=h.Larges) b);refine⟨c,d,(a.pg.own s.Page.toNat ω).2 ?_⟩;rw[show((s.Page.toNat:Nat):Int)=s.Page by omega];exact dJ b
theorem JI.keep{h h':ab}{E:List Int}(l:JI h)(p:bm h' E)(k:JK h h'):JI h':=by
 have d:h.Meshing=true->∃a∈h'.Spans,∃b∈h'.Spans,a.Page=h.Job.Plan.Keep/\b.Page=h.Job.Plan.Move/\meshable a b=true:=λc=>by
  obtain⟨a,n,b,o,f,g,e⟩:=l.sp c;obtain⟨q,t,u,w⟩:=k.sp a n (by unfold fo;rw[c,f];simp);obtain⟨y,A,B,C⟩:=k.sp b o (by unfold fo;rw[c,g];simp);refine⟨q,t,y,A,u.trans f,B.trans g,?_⟩;have r:=w b e;rw[iT]at r |-;exact C q r
 refine⟨λc=>?_,λc=>?_,λc=>?_,λc=>?_⟩
 ·rw[k.msh]at c;rw[k.job];exact l.ph c
 ·rw[k.msh]at c;rw[k.job];exact d c
 ·rw[k.msh]at c
  obtain⟨a,n,b,o,f,g,e⟩:=d c;obtain⟨i,D,j⟩:=p.mapped n;rw[k.job];rw[f]at i j;exact(l.sk c).keep i j k
 ·rw[k.msh]at c
  obtain⟨a,n,b,o,f,g,e⟩:=d c;obtain⟨i,D,j⟩:=p.mapped o;rw[k.job];rw[g]at i j;exact(l.sm c).keep i j k
theorem JK.less{h h':ab}(h1:h'.Job=h.Job)(c:h'.Meshing=h.Meshing)(d:h'.Spans=h.Spans)(b:∀q:Nat,(nth (tbl h').Entries q).Mode≠0->nth (tbl h').Entries q=nth (tbl h).Entries q):JK h h':=
 ⟨h1,c,λs e _=>⟨s,by rw[d];exact e,rfl,λ_ z=>z⟩,λq a=>.inl ⟨by rw[<-b q a];exact a,by rw[b q a]⟩⟩
theorem JK.eq{h h':ab}(h1:h'.Job=h.Job)(a:h'.Meshing=h.Meshing)(b:h'.Spans=h.Spans)(c:tbl h'=tbl h):JK h h':=.less h1 a b λq _=>by rw[c]
theorem JK.clrS{h:ab}{E:List Int}{a:Int}{i:Nat}(f:bm h E)(c:i<h.Spans.length)(d:eE (nth h.Spans i) a):JK h (clrS h i a):=by
 refine⟨rfl,rfl,λs g _=>?_,λq k=>.inl ⟨k,rfl⟩⟩;obtain⟨j,l,rfl⟩:=aW g;by_cases e:j=i
 ·subst e
  have b:=f.L.sok _ (am c);exact⟨_,iI _ c,rfl,λu n=>t7 b (tw b ⟨d.1,d.2.1⟩) n⟩
 ·exact⟨_,jo _ l e,rfl,λ_ z=>z⟩
theorem JK.giveP{h:ab}{E:List Int}{i:Nat}(d:bm h E)(f:i<h.Spans.length)(c:fo h (nth h.Spans i).Page=false):JK h (giveP h i):=by
 obtain⟨g,k,-⟩:=d.mapped (am f);refine⟨rfl,rfl,λs l a=>?_,λq b=>.inl ?_⟩
 ·obtain⟨j,n,rfl⟩:=aW l
  exact⟨_,eK.2 ⟨j,n,λe=>(by subst e;rw[c]at a;cases a),rfl⟩,rfl,λ_ z=>z⟩
 ·have o:=wZ d.ker (p:=(nth h.Spans i).Page) ⟨g,k⟩ q
  change (nth (cA h.Kernel (nth h.Spans i).Page).Machine.Table.Entries q).Mode≠0 at b;show(nth h.Kernel.Machine.Table.Entries q).Mode≠0/\(nth (cA h.Kernel (nth h.Spans i).Page).Machine.Table.Entries q).Frame=(nth h.Kernel.Machine.Table.Entries q).Frame;rw[o]at b |-;split at b
  ·exact absurd rfl b
  ·rename_i e
   rw[C8 e];exact⟨b,rfl⟩
theorem JK.freeS{h:ab}{E:List Int}{a:Int}{i:Nat}(c:bm h (a::E))(b:i<h.Spans.length)(d:eE (nth h.Spans i) a):JK h (freeS h i a):=by
 have g:=c.give b d;have f:=JK.clrS c b d;unfold Ab.freeS;split
 ·rename_i e
  have j:nth (Ab.clrS h i a).Spans i=jM (nth h.Spans i) (dB (nth h.Spans i) a):=by unfold Ab.clrS;simp only[ch,true_and];rw[C9 b]
  exact f.trans (JK.giveP (h:=Ab.clrS h i a) g (by unfold Ab.clrS;simp only[O1];exact b) (by rw[j];exact e.2))
 ·exact f
theorem JK.freeA{h:ab}{E:List Int}{a:Int}(b:bm h (a::E)):JK h (freeA h a):=by
 obtain⟨c,d,-⟩:=b.at (b.hin a (V1 ..));exact JK.freeS b c d
theorem JK.recyc{h:ab}{E:List Int}{a:Int}{t:Nat}(b:bm h (a::E)):JK h (recyc t h a):=by
 unfold Ab.recyc;split
 ·exact JK.eq rfl rfl rfl rfl
 ·exact JK.freeA b
theorem JK.recycs{t:Nat}{E:List Int} : ∀{az:List Int}{h:ab},bm h (az++E)->t<h.Caches.length->JK h (recycs t h az)
 | [],h,_,_=>JK.refl h
 | a::az,h,b,c=>(JK.recyc (t:=t) b).trans (JK.recycs (az:=az) (h:=Ab.recyc t h a) (b.recyc c) (by rw[(qE t h a).1];exact c))
theorem JK.freeAs{E:List Int} : ∀{az:List Int}{h:ab},bm h (az++E)->JK h (freeAs h az)
 | [],h,_=>JK.refl h
 | a::az,h,b=>(JK.freeA b).trans (JK.freeAs (az:=az) (h:=Ab.freeA h a) b.freeA)
theorem JK.flushN{t:Nat}{h:ab}(c:bm h [])(d:t<h.Caches.length):∀{k:Nat},k<=4->JK h (flushN t h k).1
 | 0,_=>JK.refl h
 | k+1,e=>by
  obtain⟨h1,f,-⟩:=gr c d (k:=k) ω;have a:t<(Ab.flushN t h k).1.Caches.length:=ω
  have b:k<(nth (Ab.flushN t h k).1.Caches t).Lists.length:=by rw[(dq (h1.cach _ (am a))).1];omega
  exact JK.trans (h1:=Ab.spilt (Ab.flushN t h k).1 t k) ((JK.flushN c d (k:=k) ω).trans (JK.eq rfl rfl rfl rfl)) (JK.freeAs (h1.spilt a b))
theorem BD{h:ab}{E:List Int}(a:bm h E){k:Nat}(b:k<h.Larges.length):0<=(nth h.Larges k).Page/\(nth h.Larges k).Page+((nth h.Larges k).Pages.toNat:Nat)<=(tbl h).Entries.length:=by
 have c:=aQ (a.L.lok _ (am b));have d:=a.pg.bnd _ (fE (sp:=h.Spans) (am b) (dn.2 ⟨(nth h.Larges k).Pages.toNat - 1,ω,rfl⟩));exact⟨ω,ω⟩
theorem JK.freeL{h:ab}{E:List Int}{i k:Nat}(b:bm h E)(c:k<h.Larges.length):JK h (freeL h i k):=by
 obtain⟨d,f⟩:=BD b c;refine JK.less rfl rfl rfl λq a=>?_
 have g:=lU b.ker d (nth h.Larges k).Pages.toNat f q;change (nth (dO h.Kernel (nth h.Larges k).Page (nth h.Larges k).Pages.toNat).Machine.Table.Entries q).Mode≠0 at a;show nth (dO h.Kernel (nth h.Larges k).Page (nth h.Larges k).Pages.toNat).Machine.Table.Entries q=nth h.Kernel.Machine.Table.Entries q;rw[g]at a |-;split at a
 ·exact absurd rfl a
 ·rename_i e;rw[C8 e]
theorem JK.freeOb{h:ab}{t i:Nat}(a:bm h [])(c:i<h.Objs.length)(d:t<h.Caches.length):JK h (freeOb h t i).1:=by
 unfold Ab.freeOb;split
 ·rename_i b
  obtain⟨l,e,h1,-⟩:=(f9 a (am c)).1 b;exact JK.freeL a (uZ e h1).1
 ·rename_i b
  split
  ·exact JK.refl h
  ·have h1:=a.inQuar c b
   exact JK.trans (h1:=Ab.inQuar h i) (JK.eq rfl rfl rfl rfl) (JK.recycs (E:=[]) (by rw[List.append_nil];exact h1) d)
theorem JK.take{h:ab}{i:Nat}{k sd:Int}(b:fo h (nth h.Spans i).Page=false):JK h {h with Seed:=sd,Spans:=h.Spans.set i (qr (nth h.Spans i) k)}:=by
 refine⟨rfl,rfl,λs c a=>?_,λq d=>.inl ⟨d,rfl⟩⟩;obtain⟨j,f,rfl⟩:=aW c;exact⟨_,jo _ f λe=>(by subst e;rw[b]at a;cases a),rfl,λ_ z=>z⟩
theorem AB{t:aH}{q:Nat}(h:(nth t.Entries q).Mode≠0):q<t.Entries.length:=by
 by_cases e:q<t.Entries.length
 ·exact e
 ·exfalso
  apply h;unfold nth;rw[W2,U2 ω]
  rfl
theorem JK.addS{h:ab}{k:af}{l:List ax}{p c:Int}(s:Bd h.Kernel p (k,true)):JK h (addS h k l p c):=by
 obtain⟨f,t,w,d,n⟩:=s.yes rfl;have b:k.Machine.Table.Entries.length=h.Kernel.Machine.Table.Entries.length:=s.len;refine⟨rfl,rfl,λz o _=>⟨z,dt.2 (.inr o),rfl,λ_ y=>y⟩,λq g=>?_⟩;change (nth k.Machine.Table.Entries q).Mode≠0 at g;show((nth h.Kernel.Machine.Table.Entries q).Mode≠0/\(nth k.Machine.Table.Entries q).Frame=(nth h.Kernel.Machine.Table.Entries q).Frame)\/∀u:Nat,(nth k.Machine.Table.Entries u).Mode≠0->(nth k.Machine.Table.Entries u).Frame=(nth k.Machine.Table.Entries q).Frame->u=q
 by_cases e:(q:Int)=p
 ·refine .inr λu i a=>?_
  have j:=AB i;have f3u:=d u;have f3q:=d q;simp only at f3u f3q;rw[C9 e]at f3q;rw[f3q]at a;by_cases r:(u:Int)=p
  ·omega
  ·rw[C8 r]at f3u
   rw[f3u]at i a;exact absurd a (n u (by rw[<-b];exact j) i)
 ·have f3q:=d q
  simp only at f3q;rw[C8 e]at f3q;rw[f3q]at g |-;exact .inl ⟨g,rfl⟩
theorem JK.addL{h:ab}{k:af}{g:List ax}{p size t:Int}{n:Nat}(s:om h.Kernel p n (k,n)):JK h (addL h k g p n size t):=by
 have a:k.Machine.Table.Entries.length=h.Kernel.Machine.Table.Entries.length:=s.len;refine⟨rfl,rfl,λz i _=>⟨z,i,rfl,λ_ y=>y⟩,λq b=>?_⟩;change (nth k.Machine.Table.Entries q).Mode≠0 at b;show((nth h.Kernel.Machine.Table.Entries q).Mode≠0/\(nth k.Machine.Table.Entries q).Frame=(nth h.Kernel.Machine.Table.Entries q).Frame)\/∀u:Nat,(nth k.Machine.Table.Entries u).Mode≠0->(nth k.Machine.Table.Entries u).Frame=(nth k.Machine.Table.Entries q).Frame->u=q
 by_cases e:p<=q/\(q:Int)<p+n
 ·exact .inr λu d c=>(s.new q e.1 e.2).2 u (by rw[<-a];exact AB d) d c
 ·have f:=s.out q e
  simp only at f;rw[f]at b |-;exact .inl ⟨b,rfl⟩
theorem sU(h:ab):∀{n:Nat},n<=h.Spans.length->∀s∈kW h n,(aT h s.Page).length=1
 | 0,_,s,a=>by cases a
 | n+1,b,s,a=>by
  unfold kW at a;split at a
  ·rename_i e
   rcases v3.1 a with a|a
   ·exact sU h ω s a
   ·unfold zd at e
    simp only[I0,C0]at e;rw[I1.1 a];exact e.2
  ·exact sU h ω s a
theorem bm.sole{h:ab}{E:List Int}(e:bm h E){s:ar}(f:s∈h.Spans)(h1:(aT h s.Page).length=1):oh (tbl h) s.Page:=λq a g=>by
 obtain⟨k,l,b⟩:=e.mapped f;have i:s.Page=((s.Page.toNat:Nat):Int):=ω
 rw[i,eX (by show s.Page.toNat<(tbl h).Entries.length;omega) b]at h1;obtain⟨z,j⟩:=List.length_eq_one_iff.1 h1;have c:(s.Page.toNat:Int)∈pagesOn (tbl h) (nth (tbl h).Entries s.Page.toNat).Frame:=d9.2 ⟨ω,b,rfl⟩;have d:(q:Int)∈pagesOn (tbl h) (nth (tbl h).Entries s.Page.toNat).Frame:=d9.2 ⟨AB a,a,g⟩;rw[j]at c d;simp only[I1]at c d;omega
theorem FW{h:ab}(hi:bm h [])(l:h.Meshing=false):bm (started h).1 []/\JI (started h).1:=by
 have F:=hi.nums;unfold bX at F;rw[C0]at F;have L:=(me (bN h).length (show 0<=h.Seed/\h.Seed<=1073741823 by omega) ((bN h).length - 1)).2;have n:=qB (bN h) (show 0<=h.Seed/\h.Seed<=1073741823 by omega);have c:bX {h with Seed:=(shuf (bN h).length h.Seed).2} = true:=by
  unfold bX;rw[C0];unfold shuf;simp only;omega
 cases o:m8 (bN h) h.Seed with
 | nil=>
  have f:Ab.started h=({h with Seed:=(shuf (bN h).length h.Seed).2},false):=by unfold Ab.started;rw[o]
  rw[f];exact⟨{hi with nums:=c},⟨λe=>by simp[l]at e,λe=>by simp[l]at e,λe=>by simp[l]at e,λe=>by simp[l]at e⟩⟩
 | cons q Q=>
  obtain⟨R,S,g⟩:=n q (by rw[o];exact V1 ..);have f:Ab.started h=({h with Seed:=(shuf (bN h).length h.Seed).2,Meshing:=true,Job:=xN (dU (nth (bN h) q.A.toNat) (nth (bN h) q.B.toNat))},true):=by unfold Ab.started;rw[o]
  rw[f];have d:∀s∈bN h,s∈h.Spans/\oh (tbl h) s.Page:=λs M=>by
   have G:=List.mem_of_mem_take M;have H:=pb h (z3 _) s G;exact⟨H,hi.sole H (sU h (z3 _) s G)⟩
  have j:=d _ (am (xs:=bN h) (i:=q.A.toNat) ω);have k:=d _ (am (xs:=bN h) (i:=q.B.toNat) ω);generalize nth (bN h) q.A.toNat=a at g j |-;generalize nth (bN h) q.B.toNat=b at g k |-;obtain⟨N,T,U⟩:=ss g;have p:(dU a b).Keep=a.Page/\(dU a b).Move=b.Page\/(dU a b).Keep=b.Page/\(dU a b).Move=a.Page:=by
   unfold dU;split
   ·exact .inr ⟨rfl,rfl⟩
   ·exact .inl ⟨rfl,rfl⟩
  have r:jx (xN (dU a b))=true:=fQ.2 ⟨N,by show(0:Int)<=0;omega,by show(0:Int)<=5;omega,by show(0:Int)<=0;omega,by show(0:Int)<=(((dU a b).Cells.length:Nat):Int);omega⟩;have t:∃x∈h.Spans,∃y∈h.Spans,x.Page=(dU a b).Keep/\y.Page=(dU a b).Move/\meshable x y=true/\oh (tbl h) x.Page/\oh (tbl h) y.Page:=by
   rcases p with⟨u,w⟩|⟨u,w⟩
   ·exact⟨a,j.1,b,k.1,u.symm,w.symm,g,j.2,k.2⟩
   ·exact⟨b,k.1,a,j.1,u.symm,w.symm,by rw[iT];exact g,k.2,j.2⟩
  obtain⟨x,J,y,K,C,D,E,O,P⟩:=t;exact⟨{hi with nums:=c,job:=λ_=>⟨r,⟨x,J,C⟩,⟨y,K,D⟩⟩,noj:=λe=>by cases e},⟨λ_=>⟨by show(0:Int)<=0;omega,by show(0:Int)<=3;omega⟩,λ_=>⟨x,J,y,K,C,D,E⟩,λ_=>by show oh (tbl h) (dU a b).Keep;rw[<-C];exact O,λ_=>by show oh (tbl h) (dU a b).Move;rw[<-D];exact P⟩⟩
def fR(m:aI)(f:Nat):aI:=⟨m.Buffers.set f ((nth m.Buffers f).drop 1),m.Inbox.set (nth (nth m.Buffers f) 0).To.toNat (nth m.Inbox (nth (nth m.Buffers f) 0).To.toNat++[(nth (nth m.Buffers f) 0).Addr])⟩
def kZ(m:aI)(t:Nat):aI:=⟨m.Buffers,m.Inbox.set t []⟩
def gT(m:aI)(f:Nat)(p:di):aI:=⟨m.Buffers.set f (nth m.Buffers f++[p]),m.Inbox⟩
theorem dE{m:aI} : bI m=true↔(1<=m.Buffers.length/\m.Buffers.length<=4/\m.Inbox.length=m.Buffers.length)/\(∀i,i<m.Buffers.length->(∀p∈nth m.Buffers i,0<=p.To/\p.To<=(m.Buffers.length:Int) - 1/\0<=p.Addr)/\∀a∈nth m.Inbox i,0<=a)/\br m m.Buffers.length<=30:=by
 unfold bI;simp only[I0,C0,cn,gC,Y3,mL,Pe];exact and_assoc
theorem oA(m:aI)(f t:Nat)(x:List di)(y:List Int)(g:f<m.Buffers.length)(h:t<m.Inbox.length):∀n:Nat,br ⟨m.Buffers.set f x,m.Inbox.set t y⟩ n=br m n+(if f<n then(x.length:Int) - ((nth m.Buffers f).length:Nat) else 0)+(if t<n then(y.length:Int) - ((nth m.Inbox t).length:Nat) else 0)
 | 0=>by simp[br]
 | n+1=>by
  have i:=oA m f t x y g h n;have j:(nth (m.Buffers.set f x) n).length=if f=n then x.length else(nth m.Buffers n).length:=by
   rw[ch];by_cases e:f=n
   ·rw[C9 ⟨e,ω⟩,C9 e]
   ·rw[C8 λz=>e z.1,C8 e]
  have k:(nth (m.Inbox.set t y) n).length=if t=n then y.length else(nth m.Inbox n).length:=by
   rw[ch];by_cases e:t=n
   ·rw[C9 ⟨e,ω⟩,C9 e]
   ·rw[C8 λz=>e z.1,C8 e]
  simp only[br,i,j,k];by_cases d:f=n
  ·subst d
   by_cases b:t=f
   ·subst b
    simp only[if_true,Nat.lt_irrefl,if_false,Nat.lt_succ_self];omega
   ·simp only[if_true,Nat.lt_irrefl,if_false,Nat.lt_succ_self,C8 b]
    by_cases a:t<f
    ·rw[C9 a,C9 (show t<f+1 by omega)];omega
    ·rw[C8 a,C8 (show ¬t<f+1 by omega)];omega
  ·by_cases b:t=n
   ·subst b
    simp only[if_true,Nat.lt_irrefl,if_false,Nat.lt_succ_self,C8 d];by_cases a:f<t
    ·rw[C9 a,C9 (show f<t+1 by omega)];omega
    ·rw[C8 a,C8 (show ¬f<t+1 by omega)];omega
   ·simp only[C8 d,C8 b]
    by_cases a:f<n
    ·rw[C9 a,C9 (show f<n+1 by omega)]
     by_cases c:t<n
     ·rw[C9 c,C9 (show t<n+1 by omega)];omega
     ·rw[C8 c,C8 (show ¬t<n+1 by omega)];omega
    ·rw[C8 a,C8 (show ¬f<n+1 by omega)]
     by_cases c:t<n
     ·rw[C9 c,C9 (show t<n+1 by omega)];omega
     ·rw[C8 c,C8 (show ¬t<n+1 by omega)];omega
theorem MZ{α:Type}[Inhabited α]{xs:List α}{i:Nat}(h:i<xs.length):xs.set i (nth xs i)=xs:=by
 rw[<-O2.1 (ah h) |>.2];exact List.set_getElem_self h
theorem Du{m:aI}(h:bI m=true){f:Nat}(d:f<m.Buffers.length)(n:0<(nth m.Buffers f).length):bI (fR m f)=true:=by
 obtain⟨⟨o,q,r⟩,g,y⟩:=dE.1 h;obtain⟨t,A⟩:=g f d;have c:=t _ (am n);have u:(nth (nth m.Buffers f) 0).To.toNat<m.Inbox.length:=ω
 refine dE.2 ⟨⟨?_,?_,?_⟩,λi j=>?_,?_⟩
 ·simp only[fR,O1];exact o
 ·simp only[fR,O1];exact q
 ·simp only[fR,O1];exact r
 ·simp only[fR,O1]at j |-
  obtain⟨k,l⟩:=g i j;simp only[ch];refine⟨λp c=>?_,λa b=>?_⟩
  ·split at c
   ·rename_i e;rw[<-e.1]at k
    refine(g f d).1 p (List.mem_of_mem_drop c)
   ·exact k p c
  ·split at b
   ·rename_i e
    rcases v3.1 b with b|b
    ·rw[e.1]at b;exact l a b
    ·rw[I1.1 b];exact c.2.2
   ·exact l a b
 ·have w:=oA m f (nth (nth m.Buffers f) 0).To.toNat ((nth m.Buffers f).drop 1) (nth m.Inbox (nth (nth m.Buffers f) 0).To.toNat++[(nth (nth m.Buffers f) 0).Addr]) d u m.Buffers.length
  simp only[fR,O1];rw[w,C9 d,C9 ω,O3,I3,List.length_singleton];omega
theorem N7{m:aI}(h:bI m=true){t:Nat}(d:t<m.Inbox.length):bI (kZ m t)=true:=by
 obtain⟨⟨e,f,g⟩,j,o⟩:=dE.1 h;refine dE.2 ⟨⟨e,f,?_⟩,λi k=>?_,?_⟩
 ·simp only[kZ,O1];exact g
 ·obtain⟨l,n⟩:=j i k
  simp only[kZ,ch];refine⟨l,λa b=>?_⟩;split at b
  ·cases b
  ·exact n a b
 ·have c:=oA m t t (nth m.Buffers t) [] ω d m.Buffers.length
  rw[MZ ω]at c;show br ⟨m.Buffers,m.Inbox.set t []⟩ m.Buffers.length<=30;rw[c,C9 ω,C9 ω,List.length_nil];omega
theorem ka{m:aI}(h:bI m=true)(b:Int):(aE m).count b=(m.Buffers.flatMap λl=>l.map (·.Addr)).count b+(m.Inbox.flatMap λx=>x).count b:=by
 unfold aE;rw[C9 h,V5,kC]
theorem bm.mailed{h:ab}{E c:List Int}{m:aI}(d:bm h E)(i:bI m=true)(j:m.Buffers.length=h.Mail.Buffers.length)(k:∀b,c.count b+(aE m).count b=E.count b+(aE h.Mail).count b)(f:∀a,a∈c\/a∈aE m->jj h.Spans a (-1)):bm {h with Mail:=m} c:=by
 have g:(E++holders h).Perm (c++holders {h with Mail:=m}):=by
  refine List.perm_iff_count.2 λb=>?_
  have l:=k b;simp only[holders,cb,V5];omega
 exact {d with
   mail:=i
   nc:=d.nc.trans j.symm
   hfl:=λa e=>f a (.inr e)
   hin:=λa e=>f a (.inl e)
   nd:=g.nodup_iff.1 d.nd
   mem:=λb=>by rw[<-g.mem_iff];exact d.mem b}
theorem Fr{h:ab}{E d:List Int}{m:aI}(f:bm h E)(g:∀b,d.count b+(aE m).count b=E.count b+(aE h.Mail).count b):∀a,a∈d\/a∈aE m->jj h.Spans a (-1):=λa c=>by
 have i:=g a;have j:0<d.count a+(aE m).count a:=by
  rcases c with c|c
  ·have:=List.count_pos_iff.2 c;omega
  ·have:=List.count_pos_iff.2 c;omega
 by_cases e:0<E.count a
 ·exact f.hin a (List.count_pos_iff.1 e)
 ·exact f.hfl a (List.count_pos_iff.1 ω)
theorem bm.deliv{h:ab}{E:List Int}{f:Nat}(a:bm h E)(e:f<h.Mail.Buffers.length)(d:0<(nth h.Mail.Buffers f).length):bm {h with Mail:=fR h.Mail f} E:=by
 have c:=Du a.mail e d;obtain⟨⟨q,r,t⟩,j,u⟩:=dE.1 a.mail;have k:=(j f e).1 _ (am d);have g:∀b,E.count b+(aE (fR h.Mail f)).count b=E.count b+(aE h.Mail).count b:=λb=>by
  rw[ka c,ka a.mail];have i:=iB (λl:List di=>l.map (·.Addr)) b h.Mail.Buffers f ((nth h.Mail.Buffers f).drop 1) e;have n:=iB (λx:List Int=>x) b h.Mail.Inbox (nth (nth h.Mail.Buffers f) 0).To.toNat (nth h.Mail.Inbox (nth (nth h.Mail.Buffers f) 0).To.toNat++[(nth (nth h.Mail.Buffers f) 0).Addr]) ω;have o:(nth h.Mail.Buffers f).map (·.Addr)=(nth (nth h.Mail.Buffers f) 0).Addr::((nth h.Mail.Buffers f).drop 1).map (·.Addr):=by
   generalize nth h.Mail.Buffers f=l at d
   match l,d with
   | p::l,_=>rfl
  simp only[fR];rw[o]at i;simp only[List.count_cons]at i;simp only[V5,List.count_singleton]at n;omega
 exact a.mailed c (by simp[fR]) g (Fr a g)
theorem bm.coll{h:ab}{E:List Int}{t:Nat}(c:bm h E)(d:t<h.Mail.Inbox.length):bm {h with Mail:=kZ h.Mail t} (nth h.Mail.Inbox t++E):=by
 have a:=N7 c.mail d;have e:∀b,(nth h.Mail.Inbox t++E).count b+(aE (kZ h.Mail t)).count b=E.count b+(aE h.Mail).count b:=λb=>by
  rw[ka a,ka c.mail];have f:=iB (λx:List Int=>x) b h.Mail.Inbox t [] d;simp only[List.count_nil]at f;simp only[kZ,V5];omega
 exact c.mailed a rfl e (Fr c e)
theorem bm.send{h:ab}{E:List Int}{f:Nat}{p:di}(c:bm h (p.Addr::E))(e:f<h.Mail.Buffers.length)(a:bI (gT h.Mail f p)=true):bm {h with Mail:=gT h.Mail f p} E:=by
 have d:∀b,E.count b+(aE (gT h.Mail f p)).count b=(p.Addr::E).count b+(aE h.Mail).count b:=λb=>by
  rw[ka a,ka c.mail];have g:=iB (λl:List di=>l.map (·.Addr)) b h.Mail.Buffers f (nth h.Mail.Buffers f++[p]) e;simp only[O5,U5,List.map_nil,V5,List.count_singleton]at g;simp only[gT,List.count_cons];omega
 exact c.mailed a (by simp[gT]) d (Fr c d)
def kI(now:Int):List aK->Nat
 | []=>0
 | x::xs=>if x.Since<now - 100 then kI now xs+1 else 0
def aged(h:ab)(n:Int):ab:={h with Clock:=h.Clock+n,Quar:=⟨h.Quar.Room,h.Quar.Lst.drop (kI (h.Clock+n) h.Quar.Lst)⟩}
def jf(h:ab)(n:Int):List Int:=(h.Quar.Lst.take (kI (h.Clock+n) h.Quar.Lst)).map (·.Addr)
def tick(h:ab)(n:Int):ab:=freeAs (aged h n) (jf h n)
theorem ox(x:aK)(xs:List aK):∀n,quarCells (x::xs) (n+1)=csz x.Class+quarCells xs n
 | 0=>by simp only[quarCells];show 0+csz x.Class=csz x.Class+0;omega
 | n+1=>by
  rw[iy,ox x xs n,iy];show csz x.Class+quarCells xs n+csz (nth xs n).Class=_;omega
theorem PE(k:Int):0<=csz k:=by
 unfold csz;split
 ·exact Int.le_of_lt (Int.pow_pos (by decide))
 ·decide
theorem Ht:∀(l:List aK)(k:Nat),qc (l.drop k)<=qc l
 | [],k=>by simp
 | x::xs,0=>X4 _
 | x::xs,k+1=>by
  have a:=Ht xs k;have b:=PE x.Class;have c:qc (x::xs)=csz x.Class+qc xs:=ox x xs xs.length;show qc (xs.drop k)<=qc (x::xs);omega
theorem bm.aged{h:ab}{E:List Int}{n:Int}(a:bm h E)(t:0<=n)(u:h.Clock+n<=1000000):bm (aged h n) (jf h n++E):=by
 obtain⟨i,j,k,o,p,q⟩:=iA.1 a.quar;have c:=a.nums;unfold bX at c;rw[C0]at c;have e:=List.drop_sublist (kI (h.Clock+n) h.Quar.Lst) h.Quar.Lst;have g:(E++holders h).Perm ((jf h n++E)++holders (Ab.aged h n)):=by
  refine List.perm_iff_count.2 λb=>?_
  have r:=W0 (λl:List aK=>(l.map (·.Addr)).count b) (List.take_append_drop (kI (h.Clock+n) h.Quar.Lst) h.Quar.Lst);simp only[O5,V5]at r;simp only[holders,cb,Ab.aged,jf,V5];omega
 exact {a with
   nums:=by unfold bX;rw[C0];simp only[Ab.aged];omega
   quar:=iA.2 ⟨λy d=>i y (e.subset d),j.sublist e,k.sublist (e.map _),o,p,W4 (Ht _ _) q⟩
   snc:=λy d=>by
     have:=a.snc y (e.subset d);show y.Since<=h.Clock+n;omega
   hqu:=λy d=>a.hqu y (e.subset d)
   hin:=λb f=>by
     rcases v3.1 f with f|f
     · obtain⟨y,d,rfl⟩:=z4.1 f
       exact(a.hqu y (List.mem_of_mem_take d)).any
     · exact a.hin b f
   nd:=g.nodup_iff.1 a.nd
   mem:=λb=>by rw[<-g.mem_iff];exact a.mem b}
theorem bm.tick{h:ab}{n:Int}(a:bm h [])(b:0<=n)(c:h.Clock+n<=1000000):bm (tick h n) []/\JK h (tick h n):=by
 have h1:=a.aged b c;exact⟨bm.freeAs h1,JK.trans (h1:=Ab.aged h n) (JK.eq rfl rfl rfl rfl) (JK.freeAs h1)⟩
def collect(h:ab)(t:Nat):ab:=recycs t {h with Mail:=kZ h.Mail t} (nth h.Mail.Inbox t)
theorem bm.collect{h:ab}{t:Nat}(a:bm h [])(b:t<h.Caches.length):bm (collect h t) []/\JK h (collect h t):=by
 have h1:=a.coll (t:=t) (by rw[(dE.1 a.mail).1.2.2,<-a.nc];exact b);exact⟨bm.recycs h1 b,JK.trans (h1:={h with Mail:=kZ h.Mail t}) (JK.eq rfl rfl rfl rfl) (JK.recycs h1 b)⟩
def Pz(h:ab)(t i:Nat):ab:={h with Kernel:=gg h.Kernel (nth h.Objs i).Addr (csz (aL (nth h.Objs i).Size)).toNat,Objs:=dele h.Objs i,Mail:=gT h.Mail t ⟨(nth h.Objs i).Thread,(nth h.Objs i).Addr⟩}
def freeT(h:ab)(t i:Nat):ab × Int:=
 if aL (nth h.Objs i).Size<0 then(freeL h i (u9 h (nth h.Objs i).Addr),0)
 else if(au (tbl h) ((nth h.Objs i).Addr / 16)).Mode=1 then(h,5)
 else if(nth h.Objs i).Thread=t then(ME h t i,0)
 else if bI (gT h.Mail t ⟨(nth h.Objs i).Thread,(nth h.Objs i).Addr⟩)=true then(Pz h t i,0) else(h,5)
theorem zI{h:ab}{t i:Nat}(e:(nth h.Objs i).Thread=t):freeT h t i=freeOb h t i:=by
 unfold freeT freeOb;rw[C9 e]
theorem bm.freeT{h:ab}{t i:Nat}(a:bm h [])(b:i<h.Objs.length)(c:t<h.Caches.length):bm (freeT h t i).1 []/\JK h (freeT h t i).1:=by
 by_cases e:(nth h.Objs i).Thread=t
 ·rw[zI e];exact⟨a.freeOb b c,JK.freeOb a b c⟩
 have d:=a.freeOb b c;have f:=JK.freeOb a b c;unfold Ab.freeOb at d f;unfold Ab.freeT;split
 ·rename_i g
  rw[C9 g]at d f;exact⟨d,f⟩
 rename_i g;rw[C8 g]at d f;split
 ·exact⟨a,JK.refl h⟩
 split
 ·rename_i j
  obtain⟨⟨s,l,n,o⟩,u⟩:=(f9 a (am b)).2 g;have q:=a.dropO b (jj.any ⟨s,l,n,.inr o⟩);have r:=q.cells (k:=gg h.Kernel (nth h.Objs i).Addr (csz (aL (nth h.Objs i).Size)).toNat) (EN a.ker _ _) rfl;exact⟨bm.send (p:=⟨(nth h.Objs i).Thread,(nth h.Objs i).Addr⟩) r (by show t<h.Mail.Buffers.length;rw[<-a.nc];exact c) j,JK.eq rfl rfl rfl rfl⟩
 ·exact⟨a,JK.refl h⟩
def ly(k:af)(a v:Int):af:=setCell k (gi k a) (a % 16) v
theorem vE{k:af}(h:aB k=true){a v:Int}(b:(au k.Machine.Table (a / 16)).Mode≠0)(c:0<=v/\v<=999):aB (ly k a v)=true:=by
 obtain⟨d,e,-⟩:=iV h b;exact qw h (f:=gi k a) d e c
theorem bm.store{h:ab}{a v:Int}(b:bm h [])(c:(au h.Kernel.Machine.Table (a / 16)).Mode≠0)(d:0<=v/\v<=999):bm {h with Kernel:=ly h.Kernel a v} []/\JK h {h with Kernel:=ly h.Kernel a v}:=
 ⟨b.cells (vE b.ker c d) rfl,JK.eq rfl rfl rfl rfl⟩
theorem NZ{xs:List Int}{x:Int}(h:cS xs.length (λj=>decide (nth xs j≠x))=true):x∉xs:=λb=>by
 obtain⟨j,a⟩:=List.mem_iff_getElem?.1 b;have:=dI h (O2.1 a).1;rw[bq a]at this;simp at this
theorem EH(xs:List Int)(x:Int)(g:xs.length<=4611686018427387904):ao Tryz.prog 268 false [.val none (aF .imm xs),.val none [I x]] .one [B (decide (x∈xs))]:=by
 refine fO 18 [] Tryz.func268 rfl ?_
 repeat'(first|refine gO ?_|fail)
 (conv=>whnf)
 refine CE (ι:=Nat) (λi=>[(0,.hold .one (aF .imm xs)),(1,.hold .one [I (x)]),(5,.hold .one [I ((i:Nat):Int)])]) (λi=>i<=xs.length/\cS i (λj=>decide (nth xs j≠x))=true) (λi=>xs.length - i) 0 ?_ ⟨U0 _,rfl⟩ λi a=>?_
 ·exact wB
 obtain⟨a,b⟩:=a;by_cases c:i<xs.length
 ·have d:=ah c
  by_cases e:nth xs i=x
  ·repeat'(first|refine gA ?_|(conv=>whnf);first|with_reducible refine CB (aa d) ?_)
   exact W0 (λz=>[B z]) ((by symm;exact O0 (by rw[<-e];exact am c)))
  ·repeat'(first|refine gA ?_|(conv=>whnf);first|with_reducible refine CB (aa d) ?_)
   ((conv=>whnf);refine CD (i+1) ⟨ω,bL b (O0 e)⟩ ω ?_;(exact wB))
 ·repeat'(first|refine gD ?_|fail)
  obtain rfl:i=xs.length:=ω
  exact W0 (λz=>[B z]) ((by symm;exact T0 (NZ b)))
theorem bB.more{M f:ac}{w g:World}(h:bB M w g)(e:∀b o,M b o->f b o):bB f w g:=
 ⟨h.os,h.tape,h.output,h.size,λb a c=>h.blk b a λo d=>c o (e b o d),λb o a c=>h.cel b o a λd=>c (e b o d),λb o a c=>h.fro b o a λd=>c (e b o d)⟩
theorem aO.wk{P:Program}{f:Nat}{sh:Bool}{c u:List C}{A B:List MA}{k:Kd}{rcs:List C}(h:aO P f sh A (.ptr c::B) k rcs)(y:Kn c u):aO P f sh A (.ptr u::B) k rcs:=by
 refine⟨h.has,λw S V i E F l G=>(h.run w S V i E F l G).mono λe w1 H=>?_⟩;obtain⟨v,J,K,X,L,M,N,n,p,a,q,r,b,O,Q,D⟩:=H;refine⟨v,J,K,X,L,M,N,n,p,a,q,r,b,O,Q,?_⟩;cases i with
 | nil=>exact D.elim
 | cons v0 i=>
  obtain⟨⟨R,Y,T,U,W,⟨g,o,Z,e2⟩,d⟩,t⟩:=D;refine⟨⟨R,Y,T,U,W,⟨g,o,Z,λj hj=>e2 j (by rw[(sg y).1];exact hj)⟩,Ao y d⟩,t⟩
theorem aO.frame{P:Program}{f:Nat}{sh:Bool}{c c' r:List C}{A B:List MA}{k:Kd}{rcs:List C}(h:aO P f sh (.ptr c::A) (.ptr c'::B) k rcs)(hl:c'.length=c.length):aO P f sh (.ptr (c++r)::A) (.ptr (c'++r)::B) k rcs:=by
 refine⟨h.has,λw S V vs hS hV hVd hA=>?_⟩;cases vs with
 | nil=>exact hA.elim
 | cons v0 vs=>
 obtain⟨⟨X1,Y,hX1,hY,O,⟨g,q,rfl,u⟩,ff,hf1,J,hf3⟩,hA'⟩:=hA;have hlen:(c++r).length=c.length+r.length:=I3
 let V0:ac:=piece g q ff 0 c.length
 let W:Nat->ac:=Md V0 (λi=>V (i+1))
 have hcX:∀o,q<=o->o<q+(c++r).length->X1 g o:=λo l a=>by
  have:=(u (o - q) ω).1
  rwa [show q+(o - q)=o by omega]at this
 have hV0:∀b o,V0 b o->V 0 b o:=λb o p=>by
  rcases p with⟨rfl,l,a⟩|⟨j,-,a,Q⟩
  ·exact hX1 _ _ (hcX o ω ω)
  ·exact hY _ _ (J j ω b o Q)
 have K:∀i b o,W i b o->V i b o:=λi b o p=>by
  cases i with
  | zero=>exact hV0 b o p
  | succ i=>exact p
 have hA2:MQ w S W (.ptr c::A) (.pointer (some ⟨g,q,none⟩)::vs):=by
  refine⟨?_,hA'⟩;have:=sQ (lo:=0) (n:=c.length) (cs:=c++r) ω u hf1 J hf3 O;rw[show bv (c++r) 0 c.length=c by simp[bv]]at this;simp only[T6,Nat.add_zero]at this;exact this
 refine(h.run w S W _ hS (λi b o p=>hV i b o (K i b o p)) (λi i' D b o l a=>hVd i i' D b o (K i b o l) (K i' b o a)) hA2).mono λe w1 hv=>?_
 obtain⟨v,he,hk,X,V',S1,hX,E,hS1,hVd',hXV,hXS,hVS1,hh,hr,hm⟩:=hv;have H:∀b o,(∃i,W i b o)->∃i,V i b o:=λb o ⟨i,Z⟩=>⟨i,K i b o Z⟩
 let R:ac:=λb o=>V 0 b o/\¬V0 b o
 have hRW:∀b o,R b o->¬∃i,W i b o:=λb o y ⟨i,Z⟩=>by
  cases i with
  | zero=>exact y.2 Z
  | succ i=>exact hVd 0 (i+1) ω b o y.1 Z
 have F:∀b o,R b o->b<w.heap.size:=λb o y=>(hV 0 b o y.1).1
 have t:∀b o,R b o->¬((∃i,W i b o)\/(b<w1.heap.size/\w.heap.size<=b)):=λb o y p=>by
  rcases p with p|p
  ·exact hRW b o y p
  ·have:=F b o y;omega
 have hRsame:bk R w w1:=λb o y=>⟨hk.cel b o (F b o y) (hRW b o y),hk.fro b o (F b o y) (hRW b o y)⟩
 have hRS1:∀b o,R b o->¬S1 b o:=λb o y hs=>by
  rcases hS1 b o hs with⟨-,l⟩|l
  ·exact(hV 0 b o y.1).2 l
  ·exact t b o y l
 have hSsame:bk S w w1:=λb o hb=>⟨hk.cel b o (hS b o hb) (λ⟨i,Z⟩=>(hV i b o (K i b o Z)).2 hb),hk.fro b o (hS b o hb) (λ⟨i,Z⟩=>(hV i b o (K i b o Z)).2 hb)⟩
 have hRc:∀j,c.length<=j->j<(c++r).length->R g (q+j):=λj l a=>by
  refine⟨hX1 _ _ (u j a).1,λp=>?_⟩;rcases p with⟨-,Q,h4⟩|⟨N,Q,h4,h5⟩
  ·omega
  ·exact O _ _ (u j a).1 (J N ω _ _ h5)
 have L:∀j,c.length<=j->j<(c++r).length->∀b o,ff j b o->R b o:=λj l a b o p=>by
  refine⟨hY _ _ (J j a b o p),λhp=>?_⟩;rcases hp with⟨rfl,Q,h4⟩|⟨N,Q,h4,h5⟩
  ·exact O _ _ (hcX o ω ω) (J j a _ _ p)
  ·exact hf3 j N a ω ω b o p h5
 let U:Nat->ac:=Md (λb o=>V' 0 b o\/R b o) (λi=>V' (i+1))
 have hU:∀i b o,U i b o->V' i b o\/(i=0/\R b o):=λi b o p=>by
  cases i with
  | zero=>exact p.imp id (λh=>⟨rfl,h⟩)
  | succ i=>exact .inl p
 refine⟨v,he,hk.more H,X,U,S1,λb o p=>(hX b o p).imp (H b o) id,λi b o p=>?_,λb o p=>(hS1 b o p).imp id (Or.imp (H b o) id),λi i' D b o l a=>?_,λi b o l a=>?_,hXS,λi b o l a=>?_,hh,hr,?_,hm.2⟩
 ·rcases hU i b o p with l|⟨-,l⟩
  ·exact(E i b o l).imp (H b o) id
  ·exact .inl ⟨0,l.1⟩
 ·rcases hU i b o l with l|⟨e1,l⟩
  ·rcases hU i' b o a with a|⟨e2,a⟩
   ·exact hVd' i i' D b o l a
   ·exact t b o a (E i b o l)
  ·rcases hU i' b o a with a|⟨e2,a⟩
   ·exact t b o l (E i' b o a)
   ·exact D ω
 ·rcases hU i b o a with a|⟨-,a⟩
  ·exact hXV i b o l a
  ·exact t b o a (hX b o l)
 ·rcases hU i b o l with l|⟨-,l⟩
  ·exact hVS1 i b o l a
  ·exact hRS1 b o l a
 ·obtain⟨Xa,Ya,ha1,ha2,ha3,⟨ga,oa,hea,ha4⟩,fa,ha5,ha6,ha7⟩:=(show pK w1 (λb o=>S b o\/S1 b o) (V' 0) (.ptr c') (.pointer (some ⟨g,q,none⟩)) from hm.1)
  obtain⟨rfl,rfl⟩ : g=ga/\q=oa:=by simpa using hea
  have G:(c'++r).length=c.length+r.length:=by rw[I3,hl]
  show pK w1 (λb o=>S b o\/S1 b o) (λb o=>V' 0 b o\/R b o) (.ptr (c'++r)) (.pointer (some ⟨g,q,none⟩));have faV:∀j,j<c.length->∀b o,fa j b o->V' 0 b o:=λj M b o p=>ha2 _ _ (ha6 j ω b o p)
  refine⟨λb o=>Xa b o\/(R b o/\∃j,c.length<=j/\j<(c++r).length/\b=g/\o=q+j),λb o=>Ya b o\/∃j,c.length<=j/\j<(c++r).length/\ff j b o,λb o p=>?_,λb o p=>?_,λb o l a=>?_,⟨g,q,rfl,λj M=>?_⟩,λj=>if j<c.length then fa j else ff j,λj d M=>?_,λj M b o p=>?_,λj N M hj' D b o l a=>?_⟩
  ·exact p.imp (ha1 b o) (·.1)
  ·rcases p with p|⟨j,l,a,Q⟩
   ·exact .inl (ha2 b o p)
   ·exact .inr (L j l a b o Q)
  ·rcases l with l|⟨l,j,j1,j2,rfl,rfl⟩
   ·rcases a with a|⟨j,j1,j2,j3⟩
    ·exact ha3 b o l a
    ·exact t b o (L j j1 j2 b o j3) (E 0 b o (ha1 b o l))
   ·rcases a with a|⟨N,j3,j4,j5⟩
    ·exact t _ _ l (E 0 _ _ (ha2 _ _ a))
    ·exact O _ _ (u j j2).1 (J N j4 _ _ j5)
  ·rw[G]at M
   by_cases hc:j<c.length
   ·have:=ha4 j ω
    exact⟨.inl this.1,this.2⟩
   ·have y:=hRc j ω ω
    have hs:=hRsame _ _ y;have T:=u j ω;refine⟨.inr ⟨y,j,ω,ω,rfl,rfl⟩,?_,?_⟩
    ·rw[hs.1];exact T.2.1
    ·rw[hs.2];exact T.2.2
  ·dsimp only
   by_cases hc:j<c.length
   ·rw[C9 hc]
    rw[I4 ω]at M;exact ha5 j d M
   ·rw[C8 hc]
    rw[O4 ω,hl]at M;have hj2:(c++r)[j]? = some d:=by rw[O4 ω];exact M
    have hjl:=(O2.1 hj2).1;have Q:=(hf1 j d hj2).keep hSsame (λb o p=>hRsame b o (L j ω hjl b o p));have T:=(hRsame _ _ (hRc j ω hjl)).1;have:bY w1 .box (.pointer (some ⟨g,q,none⟩)) j=bY w .box (.pointer (some ⟨g,q,none⟩)) j:=by
     simp only[bY];rw[T]
    rw[this];exact Q.mono (λ_ _ h=>.inl h) (λ_ _ h=>h)
  ·rw[G]at M
   split at p
   ·rename_i hc;exact .inl (ha6 j ω b o p)
   ·exact .inr ⟨j,ω,ω,p⟩
  ·rw[G]at M hj'
   split at l
   ·rename_i c1
    split at a
    ·exact ha7 j N ω ω D b o l a
    ·exact t b o (L N ω ω b o a) (E 0 b o (faV j c1 b o l))
   ·split at a
    ·rename_i c1;exact t b o (L j ω ω b o l) (E 0 b o (faV N c1 b o a))
    ·exact hf3 j N ω ω D b o l a
mutual
theorem QN:∀c:C,fz (fz c)=fz c
 | .v x=>by simp[fz]
 | .s o rows=>by simp only[fz];rw[Hj rows]
 | .x=>by simp[fz]
 | .z=>by simp[fz]
 | .m _=>by simp[fz]
 | .it _ _=>by simp[fz]
theorem Hj:∀a:List (List C),fzR (fzR a)=fzR a
 | []=>rfl
 | r::a=>by simp only[fzR];rw[rc r,Hj a]
theorem rc:∀cs:List C,dw (dw cs)=dw cs
 | []=>rfl
 | c::cs=>by simp only[dw];rw[QN c,rc cs]
end
theorem ns(k:af)(a:aB k=true)(e:k.Calls≠100000):aO Tryz.prog 347 false [.ptr (af.enc .own k)] [.ptr (af.enc .own (dx k))] .one [B (!refd k)]:=by
 have b:=bA a;have c:=(aD.1 a).2.2.2.2;have d:=EH k.Refuse k.Calls (by have:=b.2;omega);refine fM 22 [] [(2,9,[11,12,13,14,15,16,17,18,19])] [(0,0)] Tryz.func347 rfl (λu q=>?_)
 repeat'(first|refine gO ?_|(conv=>whnf);first|refine CG (d) ⟨⟨rfl,dL _⟩,⟨rfl,W0 (λz=>[I z]) ω⟩,trivial⟩ ?_)
 refine CF rfl ?_ ?_
 ·rfl
 ·exact wB
theorem ny(k:af)(p m:Int)(a:aB k=true)(j:k.Calls≠100000)(d:(au k.Machine.Table p).Mode≠0)(l:m=1\/m=2):aO Tryz.prog 406 false [.ptr (af.enc .own k),.val none [I p],.val none [I m]] [.ptr (af.enc .own (kj k p m).1),.val none [I p],.val none [I m]] .one [B (kj k p m).2]:=by
 have n:=bA a;have b:=ns k a j;have g:=ef (dx k) p n.1.2;have c:=aG m 1 2;rw[O0 ω]at c;obtain⟨o,t,w,-⟩:=cu a d;have h:=ah (xs:=k.Machine.Table.Entries) (i:=p.toNat) ω;have r:¬(au (dx k).Machine.Table p).Mode=0:=d;unfold kj;cases e:refd k<;>rw[e]at b
 ·rw[C8 (by simp),HI]
  refine fM 31 [(347,[2])] [] [(0,0),(0,0),(0,0)] Tryz.func406 rfl (λu q=>?_)
  repeat'(first|refine gA ?_|(conv=>whnf);first|refine CI (b) (.inl rfl) ?_|refine CG (g) ⟨CP (dx k),⟨rfl,rfl⟩,trivial⟩ ?_|refine C7 (c) ?_|refine CL o (aa h) ?_|refine CN rfl rfl (aa h) rfl (C1 rfl) rfl ?_)
  refine CF rfl ?_ ?_
  ·rfl
  ·exact wB
 ·rw[C9 rfl]
  refine fM 31 [(347,[2])] [] [(0,0),(0,0),(0,0)] Tryz.func406 rfl (λu q=>?_)
  repeat'(first|refine gA ?_|(conv=>whnf);first|refine CI (b) (.inl rfl) ?_|refine CG (g) ⟨CP (dx k),⟨rfl,rfl⟩,trivial⟩ ?_|refine C7 (c) ?_)
  refine CF rfl ?_ ?_
  ·rfl
  ·exact wB
theorem Rw.two{c:List C}{off i k j d e b:Nat}{K:List C->Nat->Prop}{o f:d7}{rows rows2:List (List C)}{r a:List C}(h1:c[off]? = some (.s o rows))(g:rows[i]? = some r)(h:r.length=k)(l:r[j]? = some (.s f rows2))(n:rows2[d]? = some a)(p:a.length=e)(q:K a b):Rw c off [(i,k,j),(d,e,b)] K:=
 Rw.mk (r:=a) (j:=b) (by simp[bW,h1,g,h,l,n,p]) q
theorem y4(k:af)(a b c:Int)(h:aB k=true)(F:(au k.Machine.Table a).Mode≠0)(G:(au k.Machine.Table b).Mode≠0)(g:0<=c/\c<=15):aO Tryz.prog 407 false [.ptr (af.enc .own k),.val none [I a],.val none [I b],.val none (aF .imm [c])] [.ptr (af.enc .own (z8 k a b c)),.val none [I a],.val none [I b],.val none (aF .imm [c])] .one [B true]:=by
 have w:=bA h;have H:=ef k a w.1.2;have J:=ef k b w.1.2;have y:=aG c 0 15;rw[O0 g]at y;obtain⟨K,O,L,C,P⟩:=cu h F;obtain⟨M,Q,D,E,R⟩:=cu h G;have N:=(bc.1 (aD.1 h).2.1).2.2.1;have S:=row16 h (f:=ng k a) (by unfold ng;omega);have T:=row16 h (f:=ng k b) (by unfold ng;omega);have d:k.Machine.Frames.Cells[(au k.Machine.Table a).Frame.toNat]? = some (nth k.Machine.Frames.Cells (ng k a)):=ah ω;have e:k.Machine.Frames.Cells[(au k.Machine.Table b).Frame.toNat]? = some (nth k.Machine.Frames.Cells (ng k b)):=ah ω;have l:=ah (xs:=nth k.Machine.Frames.Cells (ng k a)) (i:=c.toNat) ω;have o:=ah (xs:=nth k.Machine.Frames.Cells (ng k b)) (i:=c.toNat) ω;have p:=ah (xs:=k.Machine.Table.Entries) (i:=a.toNat) ω;have r:=ah (xs:=k.Machine.Table.Entries) (i:=b.toNat) ω;rw[L]at C d;rw[D]at E e;have t:[c][0]? = some c:=rfl;refine fM 90 [] [(13,28,[61,62,63,64,65,66,67,68,69,70,71,72,73,74,75,76,77,78,79,80,81,82,83,84,85,86,87,88])] [(0,0),(0,0),(0,0),(0,0)] Tryz.func407 rfl (λu q=>?_)
 repeat'(first|refine gA ?_|(conv=>whnf);first|refine CA ?_|refine CG (H) ⟨CP k,⟨rfl,rfl⟩,trivial⟩ ?_|refine CG (J) ⟨CP k,⟨rfl,rfl⟩,trivial⟩ ?_)
 (conv=>whnf)
 refine CE (ι:=Nat) (λn=>[(0,.hold .box (af.enc .own k)),(1,.hold .one [I (a)]),(2,.hold .one [I (b)]),(3,.hold .one (aF .imm [c])),(9,.hold .one [I ((n:Nat):Int)])]) (λn=>n<=1) (λn=>1 - n) (0) ?_ (U0 _) λn U=>?_
 ·exact wB
 by_cases V:n<1
 ·obtain rfl:n=0:=ω
  repeat'(first|refine gD ?_|(conv=>whnf);first|refine CA ?_|refine CL (by decide) (aa t) ?_|refine C7 (y) ?_)
  ((conv=>whnf);refine CD 1 ω ω ?_;(exact wB))
 ·obtain rfl:n=1:=ω
  repeat'(first|refine gD ?_|(conv=>whnf);first|refine CA ?_|refine CL K (aa p) ?_|refine CL M (aa r) ?_|refine CH rfl (aa p) rfl ?_|refine CH rfl (aa r) rfl ?_)
  (conv=>whnf)
  refine CE (ι:=Nat) (λj=>[(0,.hold .box (af.enc .own (P0 k a b c j))),(3,.hold .one (aF .imm [c])),(10,.hold .one [I ((nth k.Machine.Table.Entries a.toNat).Frame)]),(11,.hold .one [I ((nth k.Machine.Table.Entries b.toNat).Frame)]),(12,.hold .one [I ((j:Nat):Int)])]) (λj=>j<=1) (λj=>1 - j) (0) ?_ (U0 _) λj W=>?_
  ·exact wB
  by_cases X:j<1
  ·obtain rfl:j=0:=ω
   repeat'(first|refine gD ?_|(conv=>whnf);first|refine CA ?_|refine CL (by decide) (aa t) ?_|refine CL C (aa d) ?_|refine CL E (aa e) ?_|refine CL g.1 (aa l) ?_|refine CL g.1 (aa o) ?_|refine CH rfl (aa e) rfl ?_|refine CH rfl (aa d) rfl ?_|refine Rw.two rfl (aa d) rfl rfl (aa l) rfl ?_|refine Pu.two rfl rfl (aa e) rfl rfl rfl (aa o) rfl (z3 _) rfl ?_)
   ((conv=>whnf);refine CD 1 ω ω ?_)
   rw[show P0 k a b c 1=z8 k a b c from rfl];unfold z8;rw[Dd,show ng k b=(nth k.Machine.Table.Entries b.toNat).Frame.toNat by unfold ng;rw[D]];exact wB
  ·obtain rfl:j=1:=ω
   repeat'(first|refine gD ?_|(conv=>whnf);first|refine CA ?_)
   refine CF rfl ?_ ?_
   ·rfl
   ·exact wB
theorem FK(k:af)(p o:Int)(a:aB k=true)(y:k.Calls≠100000)(g:(au k.Machine.Table p).Mode≠0)(h:(au k.Machine.Table o).Mode≠0)(C:p≠o):aO Tryz.prog 408 false [.ptr (af.enc .own k),.val none [I p],.val none [I o]] [.ptr (af.enc .own (Bq k p o).1),.val none [I p],.val none [I o]] .one [B (Bq k p o).2]:=by
 have b:=bA a;have c:=ns k a y;have j:=ef (dx k) p b.1.2;have l:=ef (dx k) o b.1.2;obtain⟨D,K,E,n,r⟩:=cu a g;obtain⟨F,L,M,N,O⟩:=cu a h;have G:=(bc.1 (aD.1 a).2.1).2.2.1;have d:=ah (xs:=k.Machine.Table.Entries) (i:=p.toNat) ω;have t:=ah (xs:=k.Machine.Table.Entries) (i:=o.toNat) ω;have H:¬(au (dx k).Machine.Table p).Mode=0:=g;have J:¬(au (dx k).Machine.Table o).Mode=0:=h;rw[E]at n r;have w:=rQ (xe (dx k) p.toNat ⟨2,(nth k.Machine.Table.Entries o.toNat).Frame⟩) (nth k.Machine.Table.Entries p.toNat).Frame (LY _ _ b.1.2) ⟨n,by show _<((k.Machine.Frames.Cells.length:Nat):Int);omega,r⟩;rw[KP]at w;unfold Bq;cases e:refd k<;>rw[e]at c
 ·rw[C8 (by simp)]
  refine fM 60 [(347,[2]),(349,[2,0])] [(4,274,[38,39,40,41,42,43,44,45,46,47,48,49,50,51,52,53,54,56,0,1,2,3,4,5,6,7,8,9,10,11,12,13,14,15,16,17,1000,1001,1002,1003,1004,1005,1006,18,19])] [(0,0),(0,0),(0,0)] Tryz.func408 rfl (λu q=>?_)
  repeat'(first|refine gA ?_|(conv=>whnf);first|refine CA ?_|refine CI (c) (.inl rfl) ?_|refine CG (j) ⟨CP (dx k),⟨rfl,rfl⟩,trivial⟩ ?_|refine CG (l) ⟨CP (dx k),⟨rfl,rfl⟩,trivial⟩ ?_|refine CL D (aa d) ?_|refine CL F (aa t) ?_|refine CH rfl (aa d) rfl ?_|refine CH rfl (aa t) rfl ?_|refine CN rfl rfl (aa d) rfl (C1 rfl) rfl ?_|refine CI (w) (.inl rfl) ?_)
  refine CF rfl ?_ ?_
  ·rfl
  ·exact wB
 ·rw[C9 rfl]
  refine fM 60 [(347,[2]),(349,[2,0])] [(4,274,[38,39,40,41,42,43,44,45,46,47,48,49,50,51,52,53,54,56,0,1,2,3,4,5,6,7,8,9,10,11,12,13,14,15,16,17,1000,1001,1002,1003,1004,1005,1006,18,19])] [(0,0),(0,0),(0,0)] Tryz.func408 rfl (λu q=>?_)
  repeat'(first|refine gA ?_|(conv=>whnf);first|refine CA ?_|refine CI (c) (.inl rfl) ?_|refine CG (j) ⟨CP (dx k),⟨rfl,rfl⟩,trivial⟩ ?_|refine CG (l) ⟨CP (dx k),⟨rfl,rfl⟩,trivial⟩ ?_)
  refine CF rfl ?_ ?_
  ·rfl
  ·exact wB
theorem ye(m:aR)(a:Int)(d:aR.sml m)(c:0<=a/\a<512):ao Tryz.prog 411 false [.val (some 3) (aR.enc .imm m),.val none [I a]] (.tup [some 2,none]) (bf.enc .own (au m.Table (a / 16))++[I (a % 16)]):=by
 have e:=cY m.Table (a / 16) d.2;have b:a.tmod 16=a % 16:=gm c.1;refine fO 16 [] Tryz.func411 rfl ?_ (.inr ⟨trivial,trivial,trivial,trivial⟩)
 repeat'(first|refine gD ?_|(conv=>whnf);first|refine CA ?_|refine C7 (e) ?_|refine CK (qe c) ?_|refine CM (by decide) ?_|refine CS b ?_)
 rfl
theorem GE(m:aR)(a v:Int)(o:dv m=true)(e:aR.sml m)(p:0<=a/\a<512)(q:0<=v/\v<=999)(r:(au m.Table (a / 16)).Mode≠0->0<=(au m.Table (a / 16)).Frame/\(au m.Table (a / 16)).Frame<m.Frames.Cells.length/\(nth m.Frames.Cells (au m.Table (a / 16)).Frame.toNat).length=16):ao Tryz.prog 410 false [.val (some 3) (aR.enc .imm m),.val none [I a],.val none [I v]] (.tup [some 3,none]) (aR.enc .own (lF m a v).1++[I (lF m a v).2]):=by
 have c:=nR m e;rw[o]at c;have g:=rm m e;have h:=ye m a e p;have d:=aG v 0 999;rw[O0 q]at d;have b:=aR.enc_fr (lF m a v).1;unfold lF at b |-;by_cases j:(au m.Table (a / 16)).Mode=0
 ·rw[C9 j]at b |-
  refine fO 47 [] Tryz.func410 rfl ?_ (.inr (aS b ⟨trivial,trivial⟩))
  repeat'(first|refine gA ?_|(conv=>whnf);first|refine CA ?_|refine C7 (c) ?_|refine C7 (g) ?_|refine C7 (h) ?_|refine C7 (d) ?_)
  rfl
 ·rw[C8 j]at b |-
  by_cases l:(au m.Table (a / 16)).Mode=1
  ·rw[C9 l]at b |-
   refine fO 47 [] Tryz.func410 rfl ?_ (.inr (aS b ⟨trivial,trivial⟩))
   repeat'(first|refine gA ?_|(conv=>whnf);first|refine CA ?_|refine C7 (c) ?_|refine C7 (g) ?_|refine C7 (h) ?_|refine C7 (d) ?_)
   rfl
  ·rw[C8 l]at b |-
   obtain⟨t,u,w⟩:=r j;have k:=ah (xs:=m.Frames.Cells) (i:=(au m.Table (a / 16)).Frame.toNat) ω;have n:=ah (xs:=nth m.Frames.Cells (au m.Table (a / 16)).Frame.toNat) (i:=(a % 16).toNat) ω;simp only at b |-;rw[F7]at b |-;refine fO 47 [] Tryz.func410 rfl ?_ (.inr (aS b ⟨trivial,trivial⟩))
   repeat'(first|refine gA ?_|(conv=>whnf);first|refine CA ?_|refine C7 (c) ?_|refine C7 (g) ?_|refine C7 (h) ?_|refine C7 (d) ?_|refine CL t (aa k) ?_|refine CL ω (aa n) ?_|refine CH rfl (aa k) rfl ?_|refine Pu.two rfl rfl (aa k) rfl rfl rfl (aa n) rfl (z3 _) rfl ?_)
   rfl
theorem lS{k:af}{j:cG} : jmay k j=true↔(aB k=true/\k.Calls≠100000)/\jx j=true/\(au k.Machine.Table j.Plan.Keep).Mode≠0/\(au k.Machine.Table j.Plan.Move).Mode≠0/\(au k.Machine.Table j.Plan.Keep).Frame≠(au k.Machine.Table j.Plan.Move).Frame:=by
 unfold jmay;simp only[I0,C0]
theorem mf{p:cv}(h:fj p=true):p.Cells.length<=16:=by
 unfold fj at h;simp only[I0]at h;have a:∀i,i<p.Cells.length->(i:Int)<=nth p.Cells i:=λi=>by
  induction i with
  | zero=>
   intro a;have:=dI h.1 a;unfold mJ at this;rw[C0]at this;exact this.1
  | succ i b=>
   intro a;have c:=b ω;have:=dI h.1 a;unfold mJ at this;rw[C0]at this;have d:=this.2.2.resolve_left ω;rw[Nat.add_sub_cancel]at d;omega
 by_cases e:p.Cells.length<=16
 ·exact e
 ·exfalso
  have c:=a 16 ω;have:=dI h.1 (show 16<p.Cells.length by omega);unfold mJ at this;rw[C0]at this;omega
theorem Jb{j:cG}(h:jx j=true):cG.sml j:=by
 have:=mf (fQ.1 h).1;show j.Plan.Cells.length<=1048576;omega
theorem tc{k:af}(h:aB k=true):dv k.Machine=true:=by
 unfold aB at h;simp only[I0]at h;exact h.1.2
theorem Av(k:af)(j:cG)(p:jmay k j=true)(g:j.Phase=3):aO Tryz.prog 409 false [.ptr (af.enc .own k),.ptr (xF j)] [.ptr (af.enc .own (jstep k j).1),.ptr (xF (jstep k j).2)] (.tup []) []:=by
 obtain⟨⟨a,r⟩,t,c,d,w⟩:=lS.1 p;obtain⟨h,H,J,K,L⟩:=fQ.1 t;have y:=bA a;obtain⟨M,N,O,B,P⟩:=cu a c;have l:=(bx.1 (aD.1 a).2.2.1).2.2;have C:=mf h;have D:=(bc.1 (aD.1 a).2.1).2.2.1;unfold jstep;rw[C8 ω,C8 ω,C8 ω,C9 g];by_cases n:0<j.Next
 ·rw[C9 n]
  have o:=mn h (i:=(j.Next - 1).toNat) ω;have E:=ah (xs:=j.Plan.Cells) (i:=(j.Next - 1).toNat) ω;have F:0<=j.Plan.Keep*16+nth j.Plan.Cells (j.Next - 1).toNat/\j.Plan.Keep*16+nth j.Plan.Cells (j.Next - 1).toNat<512:=ω
  have G:(j.Plan.Keep*16+nth j.Plan.Cells (j.Next - 1).toNat) / 16=j.Plan.Keep:=ω
  have b:=GE k.Machine (j.Plan.Keep*16+nth j.Plan.Cells (j.Next - 1).toNat) 0 (tc a) y.1 F ω (λ_=>by rw[G];exact⟨B,ω,row16 a (f:=ng k j.Plan.Keep) (by unfold ng;omega)⟩);generalize (lF k.Machine (j.Plan.Keep*16+nth j.Plan.Cells (j.Next - 1).toNat) 0).1=m at b |-;generalize (lF k.Machine (j.Plan.Keep*16+nth j.Plan.Cells (j.Next - 1).toNat) 0).2=e at b;refine fM 59 [(406,[2,0,0])] [(2,283,[20,21,22,23,24,25,26,27,28,29,30,31,32,33,34,35,36,37,38,39,40,41,42,19,43,44,4,0,1,2,3,4,5,6,7,8,9,10,11,12,13,14,15,16,17,18,19,20,21,22,23,24,25,26,27,1025,28])] [(0,0),(1,0)] Tryz.func409 rfl (λu q=>?_) (.inr trivial)
  repeat'(first|refine gD ?_|(conv=>whnf);first|refine CA ?_|refine CG (b) ⟨⟨rfl,aR.enc_fz k.Machine⟩,⟨rfl,rfl⟩,⟨rfl,rfl⟩,trivial⟩ ?_|refine CL ω (aa E) ?_|refine CA ?_)
  refine CF rfl rfl ?_;exact wC
 ·rw[C8 n]
  have b:=ny k j.Plan.Move 2 a r d (.inr rfl);cases e:(kj k j.Plan.Move 2).2<;>rw[e]at b
  ·refine fM 59 [(406,[2,0,0])] [(2,283,[20,21,22,23,24,25,26,27,28,29,30,31,32,33,34,35,36,37,38,39,40,41,42,19,43,44,4,0,1,2,3,4,5,6,7,8,9,10,11,12,13,14,15,16,17,18,19,20,21,22,23,24,25,26,27,1025,28])] [(0,0),(1,0)] Tryz.func409 rfl (λu q=>?_) (.inr trivial)
   repeat'(first|refine gD ?_|(conv=>whnf);first|refine CA ?_|refine CI (b) (.inl rfl) ?_)
   refine CF rfl rfl ?_;rw[<-g];exact wC
  ·refine fM 59 [(406,[2,0,0])] [(2,283,[20,21,22,23,24,25,26,27,28,29,30,31,32,33,34,35,36,37,38,39,40,41,42,19,43,44,4,0,1,2,3,4,5,6,7,8,9,10,11,12,13,14,15,16,17,18,19,20,21,22,23,24,25,26,27,1025,28])] [(0,0),(1,0)] Tryz.func409 rfl (λu q=>?_) (.inr trivial)
   repeat'(first|refine gD ?_|(conv=>whnf);first|refine CA ?_|refine CI (b) (.inl rfl) ?_)
   refine CF rfl rfl ?_;exact wC
theorem Bi(k:af)(j:cG)(g:jmay k j=true):aO Tryz.prog 396 false [.ptr (af.enc .own k),.ptr (xF j)] [.ptr (af.enc .own (jstep k j).1),.ptr (xF (jstep k j).2)] (.tup []) []:=by
 obtain⟨⟨h,p⟩,B,c,b,l⟩:=lS.1 g;obtain⟨r,F,G,H,J⟩:=fQ.1 B;have n:j.Plan.Move≠j.Plan.Keep:=λe=>l (by rw[e])
 have C:=mf r;by_cases d:j.Phase=0
 ·have a:=ny k j.Plan.Move 1 h p b (.inl rfl)
  unfold jstep;rw[C9 d];cases e:(kj k j.Plan.Move 1).2<;>rw[e]at a
  ·refine fM 80 [(406,[2,0,0]),(407,[2,0,0,0]),(408,[2,0,0]),(409,[2,2])] [(7,7,[27,28,29,30,31,32,33]),(9,14,[38,39,40,41,42,43,44,45,46,47,48,49,50,51])] [(0,0),(1,0)] Tryz.func396 rfl (λu q=>?_) (.inr trivial)
   repeat'(first|refine gA ?_|(conv=>whnf);first|refine CA ?_|refine CI (a) (.inl rfl) ?_)
   refine CF rfl rfl ?_;exact wC
  ·refine fM 80 [(406,[2,0,0]),(407,[2,0,0,0]),(408,[2,0,0]),(409,[2,2])] [(7,7,[27,28,29,30,31,32,33]),(9,14,[38,39,40,41,42,43,44,45,46,47,48,49,50,51])] [(0,0),(1,0)] Tryz.func396 rfl (λu q=>?_) (.inr trivial)
   repeat'(first|refine gA ?_|(conv=>whnf);first|refine CA ?_|refine CI (a) (.inl rfl) ?_)
   refine CF rfl rfl ?_;exact wC
 by_cases o:j.Phase=1
 ·unfold jstep
  rw[C8 d,C9 o];by_cases t:j.Next=j.Plan.Cells.length
  ·rw[C9 t]
   refine fM 80 [(406,[2,0,0]),(407,[2,0,0,0]),(408,[2,0,0]),(409,[2,2])] [(7,7,[27,28,29,30,31,32,33]),(9,14,[38,39,40,41,42,43,44,45,46,47,48,49,50,51])] [(0,0),(1,0)] Tryz.func396 rfl (λu q=>?_) (.inr trivial)
   repeat'(first|refine gA ?_|(conv=>whnf);first|refine CA ?_|refine CA ?_)
   refine CF rfl rfl ?_;exact wC
  ·rw[C8 t]
   have D:=ah (xs:=j.Plan.Cells) (i:=j.Next.toNat) ω;have a:=y4 k j.Plan.Move j.Plan.Keep (nth j.Plan.Cells j.Next.toNat) h b c (mn r ω);have E:=(lS.1 g).2.1;refine fM 80 [(406,[2,0,0]),(407,[2,0,0,0]),(408,[2,0,0]),(409,[2,2])] [(7,7,[27,28,29,30,31,32,33]),(9,14,[38,39,40,41,42,43,44,45,46,47,48,49,50,51])] [(0,0),(1,0)] Tryz.func396 rfl (λu q=>?_) (.inr trivial)
   repeat'(first|refine gA ?_|(conv=>whnf);first|refine CA ?_|refine CI a (.inr ⟨rfl,af.enc_fr _,trivial⟩) ?_|refine CL ω (aa D) ?_|refine CA ?_)
   refine CF rfl rfl ?_;exact wC
 by_cases w:j.Phase=2
 ·have a:=FK k j.Plan.Move j.Plan.Keep h p b c n
  unfold jstep;rw[C8 d,C8 o,C9 w];cases e:(Bq k j.Plan.Move j.Plan.Keep).2<;>rw[e]at a
  ·refine fM 80 [(406,[2,0,0]),(407,[2,0,0,0]),(408,[2,0,0]),(409,[2,2])] [(7,7,[27,28,29,30,31,32,33]),(9,14,[38,39,40,41,42,43,44,45,46,47,48,49,50,51])] [(0,0),(1,0)] Tryz.func396 rfl (λu q=>?_) (.inr trivial)
   repeat'(first|refine gA ?_|(conv=>whnf);first|refine CA ?_|refine CI (a) (.inl rfl) ?_)
   refine CF rfl rfl ?_;exact wC
  ·refine fM 80 [(406,[2,0,0]),(407,[2,0,0,0]),(408,[2,0,0]),(409,[2,2])] [(7,7,[27,28,29,30,31,32,33]),(9,14,[38,39,40,41,42,43,44,45,46,47,48,49,50,51])] [(0,0),(1,0)] Tryz.func396 rfl (λu q=>?_) (.inr trivial)
   repeat'(first|refine gA ?_|(conv=>whnf);first|refine CA ?_|refine CI (a) (.inl rfl) ?_)
   refine CF rfl rfl ?_;exact wC
 by_cases y:j.Phase=3
 ·have a:=Av k j g y
  refine fM 80 [(406,[2,0,0]),(407,[2,0,0,0]),(408,[2,0,0]),(409,[2,2])] [(7,7,[27,28,29,30,31,32,33]),(9,14,[38,39,40,41,42,43,44,45,46,47,48,49,50,51])] [(0,0),(1,0)] Tryz.func396 rfl (λu q=>?_) (.inr trivial)
  repeat'(first|refine gA ?_|(conv=>whnf);first|refine CA ?_|refine CI (a) (.inl rfl) ?_)
  refine CF rfl rfl ?_;exact wC
 ·unfold jstep
  rw[C8 d,C8 o,C8 w,C8 y];refine fM 80 [(406,[2,0,0]),(407,[2,0,0,0]),(408,[2,0,0]),(409,[2,2])] [(7,7,[27,28,29,30,31,32,33]),(9,14,[38,39,40,41,42,43,44,45,46,47,48,49,50,51])] [(0,0),(1,0)] Tryz.func396 rfl (λu q=>?_) (.inr trivial)
  repeat'(first|refine gA ?_|(conv=>whnf);first|refine CA ?_)
  refine CF rfl rfl ?_;exact wC
theorem DH(k:af)(j:cG)(e:aB k=true)(i:jx j=true):ao Tryz.prog 395 false [.val (some 5) (af.enc .imm k),.val (some 5) (cG.enc .imm j)] .one [B (jmay k j)]:=by
 have c:=bA e;have b:dw (af.enc .imm k)=af.enc .imm k:=by rw[<-CP k,rc]
 have r:=(aD.1 e).2.2.2.2;have a:=kS k c;rw[e]at a;have d:=v7 j (Jb i);rw[i]at d;have l:=ef k j.Plan.Keep c.1.2;have n:=ef k j.Plan.Move c.1.2;have t:=cY k.Machine.Table j.Plan.Keep c.1.2;have u:=cY k.Machine.Table j.Plan.Move c.1.2;by_cases o:k.Calls=100000
 ·rw[T0 ω]at a
  rw[show jmay k j=false by rw[<-z5,lS];exact λh=>h.1.2 o];refine fO 44 [(3,16,[27,28,29,30,31,32,33,34,35,36,37,38,39,40,41,42])] Tryz.func395 rfl ?_
  repeat'(first|refine gO ?_|(conv=>whnf);first|refine CA ?_|refine C7 (a) ?_|refine C7 (d) ?_)
  rfl
 rw[O0 ω]at a;by_cases p:(au k.Machine.Table j.Plan.Keep).Mode=0
 ·rw[show jmay k j=false by rw[<-z5,lS];exact λh=>h.2.2.1 p]
  refine fO 44 [(3,16,[27,28,29,30,31,32,33,34,35,36,37,38,39,40,41,42])] Tryz.func395 rfl ?_
  repeat'(first|refine gA ?_|(conv=>whnf);first|refine CA ?_|refine C7 (a) ?_|refine C7 (d) ?_|refine CG (l) ⟨b,⟨rfl,rfl⟩,trivial⟩ ?_|refine CG (n) ⟨b,⟨rfl,rfl⟩,trivial⟩ ?_)
  rfl
 by_cases q:(au k.Machine.Table j.Plan.Move).Mode=0
 ·rw[show jmay k j=false by rw[<-z5,lS];exact λh=>h.2.2.2.1 q]
  refine fO 44 [(3,16,[27,28,29,30,31,32,33,34,35,36,37,38,39,40,41,42])] Tryz.func395 rfl ?_
  repeat'(first|refine gA ?_|(conv=>whnf);first|refine CA ?_|refine C7 (a) ?_|refine C7 (d) ?_|refine CG (l) ⟨b,⟨rfl,rfl⟩,trivial⟩ ?_|refine CG (n) ⟨b,⟨rfl,rfl⟩,trivial⟩ ?_)
  rfl
 refine fO 44 [(3,16,[27,28,29,30,31,32,33,34,35,36,37,38,39,40,41,42])] Tryz.func395 rfl ?_
 repeat'(first|refine gA ?_|(conv=>whnf);first|refine CA ?_|refine C7 (a) ?_|refine C7 (d) ?_|refine CG (l) ⟨b,⟨rfl,rfl⟩,trivial⟩ ?_|refine CG (n) ⟨b,⟨rfl,rfl⟩,trivial⟩ ?_|refine C7 (t) ?_|refine C7 (u) ?_|refine CA ?_)
 exact W0 (λz=>[B z]) (by
   unfold jmay;rw[e,i,O0 o];by_cases g:(au k.Machine.Table j.Plan.Keep).Frame=(au k.Machine.Table j.Plan.Move).Frame
   · rw[T0 (λh=>h.2.2 g)];simp[g]
   · rw[O0 ⟨p,q,g⟩];simp[g])
theorem B2(j:cG):ao Tryz.prog 397 false [.val (some 5) (cG.enc .imm j)] .one [B (over j)]:=by
 by_cases a:j.Phase=4
 ·rw[show over j=true from O0 (.inl a)]
  refine fO 11 [] Tryz.func397 rfl ?_
  repeat'(first|refine gA ?_|(conv=>whnf);first|refine CA ?_)
  rfl
 ·rw[show over j=decide (j.Phase=5) from decide_eq_decide.2 ω]
  refine fO 11 [] Tryz.func397 rfl ?_
  repeat'(first|refine gA ?_|(conv=>whnf);first|refine CA ?_)
  exact W0 (λz=>[B z]) (by rw[U4];simp)
def Hi(x:ab):List C:=(bz x).set 21 .z
theorem Ew{x:ab}(h:x.Job.Plan.Cells=[]):Kn (Hi x) (bz x):=by
 unfold Hi bz;simp only[List.set,h,List.map_nil]
 repeat'(first|exact trivial|exact dN _|refine CJ ?_ ?_|rfl)
theorem Ad(h:ab)(j:bm h [])(k:h.Meshing=true):aO Tryz.prog 368 false [.ptr (bz h)] [.ptr (bz (mStep h))] .one [B (Dt h)]:=by
 obtain⟨l,-,-⟩:=j.job k;have b:=DH h.Kernel h.Job j.ker l;have a:=B2 (jz h.Kernel h.Job).2;unfold Dt mStep;cases e:jmay h.Kernel h.Job with
 | false=>
  rw[e]at b;have d:jz h.Kernel h.Job=(h.Kernel,h.Job):=by unfold jz;rw[e];rfl
  rw[d]at a |-;simp only at a |-;cases g:over h.Job<;>rw[g]at a
  ·refine fM 39 [(396,[3,5,5])] [(1,8,[4,5,6,7,8,9,10,11]),(2,6,[13,14,15,16,17,18])] [(0,0)] Tryz.func368 rfl (λu q=>?_)
   repeat'(first|refine gO ?_|(conv=>whnf);first|refine CG (b) ⟨⟨rfl,CP h.Kernel⟩,⟨rfl,rfl⟩,trivial⟩ ?_|refine C7 (a) ?_|refine CA ?_)
   refine CF rfl ?_ ?_
   ·exact W0 (λz=>[B z]) (by rw[U4];simp)
   ·exact wC
  ·refine aO.wk (c:=Hi _) ?_ (Ew rfl)
   refine fM 39 [(396,[3,5,5])] [(1,8,[4,5,6,7,8,9,10,11]),(2,6,[13,14,15,16,17,18])] [(0,0)] Tryz.func368 rfl (λu q=>?_)
   repeat'(first|refine gO ?_|(conv=>whnf);first|refine CG (b) ⟨⟨rfl,CP h.Kernel⟩,⟨rfl,rfl⟩,trivial⟩ ?_|refine C7 (a) ?_|refine CA ?_)
   refine CF rfl ?_ ?_
   ·exact W0 (λz=>[B z]) (by rw[U4];simp)
   ·exact wC
 | true=>
  rw[e]at b;have d:jz h.Kernel h.Job=jstep h.Kernel h.Job:=by unfold jz;rw[e];rfl
  have i:=Bi h.Kernel h.Job e;rw[d]at a |-;generalize jstep h.Kernel h.Job=r at i a |-;cases g:over r.2<;>rw[g]at a
  ·refine fM 39 [(396,[3,5,5])] [(1,8,[4,5,6,7,8,9,10,11]),(2,6,[13,14,15,16,17,18])] [(0,0)] Tryz.func368 rfl (λu q=>?_)
   repeat'(first|refine gO ?_|(conv=>whnf);first|refine CG (b) ⟨⟨rfl,CP h.Kernel⟩,⟨rfl,rfl⟩,trivial⟩ ?_|refine C7 (a) ?_|refine CI (i) (.inl rfl) ?_|refine CA ?_)
   refine CF rfl ?_ ?_
   ·exact W0 (λz=>[B z]) (by rw[U4];simp)
   ·exact wC
  ·refine aO.wk (c:=Hi _) ?_ (Ew rfl)
   refine fM 39 [(396,[3,5,5])] [(1,8,[4,5,6,7,8,9,10,11]),(2,6,[13,14,15,16,17,18])] [(0,0)] Tryz.func368 rfl (λu q=>?_)
   repeat'(first|refine gO ?_|(conv=>whnf);first|refine CG (b) ⟨⟨rfl,CP h.Kernel⟩,⟨rfl,rfl⟩,trivial⟩ ?_|refine C7 (a) ?_|refine CI (i) (.inl rfl) ?_|refine CA ?_)
   refine CF rfl ?_ ?_
   ·exact W0 (λz=>[B z]) (by rw[U4];simp)
   ·exact wC
theorem HA{k:Int} : ∀{l s s2 c:List Int}(n:Nat),(∀x∈s2,x∈s)->qQ k s l=some c->∃d,qQ k s2 (l.take n)=some d/\∀x∈d,x∈c
 | [],s,s2,c,n,h,e=>by
  simp only[qQ,X0,List.take_nil]at e |-;subst e;exact⟨s2,rfl,h⟩
 | a::l,s,s2,c,0,h,e=>⟨s2,rfl,λx b=>(oH (λ_ y=>y) e).1 x (h x b)⟩
 | a::l,s,s2,c,n+1,h,e=>by
  simp only[List.take_succ_cons,qQ]at e |-;split at e
  ·rename_i g
   rw[C9 (show good k s2 a from⟨g.1,g.2.1,g.2.2.1,λx=>g.2.2.2 (h a x)⟩)];exact HA (l:=l) (s:=s++[a]) (s2:=s2++[a]) n (λx b=>by
     rcases v3.1 b with b|b
     · exact v3.2 (.inl (h x b))
     · exact v3.2 (.inr b)) e
  ·cases e
theorem BZ:∀{a:List (List Int)}{k:Nat}{s s2:List Int}(i n:Nat),(∀x∈s2,x∈s)->(gd k s a).isSome=true->(gd k s2 (a.set i ((nth a i).take n))).isSome=true
 | [],_,_,_,_,_,_,_=>rfl
 | l::a,k,s,s2,i,n,h,e=>by
  simp only[gd,eH]at e;split at e
  ·rename_i g
   cases b:qQ k s l with
   | none=>rw[b]at e;cases e
   | some j=>
    rw[b]at e;cases i with
    | zero=>
     obtain⟨c,d,f⟩:=HA n h b;simp only[List.set_cons_zero,gd,eH];rw[C9 ⟨by have:=g.1;simp only[nth,List.getD_cons_zero,U1];omega,g.2⟩];show((qQ (k:Nat) s2 (l.take n)).bind λj=>gd (k+1) j a).isSome=true;rw[d];exact sP f e
    | succ i=>
     obtain⟨o,c,d,f⟩:=oH h b;simp only[List.set_cons_succ,gd,eH];rw[C9 g,d];exact BZ i n f e
  ·cases e
theorem N2{c:aA}(h:bn c=true)(k:Nat):bn (ri c k)=true:=by
 unfold bn at h |-;simp only[I0,C0]at h |-;exact⟨by simp only[ri,O1];exact h.1,BZ k _ (λ_ h=>h) h.2⟩
def oc(b:Int):Nat->List Int
 | 0=>[]
 | j+1=>if aU b (j:Nat)=true then oc b j else oc b j++[((j:Nat):Int)]
theorem sI{b:Int} : ∀{n:Nat}{z:Int},z∈oc b n->0<=z/\z<n/\aU b z=false
 | 0,_,h=>by cases h
 | n+1,z,h=>by
  unfold oc at h;split at h
  ·have:=sI h;exact⟨this.1,ω,this.2.2⟩
  ·rename_i e
   rcases v3.1 h with h|h
   ·have:=sI h;exact⟨this.1,ω,this.2.2⟩
   ·rw[I1.1 h];exact⟨ω,ω,by simpa using e⟩
theorem t8(b:Int):∀n,(oc b n).length<=n
 | 0=>z3 _
 | n+1=>by have:=t8 b n;unfold oc;split<;>simp<;>omega
def qJ(k b:Int):List Int:=if L2 k b=true then oc b (slots k).toNat else []
def nk(h:ab)(i:Nat):List Int:=qJ (nth h.Spans i).Class (gW h i)
theorem wj{k b z:Int}(h:z∈qJ k b):0<=z/\z<slots k/\aU b z=false:=by
 unfold qJ at h;split at h
 ·have:=sI h;exact⟨this.1,ω,this.2.2⟩
 ·cases h
theorem Ft(k b:Int):(qJ k b).length<=16:=by
 unfold qJ;split
 ·rename_i h
  unfold L2 at h;rw[C0]at h;have:=(gE (k:=k) ⟨h.1,h.2.1⟩).2.2.1;have:=t8 b (slots k).toNat;omega
 ·exact U0 _
def pU(h:ab)(i:Nat):Int:=nth (nk h i) (Mc h.Seed ((nk h i).length:Nat)).toNat
def slotT(h:ab)(i:Nat):ab:={h with Seed:=GT h.Seed,Spans:=h.Spans.set i (qr (nth h.Spans i) (pU h i))}
def uq(h:ab)(i:Nat):Int:=16*(nth h.Spans i).Page+pU h i*csz (nth h.Spans i).Class
theorem zv{h:ab}{i:Nat}(a:0<(nk h i).length):pU h i∈nk h i:=by
 have:=xa h.Seed (n:=((nk h i).length:Nat)) ω;exact am ω
theorem bm.slotT{h:ab}{E:List Int}{i:Nat}(a:bm h E)(b:i<h.Spans.length)(e:0<(nk h i).length):bm (slotT h i) (uq h i::E)/\jj (slotT h i).Spans (uq h i) (nth h.Spans i).Class:=by
 obtain⟨c,d,f⟩:=wj (zv e);exact⟨a.take b ⟨c,d⟩ f (G6 _),(jj.setS a.L b ⟨c,d⟩ _ _).2 (.inr ⟨rfl,.inr rfl⟩)⟩
def tj(h:ab)(c:Int)(i:Nat):Bool:=decide ((nth h.Spans i).Class=c)&&(!fo h (nth h.Spans i).Page&&decide (0<(nk h i).length))
def sF(h:ab)(c:Int):Option Nat:=(List.range h.Spans.length).find? (tj h c)
def uJ(h:ab)(c:Int):ab:=addS h (gc h.Kernel (a8 h.Free 1).2.1).1 (a8 h.Free 1).1 (a8 h.Free 1).2.1 c
def uW(h:ab):Nat:=jY (J4 (a8 h.Free 1).2.1) h.Spans
def lQ(h:ab)(i:Nat):ab × Int:=if(nk h i).length=0 then(h,-1) else(slotT h i,uq h i)
def eG(h:ab)(t c:Nat):ab × Int:=
 if 0<(nth (nth h.Caches t).Lists c).length then({h with Caches:=h.Caches.set t (ri (nth h.Caches t) c)},nth (nth (nth h.Caches t).Lists c) ((nth (nth h.Caches t).Lists c).length - 1))
 else match sF h c with
 | some i=>(slotT h i,uq h i)
 | none=>if(a8 h.Free 1).2.2=false then(h,-1)
  else if(gc h.Kernel (a8 h.Free 1).2.1).2=false then({h with Kernel:=(gc h.Kernel (a8 h.Free 1).2.1).1},-1)
  else lQ (uJ h c) (uW h)
theorem Hv{α:Type}[Inhabited α](p:α->Bool)(xs:List α)(y:α):jY p xs<(jv p xs y).length/\nth (jv p xs y) (jY p xs)=y:=by
 have b:=Pb p xs;have a:(xs.take (jY p xs)).length=jY p xs:=by rw[U1];omega
 refine⟨by rw[(kg p xs y).length_eq,List.length_cons];omega,bq ?_⟩;unfold jv;rw[O4 ω,a,Nat.sub_self]
 rfl
theorem bm.tEq{h:ab}{E:List Int}(a:bm h E){k:af}(c:aB k=true)(b:tEq (tbl h) k.Machine.Table):bm {h with Kernel:=k} E/\JK h {h with Kernel:=k}:=
 ⟨a.step (j:=h.Job) (m:=h.Meshing) c b.1 (a.pg.tEq b) a.job a.noj,⟨rfl,rfl,λs d _=>⟨s,d,rfl,λ_ z=>z⟩,λq e=>.inl ⟨(b.2 q).1.1 e,(b.2 q).2⟩⟩⟩
structure QW(h:ab)(c:Int)(r:ab × Int):Prop where
 no:r.2<0->bm r.1 []
 yes:0<=r.2->bm r.1 [r.2]/\jj r.1.Spans r.2 c
 jk:JK h r.1
 nx:r.1.Next=h.Next
 cl:r.1.Caches.length=h.Caches.length
theorem jj.nn{h:ab}{E:List Int}(b:bm h E){a c:Int}(d:jj h.Spans a c):0<=a:=(jj.bd b d).1
theorem QW.slot{h h':ab}{i:Nat}{c:Int}(g:bm h' [])(j:i<h'.Spans.length)(k:0<(nk h' i).length)(l:(nth h'.Spans i).Class=c)(n:JK h h')(a:fo h' (nth h'.Spans i).Page=false)(h1:h'.Next=h.Next)(o:h'.Caches.length=h.Caches.length):QW h c (slotT h' i,uq h' i):=by
 obtain⟨d,f⟩:=g.slotT j k;have b:=jj.nn d f;exact⟨λe=>absurd b (by simp only at e;omega),λ_=>⟨d,by rw[<-l];exact f⟩,n.trans (JK.take a),h1,o⟩
theorem zQ{h:ab}{t c:Nat}(a:bm h [])(q:t<h.Caches.length)(P:c<=3)(B:h.Kernel.Calls<=90000):QW h c (eG h t c):=by
 have f:=a.cach _ (am q);have C:=ux f;unfold eG;split
 ·rename_i D
  obtain⟨d,b⟩:=a.pop q ω D (N2 f c);have l:=jj.nn a b;exact⟨λe=>absurd l (by simp only at e;omega),λ_=>⟨d,b⟩,JK.eq rfl rfl rfl rfl,rfl,O1 ..⟩
 split
 ·rename_i i r
  have g:=List.find?_some r;have E:=List.mem_range.1 (List.mem_of_find?_eq_some r);unfold tj at g;simp only[I0,C0,Bool.not_eq_true']at g;exact QW.slot a E g.2.2 g.1 (JK.refl h) g.2.1 rfl rfl
 split
 ·exact⟨λ_=>a,λe=>absurd e (by show ¬(0:Int)<=-1;decide),JK.refl h,rfl,rfl⟩
 rename_i F;have j:(a8 h.Free 1).2.2=true:=by simpa using F
 obtain⟨G,H,J,u⟩:=kU a (X4 1) j;have s:=Bd.of (p:=(a8 h.Free 1).2.1) a.ker ω ⟨G,by have:(a8 h.Free 1).2.1+1<=(h.Kernel.Machine.Table.Entries.length:Nat):=H;omega⟩ (J _ ω ω);split
 ·rename_i n
  rw[s.no n];obtain⟨d,b⟩:=a.tEq (lT a.ker ω) (tEq.refl _);exact⟨λ_=>d,λe=>absurd e (by show ¬(0:Int)<=-1;decide),b,rfl,rfl⟩
 rename_i n;have o:(gc h.Kernel (a8 h.Free 1).2.1).2=true:=by simpa using n
 have w:Bd h.Kernel (a8 h.Free 1).2.1 ((gc h.Kernel (a8 h.Free 1).2.1).1,true):=by rw[<-o];exact s
 have d:=a.addS (c:=c) ⟨ω,ω⟩ j w;have b:JK h (uJ h c):=JK.addS w;obtain⟨K,A⟩:=Hv (J4 (a8 h.Free 1).2.1) h.Spans ⟨(a8 h.Free 1).2.1,c,0⟩;unfold lQ;split
 ·exact⟨λ_=>d,λe=>absurd e (by show ¬(0:Int)<=-1;decide),b,rfl,rfl⟩
 ·refine QW.slot (h':=uJ h c) (i:=uW h) d K ω (by show(nth (jv (J4 (a8 h.Free 1).2.1) h.Spans ⟨(a8 h.Free 1).2.1,c,0⟩) (uW h)).Class=_;unfold uW;rw[A]) b ?_ rfl rfl
  show fo (uJ h c) (nth (jv (J4 (a8 h.Free 1).2.1) h.Spans ⟨(a8 h.Free 1).2.1,c,0⟩) (uW h)).Page=false;unfold uW;rw[A,b.pg];rw[<-z5];intro k;unfold fo at k;simp only[I0,X5,C0]at k;obtain⟨-,⟨y,L,M⟩,⟨z,N,O⟩⟩:=a.job k.1;rcases k.2 with e|e
  ·exact u _ (X4 _) ω (by rw[e,<-M];exact dJ L)
  ·exact u _ (X4 _) ω (by rw[e,<-O];exact dJ N)
def kO(size:Int):Nat:=((size+15) / 16).toNat
def iZ(h:ab)(size:Int):af × Nat:=cI h.Kernel (a8 h.Free (kO size:Nat)).2.1 (kO size)
def mz(h:ab)(t size:Int):ab × Int × Int:=
 if(a8 h.Free (kO size:Nat)).2.2=false then(h,-1,4)
 else if(iZ h size).2=kO size then(addL h (iZ h size).1 (a8 h.Free (kO size:Nat)).1 (a8 h.Free (kO size:Nat)).2.1 (kO size:Nat) size t,16*(a8 h.Free (kO size:Nat)).2.1,0)
 else({h with Kernel:=dO (iZ h size).1 (a8 h.Free (kO size:Nat)).2.1 (iZ h size).2},-1,4)
def sT(xs:List bK):Nat->Int
 | 0=>0
 | i+1=>sT xs i+(nth xs i).Size
def xv(h:ab):Int:=sT h.Objs h.Objs.length
def fk(h:ab)(t size:Int):ab × Int × Int:=
 if 1000000<=h.Next\/90000<h.Kernel.Calls then(h,-1,5)
 else if ¬(0<=t/\t<=h.Caches.length - 1) then(h,-1,1)
 else if ¬(1<=size/\size<=1000) then(h,-1,2)
 else if h.Limit<xv h+size then(h,-1,3)
 else if 0<=aL size then(if(eG h t.toNat (aL size).toNat).2<0 then((eG h t.toNat (aL size).toNat).1,-1,4) else(addO (eG h t.toNat (aL size).toNat).1 (eG h t.toNat (aL size).toNat).2 size t,(eG h t.toNat (aL size).toNat).2,0))
 else mz h t size
theorem Ka{h:ab}{t size:Int}(a:bm h [])(g:9<=size/\size<=1000)(i:h.Next<1000000)(j:h.Kernel.Calls<=90000)(k:0<=t/\t<=h.Caches.length - 1):bm (mz h t size).1 []/\JK h (mz h t size).1:=by
 have l:(kO size:Int)=(size+15) / 16:=by unfold kO;omega
 unfold mz;split
 ·exact⟨a,JK.refl h⟩
 rename_i o;have b:(a8 h.Free (kO size:Nat)).2.2=true:=by simpa using o
 obtain⟨c,d,e,w⟩:=kU a (show(1:Int)<=(kO size:Nat) by omega) b;have s:=om.of (p:=(a8 h.Free (kO size:Nat)).2.1) (n:=kO size) a.ker ω ⟨c,d⟩ e (kO size) (z3 _);split
 ·rename_i q
  have f:om h.Kernel (a8 h.Free (kO size:Nat)).2.1 (kO size) ((iZ h size).1,kO size):=by
   have:((iZ h size).1,kO size)=iZ h size:=by rw[<-q]
   rw[this];exact s
  exact⟨a.addL g l b f i k,JK.addL f⟩
 ·obtain⟨r,u⟩:=s.undo a.ker ⟨c,d⟩ e
  exact a.tEq r u
theorem JZ{h:ab}{t size:Int}(a:bm h []):bm (fk h t size).1 []/\JK h (fk h t size).1:=by
 unfold fk;split
 ·exact⟨a,JK.refl h⟩
 rename_i d;rw[not_or]at d;split
 ·exact⟨a,JK.refl h⟩
 rename_i n;split
 ·exact⟨a,JK.refl h⟩
 rename_i o;split
 ·exact⟨a,JK.refl h⟩
 split
 ·rename_i b
  have f:aL size<=3:=by unfold aL;repeat' split<;>omega
  have s:=zQ (t:=t.toNat) (c:=(aL size).toNat) a ω ω ω;generalize eG h t.toNat (aL size).toNat=r at s;split
  ·rename_i e;exact⟨s.no e,s.jk⟩
  ·rename_i e
   obtain⟨g,i⟩:=s.yes ω;refine⟨g.addO (.inl ?_) (by rw[s.nx];omega) (by rw[s.cl];omega),s.jk.trans (JK.eq rfl rfl rfl rfl)⟩;obtain⟨z,j,k,p⟩:=i;exact⟨z,j,k,by show z.Class=aL size;omega⟩
 ·rename_i b
  have l:9<=size:=by
   unfold aL at b
   repeat' split at b<;>omega
  exact Ka a ⟨l,ω⟩ ω ω ω
theorem mU{α β:Type}[Inhabited α]{f:α->β}{xs:List α}{i:Nat}{y:α}(a:i<xs.length)(e:f y=f (nth xs i)):(xs.set i y).map f=xs.map f:=by
 rw[W5];refine List.ext_getElem (by simp) λj b c=>?_
 rw[List.getElem_set];split
 ·rename_i g;subst g
  rw[List.getElem_map,e,bq (I2 a)]
 ·rfl
theorem nB{α β:Type}[Inhabited α](f:α->List β):∀(xs:List α)(i:Nat)(y:α),i<xs.length->(f y).Sublist (f (nth xs i))->((xs.set i y).flatMap f).Sublist (xs.flatMap f)
 | [],_,_,h,_=>absurd h (Nat.not_lt_zero _)
 | x::xs,0,y,_,a=>by
  rw[List.set_cons_zero,I6,I6];exact List.Sublist.append a (List.Sublist.refl _)
 | x::xs,i+1,y,h,a=>by
  rw[List.set_cons_succ,I6,I6];exact List.Sublist.append (List.Sublist.refl _) (nB f xs i y (by simpa using h) a)
def zK(k:af)(a:Int):Nat->af
 | 0=>k
 | m+1=>ly (zK k a m) (a+m) 0
theorem tG(k:af)(a:Int):∀m,(zK k a m).Machine.Table=k.Machine.Table/\(zK k a m).Calls=k.Calls/\(zK k a m).Refuse=k.Refuse
 | 0=>⟨rfl,rfl,rfl⟩
 | m+1=>tG k a m
theorem P7{k:af}(h:aB k=true){a:Int} : ∀{m:Nat},(∀j:Nat,j<m->(au k.Machine.Table ((a+j) / 16)).Mode≠0)->aB (zK k a m)=true
 | 0,_=>h
 | m+1,b=>vE (P7 h λj c=>b j ω) (by rw[(tG k a m).1];exact b m ω) ⟨ω,ω⟩
theorem G3{h:ab}{E:List Int}(j:bm h E){sp:List ar}{la:List a7}{o:List ax}{p:Int}{n:Nat}(y:p+n<=h.Kernel.Machine.Table.Entries.length)(A:sp.Sublist h.Spans)(M:∀l∈la,∀q∈lpgs l l.Pages.toNat,∃w∈h.Larges,q∈lpgs w w.Pages.toNat)(N:0<=p)(B:∀q,q∈pgs sp la↔q∈pgs h.Spans h.Larges/\¬(p<=q/\q<p+n))(O:∀q,RH o q↔RH h.Free q\/(p<=q/\q<p+n)) :
  Pg (dO h.Kernel p n).Machine.Table o sp la:=by
 have b:=(gM h.Kernel p n).1;have d:=lU j.ker N n y;have f:∀q:Nat,(q:Int)∈pgs sp la->nth (dO h.Kernel p n).Machine.Table.Entries q=nth (tbl h).Entries q:=λq c=>by rw[d,C8 ((B q).1 c).2];rfl
 have a:∀q:Nat,(nth (dO h.Kernel p n).Machine.Table.Entries q).Mode≠0↔(nth (tbl h).Entries q).Mode≠0/\¬(p<=q/\(q:Int)<p+n):=λq=>by
  rw[d];by_cases e:p<=q/\(q:Int)<p+n
  ·rw[C9 e];exact⟨λx=>absurd rfl x,λx=>absurd e x.2⟩
  ·rw[C8 e];exact⟨λx=>⟨x,e⟩,λx=>x.1⟩
 refine⟨λl g q c r J C k=>?_,λq c=>?_,λq c=>?_,λq c=>?_,λs g u D F K=>?_⟩
 ·have t:=(a r).1 C
  rw[b]at J;rw[f q (fE g c),d,C8 t.2]at k;obtain⟨w,G,H⟩:=M l g _ c;exact j.pg.one w G q H r J t.1 k
 ·rw[b];exact j.pg.bnd q ((B q).1 c).1
 ·rw[b]at c
  rw[a,B,j.pg.own q c]
 ·rw[b]at c
  rw[a,O,j.pg.fre q c]
  grind
 ·have i:∀s∈sp,0<=s.Page:=λs g=>(aC (j.L.sok s (A.subset g))).1
  have P:=f s.Page.toNat (by rw[Int.toNat_of_nonneg (i s g)];exact dJ g);have Q:=f u.Page.toNat (by rw[Int.toNat_of_nonneg (i u D)];exact dJ D);rw[P,Q]at K;exact j.pg.mesh s (A.subset g) u (A.subset D) F K
def trimL(l:a7)(size:Int):a7:=⟨l.Page,(size+15) / 16,size⟩
def dY(l:a7)(size:Int):Nat:=(l.Pages - (size+15) / 16).toNat
theorem bm.trimL{h:ab}{E:List Int}{i k:Nat}{size:Int}(t:bm h E)(T:i<h.Objs.length)(H:k<h.Larges.length)(Y:(nth h.Objs i).Addr=16*(nth h.Larges k).Page)(N:9<=size/\size<=(nth h.Larges k).Size) :
  ∃o,(dY (nth h.Larges k) size=0->o=h.Free)/\(0<dY (nth h.Larges k) size->ca (dS h) h.Free ⟨(nth h.Larges k).Page+(size+15) / 16,(dY (nth h.Larges k) size:Nat)⟩ = some o)/\
   bm {h with Kernel:=dO h.Kernel ((nth h.Larges k).Page+(size+15) / 16) (dY (nth h.Larges k) size),Larges:=h.Larges.set k (trimL (nth h.Larges k) size),Objs:=h.Objs.set i {nth h.Objs i with Size:=size},Free:=o} E:=by
 have U:=t.L;have C:=U.lok _ (am H);have hf:=aQ C;unfold bQ at C;rw[C0]at C;obtain⟨b1,b2⟩:=BD t H;have O:=U.dis;have G:=λj n=>U.one j k n H
 have y:=(am H:nth h.Larges k∈h.Larges)
 have d:∀z∈h.Larges.set k (Ab.trimL (nth h.Larges k) size),z=Ab.trimL (nth h.Larges k) size\/∃j,j<h.Larges.length/\j≠k/\nth h.Larges j=z:=λz N=>fw N
 have p:Ab.trimL (nth h.Larges k) size∈h.Larges.set k (Ab.trimL (nth h.Larges k) size):=iI _ H;have u:∀j,j<h.Larges.length->j≠k->nth h.Larges j∈h.Larges.set k (Ab.trimL (nth h.Larges k) size):=λj n e=>jo _ n e
 have hpageM:(h.Larges.set k (Ab.trimL (nth h.Larges k) size)).map (·.Page)=h.Larges.map (·.Page):=mU H rfl;have w:(pgs h.Spans (h.Larges.set k (Ab.trimL (nth h.Larges k) size))).Sublist (pgs h.Spans h.Larges):=by
  unfold pgs;refine List.Sublist.append (List.Sublist.refl _) (nB _ _ _ _ H ?_);unfold lpgs;exact(List.range_sublist.2 (by simp only[Ab.trimL];omega)).map _
 obtain⟨l,V⟩ : ∃l,nth h.Larges k=l:=⟨_,rfl⟩
 rw[V]at C hf b1 b2 G y d p u hpageM w Y N |-;generalize hla:h.Larges.set k (Ab.trimL l size)=la at d p u hpageM w |-;have hn1:(1:Int)<=(size+15) / 16/\(size+15) / 16+(dY l size:Nat)=l.Pages:=by unfold dY;omega
 have D:∀q,q∈lpgs l l.Pages.toNat↔l.Page<=q/\q<l.Page+l.Pages:=λq=>by
  rw[dn];constructor
  ·rintro⟨j,n,rfl⟩;omega
  ·rintro⟨Z,q2⟩;exact⟨(q - l.Page).toNat,ω,ω⟩
 have J:∀q,q∈lpgs (Ab.trimL l size) (Ab.trimL l size).Pages.toNat↔l.Page<=q/\q<l.Page+(size+15) / 16:=λq=>by
  rw[dn];simp only[Ab.trimL];constructor
  ·rintro⟨j,n,rfl⟩;omega
  ·rintro⟨Z,q2⟩;exact⟨(q - l.Page).toNat,ω,ω⟩
 have hpe:l.Page+(size+15) / 16+(dY l size:Nat)=l.Page+l.Pages:=ω
 have P:∀q,q∈pgs h.Spans la↔q∈pgs h.Spans h.Larges/\¬(l.Page+(size+15) / 16<=q/\q<l.Page+(size+15) / 16+(dY l size:Nat)):=λq=>by
  rw[p9,p9,hpe];constructor
  ·rintro(⟨s,W,rfl⟩|⟨z,c,B⟩)
   ·exact⟨.inl ⟨s,W,rfl⟩,λe=>O s W l y (s.Page - l.Page).toNat ω ω⟩
   ·rcases d z c with rfl|⟨j,n,hjk,rfl⟩
    ·have:=(J q).1 B
     exact⟨.inr ⟨l,y,(D q).2 ⟨ω,ω⟩⟩,ω⟩
    ·refine⟨.inr ⟨_,am n,B⟩,λe=>?_⟩
     obtain⟨m,hm,rfl⟩:=dn.1 B;exact hjk (G j n m ((nth h.Larges j).Page+(m:Int) - l.Page).toNat hm ω ω)
  ·rintro⟨⟨s,W,rfl⟩|⟨z,c,B⟩,hne⟩
   ·exact .inl ⟨s,W,rfl⟩
   ·obtain⟨j,n,rfl⟩:=aW c
    by_cases e:j=k
    ·subst e
     rw[V]at B;have:=(D q).1 B;exact .inr ⟨_,p,(J q).2 ⟨ω,ω⟩⟩
    ·exact .inr ⟨_,u j n e,B⟩
 have K:∃o,(dY l size=0->o=h.Free)/\(0<dY l size->ca (dS h) h.Free ⟨l.Page+(size+15) / 16,(dY l size:Nat)⟩ = some o)/\bt (dS h) o=true/\∀q,RH o q↔RH h.Free q\/(l.Page+(size+15) / 16<=q/\q<l.Page+(size+15) / 16+(dY l size:Nat)):=by
  by_cases e:dY l size=0
  ·refine⟨h.Free,λ_=>rfl,λg=>absurd g ω,t.rng,λq=>⟨.inl,λg=>g.resolve_right ω⟩⟩
  ·obtain⟨o,o1,o2,o3⟩:=um (r:=⟨l.Page+(size+15) / 16,(dY l size:Nat)⟩) t.rng ⟨by simp only;omega,by simp only;omega,by show l.Page+(size+15) / 16+(dY l size:Nat)<=(dS h:Int);have:((tbl h).Entries.length:Int)=(dS h:Int):=rfl;omega⟩ λq Z q2=>by
    simp only at Z q2;obtain⟨m,rfl⟩:=Z2 (show 0<=q by omega);have Q:m<(tbl h).Entries.length:=ω
    exact(t.pg.fre m Q).1 ((t.pg.own m Q).2 (fE y ((D _).2 ⟨ω,ω⟩)))
   exact⟨o,λg=>absurd g e,λ_=>o1,o2,o3⟩
 obtain⟨o,o0,o1,o2,o3⟩:=K;have R:=(gM h.Kernel (l.Page+(size+15) / 16) (dY l size)).1;have M:∀z∈h.Objs.set i {nth h.Objs i with Size:=size},z = {nth h.Objs i with Size:=size}\/∃j,j<h.Objs.length/\j≠i/\nth h.Objs j=z:=λz N=>fw N
 have F:(h.Objs.set i {nth h.Objs i with Size:=size}).map (·.Addr)=h.Objs.map (·.Addr):=mU T rfl;have S:(h.Objs.set i {nth h.Objs i with Size:=size}).map (·.Id)=h.Objs.map (·.Id):=mU T rfl;have hli:=(am T:nth h.Objs i∈h.Objs)
 generalize h.Objs.set i {nth h.Objs i with Size:=size} = ob at M F S |-;refine⟨o,o0,o1,{t with
   ker:=jV t.ker _ _
   rng:=by show bt (((dO h.Kernel (l.Page+(size+15) / 16) (dY l size)).Machine.Table.Entries.length:Nat):Int) o=true;rw[R];exact o2
   lay:=?_
   srl:=?_
   pg:=G3 t (by have:((tbl h).Entries.length:Int)=(h.Kernel.Machine.Table.Entries.length:Int):=rfl;omega) (List.Sublist.refl _) (λz c q B=>?_) ω P o3
   osr:=?_
   onu:=λz c=>?_
   oid:=by show(ob.map (·.Id)).Nodup;rw[S];exact t.oid
   oow:=λz c=>?_
   nd:=?_
   mem:=λb=>?_}⟩
 ·obtain⟨l1,l2,l3⟩:=db t.lay
  unfold bh;simp only[I0,C0];refine⟨⟨l1,Y3.2 λz c=>?_⟩,l3.sublist w⟩;rcases d z c with rfl|⟨j,n,-,rfl⟩
  ·exact O0 ⟨N.1,by show size<=1000;omega,rfl,by show 0<=l.Page;omega,by show l.Page<=32 - (size+15) / 16;omega⟩
  ·exact U.lok _ (am n)
 ·have A:(h.Larges.map (·.Page)).Pairwise (λa b=>a<b):=List.pairwise_map.2 t.srl
  rw[<-hpageM]at A;exact List.pairwise_map.1 A
 ·rcases d z c with rfl|⟨j,n,-,rfl⟩
  ·have:=(J q).1 B
   exact⟨l,y,(D q).2 ⟨ω,ω⟩⟩
  ·exact⟨_,am n,B⟩
 ·have A:(h.Objs.map (·.Addr)).Pairwise (λa b=>a<b):=List.pairwise_map.2 t.osr
  rw[<-F]at A;exact List.pairwise_map.1 A
 ·rcases M z c with rfl|⟨j,n,-,rfl⟩
  ·exact t.onu (nth h.Objs i) hli
  ·exact t.onu _ (am n)
 ·rcases M z c with rfl|⟨j,n,hji,rfl⟩
  ·exact .inr ⟨_,p,Y,rfl⟩
  ·rcases t.oow _ (am n) with A|⟨l',hl',e1,X⟩
   ·exact .inl A
   ·obtain⟨m,hm,rfl⟩:=aW hl'
    by_cases e:m=k
    ·subst e
     rw[V]at e1;exact absurd (gY (f:=(·.Addr)) (iq t.osr) n T (e1.trans Y.symm)) hji
    ·exact .inr ⟨_,u m hm e,e1,X⟩
 ·have hh:holders {h with Kernel:=dO h.Kernel (l.Page+(size+15) / 16) (dY l size),Larges:=la,Objs:=ob,Free:=o} = holders h:=by
   show((ob.map (·.Addr)++cb h)++h.Quar.Lst.map (·.Addr))++aE h.Mail=_;rw[F];rfl
  rw[hh];exact t.nd
 ·have hh:holders {h with Kernel:=dO h.Kernel (l.Page+(size+15) / 16) (dY l size),Larges:=la,Objs:=ob,Free:=o} = holders h:=by
   show((ob.map (·.Addr)++cb h)++h.Quar.Lst.map (·.Addr))++aE h.Mail=_;rw[F];rfl
  rw[hh,t.mem b];show Live h.Spans h.Larges b↔Live h.Spans la b;unfold Live;constructor
  ·rintro(A|⟨z,c,e⟩)
   ·exact .inl A
   ·obtain⟨j,n,rfl⟩:=aW c
    by_cases X:j=k
    ·subst X
     rw[V]at e;exact .inr ⟨_,p,e⟩
    ·exact .inr ⟨_,u j n X,e⟩
  ·rintro(A|⟨z,c,e⟩)
   ·exact .inl A
   ·rcases d z c with rfl|⟨j,n,-,rfl⟩
    ·exact .inr ⟨l,y,e⟩
    ·exact .inr ⟨_,am n,e⟩
def tU(h:ab)(k:Nat)(size:Int):af:=zK h.Kernel (16*(nth h.Larges k).Page+size) (16*((size+15) / 16) - size).toNat
def GX(h:ab)(k:Nat)(size:Int):List ax:=if 0<dY (nth h.Larges k) size then(ca (dS h) h.Free ⟨(nth h.Larges k).Page+(size+15) / 16,(dY (nth h.Larges k) size:Nat)⟩).getD h.Free else h.Free
def trimH(h:ab)(i k:Nat)(size:Int):ab:={h with Kernel:=dO (tU h k size) ((nth h.Larges k).Page+(size+15) / 16) (dY (nth h.Larges k) size),Larges:=h.Larges.set k (trimL (nth h.Larges k) size),Objs:=h.Objs.set i {nth h.Objs i with Size:=size},Free:=GX h k size}
theorem og{h:ab}{E:List Int}(b:bm h E){k:Nat}(c:k<h.Larges.length){a:Int}(g:16*(nth h.Larges k).Page<=a/\a<16*(nth h.Larges k).Page+16*(nth h.Larges k).Pages):(au h.Kernel.Machine.Table (a / 16)).Mode≠0:=by
 obtain⟨i,j⟩:=BD b c;have l:=aQ (b.L.lok _ (am c));have d:(a / 16)∈pgs h.Spans h.Larges:=fE (am c) (dn.2 ⟨(a / 16 - (nth h.Larges k).Page).toNat,ω,ω⟩);have e:=b.pg.bnd _ d;have f:=(b.pg.own (a / 16).toNat ω).2 (by rw[show(((a / 16).toNat:Nat):Int)=a / 16 by omega];exact d);unfold au;rw[C9 ⟨ω,e⟩];exact f
theorem DS{h:ab}{E:List Int}(b:bm h E){k:Nat}(c:k<h.Larges.length){size:Int}(d:9<=size/\size<=(nth h.Larges k).Size):∀{m:Nat},m<=(16*((size+15) / 16) - size).toNat->aB (zK h.Kernel (16*(nth h.Larges k).Page+size) m)=true:=fun {m} hm=>by
 have a:=b.L.lok _ (am c);unfold bQ at a;rw[C0]at a;exact P7 b.ker λj e=>og b c ⟨ω,ω⟩
theorem bm.trimH{h:ab}{i k:Nat}{size:Int}(d:bm h [])(A:i<h.Objs.length)(f:k<h.Larges.length)(B:(nth h.Objs i).Addr=16*(nth h.Larges k).Page)(r:9<=size/\size<=(nth h.Larges k).Size):bm (trimH h i k size) []/\JK h (trimH h i k size):=by
 have t:=DS d f r (z3 _);have l:=(tG h.Kernel (16*(nth h.Larges k).Page+size) (16*((size+15) / 16) - size).toNat).1;have C:=d.cells t l;obtain⟨o,u,w,y⟩:=C.trimL (i:=i) (k:=k) (size:=size) A f B r;simp only at u w y;have n:dS {h with Kernel:=zK h.Kernel (16*(nth h.Larges k).Page+size) (16*((size+15) / 16) - size).toNat} = dS h:=by
  unfold dS;simp only[l]
 have D:GX h k size=o:=by
  unfold GX;split
  ·rename_i g;have:=w g;rw[n]at this;rw[this];rfl
  ·exact(u ω).symm
 have E:Ab.trimH h i k size = {h with Kernel:=dO (tU h k size) ((nth h.Larges k).Page+(size+15) / 16) (dY (nth h.Larges k) size),Larges:=h.Larges.set k (Ab.trimL (nth h.Larges k) size),Objs:=h.Objs.set i {nth h.Objs i with Size:=size},Free:=o}:=by unfold Ab.trimH;rw[D]
 refine⟨by rw[E];exact y,JK.less rfl rfl rfl λq j=>?_⟩;have a:=d.L.lok _ (am f);unfold bQ at a;rw[C0]at a;obtain⟨F,G⟩:=BD d f;have b:(tU h k size).Machine.Table=h.Kernel.Machine.Table:=l;have c:=lU (k:=tU h k size) t (p:=(nth h.Larges k).Page+(size+15) / 16) ω (dY (nth h.Larges k) size) (by rw[b];have:((tbl h).Entries.length:Int)=(h.Kernel.Machine.Table.Entries.length:Int):=rfl;unfold dY;omega) q;change (nth (dO (tU h k size) ((nth h.Larges k).Page+(size+15) / 16) (dY (nth h.Larges k) size)).Machine.Table.Entries q).Mode≠0 at j;show nth (dO (tU h k size) ((nth h.Larges k).Page+(size+15) / 16) (dY (nth h.Larges k) size)).Machine.Table.Entries q=nth h.Kernel.Machine.Table.Entries q;rw[c]at j |-;split at j
 ·exact absurd rfl j
 ·rename_i e;rw[C8 e,b]
theorem FV{t:Nat}(h:1<=t/\t<=4):bI (dR t)=true:=by
 have f:∀n,n<=t->br (dR t) n=0:=λn=>by
  induction n with
  | zero=>intro _;rfl
  | succ n g=>
   intro j;have a:nth (dR t).Buffers n=[]:=dd ω;have b:nth (dR t).Inbox n=[]:=dd ω;simp only[br,g ω,a,b,List.length_nil]
   decide
 have e:(dR t).Buffers.length=t:=List.length_replicate ..;refine dE.2 ⟨⟨ω,ω,by simp[dR]⟩,λi c=>?_,by rw[e,f t (z3 _)];omega⟩;rw[e]at c;have a:nth (dR t).Buffers i=[]:=dd c;have b:nth (dR t).Inbox i=[]:=dd c;rw[a,b];exact⟨λp d=>(by cases d),λp d=>(by cases d)⟩
theorem tT(t:Nat):aE (dR t)=[]:=by
 unfold aE;split
 ·simp[dR]
 ·rfl
def qO(k:af)(t:Nat)(sd ck lim:Int):ab:=⟨k,[⟨0,(k.Machine.Table.Entries.length:Nat)⟩],[],[],[],List.replicate t eZ,dR t,⟨16,[]⟩,sd,ck,lim,1,false,⟨⟨0,0,[]⟩,0,0⟩⟩
theorem BS:bn eZ=true:=by decide
theorem bm.fresh{k:af}{t:Nat}{lim sd ck:Int}(A:aB k=true)(B:∀q,q<k.Machine.Table.Entries.length->(nth k.Machine.Table.Entries q).Mode=0)(E:1<=t/\t<=4)(g:0<=lim/\lim<=1000)(h:0<=sd/\sd<=1073741823)(d:0<=ck/\ck<=1000000):bm (qO k t sd ck lim) []:=by
 obtain⟨G,H,J⟩:=bx.1 (aD.1 A).2.2.1;have hca:cb (qO k t sd ck lim)=[]:=by
  unfold cb;refine List.flatMap_eq_nil_iff.2 λc d=>?_
  rw[(List.mem_replicate.1 d).2]
  rfl
 have C:holders (qO k t sd ck lim)=[]:=by
  unfold holders;rw[hca];show(([]++[])++[])++aE (dR t)=[];rw[tT];rfl
 have i:∀a,¬Live (qO k t sd ck lim).Spans (qO k t sd ck lim).Larges a:=λa=>by
  rintro(⟨s,h,-⟩|⟨l,g,-⟩)
  ·cases h
  ·cases g
 exact {
   ker:=A
   rng:=fD.2 ⟨⟨List.pairwise_singleton ..,λy n=>by rw[I1.1 n];show(1:Int)<=(k.Machine.Table.Entries.length:Nat);omega⟩,λy n=>by
       rw[I1.1 n];refine⟨X4 _,by show(1:Int)<=(k.Machine.Table.Entries.length:Nat);omega,?_⟩;show(0:Int)+(k.Machine.Table.Entries.length:Nat)<=(k.Machine.Table.Entries.length:Nat);omega,by show(1:Int)<=(k.Machine.Table.Entries.length:Nat);omega,by show((k.Machine.Table.Entries.length:Nat):Int)<=32;omega⟩
   lay:=by show bh [] []=true;decide
   srs:=List.Pairwise.nil
   srl:=List.Pairwise.nil
   pg:=⟨λl g=>(by cases g),λp f=>(by cases f),λp f=>⟨λe=>absurd (B p f) e,λe=>by cases e⟩,λp f=>⟨λe=>absurd (B p f) e,λe=>absurd ⟨_,I1.2 rfl,by show(0:Int)<=p;omega,by
       show(p:Int)<0+(k.Machine.Table.Entries.length:Nat);have F:p<k.Machine.Table.Entries.length:=f;omega⟩ e⟩,λs h=>by cases h⟩
   mail:=FV E
   nc:=by show(List.replicate t eZ).length=(List.replicate t _).length;simp
   quar:=by show eQ ⟨16,[]⟩ = true;decide
   snc:=λx r=>by cases r
   cach:=λc d=>by rw[(List.mem_replicate.1 d).2];exact BS
   nums:=by unfold bX;rw[C0];simp only[qO];omega
   osr:=List.Pairwise.nil
   onu:=λo u=>by cases u
   oid:=List.nodup_nil
   oow:=λo u=>by cases u
   hca:=λc d j D a b=>by
     rw[(List.mem_replicate.1 d).2]at D b;have w:j<4:=D;have:nth eZ.Lists j=[]:=dd w;rw[this]at b;cases b
   hqu:=λx r=>by cases r
   hfl:=λa b=>by
     have:aE (dR t)=[]:=tT t;change a∈aE (dR t) at b;rw[this]at b;cases b
   hin:=λa b=>by cases b
   nd:=by rw[C];exact List.nodup_nil
   mem:=λa=>by rw[C];exact⟨λe=>(by cases e),λe=>absurd e (i a)⟩
   job:=λe=>by cases e
   noj:=λ_=>by show qX ⟨⟨0,0,[]⟩,0,0⟩ = true;decide}
theorem JI.no{h:ab}(a:h.Meshing=false):JI h:=⟨λe=>(by rw[a]at e;cases e),λe=>(by rw[a]at e;cases e),λe=>(by rw[a]at e;cases e),λe=>(by rw[a]at e;cases e)⟩
theorem pR{p f:Nat}{a:List Int}(d:1<=p/\p<=32)(e:1<=f/\f<=32)(b:a.length<=40/\∀x∈a,0<=x):aB (bG p f a)=true:=by
 obtain⟨-,g,h,i,c⟩:=aD.1 (BG d e);exact aD.2 ⟨λj k=>b.2 _ (am k),g,h,i,c.1,c.2.1,b.1⟩
theorem BQ{p f t:Nat}{lim:Int}{a:List Int}(c:1<=p/\p<=32)(d:1<=f/\f<=32)(g:1<=t/\t<=4)(i:0<=lim/\lim<=1000)(j:a.length<=40/\∀x∈a,0<=x):bm (va p f t lim a) []:=by
 have h:=bm.fresh (k:=bG p f a) (t:=t) (lim:=lim) (sd:=0) (ck:=0) (pR c d j) (λq l=>by
   have b:q<p:=by simpa[bG,eA] using l
   rw[show nth (bG p f a).Machine.Table.Entries q = ⟨0,0⟩ from dd b]) g i ω ω
 have e:(bG p f a).Machine.Table.Entries.length=p:=by simp[bG,eA]
 unfold qO at h;rw[e]at h;exact h
structure ew where
 Kind:Int
 Thread:Int
 N:Int
 At:Int
 Value:Int
deriving DecidableEq,Inhabited
def ew.enc(_:d7)(x:ew):List C:=[I x.Kind,I x.Thread,I x.N,I x.At,I x.Value]
def ni(id:Int)(o:b9):Bool:=decide (o.Id=id)
def oW(r:ay)(id:Int):Int:=dP (ni id) r.Objs
def kG(r:ay)(n:Int):ay:=if 1<=n/\n<=1000 then {r with Next:=r.Next+1,Objs:=r.Objs++[⟨r.Next,List.replicate n.toNat 0⟩]} else r
def kY(r:ay)(id:Int):ay:=if oW r id<0 then r else {r with Objs:=dele r.Objs (oW r id).toNat}
def fg(r:ay)(id at_ v:Int):ay:=if 0<=oW r id/\(0<=at_/\at_<=(nth r.Objs (oW r id).toNat).Cells.length - 1)/\0<=v/\v<=999 then {r with Objs:=r.Objs.set (oW r id).toNat ⟨(nth r.Objs (oW r id).toNat).Id,(nth r.Objs (oW r id).toNat).Cells.set at_.toNat v⟩} else r
def gB(r:ay)(id n:Int):ay:=if 0<=oW r id/\1<=n/\n<=(nth r.Objs (oW r id).toNat).Cells.length then {r with Objs:=r.Objs.set (oW r id).toNat ⟨(nth r.Objs (oW r id).toNat).Id,(nth r.Objs (oW r id).toNat).Cells.take n.toNat⟩} else r
structure qU(r:ay)(m:Nat):Prop where
 len:r.Objs.length<=m
 cel:∀o∈r.Objs,o.Cells.length<=1000
 nx:0<=r.Next/\r.Next<=m+1
theorem qU.more{r:ay}{m n:Nat}(h:qU r m)(a:m<=n):qU r n:=⟨by have:=h.len;omega,h.cel,h.nx.1,by have:=h.nx.2;omega⟩
theorem qU.sml{r:ay}{m:Nat}(h:qU r m)(b:m<=1000):ay.sml r:=⟨by have:=h.len;omega,λo a=>by have:=h.cel o a;show o.Cells.length<=1048576;omega⟩
theorem qU.alloc{r:ay}{m:Nat}(h:qU r m)(n:Int):qU (kG r n) (m+1):=by
 unfold kG;split
 ·refine⟨by have:=h.len;simp only[I3,List.length_singleton];omega,λo a=>?_,by have:=h.nx.1;simp only;omega,by have:=h.nx.2;simp only;omega⟩
  rcases v3.1 a with a|a
  ·exact h.cel o a
  ·rw[I1.1 a];simp only[List.length_replicate];omega
 ·exact h.more ω
theorem qU.free{r:ay}{m:Nat}(h:qU r m)(id:Int):qU (kY r id) m:=by
 unfold kY;split
 ·exact h
 ·have a:=eL r.Objs (oW r id).toNat
  exact⟨V4 a.length_le h.len,λo b=>h.cel o (a.subset b),h.nx⟩
theorem qU.set{r:ay}{m i:Nat}{x:b9}(h:qU r m)(b:x.Cells.length<=1000):qU {r with Objs:=r.Objs.set i x} m:=
 ⟨by simp only[O1];exact h.len,λo a=>by
   rcases Z5 a with a|rfl
   · exact h.cel o a
   · exact b,h.nx⟩
theorem gq{α:Type}[Inhabited α](p:α->Bool)(xs:List α)(h:0<=dP p xs):(dP p xs).toNat<xs.length/\p (nth xs (dP p xs).toNat)=true/\dP p xs=((dP p xs).toNat:Nat):=by
 rcases oG p xs with e|⟨n,a,e,b⟩
 ·omega
 ·rw[e,X2];exact⟨a,b,rfl⟩
theorem qU.store{r:ay}{m:Nat}(h:qU r m)(id a v:Int):qU (fg r id a v) m:=by
 unfold fg;split
 ·rename_i e
  refine h.set ?_;simp only[O1];exact h.cel (nth r.Objs (oW r id).toNat) (am (gq _ _ e.1).1)
 ·exact h
theorem qU.trim{r:ay}{m:Nat}(h:qU r m)(id n:Int):qU (gB r id n) m:=by
 unfold gB;split
 ·rename_i e
  refine h.set ?_;have:=h.cel (nth r.Objs (oW r id).toNat) (am (gq _ _ e.1).1);simp only[U1];omega
 ·exact h
def LQ(id:Int)(o:bK):Bool:=decide (o.Id=id)
def rD(h:ab)(id:Int):Int:=dP (LQ id) h.Objs
def H4(a:Int)(l:a7):Bool:=decide (l.Page*16=a)
def yi(h:ab)(a:Int):Int:=dP (H4 a) h.Larges
def oX(h:ab)(a:ew):Prop:=0<=a.Thread/\a.Thread<=h.Caches.length - 1
instance (h:ab) (a:ew):Decidable (oX h a):=by unfold oX;infer_instance
def oY(w:bD)(a:ew)(i:Nat):bD × Int:=
 if w.Heap.Kernel.Calls=100000 then(w,6)
 else if oX w.Heap a then(⟨(freeT w.Heap a.Thread.toNat i).1,if(freeT w.Heap a.Thread.toNat i).2=0 then kY w.Ref (nth w.Heap.Objs i).Id else w.Ref⟩,(freeT w.Heap a.Thread.toNat i).2)
 else(w,1)
def ml(w:bD)(a:ew)(i:Nat):bD × Int:=
 if ¬(0<=a.At/\a.At<=(nth w.Heap.Objs i).Size - 1) then(w,90)
 else if(au w.Heap.Kernel.Machine.Table (((nth w.Heap.Objs i).Addr+a.At) / 16)).Mode=1 then(w,2)
 else if ¬(0<=a.Value/\a.Value<=999) then(w,3)
 else(⟨{w.Heap with Kernel:=ly w.Heap.Kernel ((nth w.Heap.Objs i).Addr+a.At) a.Value},fg w.Ref (nth w.Heap.Objs i).Id a.At a.Value⟩,0)
def ll(h:ab)(i:Nat)(n:Int):Prop:=0<=yi h (nth h.Objs i).Addr/\9<=n/\n<=(nth h.Larges (yi h (nth h.Objs i).Addr).toNat).Size
instance (h:ab) (i:Nat) (n:Int):Decidable (ll h i n):=by unfold ll;infer_instance
def pC(w:bD)(a:ew)(i:Nat):bD × Int:=
 if w.Heap.Kernel.Calls≠100000/\ll w.Heap i a.Value then(⟨trimH w.Heap i (yi w.Heap (nth w.Heap.Objs i).Addr).toNat a.Value,gB w.Ref (nth w.Heap.Objs i).Id a.Value⟩,0) else(w,90)
def my(w:bD)(a:ew)(i:Nat):bD × Int:=if a.Kind=2 then oY w a i else if a.Kind=3 then ml w a i else pC w a i
def fI(h:ab)(a:ew):ab × Int:=
 if a.Kind=5 then(if oX h a/\0<(nth h.Mail.Buffers a.Thread.toNat).length then({h with Mail:=fR h.Mail a.Thread.toNat},0) else(h,90))
 else if ¬(h.Kernel.Calls≠100000/\oX h a) then(h,0)
 else if a.Kind=6 then(collect h a.Thread.toNat,((nth h.Mail.Inbox a.Thread.toNat).length:Nat))
 else((flushN a.Thread.toNat h 4).1,((flushN a.Thread.toNat h 4).2:Nat))
def mC(h:ab)(n:Int):ab × Int:=if h.Kernel.Calls≠100000/\(0<=n/\n<=1000)/\h.Clock+n<=1000000 then(tick h n,((jf h n).length:Nat)) else(h,0)
def sJ(h:ab):Bool:=h.Meshing&&decide (h.Kernel.Calls<=99000)
def ma(h:ab):Nat->ab × Nat
 | 0=>(h,0)
 | i+1=>if sJ (ma h i).1=true then(mStep (ma h i).1,(ma h i).2+1) else ma h i
def mt(h:ab):ab × Int:=if h.Meshing=true then(h,90) else((started h).1,if(started h).2=true then 0 else 90)
def lv(w:bD)(a:ew):bD × Int:=
 if a.Kind=1 then(⟨(fk w.Heap a.Thread a.N).1,if(fk w.Heap a.Thread a.N).2.2=0 then kG w.Ref a.N else w.Ref⟩,(fk w.Heap a.Thread a.N).2.2)
 else if a.Kind=2\/a.Kind=3\/a.Kind=4 then(if rD w.Heap a.N<0 then(w,90) else my w a (rD w.Heap a.N).toNat)
 else if a.Kind=5\/a.Kind=6\/a.Kind=7 then(⟨(fI w.Heap a).1,w.Ref⟩,(fI w.Heap a).2)
 else if a.Kind=8 then(⟨(mC w.Heap a.N).1,w.Ref⟩,(mC w.Heap a.N).2)
 else if a.Kind=9 then(⟨(mt w.Heap).1,w.Ref⟩,(mt w.Heap).2)
 else if a.Kind=10/\0<=a.N/\a.N<=50 then(⟨(ma w.Heap a.N.toNat).1,w.Ref⟩,((ma w.Heap a.N.toNat).2:Nat))
 else(w,90)
structure sK(w:bD)(m:Nat):Prop where
 inv:bm w.Heap []
 ji:JI w.Heap
 ref:qU w.Ref m
theorem sK.more{w:bD}{m n:Nat}(h:sK w m)(a:m<=n):sK w n:=⟨h.inv,h.ji,h.ref.more a⟩
theorem sK.jk{w:bD}{m:Nat}(h:sK w m){g:ab}{r:ay}(a:bm g []/\JK w.Heap g)(b:qU r m):sK ⟨g,r⟩ m:=⟨a.1,h.ji.keep a.1 a.2,b⟩
theorem mG{h:ab}{E:List Int}(a:bm h E){o:bK}(p:o∈h.Objs){k:Int}(D:0<=k/\k<=o.Size - 1):(au h.Kernel.Machine.Table ((o.Addr+k) / 16)).Mode≠0/\0<=o.Addr/\o.Addr+k<512:=by
 rcases a.oow o p with⟨s,g,q,r⟩|⟨l,i,F,G⟩
 ·have b:=a.L.sok s g
  have t:=aC b;obtain⟨u,w,y⟩:=a.mapped g;have d:=bO t.2.2;obtain⟨H,J,A,-⟩:=q;have f:o.Size<=csz s.Class:=by
   have K:=mZ (n:=o.Size) ω;rw[r];have:o.Size=1\/o.Size=2\/o.Size=3\/o.Size=4\/o.Size=5\/o.Size=6\/o.Size=7\/o.Size=8:=ω
   rcases this with e|e|e|e|e|e|e|e<;>rw[e]<;>decide
  have B:(o.Addr+k) / 16=s.Page:=by
   rcases d with e|e|e|e<;>rw[e]at A f<;>omega
  rw[B];refine⟨?_,ω,ω⟩;unfold au;rw[C9 ⟨u,w⟩];exact y
 ·obtain⟨j,C,rfl⟩:=aW i
  have c:=a.L.lok _ i;unfold bQ at c;rw[C0]at c;exact⟨og a C ⟨ω,ω⟩,ω,ω⟩
theorem sK.obj{w:bD}{m:Nat}(h:sK w m)(a:ew){i:Nat}(b:i<w.Heap.Objs.length):sK (my w a i).1 m:=by
 unfold my;split
 ·unfold oY
  split
  ·exact h
  split
  ·rename_i d
   unfold oX at d;refine h.jk (h.inv.freeT b ω) ?_;split
   ·exact h.ref.free _
   ·exact h.ref
  ·exact h
 split
 ·unfold ml
  split
  ·exact h
  rename_i l;split
  ·exact h
  split
  ·exact h
  rename_i n;exact h.jk (h.inv.store (mG h.inv (am b) ω).1 ω) (h.ref.store _ _ _)
 ·unfold pC
  split
  ·rename_i e
   obtain⟨-,f,g⟩:=e;obtain⟨j,k,o⟩:=gq _ _ f;have c:=of_decide_eq_true k;exact h.jk (h.inv.trimH b j (c.symm.trans (Int.mul_comm _ _)) g) (h.ref.trim _ _)
  ·exact h
theorem sK.thread{w:bD}{m:Nat}(h:sK w m)(a:ew):sK ⟨(fI w.Heap a).1,w.Ref⟩ m:=by
 unfold fI;split
 ·split
  ·rename_i e
   obtain⟨b,i⟩:=e;unfold oX at b;exact h.jk (g:={w.Heap with Mail:=fR w.Heap.Mail a.Thread.toNat}) ⟨h.inv.deliv (by rw[<-h.inv.nc];omega) i,JK.eq rfl rfl rfl rfl⟩ h.ref
  ·exact h
 split
 ·exact h
 rename_i e;have e:=Classical.not_not.1 e;obtain⟨-,b⟩:=e;unfold oX at b;split
 ·exact h.jk (g:=collect w.Heap a.Thread.toNat) (h.inv.collect ω) h.ref
 ·have c:a.Thread.toNat<w.Heap.Caches.length:=ω
  have d:=(gr h.inv c (z3 4)).1;have f:=JK.flushN h.inv c (z3 4);generalize flushN a.Thread.toNat w.Heap 4=r at d f |-;exact h.jk (g:=r.1) ⟨d,f⟩ h.ref
theorem wb{h:ab}(a:bm h [])(b:JI h):∀n,bm (ma h n).1 []/\JI (ma h n).1
 | 0=>⟨a,b⟩
 | n+1=>by
  obtain⟨c,d⟩:=wb a b n;unfold ma;split
  ·rename_i e
   unfold sJ at e;rw[I0]at e;exact c.mStep d e.1
  ·exact⟨c,d⟩
theorem sK.act{w:bD}{m:Nat}(h:sK w m)(a:ew):sK (lv w a).1 (m+1):=by
 unfold lv;split
 ·have b:=JZ (t:=a.Thread) (size:=a.N) h.inv
  refine⟨b.1,h.ji.keep b.1 b.2,?_⟩;show qU (if _ then _ else _) (m+1);split
  ·exact h.ref.alloc _
  ·exact h.ref.more ω
 refine sK.more (m:=m) ?_ ω;split
 ·split
  ·exact h
  ·rename_i e
   exact h.obj a (gq _ _ (by unfold rD at e;omega)).1
 split
 ·exact h.thread a
 split
 ·unfold mC
  split
  ·rename_i e
   exact h.jk (h.inv.tick e.2.1.1 e.2.2) h.ref
  ·exact h
 split
 ·unfold mt
  split
  ·exact h
  ·rename_i e
   have b:=FW h.inv (by simpa using e);exact⟨b.1,b.2,h.ref⟩
 split
 ·have b:=wb h.inv h.ji a.N.toNat
  exact⟨b.1,b.2,h.ref⟩
 ·exact h
structure cF where
 Pages:Nat
 Frames:Nat
 Threads:Nat
 Limit:Int
 Refuse:List Int
deriving Inhabited
structure Fd(c:cF):Prop where
 p:1<=c.Pages/\c.Pages<=32
 f:1<=c.Frames/\c.Frames<=32
 t:1<=c.Threads/\c.Threads<=4
 l:0<=c.Limit/\c.Limit<=1000
 r:c.Refuse.length<=40/\∀x∈c.Refuse,0<=x
def world0(c:cF):bD:=⟨va c.Pages c.Frames c.Threads c.Limit c.Refuse,{Next:=1,Objs:=[]}⟩
def xV(c:cF)(acts:List ew):Nat->bD × List Int
 | 0=>(world0 c,[])
 | i+1=>((lv (xV c acts i).1 (nth acts i)).1,(xV c acts i).2++[(lv (xV c acts i).1 (nth acts i)).2])
theorem Jz{c:cF}(h:Fd c):sK (world0 c) 0:=
 ⟨BQ h.p h.f h.t h.l h.r,JI.no rfl,⟨z3 _,λo a=>(by cases a),by show(0:Int)<=1;omega,by show(1:Int)<=((0:Nat):Int)+1;omega⟩⟩
theorem vP{c:cF}(h:Fd c)(acts:List ew):∀n,sK (xV c acts n).1 n
 | 0=>Jz h
 | n+1=>(vP h acts n).act _
theorem JQ(t:aH)(d:aH.sml t):ao Tryz.prog 56 false [.val (some 1) (aH.enc .imm t)] .one [I (fy t)]:=by
 have k:t.Entries.length<=1048576:=d.1;refine fO 22 [] Tryz.func56 rfl ?_
 repeat'(first|refine gO ?_|fail)
 (conv=>whnf)
 refine CE (ι:=Nat) (λi=>[(1,.hold .box (aH.enc .imm t)),(3,.hold .one [I (dD bZ t.Entries i)]),(4,.hold .one [I ((i:Nat):Int)])]) (λi=>i<=t.Entries.length) (λi=>t.Entries.length - i) (0) ?_ (U0 _) λi g=>?_
 ·exact wB
 have h:=jh (f:=bZ) (xs:=t.Entries) (b:=1) (λe _=>uy e) i g;by_cases j:i<t.Entries.length
 ·have c:=ah j
  have a:dD bZ t.Entries (i+1)=dD bZ t.Entries i+bZ (nth t.Entries i):=rfl;by_cases e:(nth t.Entries i).Mode=0
  ·rw[show bZ (nth t.Entries i)=0 by unfold bZ;rw[C8 (by simpa using e)]]at a
   repeat'(first|refine gA ?_|(conv=>whnf);first|with_reducible refine CB (aa c) ?_)
   ((conv=>whnf);refine CD (i+1) ω ω ?_;(exact wB))
  ·rw[show bZ (nth t.Entries i)=1 by unfold bZ;rw[C9 e]]at a
   repeat'(first|refine gA ?_|(conv=>whnf);first|with_reducible refine CB (aa c) ?_)
   ((conv=>whnf);refine CD (i+1) ω ω ?_;(exact wB))
 ·obtain rfl:i=t.Entries.length:=ω
  repeat'(first|refine gD ?_|fail)
  rfl
theorem sH(t:aH)(d:aH.sml t):ao Tryz.prog 85 false [.val (some 1) (aH.enc .imm t)] .one [I (fy t)]:=by
 have k:t.Entries.length<=1048576:=d.1;refine fO 20 [] Tryz.func85 rfl ?_
 repeat'(first|refine gO ?_|fail)
 (conv=>whnf)
 refine CE (ι:=Nat) (λi=>[(3,.hold .one [I (dD bZ t.Entries i)]),(7,.hold .one (lR .imm t.Entries)),(8,.hold .one [I (t.Entries.length)]),(9,.hold .one [I ((i:Nat):Int)])]) (λi=>i<=t.Entries.length) (λi=>t.Entries.length - i) (0) ?_ (U0 _) λi g=>?_
 ·exact wB
 have h:=jh (f:=bZ) (xs:=t.Entries) (b:=1) (λe _=>uy e) i g;by_cases j:i<t.Entries.length
 ·have c:=ah j
  have a:dD bZ t.Entries (i+1)=dD bZ t.Entries i+bZ (nth t.Entries i):=rfl;by_cases e:(nth t.Entries i).Mode=0
  ·rw[show bZ (nth t.Entries i)=0 by unfold bZ;rw[C8 (by simpa using e)]]at a
   repeat'(first|refine gA ?_|(conv=>whnf);first|with_reducible refine CB (aa c) ?_)
   ((conv=>whnf);refine CD (i+1) ω ω ?_;(exact wB))
  ·rw[show bZ (nth t.Entries i)=1 by unfold bZ;rw[C9 e]]at a
   repeat'(first|refine gA ?_|(conv=>whnf);first|with_reducible refine CB (aa c) ?_)
   ((conv=>whnf);refine CD (i+1) ω ω ?_;(exact wB))
 ·obtain rfl:i=t.Entries.length:=ω
  repeat'(first|refine gD ?_|fail)
  rfl
theorem Kl(s:ar)(a:aY s=true):ao Tryz.prog 394 false [.val (some 3) (ar.enc .imm s)] .one (aF .own (qP s 16)):=by
 have b:=f6 s;rw[a]at b;have g:=aC a;have n:=bO g.2.2;refine fO 27 [(5,7,[14,15,16,17,18,19,20])] Tryz.func394 rfl ?_ (.inr (bJ _))
 repeat'(first|refine gO ?_|fail)
 (conv=>whnf)
 refine CE (ι:=Nat) (λi=>[(1,.hold .box (ar.enc .imm s)),(3,.hold .one (aF .own (qP s i))),(4,.hold .one [I ((i:Nat):Int)])]) (λi=>i<=16) (λi=>16 - i) (0) ?_ (U0 _) λi o=>?_
 ·exact wB
 have h:=rJ s i;by_cases j:i<16
 ·have k:=Dp a j
  have d:IntKind.i64.wrap (((i:Nat):Int).tdiv (csz s.Class))=((i:Nat):Int) / csz s.Class:=by rw[kr ω];exact eM ω ω
  have c:=gv s.Bits (((i:Nat):Int) / csz s.Class) (eg a).2;cases e:mY s i
  ·rw[show aU s.Bits (((i:Nat):Int) / csz s.Class)=false from e]at c
   repeat'(first|refine gD ?_|(conv=>whnf);first|refine C7 (b) ?_|refine C7 (de _) ?_|refine CM ω ?_|refine CK d ?_|refine C7 (c) ?_)
   ((conv=>whnf);refine CD (i+1) ω ω ?_)
   rw[Ho e];exact wB
  ·rw[show aU s.Bits (((i:Nat):Int) / csz s.Class)=true from e]at c
   repeat'(first|refine gD ?_|(conv=>whnf);first|refine C7 (b) ?_|refine C7 (de _) ?_|refine CM ω ?_|refine CK d ?_|refine C7 (c) ?_|refine CQ co (λr l=>by rw[I1.1 l];rfl) (by simp[aX,dH]) (by simp;omega) (by simp only[Z0];exact vq (by simp;omega) (by decide)) rfl ?_)
   ((conv=>whnf);refine CD (i+1) ω ω ?_)
   rw[ER e]
   (repeat'(first|exact trivial|rfl|exact CJ rfl (CJ (W0 (C.s d7.own) (by simp[rI])) trivial)|refine CJ ?_ ?_))
 ·obtain rfl:i=16:=ω
  repeat'(first|refine gD ?_|(conv=>whnf);first|refine C7 (b) ?_)
  rfl
theorem uC(s:ar)(a:aY s=true):ao Tryz.prog 181 false [.val (some 3) (ar.enc .imm s)] .one (aF .own (qP s 16)):=by
 have c:=ge s;rw[a]at c;have g:=aC a;have n:=bO g.2.2;refine fO 26 [(7,7,[13,14,15,16,17,18,19])] Tryz.func181 rfl ?_ (.inr (bJ _))
 repeat'(first|refine gO ?_|(conv=>whnf);first|refine C7 (c) ?_)
 (conv=>whnf)
 refine CE (ι:=Nat) (λi=>[(1,.hold .box (ar.enc .imm s)),(3,.hold .one (aF .own (qP s i))),(4,.hold .one [I ((i:Nat):Int)])]) (λi=>i<=16) (λi=>16 - i) (0) ?_ (U0 _) λi o=>?_
 ·exact wB
 have h:=rJ s i;by_cases j:i<16
 ·have k:=Dp a j
  have d:IntKind.i64.wrap (((i:Nat):Int).tdiv (csz s.Class))=((i:Nat):Int) / csz s.Class:=by rw[kr ω];exact eM ω ω
  have b:=jK s.Bits (((i:Nat):Int) / csz s.Class) (eg a).2;cases e:mY s i
  ·rw[show aU s.Bits (((i:Nat):Int) / csz s.Class)=false from e]at b
   repeat'(first|refine gD ?_|(conv=>whnf);first|refine C7 (cJ _) ?_|refine CM ω ?_|refine CK d ?_|refine C7 (b) ?_)
   ((conv=>whnf);refine CD (i+1) ω ω ?_)
   rw[Ho e];exact wB
  ·rw[show aU s.Bits (((i:Nat):Int) / csz s.Class)=true from e]at b
   repeat'(first|refine gD ?_|(conv=>whnf);first|refine C7 (cJ _) ?_|refine CM ω ?_|refine CK d ?_|refine C7 (b) ?_|refine CQ co (λr l=>by rw[I1.1 l];rfl) (by simp[aX,dH]) (by simp;omega) (by simp only[Z0];exact vq (by simp;omega) (by decide)) rfl ?_)
   ((conv=>whnf);refine CD (i+1) ω ω ?_)
   rw[ER e]
   (repeat'(first|exact trivial|rfl|exact CJ rfl (CJ (W0 (C.s d7.own) (by simp[rI])) trivial)|refine CJ ?_ ?_))
 ·obtain rfl:i=16:=ω
  repeat'(first|refine gD ?_|fail)
  rfl
theorem xS(sp:List ar)(la:List a7)(c:du sp)(d:dr la)(a:bh sp la=true):ao Tryz.prog 86 false [.val none (ci .imm sp),.val none (bU .imm la)] .one [I (kb sp la)]:=by
 have o:=c.1;have p:=d.1;have j:=lJ sp la c d;rw[a]at j;have q:=qx.of a;have e:=NK (db a).2.1;refine fO 38 [] Tryz.func86 rfl ?_
 repeat'(first|refine gO ?_|(conv=>whnf);first|refine C7 (j) ?_)
 (conv=>whnf)
 refine CE (ι:=Nat) (λi=>[(1,.hold .one (bU .imm la)),(5,.hold .one [I (dD Jm sp i)]),(14,.hold .one (ci .imm sp)),(15,.hold .one [I (sp.length)]),(16,.hold .one [I ((i:Nat):Int)])]) (λi=>i<=sp.length) (λi=>sp.length - i) (0) ?_ (U0 _) λi r=>?_
 ·exact wB
 have t:=jh (f:=Jm) (xs:=sp) (b:=16) (λs _=>LC s) i r;by_cases l:i<sp.length
 ·have g:=ah l
  have h:dD Jm sp (i+1)=dD Jm sp i+((qP (nth sp i) 16).length:Nat):=rfl;have u:=rJ (nth sp i) 16
  repeat'(first|refine gD ?_|(conv=>whnf);first|with_reducible refine CB (aa g) ?_|refine C7 (uC (nth sp i) (q.sok _ (am l))) ?_)
  ((conv=>whnf);refine CD (i+1) ω ω ?_;(exact wB))
 ·obtain rfl:i=sp.length:=ω
  have w:dD (·.Size) la 0=0:=rfl
  repeat'(first|refine gD ?_|fail)
  (conv=>whnf)
  refine CE (ι:=Nat) (λk=>[(5,.hold .one [I (dD Jm sp sp.length+dD (·.Size) la k)]),(26,.hold .one (bU .imm la)),(27,.hold .one [I (la.length)]),(28,.hold .one [I ((k:Nat):Int)])]) (λk=>k<=la.length) (λk=>la.length - k) (0) ?_ (U0 _) λk y=>?_
  ·exact wB
  have B:=jh (f:=(·.Size)) (xs:=la) (b:=1000) e k y;by_cases n:k<la.length
  ·have g:=ah n
   have C:=e _ (am n);have h:dD (·.Size) la (k+1)=dD (·.Size) la k+(nth la k).Size:=rfl
   repeat'(first|refine gD ?_|(conv=>whnf);first|with_reducible refine CB (aa g) ?_)
   ((conv=>whnf);refine CD (k+1) ω ω ?_;(exact wB))
  ·obtain rfl:k=la.length:=ω
   repeat'(first|refine gD ?_|fail)
   rfl
theorem yv(h:ab):ao Tryz.prog 66 false [.val (some 24) (ab.enc .imm h)] .one [I (dS h:Nat)]:=by
 refine fO 9 [] Tryz.func66 rfl ?_
 repeat'(first|refine gO ?_|fail)
 rfl
theorem nC(c:aA)(e:aA.sml c):ao Tryz.prog 90 false [.val (some 1) (aA.enc .imm c)] .one [I (bj c)]:=by
 have r:=e.1;cases d:bn c with
 | false=>
  have a:=jI c e;rw[d]at a;refine fO 26 [] Tryz.func90 rfl ?_
  repeat'(first|refine gO ?_|(conv=>whnf);first|refine C7 a ?_)
  exact W0 (λz=>[I z]) (by unfold bj;rw[d];rfl)
 | true=>
  obtain⟨o,g⟩:=kV d;have a:=jI c e;rw[d]at a;refine fO 26 [] Tryz.func90 rfl ?_
  repeat'(first|refine gO ?_|(conv=>whnf);first|refine C7 a ?_)
  (conv=>whnf)
  refine CE (ι:=Nat) (λi=>[(1,.hold .box (aA.enc .imm c)),(3,.hold .one [I (cK 0 (c.Lists.take i))]),(10,.hold .one (i9 .imm c.Lists)),(11,.hold .one [I c.Lists.length]),(12,.hold .one [I (i:Nat)])]) (λi=>i<=c.Lists.length/\0<=cK 0 (c.Lists.take i)/\cK 0 (c.Lists.take i)<=64*(i:Nat)) (λi=>c.Lists.length - i) 0 ?_ ⟨U0 _,by simp[cK],by simp[cK]⟩ λi k=>?_
  ·exact wB
  ·obtain⟨k,p,q⟩:=k
   by_cases h:i<c.Lists.length
   ·obtain⟨l,b⟩ : ∃l,c.Lists[i]? = some l:=⟨_,I2 h⟩
    have j:=g l (Z1 b);have n:=Lc i;have t:=Hq j n.1 n.2
    repeat'(first|refine gD ?_|(conv=>whnf);first|with_reducible refine CB (aa b) ?_|refine C7 (cJ (i:Nat)) ?_)
    (conv=>whnf)
    refine CD (i+1) ⟨ω,by rw[lE b];omega,by rw[lE b];omega⟩ ω ?_;rw[lE b];exact wB
   ·repeat'(first|refine gD ?_|fail)
    rw[V6 ω];exact W0 (λz=>[I z]) (by unfold bj;rw[d];rfl)
theorem Dn{o:bK}(h:0<=aL o.Size):dK o=csz (aL o.Size):=by unfold dK;rw[C9 h]
theorem Fi{o:bK}(h:¬0<=aL o.Size):dK o=o.Size:=by unfold dK;rw[C8 h]
theorem vD(h:ab)(G:ab.sml h)(l:dM h=true):ao Tryz.prog 22 false [.val (some 24) (ab.enc .imm h)] .agg (gS.enc .own (cC h)):=by
 have cH:=lw h G;rw[pp,l]at cH;obtain⟨k1,R,-,-,H,⟨k6,k6b⟩,-⟩:=zL l;have S:=jU H;have T:=m0 H;have u:=vH l;have w:=FG l;obtain⟨n,-,o,p,⟨V,-⟩,⟨W,q⟩,y,r,-⟩:=G;have X:h.Quar.Lst.length<=1048576:=r.1;have J:=sH h.Kernel.Machine.Table n.1.2;have K:=uB h.Kernel.Machine.Frames n.1.1;have N:=xS h.Spans h.Larges o p R;have P:=nJ h.Quar.Lst r;have Y:=pX h.Mail y;have Z:dD dK h.Objs 0=0:=rfl;have hc0:dD bj h.Caches 0=0:=rfl;have hp0:dD (ed h) (aE h.Mail) 0=0:=rfl;generalize hM:fy h.Kernel.Machine.Table=M at J;generalize hU:dX h.Kernel.Machine.Frames=U at K;generalize hL:kb h.Spans h.Larges=L at N;generalize hQ:quarCells h.Quar.Lst h.Quar.Lst.length=Q at P;refine fO 103 [(3,23,[15,16,17,18,19,20,21,22,23,24,25,26,27,28,29,30,31,32,33,34,35,36,3]),(9,4,[49,50,51,52]),(15,4,[69,70,71,72]),(20,15,[84,85,86,87,88,89,90,91,92,93,94,95,96,97,98])] Tryz.func22 rfl ?_ (.inr (gS.enc_fr _))
 repeat'(first|refine gO ?_|(conv=>whnf);first|refine C7 (cH) ?_|refine C7 (yv h) ?_|refine C7 (J) ?_|refine C7 (K) ?_|refine C7 (N) ?_|refine C7 (P) ?_)
 (conv=>whnf)
 refine CE (ι:=Nat) (λi=>[(1,.hold .box (ab.enc .imm h)),(2,.hold .box ([I 0,I 0,I 0,I 0,I 0,I 0,I 0,I 0])),(3,.hold .box ([I (dS h:Nat),I M,I U,I L,I (dD dK h.Objs i),I 0,I Q,I 0])),(38,.hold .one (mu .imm h.Objs)),(39,.hold .one [I (h.Objs.length)]),(40,.hold .one [I ((i:Nat):Int)])]) (λi=>i<=h.Objs.length) (λi=>h.Objs.length - i) (0) ?_ (U0 _) λi t=>?_
 ·exact wB
 have hb:=jh (f:=dK) (xs:=h.Objs) (b:=1000) w i t;by_cases g:i<h.Objs.length
 ·have k:=ah g
  have hsz:=u _ (am g);have d:dD dK h.Objs (i+1)=dD dK h.Objs i+dK (nth h.Objs i):=rfl;have B:=sA (aL (nth h.Objs i).Size);by_cases e:0<=aL (nth h.Objs i).Size
  ·rw[Dn e]at d
   repeat'(first|refine gD ?_|(conv=>whnf);first|with_reducible refine CB (aa k) ?_|refine C7 (mS _) ?_|refine C7 (cJ _) ?_)
   ((conv=>whnf);refine CD (i+1) ω ω ?_;(exact wB))
  ·rw[Fi e]at d
   repeat'(first|refine gD ?_|(conv=>whnf);first|with_reducible (first|refine CB (aa k) ?_|refine Bf.D (λhq=>?_) (λhq=>?_))|refine C7 (mS _) ?_)
   ((conv=>whnf);refine CD (i+1) ω ω ?_;(exact wB))
 obtain rfl:i=h.Objs.length:=ω
 generalize hO:dD dK h.Objs h.Objs.length=O at hb
 repeat'(first|refine gD ?_|fail)
 (conv=>whnf)
 refine CE (ι:=Nat) (λi=>[(1,.hold .box (ab.enc .imm h)),(2,.hold .box ([I 0,I 0,I 0,I 0,I 0,I 0,I 0,I 0])),(3,.hold .box ([I (dS h:Nat),I M,I U,I L,I O,I (dD bj h.Caches i),I Q,I 0])),(63,.hold .one (gN .imm h.Caches)),(64,.hold .one [I (h.Caches.length)]),(65,.hold .one [I ((i:Nat):Int)])]) (λi=>i<=h.Caches.length) (λi=>h.Caches.length - i) (0) ?_ (U0 _) λi t=>?_
 ·exact wB
 have C:=jh (f:=bj) (xs:=h.Caches) (b:=256) (λc _=>qf c) i t;by_cases g:i<h.Caches.length
 ·have k:=ah g
  have hcb:=qf (nth h.Caches i);have d:dD bj h.Caches (i+1)=dD bj h.Caches i+bj (nth h.Caches i):=rfl
  repeat'(first|refine gD ?_|(conv=>whnf);first|with_reducible refine CB (aa k) ?_|refine C7 (nC (nth h.Caches i) (q _ (am g))) ?_)
  ((conv=>whnf);refine CD (i+1) ω ω ?_;(exact wB))
 obtain rfl:i=h.Caches.length:=ω
 generalize hC:dD bj h.Caches h.Caches.length=CC at C
 repeat'(first|refine gD ?_|(conv=>whnf);first|refine C7 (Y) ?_)
 (conv=>whnf)
 refine CE (ι:=Nat) (λi=>[(1,.hold .box (ab.enc .imm h)),(2,.hold .box ([I 0,I 0,I 0,I 0,I 0,I 0,I 0,I 0])),(3,.hold .box ([I (dS h:Nat),I M,I U,I L,I O,I CC,I Q,I (dD (ed h) (aE h.Mail) i)])),(78,.hold .one (aF .own (aE h.Mail))),(79,.hold .one [I ((aE h.Mail).length)]),(80,.hold .one [I ((i:Nat):Int)])]) (λi=>i<=(aE h.Mail).length) (λi=>(aE h.Mail).length - i) (0) ?_ (U0 _) λi t=>?_
 ·exact wB
 have hb3:=jh (f:=ed h) (xs:=aE h.Mail) (b:=8) (λa _=>sA _) i t;by_cases g:i<(aE h.Mail).length
 ·have k:=ah g
  obtain⟨j,hj,E,F,ha0,ha1⟩:=Qr l (am g);have d:dD (ed h) (aE h.Mail) (i+1)=dD (ed h) (aE h.Mail) i+ed h (nth (aE h.Mail) i):=rfl;rw[show ed h (nth (aE h.Mail) i)=csz (nth h.Spans j).Class by unfold ed;rw[F,X2]]at d;have hy:h.Spans[(denotes h.Spans h.Larges (nth (aE h.Mail) i)).Index.toNat]? = some (nth h.Spans j):=by rw[E,X2];exact ah hj
  have B:=sA (nth h.Spans j).Class
  repeat'(first|refine gD ?_|(conv=>whnf);first|with_reducible refine CB (aa k) ?_|refine CH rfl (aa k) rfl ?_|refine C7 (jN h.Spans h.Larges (nth (aE h.Mail) i) o p) ?_|refine CL ω (aa hy) ?_|refine C7 (cJ _) ?_)
  ((conv=>whnf);refine CD (i+1) ω ω ?_;(exact wB))
 obtain rfl:i=(aE h.Mail).length:=ω
 repeat'(first|refine gD ?_|fail)
 unfold cC;rw[hM,hU,hL,hO,hC,hQ]
 rfl
theorem or64{z1 z2:Int}(h1:0<=z1/\z1<=65535)(a:0<=z2/\z2<=65535):IntKind.i64.wrap ((BitVec.ofInt IntKind.i64.bits z1 ||| BitVec.ofInt IntKind.i64.bits z2).toNat:Nat)=bor z1 z2:=by
 rw[BitVec.toNat_or,np ω,np ω];have b:=Lr h1 a;unfold bor at b |-;exact eM ω ω
theorem yd(h:ab)(i:Nat)(n:du h.Spans)(d:ya h)(a:∀s∈h.Spans,aY s=true)(y:i<h.Spans.length):ao Tryz.prog 342 false [.val (some 24) (ab.enc .imm h),.val none [I (i:Nat)]] .one [I (gW h i)]:=by
 have F:=n.1;have G:=ah y;have g:=vj a y;have B:=aG ((i:Nat):Int) 0 ((h.Spans.length:Int) - 1);rw[O0 (show(0:Int)<=(i:Nat)/\((i:Nat):Int)<=(h.Spans.length:Int) - 1 by omega)]at B;have C:=gZ h (nth h.Spans i).Page d;have o:=gR h (nth h.Spans i).Page;have H:dS h<=1048576:=d.1;have c:gW h i=jE h.Spans (aT h (nth h.Spans i).Page) (nth h.Spans i).Bits (aT h (nth h.Spans i).Page).length:=rfl;obtain⟨ps,q⟩ : ∃ps,aT h (nth h.Spans i).Page=ps:=⟨_,rfl⟩
 obtain⟨b,r⟩ : ∃b,(nth h.Spans i).Bits=b:=⟨_,rfl⟩
 rw[q]at C o c;rw[r]at c g;rw[c];have J:jE h.Spans ps b 0=b:=rfl;refine fO 63 [(4,7,[22,23,24,25,26,27,28]),(11,10,[43,44,45,46,47,48,49,50,51,52])] Tryz.func342 rfl ?_
 repeat'(first|refine gO ?_|(conv=>whnf);first|with_reducible refine CB (aa G) ?_|refine C7 (B) ?_|refine C7 (C) ?_)
 (conv=>whnf)
 refine CE (ι:=Nat) (λu=>[(2,.hold .box (ab.enc .imm h)),(5,.hold .one [I (jE h.Spans ps b u)]),(6,.hold .one (aF .own ps)),(7,.hold .one [I ((u:Nat):Int)])]) (λu=>u<=ps.length) (λu=>ps.length - u) (0) ?_ (U0 _) λu M=>?_
 ·exact wB
 by_cases K:u<ps.length
 ·have l:=ah K
  have t:=rK a (ps:=ps) g u
  repeat'(first|refine gD ?_|fail)
  (conv=>whnf)
  refine CE (ι:=Nat) (λj=>[(2,.hold .box (ab.enc .imm h)),(5,.hold .one [I (si h.Spans (nth ps u) (jE h.Spans ps b u) j)]),(6,.hold .one (aF .own ps)),(7,.hold .one [I ((u:Nat):Int)]),(8,.hold .one [I ((j:Nat):Int)])]) (λj=>j<=h.Spans.length) (λj=>h.Spans.length - j) (0) ?_ (U0 _) λj L=>?_
  ·exact wB
  by_cases D:j<h.Spans.length
  ·have E:=ah D
   have w:=vd a (p:=nth ps u) t j L;by_cases e:(nth h.Spans j).Page=nth ps u
   ·have k:si h.Spans (nth ps u) (jE h.Spans ps b u) (j+1)=bor (si h.Spans (nth ps u) (jE h.Spans ps b u) j) (nth h.Spans j).Bits:=C9 e
    repeat'(first|refine gA ?_|(conv=>whnf);first|with_reducible (first|refine CB (aa l) ?_|refine CB (aa E) ?_)|refine CH rfl (aa l) rfl ?_|refine CK (or64 w (vj a D)) ?_)
    ((conv=>whnf);refine CD (j+1) ω ω ?_;(exact wB))
   ·have k:si h.Spans (nth ps u) (jE h.Spans ps b u) (j+1)=si h.Spans (nth ps u) (jE h.Spans ps b u) j:=C8 e
    repeat'(first|refine gA ?_|(conv=>whnf);first|with_reducible (first|refine CB (aa l) ?_|refine CB (aa E) ?_)|refine CH rfl (aa l) rfl ?_)
    ((conv=>whnf);refine CD (j+1) ω ω ?_;(exact wB))
  ·obtain rfl:j=h.Spans.length:=ω
   repeat'(first|refine gD ?_|fail)
   ((conv=>whnf);refine CD (u+1) ω ω ?_;(exact wB))
 ·obtain rfl:u=ps.length:=ω
  repeat'(first|refine gD ?_|fail)
  rfl
end Go.Proofs.YtembpgjjnioagaaGreat.Ab
