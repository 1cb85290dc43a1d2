/- Cells copied and stored: the program's. No condition. -/
import Derived.Test.YtembpgjjnioagaaGreatWwd
import Derived.Test.YtembpgjjnioagaaGreatWwf
import Derived.Test.YtembpgjjnioagaaGreatWwe
set_option linter.unusedVariables false
set_option linter.unusedSimpArgs false
set_option linter.constructorNameAsVariable false
namespace Go.Proofs.YtembpgjjnioagaaGreat.Ab
open Go.RowKit
set_option maxRecDepth 20000
set_option maxHeartbeats 4000000
theorem row16{k:af}(a:aB k=true){f:Nat}(b:f<k.Machine.Frames.Cells.length):(nth k.Machine.Frames.Cells f).length=16:=by
 have:=(aY.1 (aC.1 a).2.1).2.2.2 f b;unfold hJ at this;simp only[I0,C0]at this;omega
def setCell(k:af)(f:Nat)(c v:Int):af:={k with Machine:=⟨⟨k.Machine.Frames.Cells.set f ((nth k.Machine.Frames.Cells f).set c.toNat v),k.Machine.Frames.Used⟩,k.Machine.Table⟩}
theorem El(k:af)(f:Nat)(c v:Int):af.enc .own (setCell k f c v)=(af.enc .own k).set 0 (.s .own ((k.Machine.Frames.Cells.map (aD .own)).set f [.s .own (((nth k.Machine.Frames.Cells f).map (rI .own)).set c.toNat [I v])])):=by
 simp[af.enc,setCell,Z4,aD,rI]
def mC(k:af)(p:Int):Nat:=(ar k.Machine.Table p).Frame.toNat
def yE(k:af)(a b c:Int):af:=setCell k (mC k b) c (nth (nth k.Machine.Frames.Cells (mC k a)) c.toNat)
def Np(k:af)(a b c:Int):Nat->af
 | 0=>k
 | _+1=>yE k a b c
def vt(k:af)(p:Nat)(e:bi):af:={k with Machine:=⟨k.Machine.Frames,⟨k.Machine.Table.Entries.set p e⟩⟩}
theorem JD(k:af)(p:Nat)(e:bi):af.enc .own (vt k p e)=(af.enc .own k).set 2 (.s .own ((k.Machine.Table.Entries.map (bi.enc .own)).set p (bi.enc .own e))):=by
 simp[af.enc,vt,Z4]
theorem KW{k:af}(p:Nat)(e:bi)(h:aG.sml k.Machine.Table):aG.sml (vt k p e).Machine.Table:=by
 refine⟨?_,λx _=>trivial⟩;show(k.Machine.Table.Entries.set p e).length<=_;rw[C1];exact h.1
def Bh(k:af)(p o:Int):af × Bool:=if refd k=true then(du k,false) else(gn (vt (du k) p.toNat ⟨2,(nth k.Machine.Table.Entries o.toNat).Frame⟩) (nth k.Machine.Table.Entries p.toNat).Frame,true)
def ll(m:aQ)(a v:Int):aQ × Int:=
 if(ar m.Table (a / 16)).Mode=0 then(m,1) else if(ar m.Table (a / 16)).Mode=1 then(m,2) else
 (⟨⟨m.Frames.Cells.set (ar m.Table (a / 16)).Frame.toNat ((nth m.Frames.Cells (ar m.Table (a / 16)).Frame.toNat).set (a % 16).toNat v),m.Frames.Used⟩,m.Table⟩,0)
theorem F6(m:aQ)(f:Nat)(c v:Int):aQ.enc .own ⟨⟨m.Frames.Cells.set f ((nth m.Frames.Cells f).set c.toNat v),m.Frames.Used⟩,m.Table⟩ = (aQ.enc .own m).set 0 (.s .own ((m.Frames.Cells.map (aD .own)).set f [.s .own (((nth m.Frames.Cells f).map (rI .own)).set c.toNat [I v])])):=by
 simp[aQ.enc,Z4,aD,rI]
def jmay(k:af)(j:cj):Bool:=(aB k&&decide (k.Calls≠100000))&&(iY j&&decide ((ar k.Machine.Table j.Plan.Keep).Mode≠0/\(ar k.Machine.Table j.Plan.Move).Mode≠0/\(ar k.Machine.Table j.Plan.Keep).Frame≠(ar k.Machine.Table j.Plan.Move).Frame))
def jstep(k:af)(j:cj):af × cj:=
 if j.Phase=0 then((jQ k j.Plan.Move 1).1,{j with Phase:=if(jQ k j.Plan.Move 1).2=true then 1 else 5})
 else if j.Phase=1 then(if j.Next=j.Plan.Cells.length then(k,{j with Phase:=2}) else(yE k j.Plan.Move j.Plan.Keep (nth j.Plan.Cells j.Next.toNat),{j with Next:=j.Next+1}))
 else if j.Phase=2 then((Bh k j.Plan.Move j.Plan.Keep).1,{j with Phase:=if(Bh k j.Plan.Move j.Plan.Keep).2=true then 4 else 3})
 else if j.Phase=3 then(if 0<j.Next then({k with Machine:=(ll k.Machine (j.Plan.Keep*16+nth j.Plan.Cells (j.Next - 1).toNat) 0).1},{j with Next:=j.Next - 1}) else((jQ k j.Plan.Move 2).1,{j with Phase:=if(jQ k j.Plan.Move 2).2=true then 5 else 3}))
 else(k,j)
theorem Kp{k:af}{f:Int}(h1:∀j,j<k.Refuse.length->0<=nth k.Refuse j)(d:dl k.Machine.Frames=true)(g:fE k.Machine.Table k.Machine.Frames.Used.length=true)(h:∀j:Nat,j<k.Machine.Frames.Used.length->(j:Int)≠f->nth k.Machine.Frames.Used j=decide (0<(pagesOn k.Machine.Table (j:Int)).length))(t:0<=f/\f<k.Machine.Frames.Used.length)(l:nth k.Machine.Frames.Used f.toNat=true)(i:0<=k.Calls/\k.Calls<=100000/\k.Refuse.length<=40):aB (gn k f)=true:=by
 obtain⟨n,o,p,q⟩:=aY.1 d;unfold gn;split
 ·rename_i c
  rw[aC];simp only[C1];refine⟨h1,?_,g,λj b=>?_,i⟩
  ·rw[aY]
   simp only[C1,cw];refine⟨n,o,p,λj b=>?_⟩;by_cases a:f.toNat=j
   ·rw[C8 ⟨a,b⟩,C8 ⟨a,ω⟩];decide
   ·rw[C7 (λe=>a e.1),C7 (λe=>a e.1)];exact q j b
  ·rw[cw]
   by_cases a:f.toNat=j
   ·rw[C8 ⟨a,b⟩]
    have:(j:Int)=f:=ω
    rw[this];exact(Q0 λr=>absurd c (Nat.ne_of_gt r)).symm
   ·rw[C7 (λe=>a e.1)];exact h j b ω
 ·rename_i c
  rw[aC];refine⟨h1,d,g,λj b=>?_,i⟩;by_cases a:(j:Int)=f
  ·rw[a,show j=f.toNat by omega,l]
   exact(O0 (Nat.pos_of_ne_zero c)).symm
  ·exact h j b a
def tEq(t a:aG):Prop:=a.Entries.length=t.Entries.length/\∀q:Nat,((nth a.Entries q).Mode≠0↔(nth t.Entries q).Mode≠0)/\(nth a.Entries q).Frame=(nth t.Entries q).Frame
theorem tEq.refl(t:aG):tEq t t:=⟨rfl,λ_=>⟨Iff.rfl,rfl⟩⟩
theorem tEq.of{t a:aG}(h:a=t):tEq t a:=by rw[h];exact tEq.refl t
theorem tEq.pagesOn{t a:aG}(h:tEq t a)(f:Int):Ab.pagesOn a f=Ab.pagesOn t f:=by
 unfold Ab.pagesOn jc;rw[h.1]
 congr 1
 refine List.filter_congr λq _=>?_
 obtain⟨b,c⟩:=h.2 q;unfold Jw;rw[c];exact decide_eq_decide.2 (and_congr b Iff.rfl)
theorem A5{k:af}(h:aB k=true){a:aG}(c:tEq k.Machine.Table a)(i:∀q,q<a.Entries.length->0<=(nth a.Entries q).Mode/\(nth a.Entries q).Mode<=2):aB {k with Machine:=⟨k.Machine.Frames,a⟩} = true:=by
 obtain⟨l,n,o,p,r⟩:=aC.1 h;obtain⟨t,u,w⟩:=br.1 o;rw[aC];refine⟨l,n,br.2 ⟨λj b=>?_,?_,?_⟩,λj b=>?_,r⟩
 ·replace b:j<a.Entries.length:=b
  have e:=t j (by rw[<-c.1];exact b);have d:=i j b;obtain⟨g,y⟩:=c.2 j;show kj _ (nth a.Entries j)=true;unfold kj at e |-;rw[C0]at e |-;rw[y];refine⟨d.1,d.2,λf=>e.2.2.1 (Classical.byContradiction λA=>(g.2 A) f),λf=>e.2.2.2 (g.1 f)⟩
 ·show 1<=a.Entries.length;rw[c.1];exact u
 ·show a.Entries.length<=32;rw[c.1];exact w
 ·show nth k.Machine.Frames.Used j=decide (0<(Ab.pagesOn a (j:Int)).length)
  rw[c.pagesOn];exact p j b
theorem lw{k:af}(h:aB k=true)(f:k.Calls≠100000):aB (du k)=true:=by
 obtain⟨a,b,c,d,g,i,e⟩:=aC.1 h;rw[aC];exact⟨a,b,c,d,by show 0<=k.Calls+1;omega,by show k.Calls+1<=100000;omega,e⟩
theorem rY{k:af}{p m:Int}(a:(nth k.Machine.Table.Entries p.toNat).Mode≠0)(b:m=1\/m=2):tEq k.Machine.Table (vm k p m).Machine.Table:=by
 refine⟨by simp[vm],λq=>?_⟩;simp only[vm,cw];split
 ·rename_i e
  rw[<-e.1];exact⟨⟨λ_=>a,λ_=>by show m≠0;omega⟩,rfl⟩
 ·exact⟨Iff.rfl,rfl⟩
theorem Jy{k:af}(h:aB k=true){p m:Int}(d:(nth k.Machine.Table.Entries p.toNat).Mode≠0)(a:m=1\/m=2):aB (vm k p m)=true:=by
 refine A5 h (rY d a) λq e=>?_
 obtain⟨i,j,f,l,n⟩:=aC.1 h;obtain⟨g,o,r⟩:=br.1 f;have c:q<k.Machine.Table.Entries.length:=by rw[<-(rY d a).1];exact e
 have b:=g q c;unfold kj at b;rw[C0]at b;simp only[cw];split
 ·show 0<=m/\m<=2;omega
 ·exact⟨b.1,b.2.1⟩
theorem Ec{k:af}{p m:Int}(h:aB k=true)(c:k.Calls≠100000)(b:(ar k.Machine.Table p).Mode≠0)(a:m=1\/m=2):aB (jQ k p m).1=true/\tEq k.Machine.Table (jQ k p m).1.Machine.Table:=by
 obtain⟨e,f,d,-⟩:=ch h b;rw[d]at b;unfold jQ;split
 ·exact⟨lw h c,tEq.refl _⟩
 ·exact⟨Jy (lw h c) b a,rY (k:=du k) b a⟩
theorem iK{k:af}(h:aB k=true){p:Int}(b:(ar k.Machine.Table p).Mode≠0):mC k p<k.Machine.Frames.Cells.length/\nth k.Machine.Frames.Used (mC k p)=true/\((mC k p:Nat):Int)=(nth k.Machine.Table.Entries p.toNat).Frame:=by
 obtain⟨f,g,a,i,j⟩:=ch h b;obtain⟨l,d,n,e,o⟩:=aC.1 h;obtain⟨q,r,t,u⟩:=aY.1 d;have c:((mC k p:Nat):Int)=(ar k.Machine.Table p).Frame:=by unfold mC;omega
 refine⟨ω,?_,by rw[c,a]⟩;rw[e _ ω,c];refine O0 (ef.2 ⟨p.toNat,ω,?_,?_⟩)
 ·rw[<-a];exact b
 ·rw[<-a]
theorem JL{k:af}(h:aB k=true){f:Nat}{a:List Int}(c:a.length=16)(d:∀v∈a,0<=v/\v<=999)(g:nth k.Machine.Frames.Used f=true):aB {k with Machine:=⟨⟨k.Machine.Frames.Cells.set f a,k.Machine.Frames.Used⟩,k.Machine.Table⟩} = true:=by
 obtain⟨i,l,n,o,p⟩:=aC.1 h;obtain⟨q,r,t,u⟩:=aY.1 l;refine aC.2 ⟨i,aY.2 ⟨?_,?_,?_,λj b=>?_⟩,n,o,p⟩
 ·simp only[C1];exact q
 ·simp only[C1];exact r
 ·simp only[C1];exact t
 ·simp only[C1]at b |-
  simp only[cw];split
  ·rename_i e
   obtain⟨rfl,-⟩:=e;unfold hJ;simp only[I0,C0,O3];refine⟨c,λv w=>?_⟩;have:=d v w;unfold iD;simp[g,this]
  ·exact u j b
theorem zx{k:af}(h:aB k=true){f:Nat}(b:f<k.Machine.Frames.Cells.length):(nth k.Machine.Frames.Cells f).length=16/\∀v∈nth k.Machine.Frames.Cells f,0<=v/\v<=999:=by
 obtain⟨g,c,i,j,l⟩:=aC.1 h;obtain⟨n,o,p,d⟩:=aY.1 c;have a:=d f b;unfold hJ at a;simp only[I0,C0,O3]at a;refine⟨a.1,λv e=>?_⟩;have:=a.2 v e;unfold iD at this;simp only[I0,C0]at this;exact this.1
theorem pG{k:af}(h:aB k=true){f:Nat}(b:f<k.Machine.Frames.Cells.length)(d:nth k.Machine.Frames.Used f=true){c v:Int}(e:0<=v/\v<=999):aB (setCell k f c v)=true:=by
 obtain⟨g,i⟩:=zx h b;refine JL h (by rw[C1];exact g) (λz a=>?_) d;rcases z5 a with a|rfl
 ·exact i z a
 ·exact e
theorem KR{k:af}(h:aB k=true){a b c:Int}(d:(ar k.Machine.Table a).Mode≠0)(e:(ar k.Machine.Table b).Mode≠0)(l:0<=c/\c<=15):aB (yE k a b c)=true:=by
 obtain⟨f,n,-⟩:=iK h d;obtain⟨g,i,-⟩:=iK h e;obtain⟨o,j⟩:=zx h f;exact pG h g i (j _ (am ω))
theorem N6{k:af}{p o:Int}(h:aB k=true)(u:k.Calls≠100000)(i:(ar k.Machine.Table p).Mode≠0)(d:(ar k.Machine.Table o).Mode≠0)(w:p≠o):aB (Bh k p o).1=true:=by
 unfold Bh;split
 ·exact lw h u
 obtain⟨O,y,A⟩:=iK h i;obtain⟨P,Q,R⟩:=iK h d;obtain⟨S,T,B,r,t⟩:=ch h i;obtain⟨U,V,C,D,E⟩:=ch h d;obtain⟨F,G,H,J,W,X,K⟩:=aC.1 h;obtain⟨L,M,N⟩:=br.1 H;rw[C]at D E d;rw[B]at r t i;have a:∀q,nth (k.Machine.Table.Entries.set p.toNat ⟨2,(nth k.Machine.Table.Entries o.toNat).Frame⟩) q=if p.toNat=q then⟨2,(nth k.Machine.Table.Entries o.toNat).Frame⟩ else nth k.Machine.Table.Entries q:=λq=>by
  rw[cw];by_cases f:p.toNat=q
  ·rw[C8 ⟨f,ω⟩,C8 f]
  ·rw[C7 (λe=>f e.1),C7 f]
 refine Kp F G (br.2 ⟨λj c=>?_,?_,?_⟩) (λj c l=>?_) ⟨r,t⟩ (by rw[<-A];exact y) ⟨by show 0<=k.Calls+1;omega,by show k.Calls+1<=100000;omega,K⟩
 ·simp only[vt,du,C1]at c |-
  rw[a];split
  ·unfold kj;rw[C0];simp only;omega
  ·exact L j c
 ·simp only[vt,du,C1];exact M
 ·simp only[vt,du,C1];exact N
 ·replace c:j<k.Machine.Frames.Used.length:=c
  show nth k.Machine.Frames.Used j=_;rw[J j c];refine decide_eq_decide.2 ?_;rw[ef,ef];simp only[vt,du,C1,a];constructor
  ·rintro⟨q,n,g,b⟩
   refine⟨q,n,?_⟩;rw[C7 (λe=>l (by rw[<-b,<-e]))];exact⟨g,b⟩
  ·rintro⟨q,n,g,b⟩
   by_cases e:p.toNat=q
   ·rw[C8 e]at b
    exact⟨o.toNat,ω,d,b⟩
   ·rw[C7 e]at g b
    exact⟨q,n,g,b⟩
theorem MT{k:af}{p o:Int}(h:aB k=true)(b:(ar k.Machine.Table p).Mode≠0)(a:(Bh k p o).2=true)(q:Nat):(Bh k p o).1.Machine.Table.Entries.length=k.Machine.Table.Entries.length/\nth (Bh k p o).1.Machine.Table.Entries q=if(q:Int)=p then⟨2,(nth k.Machine.Table.Entries o.toNat).Frame⟩ else nth k.Machine.Table.Entries q:=by
 obtain⟨d,f,-⟩:=ch h b;unfold Bh at a |-;split at a
 ·cases a
 rename_i c;rw[C7 c];simp only[(ou _ _).1];simp only[vt,du,C1,cw];refine⟨trivial,?_⟩;by_cases e:(q:Int)=p
 ·rw[C8 ⟨ω,ω⟩,C8 e]
 ·rw[C7 λz=>e ω,C7 e]
theorem Pd{k:af}{p o:Int}(a:(Bh k p o).2=false):(Bh k p o).1=du k:=by
 unfold Bh at a |-;split
 ·rfl
 ·rename_i b;rw[C7 b]at a;cases a
theorem GT{k:af}{a v:Int}(h:aB k=true)(g:0<=a)(b:0<=v/\v<=999):aB {k with Machine:=(ll k.Machine a v).1} = true/\(ll k.Machine a v).1.Table=k.Machine.Table:=by
 unfold ll;split
 ·exact⟨h,rfl⟩
 rename_i d;split
 ·exact⟨h,rfl⟩
 ·obtain⟨e,f,-⟩:=iK h d
  exact⟨pG h e f (c:=a % 16) b,rfl⟩
def oo(t:aG)(p:Int):Prop:=∀q:Nat,(nth t.Entries q).Mode≠0->(nth t.Entries q).Frame=(nth t.Entries p.toNat).Frame->(q:Int)=p
structure JI(h:ab):Prop where
 ph:h.Meshing=true->0<=h.Job.Phase/\h.Job.Phase<=3
 sp:h.Meshing=true->∃a∈h.Spans,∃b∈h.Spans,a.Page=h.Job.Plan.Keep/\b.Page=h.Job.Plan.Move/\meshable a b=true
 sk:h.Meshing=true->oo (tbl h) h.Job.Plan.Keep
 sm:h.Meshing=true->oo (tbl h) h.Job.Plan.Move
theorem oo.tEq{t a:aG}{p:Int}(h:oo t p)(b:tEq t a):oo a p:=λq c d=>by
 obtain⟨e,f⟩:=b.2 q;exact h q (e.1 c) (by rw[<-f,<-(b.2 p.toNat).2];exact d)
theorem Pg.tEq{t b:aG}{c:List ay}{sp:List au}{la:List ax}(h:Pg t c sp la)(a:tEq t b):Pg b c sp la where
 one l hl p hp q hq h1 h2:=h.one l hl p hp q (by rw[<-a.1];exact hq) ((a.2 q).1.1 h1) (by rw[<-(a.2 q).2,<-(a.2 p).2];exact h2)
 bnd p hp:=by rw[a.1];exact h.bnd p hp
 own p hp:=(a.2 p).1.trans (h.own p (by rw[<-a.1];exact hp))
 fre p hp:=(a.2 p).1.trans (h.fre p (by rw[<-a.1];exact hp))
 mesh s hs u hu hne hf:=h.mesh s hs u hu hne (by rw[<-(a.2 _).2,<-(a.2 u.Page.toNat).2];exact hf)
theorem bn.step{h:ab}{E:List Int}(a:bn h E){k:af}(b:aB k=true)(c:k.Machine.Table.Entries.length=(tbl h).Entries.length)(d:Pg k.Machine.Table h.Free h.Spans h.Larges){j:cj}{m:Bool}(h1:m=true->iY j=true/\(∃s∈h.Spans,s.Page=j.Plan.Keep)/\∃s∈h.Spans,s.Page=j.Plan.Move)(e:m=false->qG j=true):bn {h with Kernel:=k,Meshing:=m,Job:=j} E:=
 {a with
   ker:=b
   rng:=by show bx ((k.Machine.Table.Entries.length:Nat):Int) h.Free=true;rw[c];exact a.rng
   pg:=d
   job:=h1
   noj:=e}
theorem ri.apart{sp:List au}{la:List ax}(b:ri sp la){s:au}(c:s∈sp){l:ax}(d:l∈la){p:Int}(a:p∈lpgs l l.Pages.toNat):s.Page≠p:=by
 unfold lpgs at a;simp only[U3,List.mem_range]at a;obtain⟨k,e,rfl⟩:=a;exact b.dis s c l d k e
theorem Pg.on{t H:aG}{Q:List ay}{sp:List au}{la:List ax}(h:Pg t Q sp la)(r:ri sp la){a b:au}(w:a∈sp)(L:b∈sp)(R:meshable a b=true)(A:oo t a.Page)(M:(nth t.Entries a.Page.toNat).Mode≠0)(N:(nth t.Entries b.Page.toNat).Mode≠0)(U:0<=b.Page)(J:H.Entries.length=t.Entries.length)(B:∀q:Nat,nth H.Entries q=if(q:Int)=b.Page then⟨2,(nth t.Entries a.Page.toNat).Frame⟩ else nth t.Entries q):Pg H Q sp la:=by
 have c:∀q:Nat,(nth H.Entries q).Mode≠0↔(nth t.Entries q).Mode≠0:=λq=>by
  rw[B];split
  ·rename_i e
   rw[show q=b.Page.toNat by omega];exact⟨λ_=>N,λ_=>by show(2:Int)≠0;omega⟩
  ·rfl
 have V:0<=a.Page:=by have:=r.sok a w;unfold bc at this;rw[C0]at this;omega
 refine⟨λl k p g q W S C=>?_,λp g=>by rw[J];exact h.bnd p g,λp g=>(c p).trans (h.own p (by rw[<-J];exact g)),λp g=>(c p).trans (h.fre p (by rw[<-J];exact g)),λs D u E F n=>?_⟩
 ·have O:¬(p:Int)=b.Page:=λe=>r.apart L k g e.symm
  rw[B p,C7 O,B q]at C;rw[c]at S;by_cases e:(q:Int)=b.Page
  ·rw[C8 e]at C
   have T:=h.one l k p g a.Page.toNat (by have:=h.bnd _ (d3 (la:=la) w);omega) M C;exact absurd (show a.Page=(p:Int) by omega) (r.apart w k g)
  ·rw[C7 e]at C
   exact h.one l k p g q (by rw[<-J];exact W) S C
 ·have X:0<=s.Page:=by have:=r.sok s D;unfold bc at this;rw[C0]at this;omega
  have Y:0<=u.Page:=by have:=r.sok u E;unfold bc at this;rw[C0]at this;omega
  have d:∀x∈sp,∀y∈sp,x.Page=y.Page->x=y:=λx G y Z e=>by
   obtain⟨i,hi,rfl⟩:=bf G;obtain⟨j,hj,rfl⟩:=bf Z;rw[gG (f:=(·.Page)) r.nd hi hj e]
  have o:∀x∈sp,(nth t.Entries x.Page.toNat).Mode≠0:=λx G=>by
   have hx0:0<=x.Page:=by have:=r.sok x G;unfold bc at this;rw[C0]at this;omega
   refine(h.own x.Page.toNat (by have:=h.bnd _ (d3 (la:=la) G);omega)).2 ?_;rw[show((x.Page.toNat:Nat):Int)=x.Page by omega];exact d3 G
  rw[B,B]at n;simp only[show((s.Page.toNat:Nat):Int)=s.Page by omega,show((u.Page.toNat:Nat):Int)=u.Page by omega]at n;by_cases K:s.Page=b.Page
  ·rw[C8 K,C7 (λe=>F (K.trans e.symm))]at n
   have T:=A u.Page.toNat (o u E) n.symm;rw[d s D b L K,d u E a w ω,iM];exact R
  ·rw[C7 K]at n
   by_cases P:u.Page=b.Page
   ·rw[C8 P]at n
    have T:=A s.Page.toNat (o s D) n;rw[d u E b L P,d s D a w ω];exact R
   ·rw[C7 P]at n
    exact h.mesh s D u E F n
def over(j:cj):Bool:=decide (j.Phase=4\/j.Phase=5)
def jg(k:af)(j:cj):af × cj:=if jmay k j=true then jstep k j else(k,j)
def mStep(h:ab):ab:={h with Kernel:=(jg h.Kernel h.Job).1,Meshing:=if over (jg h.Kernel h.Job).2=true then false else h.Meshing,Job:=if over (jg h.Kernel h.Job).2=true then⟨⟨0,0,[]⟩,0,0⟩ else(jg h.Kernel h.Job).2}
def B3(h:ab):Bool:=decide ((jg h.Kernel h.Job).2.Phase=4)
theorem f6{j:cj} : iY j=true↔eH j.Plan=true/\0<=j.Phase/\j.Phase<=5/\0<=j.Next/\j.Next<=j.Plan.Cells.length:=by
 unfold iY;simp only[I0,C0]
theorem l9{p:ci}(h:eH p=true){i:Nat}(a:i<p.Cells.length):0<=nth p.Cells i/\nth p.Cells i<=15:=by
 unfold eH at h;simp only[I0]at h;have:=dM h.1 a;unfold mb at this;rw[C0]at this;exact⟨this.1,this.2.1⟩
structure JS(h:ab)(k:af)(j:cj):Prop where
 ker:aB k=true
 len:k.Machine.Table.Entries.length=(tbl h).Entries.length
 pg:j.Phase≠4\/JI h->Pg k.Machine.Table h.Free h.Spans h.Larges
 ph:0<=j.Phase/\j.Phase<=5
 plan:j.Plan=h.Job.Plan
 nxt:0<=j.Next/\j.Next<=j.Plan.Cells.length
 eq:j.Phase≠4->tEq (tbl h) k.Machine.Table
 calls:h.Kernel.Calls<=k.Calls/\k.Calls<=h.Kernel.Calls+1/\k.Refuse=h.Kernel.Refuse
theorem w8(k:af)(p m:Int):(jQ k p m).1.Calls=k.Calls+1/\(jQ k p m).1.Refuse=k.Refuse:=by
 unfold jQ;split<;>exact⟨rfl,rfl⟩
theorem LN(k:af)(p o:Int):(Bh k p o).1.Calls=k.Calls+1/\(Bh k p o).1.Refuse=k.Refuse:=by
 unfold Bh;split
 ·exact⟨rfl,rfl⟩
 ·obtain⟨-,a,b,-⟩:=ou (vt (du k) p.toNat ⟨2,(nth k.Machine.Table.Entries o.toNat).Frame⟩) (nth k.Machine.Table.Entries p.toNat).Frame
  simp only[a,b];exact⟨rfl,rfl⟩
theorem JS.of{h:ab}{E:List Int}(c:bn h E)(B:h.Meshing=true):JS h (jg h.Kernel h.Job).1 (jg h.Kernel h.Job).2:=by
 obtain⟨R,-,-⟩:=c.job B;obtain⟨O,y,A,o,p⟩:=f6.1 R;unfold jg;split
 case isFalse=>exact⟨c.ker,rfl,λ_=>c.pg,⟨y,A⟩,rfl,⟨o,p⟩,λ_=>tEq.refl _,z4 _,by show h.Kernel.Calls<=h.Kernel.Calls+1;omega,rfl⟩
 rename_i d;unfold jmay at d;simp only[I0,C0]at d;obtain⟨⟨-,C⟩,-,u,r,D⟩:=d;have fin:∀(k:af)(j:cj),aB k=true->tEq (tbl h) k.Machine.Table->0<=j.Phase/\j.Phase<=5->j.Plan=h.Job.Plan->0<=j.Next/\j.Next<=j.Plan.Cells.length->h.Kernel.Calls<=k.Calls/\k.Calls<=h.Kernel.Calls+1/\k.Refuse=h.Kernel.Refuse->JS h k j:=
  λk j S F T U V W=>⟨S,F.1,λ_=>c.pg.tEq F,T,U,V,λ_=>F,W⟩
 have P:=(aC.1 c.ker).2.2.2.2;unfold jstep;split
 ·obtain⟨l,w⟩:=Ec c.ker C r (m:=1) (.inl rfl)
  obtain⟨g,t⟩:=w8 h.Kernel h.Job.Plan.Move 1;refine fin _ _ l w ?_ rfl ⟨o,p⟩ ⟨by rw[g];omega,by rw[g];omega,t⟩;show 0<=(if _ then _ else _:Int)/\(if _ then _ else _:Int)<=5;split<;>omega
 split
 ·split
  ·exact fin _ _ c.ker (tEq.refl _) ⟨by show(0:Int)<=2;omega,by show(2:Int)<=5;omega⟩ rfl ⟨o,p⟩ ⟨z4 _,by show h.Kernel.Calls<=h.Kernel.Calls+1;omega,rfl⟩
  ·have n:=l9 O (i:=h.Job.Next.toNat) ω
   refine fin _ _ (KR c.ker r u n) (tEq.refl _) ⟨y,A⟩ rfl ⟨by show 0<=h.Job.Next+1;omega,by show h.Job.Next+1<=h.Job.Plan.Cells.length;omega⟩ ⟨z4 _,by show h.Kernel.Calls<=h.Kernel.Calls+1;omega,rfl⟩
 split
 ·have G:h.Job.Plan.Move≠h.Job.Plan.Keep:=λe=>D (by rw[e])
  have l:=N6 c.ker C r u G;obtain⟨g,t⟩:=LN h.Kernel h.Job.Plan.Move h.Job.Plan.Keep;cases e:(Bh h.Kernel h.Job.Plan.Move h.Job.Plan.Keep).2 with
  | false=>
   rw[C7 (by simp)];refine fin _ _ l (tEq.of ?_) ⟨by show(0:Int)<=3;omega,by show(3:Int)<=5;omega⟩ rfl ⟨o,p⟩ ⟨by rw[g];omega,by rw[g];omega,t⟩;rw[Pd e];rfl
  | true=>
   rw[C8 rfl];obtain⟨X,m2,Y,-⟩:=ch c.ker r;obtain⟨n1,n2,Z,-⟩:=ch c.ker u;have f:=MT c.ker r e;refine⟨l,(f 0).1,λH=>?_,⟨by show(0:Int)<=4;omega,by show(4:Int)<=5;omega⟩,rfl,⟨o,p⟩,λJ=>absurd rfl J,by rw[g];omega,by rw[g];omega,t⟩;have Q:JI h:=H.elim (λJ=>absurd rfl J) id;obtain⟨a,ha,b,hb,K,M,N⟩:=Q.sp B;refine c.pg.on c.L ha hb N (by rw[K];exact Q.sk B) (by rw[K];show(nth h.Kernel.Machine.Table.Entries _).Mode≠0;rw[<-Z];exact u) (by rw[M];show(nth h.Kernel.Machine.Table.Entries _).Mode≠0;rw[<-Y];exact r) (by rw[M];exact X) (f 0).1 λq=>?_
   rw[(f q).2,M,K];rfl
 split
 ·split
  ·rename_i hn0
   have n:=l9 O (i:=(h.Job.Next - 1).toNat) ω;have hk0:=(ch c.ker u).1;obtain⟨l,w⟩:=GT c.ker (a:=h.Job.Plan.Keep*16+nth h.Job.Plan.Cells (h.Job.Next - 1).toNat) (v:=0) ω ⟨ω,ω⟩;exact fin _ _ l (tEq.of w) ⟨y,A⟩ rfl ⟨by show 0<=h.Job.Next - 1;omega,by show h.Job.Next - 1<=h.Job.Plan.Cells.length;omega⟩ ⟨z4 _,by show h.Kernel.Calls<=h.Kernel.Calls+1;omega,rfl⟩
  ·obtain⟨l,w⟩:=Ec c.ker C r (m:=2) (.inr rfl)
   obtain⟨g,t⟩:=w8 h.Kernel h.Job.Plan.Move 2;refine fin _ _ l w ?_ rfl ⟨o,p⟩ ⟨by rw[g];omega,by rw[g];omega,t⟩;show 0<=(if _ then _ else _:Int)/\(if _ then _ else _:Int)<=5;split<;>omega
 ·exact fin _ _ c.ker (tEq.refl _) ⟨y,A⟩ rfl ⟨o,p⟩ ⟨z4 _,by show h.Kernel.Calls<=h.Kernel.Calls+1;omega,rfl⟩
theorem bn.mStep{h:ab}{E:List Int}(d:bn h E)(f:JI h)(c:h.Meshing=true):bn (mStep h) E/\JI (mStep h):=by
 have s:=JS.of d c;unfold Ab.mStep;generalize (jg h.Kernel h.Job).1=k at s |-;generalize (jg h.Kernel h.Job).2=j at s |-;cases e:over j with
 | true=>
  refine⟨d.step s.ker s.len (s.pg (.inr f)) (λh=>by simp at h) (λ_=>by simp[qG]),?_⟩;exact⟨λh=>by simp at h,λh=>by simp at h,λh=>by simp at h,λh=>by simp at h⟩
 | false=>
  simp only[Bool.false_eq_true,if_false];unfold over at e;simp only[Y3,not_or]at e;have g:=s.eq e.1;have i:=s.ph;refine⟨d.step s.ker s.len (s.pg (.inr f)) (λ_=>⟨f6.2 ⟨by rw[s.plan];exact(f6.1 (d.job c).1).1,s.ph.1,s.ph.2,s.nxt⟩,by rw[s.plan];exact(d.job c).2⟩) (λh=>by rw[c]at h;cases h),?_⟩;refine⟨λ_=>⟨s.ph.1,by show j.Phase<=3;omega⟩,λ_=>?_,λ_=>?_,λ_=>?_⟩
  ·show ∃a∈h.Spans,∃b∈h.Spans,a.Page=j.Plan.Keep/\b.Page=j.Plan.Move/\meshable a b=true
   rw[s.plan];exact f.sp c
  ·show oo k.Machine.Table j.Plan.Keep
   rw[s.plan];exact(f.sk c).tEq g
  ·show oo k.Machine.Table j.Plan.Move
   rw[s.plan];exact(f.sm c).tEq g
def NZ(k:af)(a:Int):Int:=nth (nth k.Machine.Frames.Cells (ar k.Machine.Table (a / 16)).Frame.toNat) (a % 16).toNat
def cellsOf(k:af)(a:Int)(n:Nat):List Int:=(List.range n).map λ(i:Nat)=>NZ k (a+i)
theorem pB{n:Int}(h:0<=aK n):1<=n/\n<=8:=by
 unfold aK at h;split at h
 ·omega
 ·split at h
  ·omega
  ·split at h
   ·omega
   ·split at h
    ·omega
    ·split at h<;>omega
def PY{α:Type}[Inhabited α](f:α->Int)(xs:List α):Nat->Int
 | 0=>0
 | i+1=>PY f xs i+f (nth xs i)
def bor(n m:Int):Int:=((n.toNat ||| m.toNat:Nat):Int)
def qv(sp:List au)(p:Int)(b:Int):Nat->Int
 | 0=>b
 | j+1=>if(nth sp j).Page=p then bor (qv sp p b j) (nth sp j).Bits else qv sp p b j
def jr(sp:List au)(ps:List Int)(b:Int):Nat->Int
 | 0=>b
 | k+1=>qv sp (nth ps k) (jr sp ps b k) sp.length
def gu(h:ab)(i:Nat):Int:=jr h.Spans (aT h (nth h.Spans i).Page) (nth h.Spans i).Bits (aT h (nth h.Spans i).Page).length
theorem KF{n m:Int}(h1:0<=n/\n<=65535)(a:0<=m/\m<=65535):0<=bor n m/\bor n m<=65535:=by
 have b:n.toNat ||| m.toNat<2 ^ 16:=Nat.or_lt_two_pow ω ω
 unfold bor;omega
theorem uw{sp:List au}(h:∀s∈sp,bc s=true){j:Nat}(b:j<sp.length):0<=(nth sp j).Bits/\(nth sp j).Bits<=65535:=by
 have a:=h _ (am b);have c:=FS (nth sp j).Class;unfold bc at a;rw[C0]at a;omega
theorem u9{sp:List au}(h:∀s∈sp,bc s=true){p b:Int}(a:0<=b/\b<=65535):∀j,j<=sp.length->0<=qv sp p b j/\qv sp p b j<=65535
 | 0,_=>a
 | j+1,d=>by
  have c:=u9 h (p:=p) a j ω;simp only[qv];split
  ·exact KF c (uw h ω)
  ·exact c
theorem qR{sp:List au}(h:∀s∈sp,bc s=true){ps:List Int}{b:Int}(a:0<=b/\b<=65535):∀k,0<=jr sp ps b k/\jr sp ps b k<=65535
 | 0=>a
 | k+1=>by simp only[jr];exact u9 h (qR h a k) _ (R2 _)
theorem mJ{b i:Int}(a:0<=b)(c:0<=i/\i<=15):aX b i=b.toNat.testBit i.toNat:=by
 unfold aX;rw[Nat.testBit_eq_decide_div_mod_eq];refine decide_eq_decide.2 ?_;obtain⟨n,rfl⟩ : ∃n:Nat,b=n:=⟨b.toNat,ω⟩
 rw[I2];have d:((n / 2 ^ i.toNat:Nat):Int)=(n:Int) / 2 ^ i.toNat:=by simp
 omega
theorem EX{n m i:Int}(b:0<=n)(c:0<=m)(a:0<=i/\i<=15):aX (bor n m) i=(aX n i || aX m i):=by
 rw[mJ (by unfold bor;omega) a,mJ b a,mJ c a];unfold bor;rw[I2,Nat.testBit_or]
theorem DO{sp:List au}(h:∀s∈sp,bc s=true){p b i:Int}(k:0<=b/\b<=65535)(l:0<=i/\i<=15):∀j,j<=sp.length->(aX (qv sp p b j) i=true↔aX b i=true\/∃q,q<j/\(nth sp q).Page=p/\aX (nth sp q).Bits i=true)
 | 0,_=>by simp[qv]
 | j+1,t=>by
  have n:=DO h (p:=p) k l j ω;have o:=u9 h (p:=p) k j ω;have r:=uw h (j:=j) ω;simp only[qv];split
  ·rename_i d
   rw[EX o.1 r.1 l,t5,n];constructor
   ·rintro((e|⟨q,f,a⟩)|e)
    ·exact .inl e
    ·exact .inr ⟨q,ω,a⟩
    ·exact .inr ⟨j,ω,d,e⟩
   ·rintro(e|⟨q,f,a,c⟩)
    ·exact .inl (.inl e)
    ·by_cases g:q=j
     ·subst g;exact .inr c
     ·exact .inl (.inr ⟨q,ω,a,c⟩)
  ·rename_i d
   rw[n];constructor
   ·rintro(e|⟨q,f,a⟩)
    ·exact .inl e
    ·exact .inr ⟨q,ω,a⟩
   ·rintro(e|⟨q,f,a,c⟩)
    ·exact .inl e
    ·by_cases g:q=j
     ·subst g;exact absurd a d
     ·exact .inr ⟨q,ω,a,c⟩
theorem yD{sp:List au}(h:∀s∈sp,bc s=true){ps:List Int}{b i:Int}(d:0<=b/\b<=65535)(f:0<=i/\i<=15):∀k,(aX (jr sp ps b k) i=true↔aX b i=true\/∃u,u<k/\∃q,q<sp.length/\(nth sp q).Page=nth ps u/\aX (nth sp q).Bits i=true)
 | 0=>by simp[jr]
 | k+1=>by
  have g:=yD h (ps:=ps) d f k;have j:=qR h (ps:=ps) d k;simp only[jr];rw[DO h j f _ (R2 _),g];constructor
  ·rintro((e|⟨u,c,a⟩)|⟨q,c,a⟩)
   ·exact .inl e
   ·exact .inr ⟨u,ω,a⟩
   ·exact .inr ⟨k,ω,q,c,a⟩
  ·rintro(e|⟨u,c,a⟩)
   ·exact .inl (.inl e)
   ·by_cases l:u=k
    ·subst l;exact .inr a
    ·exact .inl (.inr ⟨u,ω,a⟩)
def jE{α:Type}(p:α->Bool)(xs:List α):Nat:=(xs.findIdx? p).getD xs.length
def je{α:Type}(p:α->Bool)(xs:List α)(y:α):List α:=xs.take (jE p xs)++y::xs.drop (jE p xs)
theorem LX{α:Type}(p:α->Bool)(xs:List α):jE p xs<=xs.length:=by
 unfold jE;cases e:xs.findIdx? p with
 | none=>exact R2 _
 | some i=>exact Nat.le_of_lt (R5.1 e).1
theorem jK{α:Type}(p:α->Bool)(xs:List α)(y:α):(je p xs y).Perm (y::xs):=by
 unfold je;refine List.perm_middle.trans ?_;rw[List.take_append_drop]
theorem de{α:Type}{p:α->Bool}{xs:List α}{y z:α} : z∈je p xs y↔z=y\/z∈xs:=by
 rw[(jK p xs y).mem_iff,List.mem_cons]
theorem un{α:Type}{p:α->Bool}{xs:List α}{i:Nat}(c:i<=xs.length)(a:∀(j:Nat)(z:α),j<i->xs[j]? = some z->p z=false)(b:∀z,xs[i]? = some z->p z=true):jE p xs=i:=by
 unfold jE;by_cases e:i<xs.length
 ·rw[uk (U1 e) (b _ (U1 e)) a];rfl
 ·rw[vR ω a];show xs.length=i;omega
theorem k7{α:Type}{f:α->Int}{xs:List α}{y:α}(h:xs.Pairwise λa b=>f a<f b)(p:∀z∈xs,f z≠f y):(je (λz=>decide (f y<=f z)) xs y).Pairwise λa b=>f a<f b:=by
 have q:∀z∈xs.drop (jE (λz=>decide (f y<=f z)) xs),f y<f z:=λz g=>by
  obtain⟨j,k,rfl⟩:=List.mem_drop_iff_getElem.1 g;have C:=p _ (List.getElem_mem k);cases e:xs.findIdx? (λz=>decide (f y<=f z)) with
  | none=>
   have l:jE (λz=>decide (f y<=f z)) xs=xs.length:=by unfold jE;rw[e];rfl
   rw[l]at k;omega
  | some i=>
   have l:jE (λz=>decide (f y<=f z)) xs=i:=by unfold jE;rw[e];rfl
   obtain⟨r,t,-⟩:=R5.1 e;rw[C0]at t;have c:i+j<xs.length:=by rw[<-l];omega
   have n:f xs[i+j]≠f y:=p _ (List.getElem_mem c);have d:f y<f xs[i+j]:=by
    cases j with
    | zero=>simp only[Nat.add_zero]at n |-;omega
    | succ j=>
     have:=List.pairwise_iff_getElem.1 h i (i+(j+1)) r c ω;omega
   have w:xs[jE (λz=>decide (f y<=f z)) xs+j]? = xs[i+j]?:=by rw[l]
   rw[U1 ω,U1 c]at w;rw[Option.some.inj w];exact d
 have A:∀z∈xs.take (jE (λz=>decide (f y<=f z)) xs),f z<f y:=λz g=>by
  obtain⟨j,k,rfl⟩:=List.mem_take_iff_getElem.1 g;unfold jE at k;cases e:xs.findIdx? (λz=>decide (f y<=f z)) with
  | none=>
   have:=List.findIdx?_eq_none_iff.1 e _ (List.getElem_mem (show j<xs.length by omega));simp only[Y3]at this;omega
  | some i=>
   obtain⟨r,t,B⟩:=R5.1 e;simp only[e,Option.getD_some]at k;have:=B j ω;simp only[C0]at this;omega
 unfold je;refine List.pairwise_append.2 ⟨h.sublist (List.take_sublist ..),List.pairwise_cons.2 ⟨q,h.sublist (List.drop_sublist ..)⟩,λz g u o=>?_⟩;rcases List.mem_cons.1 o with rfl|o
 ·exact A z g
 ·exact Int.lt_trans (A z g) (q u o)
def gp(b i:Int):Int:=((b.toNat ||| 2 ^ i.toNat:Nat):Int)
def pC(s:au)(i:Int):au:={s with Bits:=gp s.Bits i}
theorem vu(b i:Int)(j:Nat):(gp b i).toNat.testBit j=(b.toNat.testBit j || decide (i.toNat=j)):=by
 unfold gp;rw[I2,Nat.testBit_or,Nat.testBit_two_pow]
theorem FN{b i:Int}(g:0<=b)(e:0<=i/\i<=15)(j:Int):aX (gp b i) j=true↔aX b j=true\/j=i:=by
 rw[fN,fN,vu,t5,C0];have f:0<=gp b i:=by unfold gp;omega
 constructor
 ·rintro⟨h,c,d,a|a⟩
  ·exact .inl ⟨g,c,d,a⟩
  ·exact .inr ω
 ·rintro(⟨h,c,d,a⟩|rfl)
  ·exact⟨f,c,d,.inl a⟩
  ·exact⟨f,e.1,e.2,.inr rfl⟩
theorem gh{k:Int}(h:0<=k/\k<=3):lim k=2 ^ (slots k).toNat - 1/\0<=slots k/\slots k<=16/\slots k*csz k=16:=by
 obtain rfl|rfl|rfl|rfl:k=0\/k=1\/k=2\/k=3:=ω
 all_goals decide
theorem A3{s:au}(h:bc s=true){i:Int}(k:0<=i/\i<slots s.Class):bc (pC s i)=true:=by
 have b:=aF h;obtain⟨c,l,o,-⟩:=gh b.2.2;unfold bc at h;rw[C0]at h;obtain⟨d,e,f,g,p,a⟩:=h;refine O0 ⟨d,e,f,g,by show 0<=gp s.Bits i;unfold gp;omega,?_⟩;show gp s.Bits i<=lim s.Class;rw[c]at a |-;have j:((2 ^ (slots s.Class).toNat:Nat):Int)=(2:Int) ^ (slots s.Class).toNat:=by norm_cast
 rw[<-j]at a |-;have:=Nat.or_lt_two_pow (x:=s.Bits.toNat) (y:=2 ^ i.toNat) (n:=(slots s.Class).toNat) ω (Nat.pow_lt_pow_right ω ω);unfold gp;omega
theorem zj{s u:au}{i:Int}(b:0<=i/\i<slots s.Class)(c:aX u.Bits i=false)(h:meshable s u=true):meshable (pC s i) u=true:=by
 unfold meshable at h |-;simp only[I0,C0]at h |-;obtain⟨⟨d,f⟩,k,l,o⟩:=h;have p:=aF d;obtain⟨r,t,w,-⟩:=gh p.2.2;have a:=dS f;refine⟨⟨A3 d b,f⟩,k,l,?_⟩;refine Nat.eq_of_testBit_eq λj=>?_
 have g:=T0 (λn=>Nat.testBit n j) o;simp only[Nat.testBit_and,Nat.zero_testBit,pC,vu]at g |-;by_cases e:i.toNat=j
 ·have:u.Bits.toNat.testBit j=false:=by
   rw[<-R4];intro q;have:=(fN u.Bits i).2 ⟨a.1,b.1,ω,by rw[e];exact q⟩;rw[this]at c;cases c
  rw[this];simp
 ·rw[Q0 e,Bool.or_false];exact g
theorem sF{s:au}(h:bc s=true){i:Int}(n:0<=i/\i<slots s.Class)(b:Int):eI (pC s i) b↔eI s b\/b=16*s.Page+i*csz s.Class:=by
 have g:=aF h;obtain⟨o,p,k,l⟩:=gh g.2.2;have j:=cv g.2.2;unfold eI;simp only[pC];rw[FN (dS h).1 ω];constructor
 ·rintro⟨d,f,c,a|a⟩
  ·exact .inl ⟨d,f,c,a⟩
  ·right
   rcases j with e|e|e|e<;>rw[e]at c a |-<;>omega
 ·rintro(⟨d,f,c,a⟩|rfl)
  ·exact⟨d,f,c,.inl a⟩
  ·have q:slots s.Class<=16:=k
   rcases j with e|e|e|e<;>rw[e]at l |-<;>refine⟨?_,?_,?_,.inr ?_⟩<;>omega
theorem H4{sp:List au}{i:Nat}(k:Int)(a:i<sp.length):(sp.set i (pC (nth sp i) k)).map (·.Page)=sp.map (·.Page):=by
 rw[Z4];refine List.ext_getElem (by simp) λj b c=>?_
 rw[List.getElem_set];split
 ·rename_i e;subst e
  rw[List.getElem_map];show(nth sp i).Page=_;rw[bw (U1 a)]
 ·rfl
theorem jd.setS{sp:List au}{la:List ax}(p:ri sp la){i:Nat}(g:i<sp.length){k:Int}(h:0<=k/\k<slots (nth sp i).Class)(b c:Int):jd (sp.set i (pC (nth sp i) k)) b c↔jd sp b c\/(b=16*(nth sp i).Page+k*csz (nth sp i).Class/\(c<0\/(nth sp i).Class=c)):=by
 have d:=p.sok _ (am g);constructor
 ·rintro⟨s,l,f,a⟩
  rcases eQ l with rfl|⟨j,n,q,rfl⟩
  ·rcases(sF d h b).1 f with o|o
   ·exact .inl ⟨_,am g,o,a⟩
   ·exact .inr ⟨o,a⟩
  ·exact .inl ⟨_,am n,f,a⟩
 ·rintro(⟨s,l,f,a⟩|⟨f,a⟩)
  ·obtain⟨j,n,rfl⟩:=bf l
   by_cases e:j=i
   ·subst e
    exact⟨_,ig _ g,(sF d h b).2 (.inl f),a⟩
   ·exact⟨_,iW _ n e,f,a⟩
  ·exact⟨_,ig _ g,(sF d h b).2 (.inr f),a⟩
theorem MQ{h:ab}{E:List Int}(d:bn h E){i:Nat}(l:i<h.Spans.length){k:Int}(p:0<=k/\k<=15)(b:aX (gu h i) k=false):aX (nth h.Spans i).Bits k=false/\∀u∈h.Spans,(nth (tbl h).Entries u.Page.toNat).Frame=(nth (tbl h).Entries (nth h.Spans i).Page.toNat).Frame->aX u.Bits k=false:=by
 have e:=d.L;have q:=dS (e.sok _ (am l));unfold gu at b;rw[<-R4,yD e.sok q p]at b;rw[not_or]at b;have r:aX (nth h.Spans i).Bits k=false:=by simpa using b.1
 have a:∀s∈h.Spans,s.Page.toNat<dU h/\(nth (tbl h).Entries s.Page.toNat).Mode≠0/\((s.Page.toNat:Nat):Int)=s.Page:=λs f=>by
  have K:=aF (e.sok s f);have M:=d.pg.bnd s.Page (d3 f);have n:s.Page.toNat<(tbl h).Entries.length:=ω
  have o:((s.Page.toNat:Nat):Int)=s.Page:=ω
  exact⟨n,(d.pg.own _ n).2 (by rw[o];exact d3 f),o⟩
 refine⟨r,λu c t=>?_⟩;rw[<-R4];intro w;obtain⟨y,A,B⟩:=a _ (am l);obtain⟨C,D,F⟩:=a u c;have G:u.Page∈aT h (nth h.Spans i).Page:=by
  rw[<-B,eD y A,<-F];exact d8.2 ⟨C,D,t⟩
 obtain⟨v,H,g⟩:=bf G;obtain⟨j,J,rfl⟩:=bf c;exact b.2 ⟨v,H,j,J,g.symm,w⟩
theorem bn.take{h:ab}{E:List Int}{i:Nat}{k sd:Int}(g:bn h E)(C:i<h.Spans.length)(D:0<=k/\k<slots (nth h.Spans i).Class)(r:aX (gu h i) k=false)(M:0<=sd/\sd<=1073741823) :
  bn {h with Seed:=sd,Spans:=h.Spans.set i (pC (nth h.Spans i) k)} ((16*(nth h.Spans i).Page+k*csz (nth h.Spans i).Class)::E):=by
 have F:=g.L;have T:=F.sok _ (am C);have Q:=aF T;obtain⟨l1,l2,l3,l4⟩:=gh Q.2.2;have hz:=cv Q.2.2;obtain⟨u1,u2⟩:=MQ g C ⟨D.1,ω⟩ r;have n:=λb c=>jd.setS F C D b c
 have w:=H4 k C;generalize ha:16*(nth h.Spans i).Page+k*csz (nth h.Spans i).Class=a at n |-;have G:¬eI (nth h.Spans i) a:=by
  rintro⟨-,-,-,h4⟩
  have:(a - 16*(nth h.Spans i).Page) / csz (nth h.Spans i).Class=k:=by
   rw[<-ha];rcases hz with e|e|e|e<;>rw[e]<;>omega
  rw[this,u1]at h4;cases h4
 have hrange:16*(nth h.Spans i).Page<=a/\a<=16*(nth h.Spans i).Page+15:=by
  rcases hz with e|e|e|e<;>rw[e]at ha l4<;>omega
 have U:¬lr h.Spans h.Larges a:=by
  rintro(⟨s,p,d,-⟩|⟨l,hl,e⟩)
  ·obtain⟨j,V,rfl⟩:=bf p
   have:=gG (f:=(·.Page)) F.nd V C (by have a1:=d.1;have a2:=d.2.1;omega);subst this;exact G d
  ·exact(wt F hl).1 _ (am C) ω
 have W:a∉E++holders h:=λX=>U ((g.mem a).1 X)
 have q:∀s∈h.Spans.set i (pC (nth h.Spans i) k),∃u∈h.Spans,u.Page=s.Page/\(s=u\/(u=nth h.Spans i/\s=pC u k)):=λs p=>by
  rcases eQ p with rfl|⟨j,V,hji,rfl⟩
  ·exact⟨_,am C,rfl,.inr ⟨rfl,rfl⟩⟩
  ·exact⟨_,am V,rfl,.inl rfl⟩
 generalize hsp:h.Spans.set i (pC (nth h.Spans i) k)=sp at n w q |-;have t:pgs sp h.Larges=pgs h.Spans h.Larges:=by unfold pgs;rw[w]
 have N:∀u∈h.Spans,∃s∈sp,s.Page=u.Page:=λu r=>by
  have:u.Page∈sp.map (·.Page):=by rw[w];exact U3.2 ⟨u,r,rfl⟩
  obtain⟨s,p,e⟩:=U3.1 this;exact⟨s,p,e⟩
 exact {g with
   lay:=by
     obtain⟨l1,l2,l3⟩:=dm g.lay;unfold bg;simp only[I0,C0];refine⟨⟨O3.2 λs p=>?_,l2⟩,by rw[t];exact l3⟩;obtain⟨u,r,-,rfl|⟨rfl,rfl⟩⟩:=q s p
     · exact F.sok _ r
     · exact A3 (F.sok _ r) D
   srs:=by
     have d:(h.Spans.map (·.Page)).Pairwise (λa b=>a<b):=List.pairwise_map.2 g.srs;rw[<-w]at d;exact List.pairwise_map.1 d
   pg:=⟨g.pg.one,by rw[t];exact g.pg.bnd,by rw[t];exact g.pg.own,g.pg.fre,λs p u r O hf=>by
     obtain⟨R,A,Y,Z⟩:=q s p;obtain⟨S,B,eu,P⟩:=q u r;have H:(nth (tbl h).Entries R.Page.toNat).Frame=(nth (tbl h).Entries S.Page.toNat).Frame:=by rw[Y,eu];exact hf
     have d:=g.pg.mesh R A S B (by rw[Y,eu];exact O) H;rcases Z with rfl|⟨rfl,rfl⟩
     · rcases P with rfl|⟨rfl,rfl⟩
       · exact d
       · rw[iM]at d |-
         exact zj D (u2 _ A H) d
     · rcases P with rfl|⟨rfl,rfl⟩
       · exact zj D (u2 _ B H.symm) d
       · exact absurd (Y.symm.trans eu) O⟩
   nums:=by
     have:=g.nums;unfold cm at this |-;rw[C0]at this |-;exact⟨M.1,M.2,this.2.2⟩
   oow:=λo ho=>by
     rcases g.oow o ho with⟨s,p,d,h2⟩|d
     · obtain⟨u,r,g1,K⟩:=(n o.Addr (aK o.Size)).2 (.inl ⟨s,p,d,.inr h2⟩)
       refine .inl ⟨u,r,g1,?_⟩;rcases K with K|K
       · have:=aF (F.sok _ p);omega
       · exact K
     · exact .inr d
   hca:=λc Q k D b J=>(n b k).2 (.inl (g.hca c Q k D b J))
   hqu:=λy hy=>(n _ _).2 (.inl (g.hqu y hy))
   hfl:=λb J=>(n _ _).2 (.inl (g.hfl b J))
   hin:=λb J=>by
     rcases List.mem_cons.1 J with rfl|J
     · exact(n _ _).2 (.inr ⟨rfl,.inl (by decide)⟩)
     · exact(n _ _).2 (.inl (g.hin b J))
   nd:=by
     rw[List.cons_append];exact List.nodup_cons.2 ⟨W,g.nd⟩
   mem:=λb=>by
     show b∈a::E++holders h↔lr sp h.Larges b;rw[List.cons_append,List.mem_cons,g.mem b];unfold lr;rw[n];constructor
     · rintro(rfl|d|d)
       · exact .inl (.inr ⟨rfl,.inl (by decide)⟩)
       · exact .inl (.inl d)
       · exact .inr d
     · rintro((d|⟨d,-⟩)|d)
       · exact .inr (.inl d)
       · exact .inl d
       · exact .inr (.inr d)
   job:=λX=>by
     obtain⟨j1,⟨s,p,e1⟩,⟨u,r,e2⟩⟩:=g.job X;obtain⟨R,A,g1⟩:=N s p;obtain⟨S,B,K⟩:=N u r;exact⟨j1,⟨R,A,g1.trans e1⟩,⟨S,B,K.trans e2⟩⟩}
def qB(c:aA)(k:Nat):aA:=⟨c.Lists.set k ((nth c.Lists k).take ((nth c.Lists k).length - 1))⟩
theorem LJ{l:List Int}(h:0<l.length):l=l.take (l.length - 1)++[nth l (l.length - 1)]:=by
 have a:l.drop (l.length - 1)=[nth l (l.length - 1)]:=by
  rw[gB ω,show l.length - 1+1=l.length by omega,List.drop_length]
 rw[<-a,List.take_append_drop]
theorem bn.pop{h:ab}{E:List Int}{t k:Nat}(f:bn h E)(l:t<h.Caches.length)(p:k<(nth h.Caches t).Lists.length)(u:0<(nth (nth h.Caches t).Lists k).length)(w:bo (qB (nth h.Caches t) k)=true) :
  bn {h with Caches:=h.Caches.set t (qB (nth h.Caches t) k)} (nth (nth (nth h.Caches t).Lists k) ((nth (nth h.Caches t).Lists k).length - 1)::E)/\jd h.Spans (nth (nth (nth h.Caches t).Lists k) ((nth (nth h.Caches t).Lists k).length - 1)) k:=by
 have q:=LJ u;have n:=f.hca _ (am l) k p (nth (nth (nth h.Caches t).Lists k) ((nth (nth h.Caches t).Lists k).length - 1)) (am ω);refine⟨?_,n⟩;generalize D:nth (nth (nth h.Caches t).Lists k) ((nth (nth h.Caches t).Lists k).length - 1)=a at q n |-;have r:(E++holders h).Perm (a::E++holders {h with Caches:=h.Caches.set t (qB (nth h.Caches t) k)}):=by
  refine List.perm_iff_count.2 λb=>?_
  have A:=ib (λc:aA=>c.Lists.flatten) b h.Caches t (qB (nth h.Caches t) k) l;have B:=ib (λy:List Int=>y) b (nth h.Caches t).Lists k ((nth (nth h.Caches t).Lists k).take ((nth (nth h.Caches t).Lists k).length - 1)) p;rw[<-jV,<-jV]at B;have C:=T0 (List.count b) q;simp only[Y4,List.count_singleton]at C;simp only[qB]at A;simp only[holders,cn,qB,Y4,List.cons_append,List.count_cons];omega
 exact {f with
   nc:=by show(h.Caches.set ..).length=_;rw[C1];exact f.nc
   cach:=λc d=>by
     rcases z5 d with d|rfl
     · exact f.cach c d
     · exact w
   onu:=by show ∀o∈h.Objs,1<=o.Id/\o.Id<=h.Next - 1/\0<=o.Thread/\o.Thread<=(h.Caches.set t _).length - 1;rw[C1];exact f.onu
   hca:=λc d j i b g=>by
     rcases z5 d with d|rfl
     · exact f.hca c d j i b g
     · simp only[qB,C1]at i
       simp only[qB,cw]at g;by_cases e:k=j
       · subst e
         rw[C8 ⟨rfl,i⟩]at g;exact f.hca _ (am l) _ i b (List.mem_of_mem_take g)
       · rw[C7 λy=>e y.1]at g
         exact f.hca _ (am l) _ i b g
   hin:=λb g=>by
     rcases List.mem_cons.1 g with rfl|g
     · exact n.any
     · exact f.hin b g
   nd:=r.nodup_iff.1 f.nd
   mem:=λb=>by rw[<-r.mem_iff];exact f.mem b}
def LT(a:Int)(o:bm):Bool:=decide (a<=o.Addr)
def addO(h:ab)(a size t:Int):ab:={h with Objs:=je (LT a) h.Objs ⟨h.Next,a,size,t⟩,Next:=h.Next+1}
theorem yv{h:ab}(a:cm h=true)(b:h.Next<1000000):decide (0<=h.Seed/\h.Seed<=1073741823/\0<=h.Clock/\h.Clock<=1000000/\0<=h.Limit/\h.Limit<=1000/\1<=h.Next+1/\h.Next+1<=1000000)=true:=by
 unfold cm at a;rw[C0]at a |-;omega
theorem bn.addO{h:ab}{E:List Int}{a size t:Int}(c:bn h (a::E))(d:KE h.Spans h.Larges ⟨h.Next,a,size,t⟩)(p:h.Next<1000000)(q:0<=t/\t<=h.Caches.length - 1):bn (addO h a size t) E:=by
 have i:=jK (LT a) h.Objs ⟨h.Next,a,size,t⟩;have n:(a::E++holders h).Perm (E++holders (Ab.addO h a size t)):=by
  have r:=i.map (·.Addr);refine List.perm_iff_count.2 λb=>?_
  have u:=r.count_eq b;simp only[X4,List.count_cons]at u;simp only[holders,cn,Ab.addO,Y4,List.cons_append,List.count_cons];omega
 have j:=c.nd;rw[List.cons_append]at j;obtain⟨k,-⟩:=List.nodup_cons.1 j;have l:∀o∈h.Objs,o.Addr≠a:=λo d e=>k (Q2.2 (.inr (by unfold holders;simp only[Q2];exact .inl (.inl (.inl (U3.2 ⟨o,d,e⟩))))))
 exact {c with
   nums:=yv c.nums p
   osr:=k7 (f:=λo:bm=>o.Addr) (y:=⟨h.Next,a,size,t⟩) c.osr l
   onu:=λo d=>by
     rcases de.1 d with rfl|d
     · have:=c.nums
       unfold cm at this;rw[C0]at this;exact⟨by show 1<=h.Next;omega,by show h.Next<=h.Next+1 - 1;omega,q⟩
     · have:=c.onu o d
       exact⟨this.1,by show o.Id<=h.Next+1 - 1;omega,this.2.2⟩
   oid:=by
     show((je (LT a) h.Objs ⟨h.Next,a,size,t⟩).map (·.Id)).Nodup;rw[(i.map _).nodup_iff,X4];refine List.nodup_cons.2 ⟨λw=>?_,c.oid⟩;obtain⟨o,d,e⟩:=U3.1 w;have:=(c.onu o d).2.1;simp only at e;omega
   oow:=λo g=>by
     rcases de.1 g with rfl|g
     · exact d
     · exact c.oow o g
   hin:=λb A=>c.hin b (Q4 _ A)
   nd:=n.nodup_iff.1 c.nd
   mem:=λb=>by rw[<-n.mem_iff];exact c.mem b}
def iF(xs:List ay)(n:Int):Nat->Int
 | 0=>-1
 | i+1=>if n<=(nth xs i).Len/\(iF xs n i<0\/(nth xs i).Len<(nth xs (iF xs n i).toNat).Len) then(i:Nat) else iF xs n i
def gt(xs:List ay)(n:Int):Int:=iF xs n xs.length
def a8(xs:List ay)(n:Int):List ay × Int × Bool:=
 if gt xs n<0 then(xs,-1,false)
 else if(nth xs (gt xs n).toNat).Len=n then(dele xs (gt xs n).toNat,(nth xs (gt xs n).toNat).At,true)
 else(xs.set (gt xs n).toNat ⟨(nth xs (gt xs n).toNat).At+n,(nth xs (gt xs n).toNat).Len - n⟩,(nth xs (gt xs n).toNat).At,true)
theorem wx(xs:List ay)(n:Int):∀i,i<=xs.length->iF xs n i = -1\/(0<=iF xs n i/\iF xs n i<i/\n<=(nth xs (iF xs n i).toNat).Len)
 | 0,_=>.inl rfl
 | i+1,b=>by
  have a:=wx xs n i ω;unfold iF;split
  ·rename_i h;right;rw[I2];exact⟨ω,ω,h.1⟩
  ·rcases a with h|h
   ·exact .inl h
   ·exact .inr ⟨h.1,ω,h.2.2⟩
theorem vU{xs:List ay}(h:nG xs){i j:Nat}(a:i<j)(b:j<xs.length):(nth xs i).At+(nth xs i).Len<(nth xs j).At:=by
 have:=List.pairwise_iff_getElem.1 h.1 i j ω b a
 rwa [<-bw (U1 (show i<xs.length by omega)),<-bw (U1 b)]at this
theorem uI{xs:List ay}{p:Int} : RH xs p↔∃j,j<xs.length/\(nth xs j).At<=p/\p<(nth xs j).At+(nth xs j).Len:=by
 unfold RH;constructor
 ·rintro⟨r,b,h⟩
  obtain⟨j,a,rfl⟩:=bf b;exact⟨j,a,h⟩
 ·rintro⟨j,a,h⟩
  exact⟨_,am a,h⟩
theorem mB{pages:Int}{xs:List ay}{n:Int}(h:bx pages xs=true)(T:1<=n)(t:(a8 xs n).2.2=true) :
  bx pages (a8 xs n).1=true/\0<=(a8 xs n).2.1/\(a8 xs n).2.1+n<=pages/\(∀p,RH (a8 xs n).1 p↔RH xs p/\¬((a8 xs n).2.1<=p/\p<(a8 xs n).2.1+n))/\∀p,(a8 xs n).2.1<=p->p<(a8 xs n).2.1+n->RH xs p:=by
 obtain⟨o,u,J⟩:=fh.1 h;have K:=wx xs n xs.length (R2 _);unfold a8 at t |-;change gt xs n = -1\/_ at K;split at t
 ·cases t
 rename_i w;rw[C7 w];obtain⟨O,P,L⟩:=K.resolve_left ω;change 0<=gt xs n at O;change gt xs n<xs.length at P;change n<=(nth xs (gt xs n).toNat).Len at L;generalize Q:(gt xs n).toNat=b at L |-;have g:b<xs.length:=ω
 have M:=u _ (am g);have q:∀j,j<xs.length->j≠b->(nth xs j).At+(nth xs j).Len<(nth xs b).At\/(nth xs b).At+(nth xs b).Len<(nth xs j).At:=λj a k=>by
  rcases Nat.lt_or_gt_of_ne k with A|B
  ·exact .inl (vU o A g)
  ·exact .inr (vU o B a)
 split
 ·rename_i R
  have C:(dele xs b).Sublist xs:=ep ..;refine⟨fh.2 ⟨⟨o.1.sublist C,λy l=>o.2 y (C.subset l)⟩,λy l=>u y (C.subset l),J⟩,M.1,by show(nth xs b).At+n<=pages;omega,λp=>?_,λp D E=>uI.2 ⟨b,g,D,by show p<_;simp only at E;omega⟩⟩;simp only;rw[uI (xs:=xs)];constructor
  ·rintro⟨r,F,f,d⟩
   obtain⟨j,a,k,rfl⟩:=er.1 F;refine⟨⟨j,a,f,d⟩,λe=>?_⟩;have:=q j a k;omega
  ·rintro⟨⟨j,a,f,d⟩,G⟩
   exact⟨_,er.2 ⟨j,a,λe=>by subst e;omega,rfl⟩,f,d⟩
 ·rename_i R
  have c:∀j,nth (xs.set b ⟨(nth xs b).At+n,(nth xs b).Len - n⟩) j=if j=b then⟨(nth xs b).At+n,(nth xs b).Len - n⟩ else nth xs j:=λj=>by
   rw[cw];by_cases e:j=b
   ·rw[C8 ⟨e.symm,ω⟩,C8 e]
   ·rw[C7 λz=>e z.1.symm,C7 e]
  refine⟨fh.2 ⟨⟨?_,λy l=>?_⟩,λy l=>?_,J⟩,M.1,by show(nth xs b).At+n<=pages;omega,λp=>?_,λp D E=>uI.2 ⟨b,g,D,by simp only at E;omega⟩⟩
  ·rw[List.pairwise_iff_getElem]
   intro i j N a H;rw[<-bw (U1 N),<-bw (U1 a),c,c];simp only[C1]at N a;have S:=vU o H a;split
   ·rename_i e;subst e
    rw[C7 ω];simp only;omega
   ·split
    ·rename_i e;subst e
     simp only;omega
    ·exact S
  ·rcases eQ l with rfl|⟨j,a,-,rfl⟩
   ·simp only;omega
   ·exact o.2 _ (am a)
  ·rcases eQ l with rfl|⟨j,a,-,rfl⟩
   ·simp only;omega
   ·exact u _ (am a)
  ·simp only
   rw[uI,uI,C1];constructor
   ·rintro⟨j,a,f,d⟩
    rw[c]at f d;split at f
    ·rename_i e;subst e
     rw[C8 rfl]at d;simp only at f d;exact⟨⟨j,a,ω,ω⟩,ω⟩
    ·rename_i e
     rw[C7 e]at d;have:=q j a e;exact⟨⟨j,a,f,d⟩,ω⟩
   ·rintro⟨⟨j,a,f,d⟩,G⟩
    refine⟨j,a,?_⟩;rw[c];split
    ·rename_i e;subst e
     simp only;omega
    ·exact⟨f,d⟩
def qM(k:af):Int:=cX (λu=>!u) k.Machine.Frames.Used
def pE(k:af)(p:Int)(f:Nat):af:={k with Machine:=⟨⟨k.Machine.Frames.Cells,k.Machine.Frames.Used.set f true⟩,⟨k.Machine.Table.Entries.set p.toNat ⟨2,(f:Nat)⟩⟩⟩}
def fJ(k:af)(p:Int):af × Bool:=if refd k=true\/qM k<0 then(du k,false) else(pE (du k) p (qM k).toNat,true)
theorem DB{k:af}(h:¬qM k<0):(qM k).toNat<k.Machine.Frames.Used.length/\nth k.Machine.Frames.Used (qM k).toNat=false:=by
 unfold qM at h |-;rcases kx (λu=>!u) k.Machine.Frames.Used with e|⟨n,a,e,b⟩
 ·omega
 ·rw[e,I2]
  exact⟨a,by simpa using b⟩
theorem y1{k:af}(h:aB k=true){f:Nat}(b:f<k.Machine.Frames.Used.length)(c:nth k.Machine.Frames.Used f=false)(q:Nat)(d:q<k.Machine.Table.Entries.length)(g:(nth k.Machine.Table.Entries q).Mode≠0):(nth k.Machine.Table.Entries q).Frame≠(f:Nat):=by
 obtain⟨j,l,n,i,o⟩:=aC.1 h;intro e;have a:=i f b;rw[c]at a;have:=of_decide_eq_false a.symm;exact this (ef.2 ⟨q,d,g,e⟩)
theorem MI{k:af}{p:Int}{f:Nat}(h:aB k=true)(L:0<=p/\p<k.Machine.Table.Entries.length)(n:(nth k.Machine.Table.Entries p.toNat).Mode=0)(o:f<k.Machine.Frames.Used.length)(r:nth k.Machine.Frames.Used f=false):aB (pE k p f)=true:=by
 have t:=y1 h o r;obtain⟨u,w,y,A,B⟩:=aC.1 h;obtain⟨C,D,E,F⟩:=aY.1 w;obtain⟨G,H,J⟩:=br.1 y;have a:∀q,nth (k.Machine.Table.Entries.set p.toNat ⟨2,(f:Nat)⟩) q=if p.toNat=q then⟨2,(f:Nat)⟩ else nth k.Machine.Table.Entries q:=λq=>by
  rw[cw];by_cases i:p.toNat=q
  ·rw[C8 ⟨i,ω⟩,C8 i]
  ·rw[C7 (λe=>i e.1),C7 i]
 refine aC.2 ⟨u,aY.2 ⟨C,D,by simp only[pE,C1];exact E,λj b=>?_⟩,br.2 ⟨λj b=>?_,?_,?_⟩,λj b=>?_,B⟩
 ·replace b:j<k.Machine.Frames.Cells.length:=b
  show hJ (nth k.Machine.Frames.Cells j) (nth (k.Machine.Frames.Used.set f true) j)=true;have d:=F j b;rw[cw];split
  ·unfold hJ at d |-
   simp only[I0,C0,O3]at d |-;refine⟨d.1,λv K=>?_⟩;have:=d.2 v K;unfold iD at this |-;simp only[I0]at this;rw[this.1];rfl
  ·exact d
 ·simp only[pE,C1]at b |-
  rw[a];split
  ·unfold kj;rw[C0];simp only;omega
  ·exact G j b
 ·simp only[pE,C1];exact H
 ·simp only[pE,C1];exact J
 ·simp only[pE,C1]at b
  show nth (k.Machine.Frames.Used.set f true) j=_;rw[cw];by_cases e:f=j
  ·subst e
   rw[C8 ⟨rfl,b⟩];refine(O0 (ef.2 ⟨p.toNat,?_,?_,?_⟩)).symm
   ·simp only[pE,C1];omega
   ·simp only[pE,a,C8];decide
   ·simp only[pE,a,C8]
  ·rw[C7 λz=>e z.1,A j b]
   refine decide_eq_decide.2 ?_;rw[ef,ef];simp only[pE,C1,a];constructor
   ·rintro⟨q,l,g,c⟩
    refine⟨q,l,?_⟩;rw[C7 λz=>g (by rw[<-z];exact n)];exact⟨g,c⟩
   ·rintro⟨q,l,g,c⟩
    by_cases z:p.toNat=q
    ·rw[C8 z]at c
     simp only at c;omega
    ·rw[C7 z]at g c
     exact⟨q,l,g,c⟩
structure AP(k:af)(p:Int)(r:af × Bool):Prop where
 ker:aB r.1=true
 len:r.1.Machine.Table.Entries.length=k.Machine.Table.Entries.length
 calls:r.1.Calls=k.Calls+1
 ref:r.1.Refuse=k.Refuse
 cells:r.1.Machine.Frames.Cells=k.Machine.Frames.Cells
 no:r.2=false->r.1=du k
 yes:r.2=true->∃f:Nat,f<k.Machine.Frames.Used.length/\nth k.Machine.Frames.Used f=false/\(∀q:Nat,nth r.1.Machine.Table.Entries q=if(q:Int)=p then⟨2,(f:Nat)⟩ else nth k.Machine.Table.Entries q)/\∀q,q<k.Machine.Table.Entries.length->(nth k.Machine.Table.Entries q).Mode≠0->(nth k.Machine.Table.Entries q).Frame≠(f:Nat)
theorem AP.of{k:af}{p:Int}(h:aB k=true)(c:k.Calls≠100000)(f:0<=p/\p<k.Machine.Table.Entries.length)(g:(nth k.Machine.Table.Entries p.toNat).Mode=0):AP k p (fJ k p):=by
 unfold fJ;split
 ·exact⟨lw h c,rfl,rfl,rfl,rfl,λ_=>rfl,λe=>by cases e⟩
 ·rename_i d
  rw[not_or]at d;obtain⟨a,b⟩:=DB d.2;refine⟨MI (lw h c) f g a b,by simp[pE,du],rfl,rfl,rfl,λe=>(by cases e),λ_=>⟨_,a,b,λq=>?_,λq=>y1 h a b q⟩⟩;simp only[pE,du,cw];by_cases e:(q:Int)=p
  ·rw[C8 ⟨ω,ω⟩,C8 e]
  ·rw[C7 λz=>e ω,C7 e]
def cy(k:af)(p:Int):Nat->af × Nat
 | 0=>(k,0)
 | i+1=>if(cy k p i).2=i then((fJ (cy k p i).1 (p+(i:Nat))).1,if(fJ (cy k p i).1 (p+(i:Nat))).2=true then i+1 else i) else cy k p i
structure n9(k:af)(p:Int)(i:Nat)(r:af × Nat):Prop where
 ker:aB r.1=true
 len:r.1.Machine.Table.Entries.length=k.Machine.Table.Entries.length
 calls:k.Calls<=r.1.Calls/\r.1.Calls<=k.Calls+i
 ref:r.1.Refuse=k.Refuse
 cells:r.1.Machine.Frames.Cells=k.Machine.Frames.Cells
 le:r.2<=i
 out:∀q:Nat,¬(p<=q/\(q:Int)<p+r.2)->nth r.1.Machine.Table.Entries q=nth k.Machine.Table.Entries q
 new:∀q:Nat,p<=q->(q:Int)<p+r.2->(nth r.1.Machine.Table.Entries q).Mode=2/\∀u:Nat,u<k.Machine.Table.Entries.length->(nth r.1.Machine.Table.Entries u).Mode≠0->(nth r.1.Machine.Table.Entries u).Frame=(nth r.1.Machine.Table.Entries q).Frame->u=q
theorem n9.of{k:af}{p:Int}{n:Nat}(h:aB k=true)(G:k.Calls+n<=100000)(H:0<=p/\p+n<=k.Machine.Table.Entries.length)(C:∀q:Nat,p<=q->(q:Int)<p+n->(nth k.Machine.Table.Entries q).Mode=0):∀i,i<=n->n9 k p i (cy k p i)
 | 0,_=>⟨h,rfl,⟨z4 _,by show k.Calls<=k.Calls+((0:Nat):Int);omega⟩,rfl,rfl,R2 _,λ_ _=>rfl,λq o d=>by simp only[cy]at d;omega⟩
 | i+1,L=>by
  have a:=n9.of h G H C i ω;unfold cy;split
  case isFalse=>exact⟨a.ker,a.len,⟨a.calls.1,by have:=a.calls.2;omega⟩,a.ref,a.cells,by have:=a.le;omega,a.out,a.new⟩
  rename_i t;generalize cy k p i=r at a t |-;have J:=a.calls;have y:(nth r.1.Machine.Table.Entries (p+(i:Nat)).toNat).Mode=0:=by
   rw[a.out _ ω];exact C _ ω ω
  have s:=AP.of (p:=p+(i:Nat)) a.ker ω ⟨ω,by rw[a.len];omega⟩ y;generalize fJ r.1 (p+(i:Nat))=w at s |-;refine⟨s.ker,s.len.trans a.len,⟨by simp only[s.calls];omega,by simp only[s.calls];omega⟩,s.ref.trans a.ref,s.cells.trans a.cells,by simp only;split<;>omega,λq j=>?_,λq o d=>?_⟩
  ·simp only at j |-
   cases e:w.2 with
   | false=>
    rw[s.no e];rw[e]at j;exact a.out q (by rw[t];simpa using j)
   | true=>
    obtain⟨f,-,-,g,-⟩:=s.yes e;rw[e,C8 rfl]at j;rw[g,C7 ω];exact a.out q ω
  ·simp only at d |-
   cases e:w.2 with
   | false=>
    rw[s.no e];rw[e]at d;exact a.new q o (by rw[t];simpa using d)
   | true=>
    obtain⟨f,-,-,g,D⟩:=s.yes e;rw[e,C8 rfl]at d;have A:q<k.Machine.Table.Entries.length:=ω
    rw[g];by_cases E:(q:Int)=p+(i:Nat)
    ·rw[C8 E]
     refine⟨rfl,λu B c b=>?_⟩;rw[g]at c b;by_cases l:(u:Int)=p+(i:Nat)
     ·omega
     ·rw[C7 l]at c b
      exact absurd b (D u (by rw[a.len];exact B) c)
    ·rw[C7 E]
     obtain⟨F,K⟩:=a.new q o ω;refine⟨F,λu B c b=>?_⟩;rw[g]at c b;by_cases l:(u:Int)=p+(i:Nat)
     ·rw[C8 l]at b
      exact absurd b.symm (D q (by rw[a.len];exact A) (by rw[F];decide))
     ·rw[C7 l]at c b
      exact K u B c b
theorem n9.undo{k:af}{p:Int}{i:Nat}{r:af × Nat}(s:n9 k p i r)(h:aB k=true)(d:0<=p/\p+i<=k.Machine.Table.Entries.length)(e:∀q:Nat,p<=q->(q:Int)<p+i->(nth k.Machine.Table.Entries q).Mode=0):aB (d6 r.1 p r.2)=true/\tEq k.Machine.Table (d6 r.1 p r.2).Machine.Table:=by
 have f:=s.le;have g:=lz s.ker d.1 r.2 (by rw[s.len];omega);refine⟨jB s.ker p r.2,((gz r.1 p r.2).1).trans s.len,λq=>?_⟩;rw[g];split
 ·rename_i a
  have c:=e q a.1 ω;obtain⟨-,-,j,-⟩:=aC.1 h;have b:=(br.1 j).1 q ω;unfold kj at b;rw[C0]at b;exact⟨⟨λz=>absurd rfl z,λz=>absurd c z⟩,(b.2.2.1 c).symm⟩
 ·rename_i a
  rw[s.out q a];exact⟨Iff.rfl,rfl⟩
theorem Pg.add{t h:aG}{O r:List ay}{sp b:List au}{la d:List ax}{p:Int}{n:Nat}(i:Pg t O sp la)(E:h.Entries.length=t.Entries.length)(S:p+n<=t.Entries.length)(hp:0<=p)(j:∀q:Nat,¬(p<=q/\(q:Int)<p+n)->nth h.Entries q=nth t.Entries q)(a:∀q:Nat,p<=q->(q:Int)<p+n->(nth h.Entries q).Mode=2/\∀u:Nat,u<t.Entries.length->(nth h.Entries u).Mode≠0->(nth h.Entries u).Frame=(nth h.Entries q).Frame->u=q)(J:∀q,RH r q↔RH O q/\¬(p<=q/\q<p+n))(F:∀q,q∈pgs b d↔q∈pgs sp la\/(p<=q/\q<p+n))(w:∀s∈b,0<=s.Page/\(s∈sp\/(p<=s.Page/\s.Page<p+n)))(K:∀l∈d,l∈la\/∀q∈lpgs l l.Pages.toNat,p<=q/\q<p+n):Pg h r b d:=by
 have f:∀q:Nat,q<t.Entries.length->((nth h.Entries q).Mode≠0↔(q:Int)∈pgs b d):=λq c=>by
  rw[F];by_cases e:p<=q/\(q:Int)<p+n
  ·have:=(a q e.1 e.2).1
   exact⟨λ_=>.inr e,λ_=>by rw[this];decide⟩
  ·rw[j q e,i.own q c]
   exact⟨.inl,λz=>z.resolve_right e⟩
 refine⟨λl A q c u k L G=>?_,λq c=>?_,λq c=>f q (by rw[<-E];exact c),λq c=>?_,λs P u k M H=>?_⟩
 ·rw[E]at k
  have B:=fw (sp:=b) A c;have C:q<t.Entries.length:=by
   rcases(F _).1 B with g|g
   ·have:=i.bnd _ g;omega
   ·omega
  by_cases e:p<=q/\(q:Int)<p+n
  ·exact(a q e.1 e.2).2 u k L G
  ·have N:=(K l A).resolve_right λg=>e (g _ c)
   by_cases o:p<=u/\(u:Int)<p+n
   ·exact((a u o.1 o.2).2 q C ((f q C).2 B) G.symm).symm
   ·rw[j q e,j u o]at G
    rw[j u o]at L;exact i.one l N q c u k L G
 ·rw[E]
  rcases(F _).1 c with g|g
  ·exact i.bnd _ g
  ·omega
 ·rw[E]at c
  rw[J];by_cases e:p<=q/\(q:Int)<p+n
  ·have:=(a q e.1 e.2).1
   exact⟨λ_ z=>z.2 e,λ_=>by rw[this];decide⟩
  ·rw[j q e,i.fre q c]
   exact⟨λz y=>z y.1,λz y=>z ⟨y,e⟩⟩
 ·obtain⟨T,U⟩:=w s P
  obtain⟨V,W⟩:=w u k;have D:∀y∈b,0<=y.Page->y.Page.toNat<t.Entries.length/\((y.Page.toNat:Nat):Int)=y.Page/\(nth h.Entries y.Page.toNat).Mode≠0:=λy X Y=>by
   have g:=d3 (la:=d) X;have Q:y.Page.toNat<t.Entries.length:=by
    rcases(F _).1 g with R|R
    ·have:=i.bnd _ R;omega
    ·omega
   exact⟨Q,ω,(f _ Q).2 (by rw[show((y.Page.toNat:Nat):Int)=y.Page by omega];exact g)⟩
  obtain⟨Z,sc,sd⟩:=D s P T;obtain⟨ub,uc,ud⟩:=D u k V;by_cases es:p<=s.Page/\s.Page<p+n
  ·have:=(a s.Page.toNat ω ω).2 _ ub ud H.symm
   omega
  ·by_cases o:p<=u.Page/\u.Page<p+n
   ·have:=(a u.Page.toNat ω ω).2 _ Z sd H
    omega
   ·rw[j _ ω,j _ ω]at H
    exact i.mesh s (U.resolve_right es) u (W.resolve_right o) M H
theorem Bx{sp a:List au}{la b:List ax}(c:a.Perm sp)(d:b.Perm la):(pgs a b).Perm (pgs sp la):=by
 unfold pgs;exact(c.map _).append (d.flatMap_right _)
def Jn(p:Int)(s:au):Bool:=decide (p<=s.Page)
def Nv(p:Int)(l:ax):Bool:=decide (p<=l.Page)
def addS(h:ab)(k:af)(a:List ay)(p c:Int):ab:={h with Kernel:=k,Free:=a,Spans:=je (Jn p) h.Spans ⟨p,c,0⟩}
theorem kz{h:ab}{E:List Int}(a:bn h E){n:Int}(j:1<=n)(k:(a8 h.Free n).2.2=true):0<=(a8 h.Free n).2.1/\(a8 h.Free n).2.1+n<=(tbl h).Entries.length/\(∀q:Nat,(a8 h.Free n).2.1<=q->(q:Int)<(a8 h.Free n).2.1+n->(nth (tbl h).Entries q).Mode=0)/\∀q:Int,(a8 h.Free n).2.1<=q->q<(a8 h.Free n).2.1+n->q∉pgs h.Spans h.Larges:=by
 obtain⟨r,l,f,t,o⟩:=mB a.rng j k;have g:∀q:Nat,(a8 h.Free n).2.1<=q->(q:Int)<(a8 h.Free n).2.1+n->(nth (tbl h).Entries q).Mode=0:=λq b c=>by
  have d:q<(tbl h).Entries.length:=by
   have:(a8 h.Free n).2.1+n<=((tbl h).Entries.length:Nat):=f;omega
  by_cases e:(nth (tbl h).Entries q).Mode=0
  ·exact e
  ·exact absurd (o q b c) ((a.pg.fre q d).1 e)
 refine⟨l,f,g,λq b c i=>?_⟩;have u:=a.pg.bnd q i;obtain⟨m,rfl⟩:=O2 (show 0<=q by omega);have p:=(a.pg.own m ω).2 i;exact p (g m b c)
theorem bn.addS{h:ab}{E:List Int}{c:Int}(a:bn h E)(H:0<=c/\c<=3)(F:(a8 h.Free 1).2.2=true){k:af}(s:AP h.Kernel (a8 h.Free 1).2.1 (k,true)):bn (addS h k (a8 h.Free 1).1 (a8 h.Free 1).2.1 c) E:=by
 obtain⟨U,G,r3,J,r5⟩:=mB a.rng (z4 _) F;obtain⟨-,V,u3,W⟩:=kz a (z4 _) F;generalize (a8 h.Free 1).2.1=p at G r3 J r5 V u3 W s |-;generalize (a8 h.Free 1).1=fr at U J |-;obtain⟨f,f1,f2,K,f4⟩:=s.yes rfl;have M:=(br.1 (aC.1 a.ker).2.2.1).2.2;change (tbl h).Entries.length<=32 at M;have X:=a.L;have N:=jK (Jn p) h.Spans ⟨p,c,0⟩;have O:=Bx N (List.Perm.refl h.Larges);have w:(pgs (je (Jn p) h.Spans ⟨p,c,0⟩) h.Larges).Perm (p::pgs h.Spans h.Larges):=O;have B:p∉pgs h.Spans h.Larges:=W p (z4 _) ω;have P:∀z∈h.Spans,z.Page≠p:=λz g e=>B (by rw[<-e];exact d3 g)
 have i:∀b d,jd (je (Jn p) h.Spans ⟨p,c,0⟩) b d↔jd h.Spans b d:=λb d=>by
  constructor
  ·rintro⟨s,C,A,Q⟩
   rcases de.1 C with rfl|C
   ·exact absurd A (zB rfl b)
   ·exact⟨s,C,A,Q⟩
  ·rintro⟨s,C,A⟩
   exact⟨s,de.2 (.inr C),A⟩
 exact {a with
   ker:=s.ker
   rng:=by show bx ((k.Machine.Table.Entries.length:Nat):Int) fr=true;rw[s.len];exact U
   lay:=by
     obtain⟨l1,l2,l3⟩:=dm a.lay;unfold bg;simp only[I0,C0];refine⟨⟨O3.2 λz g=>?_,l2⟩,w.nodup_iff.2 (List.nodup_cons.2 ⟨B,l3⟩)⟩;rcases de.1 g with rfl|g
     · have R:0<=lim c:=by
         have:=(gh H).1;obtain rfl|rfl|rfl|rfl:c=0\/c=1\/c=2\/c=3:=ω
         all_goals decide
       exact O0 ⟨G,by show p<=31;omega,H.1,H.2,z4 _,R⟩
     · exact X.sok z g
   srs:=k7 (f:=λz:au=>z.Page) (y:=⟨p,c,0⟩) a.srs P
   pg:=by
     refine a.pg.add (p:=p) (n:=1) s.len (by exact V) G (λq Y=>?_) (λq q1 q2=>?_) (λq=>J q) (λq=>?_) (λz g=>?_) (λl hl=>.inl hl)
     · exact(K q).trans (C7 ω)
     · have Y:(q:Int)=p:=ω
       have Z:nth k.Machine.Table.Entries q = ⟨2,(f:Nat)⟩:=(K q).trans (C8 Y);refine⟨T0 bi.Mode Z,λu S t r=>?_⟩;have fu:nth k.Machine.Table.Entries u=if(u:Int)=p then⟨2,(f:Nat)⟩ else nth h.Kernel.Machine.Table.Entries u:=K u
       change (nth k.Machine.Table.Entries u).Mode≠0 at t;change (nth k.Machine.Table.Entries u).Frame=(nth k.Machine.Table.Entries q).Frame at r;rw[fu]at t r;rw[Z]at r;by_cases eu:(u:Int)=p
       · omega
       · rw[C7 eu]at t r
         exact absurd r (f4 u S t)
     · show q∈pgs (je (Jn p) h.Spans ⟨p,c,0⟩) h.Larges↔_
       rw[w.mem_iff,List.mem_cons];constructor
       · rintro(e|e)
         · exact .inr ⟨ω,ω⟩
         · exact .inl e
       · rintro(e|e)
         · exact .inr e
         · exact .inl ω
     · rcases de.1 g with rfl|g
       · exact⟨G,.inr ⟨z4 _,by show p<p+((1:Nat):Int);omega⟩⟩
       · exact⟨(aF (X.sok z g)).1,.inl g⟩
   oow:=λo F=>by
     rcases a.oow o F with⟨z,g,A,Q⟩|A
     · exact .inl ⟨z,de.2 (.inr g),A,Q⟩
     · exact .inr A
   hca:=λd hd j hj b D=>(i b j).2 (a.hca d hd j hj b D)
   hqu:=λy T=>(i _ _).2 (a.hqu y T)
   hfl:=λb D=>(i _ _).2 (a.hfl b D)
   hin:=λb D=>(i _ _).2 (a.hin b D)
   mem:=λb=>(a.mem b).trans (by
     show lr h.Spans h.Larges b↔lr (je (Jn p) h.Spans ⟨p,c,0⟩) h.Larges b;unfold lr;rw[i])
   job:=λhm=>by
     obtain⟨j1,⟨y,T,e1⟩,⟨u,S,e2⟩⟩:=a.job hm;exact⟨j1,⟨y,de.2 (.inr T),e1⟩,⟨u,de.2 (.inr S),e2⟩⟩}
def addL(h:ab)(k:af)(a:List ay)(p n size t:Int):ab:={h with Kernel:=k,Free:=a,Larges:=je (Nv p) h.Larges ⟨p,n,size⟩,Objs:=je (LT (16*p)) h.Objs ⟨h.Next,16*p,size,t⟩,Next:=h.Next+1}
theorem bn.addL{h:ab}{E:List Int}{size t:Int}{n:Nat}(a:bn h E)(g:9<=size/\size<=1000)(J:(n:Int)=(size+15) / 16)(i:(a8 h.Free n).2.2=true){k:af}(s:n9 h.Kernel (a8 h.Free n).2.1 n (k,n))(hn:h.Next<1000000)(ht:0<=t/\t<=h.Caches.length - 1) :
  bn (addL h k (a8 h.Free n).1 (a8 h.Free n).2.1 n size t) E:=by
 have B:(1:Int)<=n:=ω
 obtain⟨V,K,r3,M,r5⟩:=mB a.rng B i;obtain⟨-,W,u3,H⟩:=kz a B i;generalize (a8 h.Free n).2.1=p at K r3 M r5 W u3 H s |-;generalize (a8 h.Free n).1=fr at V M |-;have N:=(br.1 (aC.1 a.ker).2.2.1).2.2;change (tbl h).Entries.length<=32 at N;have O:=a.L;have P:=jK (Nv p) h.Larges ⟨p,n,size⟩;have C:=jK (LT (16*p)) h.Objs ⟨h.Next,16*p,size,t⟩;have Q:lpgs ⟨p,n,size⟩ ((n:Nat):Int).toNat=lpgs ⟨p,n,size⟩ n:=by rw[I2]
 have D:(pgs h.Spans (je (Nv p) h.Larges ⟨p,n,size⟩)).Perm (lpgs ⟨p,n,size⟩ n++pgs h.Spans h.Larges):=by
  refine(Bx (List.Perm.refl h.Spans) P).trans ?_;unfold pgs;rw[I5];simp only[Q];rw[<-U4,<-U4];exact List.perm_append_comm.append_right _
 have u:∀q,q∈lpgs ⟨p,n,size⟩ n↔p<=q/\q<p+n:=λq=>by
  rw[df];constructor
  ·rintro⟨j,hj,rfl⟩;exact⟨by show p<=p+(j:Int);omega,by show p+(j:Int)<_;omega⟩
  ·rintro⟨X,Y⟩;exact⟨(q - p).toNat,ω,by show q=p+_;omega⟩
 have R:(lpgs ⟨p,n,size⟩ n).Nodup:=by
  unfold lpgs List.Nodup;rw[List.pairwise_map];exact List.nodup_range.imp λr e=>r (by simp only at e;omega)
 have r:∀z∈h.Larges,z.Page≠p:=λz g e=>H p (z4 _) ω (by rw[<-e];exact fw g (df.2 ⟨0,by have:=aS (O.lok z g);omega,ω⟩))
 have S:¬lr h.Spans h.Larges (16*p):=by
  rintro(⟨z,g,d,-⟩|⟨l,c,e⟩)
  ·exact H p (z4 _) ω (by rw[show p=z.Page by have a1:=d.1;have a2:=d.2.1;omega];exact d3 g)
  ·exact r l c ω
 have F:(16*p)∉E++holders h:=λT=>S ((a.mem _).1 T)
 have U:∀o∈h.Objs,o.Addr≠16*p:=λo i e=>F (Q2.2 (.inr (by unfold holders;simp only[Q2];exact .inl (.inl (.inl (U3.2 ⟨o,i,e⟩))))))
 have Z:(E++holders (Ab.addL h k fr p n size t)).Perm ((16*p)::(E++holders h)):=by
  have h0:=C.map (·.Addr);refine List.perm_iff_count.2 λb=>?_
  have d:=h0.count_eq b;simp only[X4,List.count_cons]at d;simp only[holders,cn,Ab.addL,Y4,List.count_cons];omega
 exact {a with
   ker:=s.ker
   rng:=by show bx ((k.Machine.Table.Entries.length:Nat):Int) fr=true;rw[s.len];exact V
   lay:=by
     obtain⟨l1,l2,l3⟩:=dm a.lay;unfold bg;simp only[I0,C0];refine⟨⟨l1,O3.2 λz w=>?_⟩,D.nodup_iff.2 (List.nodup_append.2 ⟨R,l3,λq G b hb e=>?_⟩)⟩
     · rcases de.1 w with rfl|w
       · exact O0 ⟨g.1,g.2,J,K,by show p<=32 - (n:Int);omega⟩
       · exact O.lok z w
     · subst e
       have:=(u q).1 G;exact H q this.1 this.2 hb
   srl:=k7 (f:=λz:ax=>z.Page) (y:=⟨p,n,size⟩) a.srl r
   pg:=by
     refine a.pg.add (p:=p) (n:=n) s.len (by exact W) K (λq G=>s.out q G) (λq X Y=>s.new q X Y) (λq=>M q) (λq=>?_) (λz g=>⟨(aF (O.sok z g)).1,.inl g⟩) (λl c=>?_)
     · show q∈pgs h.Spans (je (Nv p) h.Larges ⟨p,n,size⟩)↔_
       rw[D.mem_iff,Q2,u];exact Or.comm
     · rcases de.1 c with rfl|c
       · exact .inr λq G=>(u q).1 (by simpa using G)
       · exact .inl c
   nums:=yv a.nums hn
   osr:=k7 (f:=λo:bm=>o.Addr) (y:=⟨h.Next,16*p,size,t⟩) a.osr U
   onu:=λo i=>by
     rcases de.1 i with rfl|i
     · have:=a.nums
       unfold cm at this;rw[C0]at this;exact⟨by show 1<=h.Next;omega,by show h.Next<=h.Next+1 - 1;omega,ht⟩
     · have:=a.onu o i
       exact⟨this.1,by show o.Id<=h.Next+1 - 1;omega,this.2.2⟩
   oid:=by
     show((je (LT (16*p)) h.Objs ⟨h.Next,16*p,size,t⟩).map (·.Id)).Nodup;rw[(C.map _).nodup_iff,X4];refine List.nodup_cons.2 ⟨λT=>?_,a.oid⟩;obtain⟨o,i,e⟩:=U3.1 T;have:=(a.onu o i).2.1;simp only at e;omega
   oow:=λo A=>by
     rcases de.1 A with rfl|A
     · exact .inr ⟨_,de.2 (.inl rfl),rfl,rfl⟩
     · rcases a.oow o A with d|⟨l,c,d⟩
       · exact .inl d
       · exact .inr ⟨l,de.2 (.inr c),d⟩
   nd:=Z.nodup_iff.2 (List.nodup_cons.2 ⟨F,a.nd⟩)
   mem:=λb=>by
     rw[Z.mem_iff,List.mem_cons,a.mem b];show _↔lr h.Spans (je (Nv p) h.Larges ⟨p,n,size⟩) b;unfold lr;constructor
     · rintro(rfl|d|⟨l,c,e⟩)
       · exact .inr ⟨_,de.2 (.inl rfl),rfl⟩
       · exact .inl d
       · exact .inr ⟨l,de.2 (.inr c),e⟩
     · rintro(d|⟨l,c,e⟩)
       · exact .inr (.inl d)
       · rcases de.1 c with rfl|c
         · exact .inl e
         · exact .inr (.inr ⟨l,c,e⟩)}
structure JK(h h':ab):Prop where
 job:h'.Job=h.Job
 msh:h'.Meshing=h.Meshing
 sp:∀s∈h.Spans,eR h s.Page=true->∃s'∈h'.Spans,s'.Page=s.Page/\∀u,meshable s u=true->meshable s' u=true
 ent:∀q:Nat,(nth (tbl h').Entries q).Mode≠0->((nth (tbl h).Entries q).Mode≠0/\(nth (tbl h').Entries q).Frame=(nth (tbl h).Entries q).Frame)\/∀u:Nat,(nth (tbl h').Entries u).Mode≠0->(nth (tbl h').Entries u).Frame=(nth (tbl h').Entries q).Frame->u=q
theorem JK.refl(h:ab):JK h h:=⟨rfl,rfl,λs a _=>⟨s,a,rfl,λ_ z=>z⟩,λ_ b=>.inl ⟨b,rfl⟩⟩
theorem JK.pg{h h':ab}(k:JK h h')(p:Int):eR h' p=eR h p:=by unfold eR;rw[k.job,k.msh]
theorem JK.trans{h h1 g:ab}(a:JK h h1)(b:JK h1 g):JK h g:=by
 refine⟨b.job.trans a.job,b.msh.trans a.msh,λs o i=>?_,λq j=>?_⟩
 ·obtain⟨p,r,k,t⟩:=a.sp s o i
  obtain⟨w,y,A,B⟩:=b.sp p r (by rw[a.pg,k];exact i);exact⟨w,y,A.trans k,λu c=>B u (t u c)⟩
 ·rcases b.ent q j with⟨d,l⟩|d
  ·rcases a.ent q d with⟨e,C⟩|e
   ·exact .inl ⟨e,l.trans C⟩
   ·refine .inr λu c n=>?_
    rcases b.ent u c with⟨f,D⟩|f
    ·exact e u f (by rw[<-D,<-l];exact n)
    ·exact(f q j n.symm).symm
  ·exact .inr d
theorem oo.keep{h h':ab}{p:Int}(f:0<=p)(d:(nth (tbl h').Entries p.toNat).Mode≠0)(g:oo (tbl h) p)(k:JK h h'):oo (tbl h') p:=λq e c=>by
 rcases k.ent p.toNat d with⟨n,i⟩|a
 ·rcases k.ent q e with⟨j,l⟩|b
  ·exact g q j (by rw[<-l,c,i])
  ·have:=b p.toNat d c.symm;omega
 ·have:=a q e c;omega
theorem bn.mapped{h:ab}{E:List Int}(a:bn h E){s:au}(b:s∈h.Spans):0<=s.Page/\s.Page<(tbl h).Entries.length/\(nth (tbl h).Entries s.Page.toNat).Mode≠0:=by
 have c:=(aF (a.L.sok s b)).1;have d:=a.pg.bnd _ (d3 (la:=h.Larges) b);refine⟨c,d,(a.pg.own s.Page.toNat ω).2 ?_⟩;rw[show((s.Page.toNat:Nat):Int)=s.Page by omega];exact d3 b
theorem JI.keep{h h':ab}{E:List Int}(l:JI h)(p:bn h' E)(k:JK h h'):JI h':=by
 have d:h.Meshing=true->∃a∈h'.Spans,∃b∈h'.Spans,a.Page=h.Job.Plan.Keep/\b.Page=h.Job.Plan.Move/\meshable a b=true:=λc=>by
  obtain⟨a,n,b,o,f,g,e⟩:=l.sp c;obtain⟨q,t,u,w⟩:=k.sp a n (by unfold eR;rw[c,f];simp);obtain⟨y,A,B,C⟩:=k.sp b o (by unfold eR;rw[c,g];simp);refine⟨q,t,y,A,u.trans f,B.trans g,?_⟩;have r:=w b e;rw[iM]at r |-;exact C q r
 refine⟨λc=>?_,λc=>?_,λc=>?_,λc=>?_⟩
 ·rw[k.msh]at c;rw[k.job];exact l.ph c
 ·rw[k.msh]at c;rw[k.job];exact d c
 ·rw[k.msh]at c
  obtain⟨a,n,b,o,f,g,e⟩:=d c;obtain⟨i,D,j⟩:=p.mapped n;rw[k.job];rw[f]at i j;exact(l.sk c).keep i j k
 ·rw[k.msh]at c
  obtain⟨a,n,b,o,f,g,e⟩:=d c;obtain⟨i,D,j⟩:=p.mapped o;rw[k.job];rw[g]at i j;exact(l.sm c).keep i j k
theorem JK.less{h h':ab}(h1:h'.Job=h.Job)(c:h'.Meshing=h.Meshing)(d:h'.Spans=h.Spans)(b:∀q:Nat,(nth (tbl h').Entries q).Mode≠0->nth (tbl h').Entries q=nth (tbl h).Entries q):JK h h':=
 ⟨h1,c,λs e _=>⟨s,by rw[d];exact e,rfl,λ_ z=>z⟩,λq a=>.inl ⟨by rw[<-b q a];exact a,by rw[b q a]⟩⟩
theorem JK.eq{h h':ab}(h1:h'.Job=h.Job)(a:h'.Meshing=h.Meshing)(b:h'.Spans=h.Spans)(c:tbl h'=tbl h):JK h h':=.less h1 a b λq _=>by rw[c]
theorem JK.clrS{h:ab}{E:List Int}{a:Int}{i:Nat}(f:bn h E)(c:i<h.Spans.length)(d:eI (nth h.Spans i) a):JK h (clrS h i a):=by
 refine⟨rfl,rfl,λs g _=>?_,λq k=>.inl ⟨k,rfl⟩⟩;obtain⟨j,l,rfl⟩:=bf g;by_cases e:j=i
 ·subst e
  have b:=f.L.sok _ (am c);exact⟨_,ig _ c,rfl,λu n=>ss b (rS b ⟨d.1,d.2.1⟩) n⟩
 ·exact⟨_,iW _ l e,rfl,λ_ z=>z⟩
theorem JK.giveP{h:ab}{E:List Int}{i:Nat}(d:bn h E)(f:i<h.Spans.length)(c:eR h (nth h.Spans i).Page=false):JK h (giveP h i):=by
 obtain⟨g,k,-⟩:=d.mapped (am f);refine⟨rfl,rfl,λs l a=>?_,λq b=>.inl ?_⟩
 ·obtain⟨j,n,rfl⟩:=bf l
  exact⟨_,er.2 ⟨j,n,λe=>(by subst e;rw[c]at a;cases a),rfl⟩,rfl,λ_ z=>z⟩
 ·have o:=vd d.ker (p:=(nth h.Spans i).Page) ⟨g,k⟩ q
  change (nth (cr h.Kernel (nth h.Spans i).Page).Machine.Table.Entries q).Mode≠0 at b;show(nth h.Kernel.Machine.Table.Entries q).Mode≠0/\(nth (cr h.Kernel (nth h.Spans i).Page).Machine.Table.Entries q).Frame=(nth h.Kernel.Machine.Table.Entries q).Frame;rw[o]at b |-;split at b
  ·exact absurd rfl b
  ·rename_i e
   rw[C7 e];exact⟨b,rfl⟩
theorem JK.freeS{h:ab}{E:List Int}{a:Int}{i:Nat}(c:bn h (a::E))(b:i<h.Spans.length)(d:eI (nth h.Spans i) a):JK h (freeS h i a):=by
 have g:=c.give b d;have f:=JK.clrS c b d;unfold Ab.freeS;split
 ·rename_i e
  have j:nth (Ab.clrS h i a).Spans i=jJ (nth h.Spans i) (dv (nth h.Spans i) a):=by unfold Ab.clrS;simp only[cw,true_and];rw[C8 b]
  exact f.trans (JK.giveP (h:=Ab.clrS h i a) g (by unfold Ab.clrS;simp only[C1];exact b) (by rw[j];exact e.2))
 ·exact f
theorem JK.freeA{h:ab}{E:List Int}{a:Int}(b:bn h (a::E)):JK h (freeA h a):=by
 obtain⟨c,d,-⟩:=b.at (b.hin a (O1 ..));exact JK.freeS b c d
theorem JK.recyc{h:ab}{E:List Int}{a:Int}{t:Nat}(b:bn h (a::E)):JK h (recyc t h a):=by
 unfold Ab.recyc;split
 ·exact JK.eq rfl rfl rfl rfl
 ·exact JK.freeA b
theorem JK.recycs{t:Nat}{E:List Int} : ∀{az:List Int}{h:ab},bn h (az++E)->t<h.Caches.length->JK h (recycs t h az)
 | [],h,_,_=>JK.refl h
 | a::az,h,b,c=>(JK.recyc (t:=t) b).trans (JK.recycs (az:=az) (h:=Ab.recyc t h a) (b.recyc c) (by rw[(pS t h a).1];exact c))
theorem JK.freeAs{E:List Int} : ∀{az:List Int}{h:ab},bn h (az++E)->JK h (freeAs h az)
 | [],h,_=>JK.refl h
 | a::az,h,b=>(JK.freeA b).trans (JK.freeAs (az:=az) (h:=Ab.freeA h a) b.freeA)
theorem JK.flushN{t:Nat}{h:ab}(c:bn h [])(d:t<h.Caches.length):∀{k:Nat},k<=4->JK h (flushN t h k).1
 | 0,_=>JK.refl h
 | k+1,e=>by
  obtain⟨h1,f,-⟩:=ki c d (k:=k) ω;have a:t<(Ab.flushN t h k).1.Caches.length:=ω
  have b:k<(nth (Ab.flushN t h k).1.Caches t).Lists.length:=by rw[(dL (h1.cach _ (am a))).1];omega
  exact JK.trans (h1:=Ab.spilt (Ab.flushN t h k).1 t k) ((JK.flushN c d (k:=k) ω).trans (JK.eq rfl rfl rfl rfl)) (JK.freeAs (h1.spilt a b))
theorem AR{h:ab}{E:List Int}(a:bn h E){k:Nat}(b:k<h.Larges.length):0<=(nth h.Larges k).Page/\(nth h.Larges k).Page+((nth h.Larges k).Pages.toNat:Nat)<=(tbl h).Entries.length:=by
 have c:=aS (a.L.lok _ (am b));have d:=a.pg.bnd _ (fw (sp:=h.Spans) (am b) (df.2 ⟨(nth h.Larges k).Pages.toNat - 1,ω,rfl⟩));exact⟨ω,ω⟩
theorem JK.freeL{h:ab}{E:List Int}{i k:Nat}(b:bn h E)(c:k<h.Larges.length):JK h (freeL h i k):=by
 obtain⟨d,f⟩:=AR b c;refine JK.less rfl rfl rfl λq a=>?_
 have g:=lz b.ker d (nth h.Larges k).Pages.toNat f q;change (nth (d6 h.Kernel (nth h.Larges k).Page (nth h.Larges k).Pages.toNat).Machine.Table.Entries q).Mode≠0 at a;show nth (d6 h.Kernel (nth h.Larges k).Page (nth h.Larges k).Pages.toNat).Machine.Table.Entries q=nth h.Kernel.Machine.Table.Entries q;rw[g]at a |-;split at a
 ·exact absurd rfl a
 ·rename_i e;rw[C7 e]
theorem JK.freeOb{h:ab}{t i:Nat}(a:bn h [])(c:i<h.Objs.length)(d:t<h.Caches.length):JK h (freeOb h t i).1:=by
 unfold Ab.freeOb;split
 ·rename_i b
  obtain⟨l,e,h1,-⟩:=(d2 a (am c)).1 b;exact JK.freeL a (q8 e h1).1
 ·rename_i b
  split
  ·exact JK.refl h
  ·have h1:=a.inQuar c b
   exact JK.trans (h1:=Ab.inQuar h i) (JK.eq rfl rfl rfl rfl) (JK.recycs (E:=[]) (by rw[List.append_nil];exact h1) d)
theorem JK.take{h:ab}{i:Nat}{k sd:Int}(b:eR h (nth h.Spans i).Page=false):JK h {h with Seed:=sd,Spans:=h.Spans.set i (pC (nth h.Spans i) k)}:=by
 refine⟨rfl,rfl,λs c a=>?_,λq d=>.inl ⟨d,rfl⟩⟩;obtain⟨j,f,rfl⟩:=bf c;exact⟨_,iW _ f λe=>(by subst e;rw[b]at a;cases a),rfl,λ_ z=>z⟩
theorem z7{t:aG}{q:Nat}(h:(nth t.Entries q).Mode≠0):q<t.Entries.length:=by
 by_cases e:q<t.Entries.length
 ·exact e
 ·exfalso
  apply h;unfold nth;rw[C2,Z1 ω]
  rfl
theorem JK.addS{h:ab}{k:af}{l:List ay}{p c:Int}(s:AP h.Kernel p (k,true)):JK h (addS h k l p c):=by
 obtain⟨f,t,w,d,n⟩:=s.yes rfl;have b:k.Machine.Table.Entries.length=h.Kernel.Machine.Table.Entries.length:=s.len;refine⟨rfl,rfl,λz o _=>⟨z,de.2 (.inr o),rfl,λ_ y=>y⟩,λq g=>?_⟩;change (nth k.Machine.Table.Entries q).Mode≠0 at g;show((nth h.Kernel.Machine.Table.Entries q).Mode≠0/\(nth k.Machine.Table.Entries q).Frame=(nth h.Kernel.Machine.Table.Entries q).Frame)\/∀u:Nat,(nth k.Machine.Table.Entries u).Mode≠0->(nth k.Machine.Table.Entries u).Frame=(nth k.Machine.Table.Entries q).Frame->u=q
 by_cases e:(q:Int)=p
 ·refine .inr λu i a=>?_
  have j:=z7 i;have f3u:=d u;have f3q:=d q;simp only at f3u f3q;rw[C8 e]at f3q;rw[f3q]at a;by_cases r:(u:Int)=p
  ·omega
  ·rw[C7 r]at f3u
   rw[f3u]at i a;exact absurd a (n u (by rw[<-b];exact j) i)
 ·have f3q:=d q
  simp only at f3q;rw[C7 e]at f3q;rw[f3q]at g |-;exact .inl ⟨g,rfl⟩
theorem JK.addL{h:ab}{k:af}{g:List ay}{p size t:Int}{n:Nat}(s:n9 h.Kernel p n (k,n)):JK h (addL h k g p n size t):=by
 have a:k.Machine.Table.Entries.length=h.Kernel.Machine.Table.Entries.length:=s.len;refine⟨rfl,rfl,λz i _=>⟨z,i,rfl,λ_ y=>y⟩,λq b=>?_⟩;change (nth k.Machine.Table.Entries q).Mode≠0 at b;show((nth h.Kernel.Machine.Table.Entries q).Mode≠0/\(nth k.Machine.Table.Entries q).Frame=(nth h.Kernel.Machine.Table.Entries q).Frame)\/∀u:Nat,(nth k.Machine.Table.Entries u).Mode≠0->(nth k.Machine.Table.Entries u).Frame=(nth k.Machine.Table.Entries q).Frame->u=q
 by_cases e:p<=q/\(q:Int)<p+n
 ·exact .inr λu d c=>(s.new q e.1 e.2).2 u (by rw[<-a];exact z7 d) d c
 ·have f:=s.out q e
  simp only at f;rw[f]at b |-;exact .inl ⟨b,rfl⟩
theorem sL(h:ab):∀{n:Nat},n<=h.Spans.length->∀s∈kE h n,(aT h s.Page).length=1
 | 0,_,s,a=>by cases a
 | n+1,b,s,a=>by
  unfold kE at a;split at a
  ·rename_i e
   rcases Q2.1 a with a|a
   ·exact sL h ω s a
   ·unfold zc at e
    simp only[I0,C0]at e;rw[Z0.1 a];exact e.2
  ·exact sL h ω s a
theorem bn.sole{h:ab}{E:List Int}(e:bn h E){s:au}(f:s∈h.Spans)(h1:(aT h s.Page).length=1):oo (tbl h) s.Page:=λq a g=>by
 obtain⟨k,l,b⟩:=e.mapped f;have i:s.Page=((s.Page.toNat:Nat):Int):=ω
 rw[i,eD (by show s.Page.toNat<(tbl h).Entries.length;omega) b]at h1;obtain⟨z,j⟩:=List.length_eq_one_iff.1 h1;have c:(s.Page.toNat:Int)∈pagesOn (tbl h) (nth (tbl h).Entries s.Page.toNat).Frame:=d8.2 ⟨ω,b,rfl⟩;have d:(q:Int)∈pagesOn (tbl h) (nth (tbl h).Entries s.Page.toNat).Frame:=d8.2 ⟨z7 a,a,g⟩;rw[j]at c d;simp only[Z0]at c d;omega
theorem FC{h:ab}(hi:bn h [])(l:h.Meshing=false):bn (started h).1 []/\JI (started h).1:=by
 have F:=hi.nums;unfold cm at F;rw[C0]at F;have L:=(lB (bO h).length (show 0<=h.Seed/\h.Seed<=1073741823 by omega) ((bO h).length - 1)).2;have n:=qb (bO h) (show 0<=h.Seed/\h.Seed<=1073741823 by omega);have c:cm {h with Seed:=(shuf (bO h).length h.Seed).2} = true:=by
  unfold cm;rw[C0];unfold shuf;simp only;omega
 cases o:mu (bO h) h.Seed with
 | nil=>
  have f:Ab.started h=({h with Seed:=(shuf (bO h).length h.Seed).2},false):=by unfold Ab.started;rw[o]
  rw[f];exact⟨{hi with nums:=c},⟨λe=>by simp[l]at e,λe=>by simp[l]at e,λe=>by simp[l]at e,λe=>by simp[l]at e⟩⟩
 | cons q Q=>
  obtain⟨R,S,g⟩:=n q (by rw[o];exact O1 ..);have f:Ab.started h=({h with Seed:=(shuf (bO h).length h.Seed).2,Meshing:=true,Job:=vB (dD (nth (bO h) q.A.toNat) (nth (bO h) q.B.toNat))},true):=by unfold Ab.started;rw[o]
  rw[f];have d:∀s∈bO h,s∈h.Spans/\oo (tbl h) s.Page:=λs M=>by
   have G:=List.mem_of_mem_take M;have H:=oN h (R2 _) s G;exact⟨H,hi.sole H (sL h (R2 _) s G)⟩
  have j:=d _ (am (xs:=bO h) (i:=q.A.toNat) ω);have k:=d _ (am (xs:=bO h) (i:=q.B.toNat) ω);generalize nth (bO h) q.A.toNat=a at g j |-;generalize nth (bO h) q.B.toNat=b at g k |-;obtain⟨N,T,U⟩:=sf g;have p:(dD a b).Keep=a.Page/\(dD a b).Move=b.Page\/(dD a b).Keep=b.Page/\(dD a b).Move=a.Page:=by
   unfold dD;split
   ·exact .inr ⟨rfl,rfl⟩
   ·exact .inl ⟨rfl,rfl⟩
  have r:iY (vB (dD a b))=true:=f6.2 ⟨N,by show(0:Int)<=0;omega,by show(0:Int)<=5;omega,by show(0:Int)<=0;omega,by show(0:Int)<=(((dD a b).Cells.length:Nat):Int);omega⟩;have t:∃x∈h.Spans,∃y∈h.Spans,x.Page=(dD a b).Keep/\y.Page=(dD a b).Move/\meshable x y=true/\oo (tbl h) x.Page/\oo (tbl h) y.Page:=by
   rcases p with⟨u,w⟩|⟨u,w⟩
   ·exact⟨a,j.1,b,k.1,u.symm,w.symm,g,j.2,k.2⟩
   ·exact⟨b,k.1,a,j.1,u.symm,w.symm,by rw[iM];exact g,k.2,j.2⟩
  obtain⟨x,J,y,K,C,D,E,O,P⟩:=t;exact⟨{hi with nums:=c,job:=λ_=>⟨r,⟨x,J,C⟩,⟨y,K,D⟩⟩,noj:=λe=>by cases e},⟨λ_=>⟨by show(0:Int)<=0;omega,by show(0:Int)<=3;omega⟩,λ_=>⟨x,J,y,K,C,D,E⟩,λ_=>by show oo (tbl h) (dD a b).Keep;rw[<-C];exact O,λ_=>by show oo (tbl h) (dD a b).Move;rw[<-D];exact P⟩⟩
def f9(m:aH)(f:Nat):aH:=⟨m.Buffers.set f ((nth m.Buffers f).drop 1),m.Inbox.set (nth (nth m.Buffers f) 0).To.toNat (nth m.Inbox (nth (nth m.Buffers f) 0).To.toNat++[(nth (nth m.Buffers f) 0).Addr])⟩
def kI(m:aH)(t:Nat):aH:=⟨m.Buffers,m.Inbox.set t []⟩
def eg(m:aH)(f:Nat)(p:cG):aH:=⟨m.Buffers.set f (nth m.Buffers f++[p]),m.Inbox⟩
theorem dy{m:aH} : b6 m=true↔(1<=m.Buffers.length/\m.Buffers.length<=4/\m.Inbox.length=m.Buffers.length)/\(∀i,i<m.Buffers.length->(∀p∈nth m.Buffers i,0<=p.To/\p.To<=(m.Buffers.length:Int) - 1/\0<=p.Addr)/\∀a∈nth m.Inbox i,0<=a)/\bu m m.Buffers.length<=30:=by
 unfold b6;simp only[I0,C0,ce,gg,O3,mA,M5];exact and_assoc
theorem nP(m:aH)(f t:Nat)(x:List cG)(y:List Int)(g:f<m.Buffers.length)(h:t<m.Inbox.length):∀n:Nat,bu ⟨m.Buffers.set f x,m.Inbox.set t y⟩ n=bu m n+(if f<n then(x.length:Int) - ((nth m.Buffers f).length:Nat) else 0)+(if t<n then(y.length:Int) - ((nth m.Inbox t).length:Nat) else 0)
 | 0=>by simp[bu]
 | n+1=>by
  have i:=nP m f t x y g h n;have j:(nth (m.Buffers.set f x) n).length=if f=n then x.length else(nth m.Buffers n).length:=by
   rw[cw];by_cases e:f=n
   ·rw[C8 ⟨e,ω⟩,C8 e]
   ·rw[C7 λz=>e z.1,C7 e]
  have k:(nth (m.Inbox.set t y) n).length=if t=n then y.length else(nth m.Inbox n).length:=by
   rw[cw];by_cases e:t=n
   ·rw[C8 ⟨e,ω⟩,C8 e]
   ·rw[C7 λz=>e z.1,C7 e]
  simp only[bu,i,j,k];by_cases d:f=n
  ·subst d
   by_cases b:t=f
   ·subst b
    simp only[if_true,Nat.lt_irrefl,if_false,Nat.lt_succ_self];omega
   ·simp only[if_true,Nat.lt_irrefl,if_false,Nat.lt_succ_self,C7 b]
    by_cases a:t<f
    ·rw[C8 a,C8 (show t<f+1 by omega)];omega
    ·rw[C7 a,C7 (show ¬t<f+1 by omega)];omega
  ·by_cases b:t=n
   ·subst b
    simp only[if_true,Nat.lt_irrefl,if_false,Nat.lt_succ_self,C7 d];by_cases a:f<t
    ·rw[C8 a,C8 (show f<t+1 by omega)];omega
    ·rw[C7 a,C7 (show ¬f<t+1 by omega)];omega
   ·simp only[C7 d,C7 b]
    by_cases a:f<n
    ·rw[C8 a,C8 (show f<n+1 by omega)]
     by_cases c:t<n
     ·rw[C8 c,C8 (show t<n+1 by omega)];omega
     ·rw[C7 c,C7 (show ¬t<n+1 by omega)];omega
    ·rw[C7 a,C7 (show ¬f<n+1 by omega)]
     by_cases c:t<n
     ·rw[C8 c,C8 (show t<n+1 by omega)];omega
     ·rw[C7 c,C7 (show ¬t<n+1 by omega)];omega
theorem Mo{α:Type}[Inhabited α]{xs:List α}{i:Nat}(h:i<xs.length):xs.set i (nth xs i)=xs:=by
 rw[<-V1.1 (ah h) |>.2];exact List.set_getElem_self h
theorem D1{m:aH}(h:b6 m=true){f:Nat}(d:f<m.Buffers.length)(n:0<(nth m.Buffers f).length):b6 (f9 m f)=true:=by
 obtain⟨⟨o,q,r⟩,g,y⟩:=dy.1 h;obtain⟨t,A⟩:=g f d;have c:=t _ (am n);have u:(nth (nth m.Buffers f) 0).To.toNat<m.Inbox.length:=ω
 refine dy.2 ⟨⟨?_,?_,?_⟩,λi j=>?_,?_⟩
 ·simp only[f9,C1];exact o
 ·simp only[f9,C1];exact q
 ·simp only[f9,C1];exact r
 ·simp only[f9,C1]at j |-
  obtain⟨k,l⟩:=g i j;simp only[cw];refine⟨λp c=>?_,λa b=>?_⟩
  ·split at c
   ·rename_i e;rw[<-e.1]at k
    refine(g f d).1 p (List.mem_of_mem_drop c)
   ·exact k p c
  ·split at b
   ·rename_i e
    rcases Q2.1 b with b|b
    ·rw[e.1]at b;exact l a b
    ·rw[Z0.1 b];exact c.2.2
   ·exact l a b
 ·have w:=nP m f (nth (nth m.Buffers f) 0).To.toNat ((nth m.Buffers f).drop 1) (nth m.Inbox (nth (nth m.Buffers f) 0).To.toNat++[(nth (nth m.Buffers f) 0).Addr]) d u m.Buffers.length
  simp only[f9,C1];rw[w,C8 d,C8 ω,X2,W2,List.length_singleton];omega
theorem Ms{m:aH}(h:b6 m=true){t:Nat}(d:t<m.Inbox.length):b6 (kI m t)=true:=by
 obtain⟨⟨e,f,g⟩,j,o⟩:=dy.1 h;refine dy.2 ⟨⟨e,f,?_⟩,λi k=>?_,?_⟩
 ·simp only[kI,C1];exact g
 ·obtain⟨l,n⟩:=j i k
  simp only[kI,cw];refine⟨l,λa b=>?_⟩;split at b
  ·cases b
  ·exact n a b
 ·have c:=nP m t t (nth m.Buffers t) [] ω d m.Buffers.length
  rw[Mo ω]at c;show bu ⟨m.Buffers,m.Inbox.set t []⟩ m.Buffers.length<=30;rw[c,C8 ω,C8 ω,List.length_nil];omega
theorem jP{m:aH}(h:b6 m=true)(b:Int):(aO m).count b=(m.Buffers.flatMap λl=>l.map (·.Addr)).count b+(m.Inbox.flatMap λx=>x).count b:=by
 unfold aO;rw[C8 h,Y4,jV]
theorem bn.mailed{h:ab}{E c:List Int}{m:aH}(d:bn h E)(i:b6 m=true)(j:m.Buffers.length=h.Mail.Buffers.length)(k:∀b,c.count b+(aO m).count b=E.count b+(aO h.Mail).count b)(f:∀a,a∈c\/a∈aO m->jd h.Spans a (-1)):bn {h with Mail:=m} c:=by
 have g:(E++holders h).Perm (c++holders {h with Mail:=m}):=by
  refine List.perm_iff_count.2 λb=>?_
  have l:=k b;simp only[holders,cn,Y4];omega
 exact {d with
   mail:=i
   nc:=d.nc.trans j.symm
   hfl:=λa e=>f a (.inr e)
   hin:=λa e=>f a (.inl e)
   nd:=g.nodup_iff.1 d.nd
   mem:=λb=>by rw[<-g.mem_iff];exact d.mem b}
theorem EB{h:ab}{E d:List Int}{m:aH}(f:bn h E)(g:∀b,d.count b+(aO m).count b=E.count b+(aO h.Mail).count b):∀a,a∈d\/a∈aO m->jd h.Spans a (-1):=λa c=>by
 have i:=g a;have j:0<d.count a+(aO m).count a:=by
  rcases c with c|c
  ·have:=List.count_pos_iff.2 c;omega
  ·have:=List.count_pos_iff.2 c;omega
 by_cases e:0<E.count a
 ·exact f.hin a (List.count_pos_iff.1 e)
 ·exact f.hfl a (List.count_pos_iff.1 ω)
theorem bn.deliv{h:ab}{E:List Int}{f:Nat}(a:bn h E)(e:f<h.Mail.Buffers.length)(d:0<(nth h.Mail.Buffers f).length):bn {h with Mail:=f9 h.Mail f} E:=by
 have c:=D1 a.mail e d;obtain⟨⟨q,r,t⟩,j,u⟩:=dy.1 a.mail;have k:=(j f e).1 _ (am d);have g:∀b,E.count b+(aO (f9 h.Mail f)).count b=E.count b+(aO h.Mail).count b:=λb=>by
  rw[jP c,jP a.mail];have i:=ib (λl:List cG=>l.map (·.Addr)) b h.Mail.Buffers f ((nth h.Mail.Buffers f).drop 1) e;have n:=ib (λx:List Int=>x) b h.Mail.Inbox (nth (nth h.Mail.Buffers f) 0).To.toNat (nth h.Mail.Inbox (nth (nth h.Mail.Buffers f) 0).To.toNat++[(nth (nth h.Mail.Buffers f) 0).Addr]) ω;have o:(nth h.Mail.Buffers f).map (·.Addr)=(nth (nth h.Mail.Buffers f) 0).Addr::((nth h.Mail.Buffers f).drop 1).map (·.Addr):=by
   generalize nth h.Mail.Buffers f=l at d
   match l,d with
   | p::l,_=>rfl
  simp only[f9];rw[o]at i;simp only[List.count_cons]at i;simp only[Y4,List.count_singleton]at n;omega
 exact a.mailed c (by simp[f9]) g (EB a g)
theorem bn.coll{h:ab}{E:List Int}{t:Nat}(c:bn h E)(d:t<h.Mail.Inbox.length):bn {h with Mail:=kI h.Mail t} (nth h.Mail.Inbox t++E):=by
 have a:=Ms c.mail d;have e:∀b,(nth h.Mail.Inbox t++E).count b+(aO (kI h.Mail t)).count b=E.count b+(aO h.Mail).count b:=λb=>by
  rw[jP a,jP c.mail];have f:=ib (λx:List Int=>x) b h.Mail.Inbox t [] d;simp only[List.count_nil]at f;simp only[kI,Y4];omega
 exact c.mailed a rfl e (EB c e)
theorem bn.send{h:ab}{E:List Int}{f:Nat}{p:cG}(c:bn h (p.Addr::E))(e:f<h.Mail.Buffers.length)(a:b6 (eg h.Mail f p)=true):bn {h with Mail:=eg h.Mail f p} E:=by
 have d:∀b,E.count b+(aO (eg h.Mail f p)).count b=(p.Addr::E).count b+(aO h.Mail).count b:=λb=>by
  rw[jP a,jP c.mail];have g:=ib (λl:List cG=>l.map (·.Addr)) b h.Mail.Buffers f (nth h.Mail.Buffers f++[p]) e;simp only[V4,X4,List.map_nil,Y4,List.count_singleton]at g;simp only[eg,List.count_cons];omega
 exact c.mailed a (by simp[eg]) d (EB c d)
def q7(now:Int):List aL->Nat
 | []=>0
 | x::xs=>if x.Since<now - 100 then q7 now xs+1 else 0
def aged(h:ab)(n:Int):ab:={h with Clock:=h.Clock+n,Quar:=⟨h.Quar.Room,h.Quar.Lst.drop (q7 (h.Clock+n) h.Quar.Lst)⟩}
def mI(h:ab)(n:Int):List Int:=(h.Quar.Lst.take (q7 (h.Clock+n) h.Quar.Lst)).map (·.Addr)
def tick(h:ab)(n:Int):ab:=freeAs (aged h n) (mI h n)
theorem nB(x:aL)(xs:List aL):∀n,quarCells (x::xs) (n+1)=csz x.Class+quarCells xs n
 | 0=>by simp only[quarCells];show 0+csz x.Class=csz x.Class+0;omega
 | n+1=>by
  rw[i6,nB x xs n,i6];show csz x.Class+quarCells xs n+csz (nth xs n).Class=_;omega
theorem NJ(k:Int):0<=csz k:=by
 unfold csz;split
 ·exact Int.le_of_lt (Int.pow_pos (by decide))
 ·decide
theorem Gk:∀(l:List aL)(k:Nat),qc (l.drop k)<=qc l
 | [],k=>by simp
 | x::xs,0=>z4 _
 | x::xs,k+1=>by
  have a:=Gk xs k;have b:=NJ x.Class;have c:qc (x::xs)=csz x.Class+qc xs:=nB x xs xs.length;show qc (xs.drop k)<=qc (x::xs);omega
theorem bn.aged{h:ab}{E:List Int}{n:Int}(a:bn h E)(t:0<=n)(u:h.Clock+n<=1000000):bn (aged h n) (mI h n++E):=by
 obtain⟨i,j,k,o,p,q⟩:=ij.1 a.quar;have c:=a.nums;unfold cm at c;rw[C0]at c;have e:=List.drop_sublist (q7 (h.Clock+n) h.Quar.Lst) h.Quar.Lst;have g:(E++holders h).Perm ((mI h n++E)++holders (Ab.aged h n)):=by
  refine List.perm_iff_count.2 λb=>?_
  have r:=T0 (λl:List aL=>(l.map (·.Addr)).count b) (List.take_append_drop (q7 (h.Clock+n) h.Quar.Lst) h.Quar.Lst);simp only[V4,Y4]at r;simp only[holders,cn,Ab.aged,mI,Y4];omega
 exact {a with
   nums:=by unfold cm;rw[C0];simp only[Ab.aged];omega
   quar:=ij.2 ⟨λy d=>i y (e.subset d),j.sublist e,k.sublist (e.map _),o,p,v4 (Gk _ _) q⟩
   snc:=λy d=>by
     have:=a.snc y (e.subset d);show y.Since<=h.Clock+n;omega
   hqu:=λy d=>a.hqu y (e.subset d)
   hin:=λb f=>by
     rcases Q2.1 f with f|f
     · obtain⟨y,d,rfl⟩:=U3.1 f
       exact(a.hqu y (List.mem_of_mem_take d)).any
     · exact a.hin b f
   nd:=g.nodup_iff.1 a.nd
   mem:=λb=>by rw[<-g.mem_iff];exact a.mem b}
theorem bn.tick{h:ab}{n:Int}(a:bn h [])(b:0<=n)(c:h.Clock+n<=1000000):bn (tick h n) []/\JK h (tick h n):=by
 have h1:=a.aged b c;exact⟨bn.freeAs h1,JK.trans (h1:=Ab.aged h n) (JK.eq rfl rfl rfl rfl) (JK.freeAs h1)⟩
def collect(h:ab)(t:Nat):ab:=recycs t {h with Mail:=kI h.Mail t} (nth h.Mail.Inbox t)
theorem bn.collect{h:ab}{t:Nat}(a:bn h [])(b:t<h.Caches.length):bn (collect h t) []/\JK h (collect h t):=by
 have h1:=a.coll (t:=t) (by rw[(dy.1 a.mail).1.2.2,<-a.nc];exact b);exact⟨bn.recycs h1 b,JK.trans (h1:={h with Mail:=kI h.Mail t}) (JK.eq rfl rfl rfl rfl) (JK.recycs h1 b)⟩
def zf(h:ab)(t i:Nat):ab:={h with Kernel:=dP h.Kernel (nth h.Objs i).Addr (csz (aK (nth h.Objs i).Size)).toNat,Objs:=dele h.Objs i,Mail:=eg h.Mail t ⟨(nth h.Objs i).Thread,(nth h.Objs i).Addr⟩}
def freeT(h:ab)(t i:Nat):ab × Int:=
 if aK (nth h.Objs i).Size<0 then(freeL h i (rj h (nth h.Objs i).Addr),0)
 else if(ar (tbl h) ((nth h.Objs i).Addr / 16)).Mode=1 then(h,5)
 else if(nth h.Objs i).Thread=t then(G5 h t i,0)
 else if b6 (eg h.Mail t ⟨(nth h.Objs i).Thread,(nth h.Objs i).Addr⟩)=true then(zf h t i,0) else(h,5)
theorem sA{h:ab}{t i:Nat}(e:(nth h.Objs i).Thread=t):freeT h t i=freeOb h t i:=by
 unfold freeT freeOb;rw[C8 e]
theorem bn.freeT{h:ab}{t i:Nat}(a:bn h [])(b:i<h.Objs.length)(c:t<h.Caches.length):bn (freeT h t i).1 []/\JK h (freeT h t i).1:=by
 by_cases e:(nth h.Objs i).Thread=t
 ·rw[sA e];exact⟨a.freeOb b c,JK.freeOb a b c⟩
 have d:=a.freeOb b c;have f:=JK.freeOb a b c;unfold Ab.freeOb at d f;unfold Ab.freeT;split
 ·rename_i g
  rw[C8 g]at d f;exact⟨d,f⟩
 rename_i g;rw[C7 g]at d f;split
 ·exact⟨a,JK.refl h⟩
 split
 ·rename_i j
  obtain⟨⟨s,l,n,o⟩,u⟩:=(d2 a (am b)).2 g;have q:=a.dropO b (jd.any ⟨s,l,n,.inr o⟩);have r:=q.cells (k:=dP h.Kernel (nth h.Objs i).Addr (csz (aK (nth h.Objs i).Size)).toNat) (BG a.ker _ _) rfl;exact⟨bn.send (p:=⟨(nth h.Objs i).Thread,(nth h.Objs i).Addr⟩) r (by show t<h.Mail.Buffers.length;rw[<-a.nc];exact c) j,JK.eq rfl rfl rfl rfl⟩
 ·exact⟨a,JK.refl h⟩
def kA(k:af)(a v:Int):af:=setCell k (dZ k a) (a % 16) v
theorem vg{k:af}(h:aB k=true){a v:Int}(b:(ar k.Machine.Table (a / 16)).Mode≠0)(c:0<=v/\v<=999):aB (kA k a v)=true:=by
 obtain⟨d,e,-⟩:=iK h b;exact pG h (f:=dZ k a) d e c
theorem bn.store{h:ab}{a v:Int}(b:bn h [])(c:(ar h.Kernel.Machine.Table (a / 16)).Mode≠0)(d:0<=v/\v<=999):bn {h with Kernel:=kA h.Kernel a v} []/\JK h {h with Kernel:=kA h.Kernel a v}:=
 ⟨b.cells (vg b.ker c d) rfl,JK.eq rfl rfl rfl rfl⟩
theorem Nd{xs:List Int}{x:Int}(h:cL xs.length (λj=>decide (nth xs j≠x))=true):x∉xs:=λb=>by
 obtain⟨j,a⟩:=List.mem_iff_getElem?.1 b;have:=dM h (V1.1 a).1;rw[bw a]at this;simp at this
theorem Dh(xs:List Int)(x:Int)(g:xs.length<=4611686018427387904):ao Tryz.prog 268 false [.val none (aD .imm xs),.val none [I x]] .one [B (decide (x∈xs))]:=by
 refine fO 18 [] Tryz.func268 rfl ?_
 repeat'(first|refine gO ?_|fail)
 (conv=>whnf)
 refine CC (ι:=Nat) (λi=>[(0,.hold .one (aD .imm xs)),(1,.hold .one [I (x)]),(5,.hold .one [I ((i:Nat):Int)])]) (λi=>i<=xs.length/\cL i (λj=>decide (nth xs j≠x))=true) (λi=>xs.length - i) 0 ?_ ⟨R0 _,rfl⟩ λi a=>?_
 ·exact wB
 obtain⟨a,b⟩:=a;by_cases c:i<xs.length
 ·have d:=ah c
  by_cases e:nth xs i=x
  ·repeat'(first|refine gA ?_|(conv=>whnf);first|with_reducible refine CA (aa d) ?_)
   exact T0 (λz=>[B z]) ((by symm;exact O0 (by rw[<-e];exact am c)))
  ·repeat'(first|refine gA ?_|(conv=>whnf);first|with_reducible refine CA (aa d) ?_)
   ((conv=>whnf);refine CB (i+1) ⟨ω,bM b (O0 e)⟩ ω ?_;(exact wB))
 ·repeat'(first|refine gD ?_|fail)
  obtain rfl:i=xs.length:=ω
  exact T0 (λz=>[B z]) ((by symm;exact Q0 (Nd b)))
theorem bB.more{M f:ac}{w g:World}(h:bB M w g)(e:∀b o,M b o->f b o):bB f w g:=
 ⟨h.os,h.tape,h.output,h.size,λb a c=>h.blk b a λo d=>c o (e b o d),λb o a c=>h.cel b o a λd=>c (e b o d),λb o a c=>h.fro b o a λd=>c (e b o d)⟩
theorem aP.wk{P:Program}{f:Nat}{sh:Bool}{c u:List C}{A B:List MA}{k:Kd}{rcs:List C}(h:aP P f sh A (.ptr c::B) k rcs)(y:Jx c u):aP P f sh A (.ptr u::B) k rcs:=by
 refine⟨h.has,λw S V i E F l G=>(h.run w S V i E F l G).mono λe w1 H=>?_⟩;obtain⟨v,J,K,X,L,M,N,n,p,a,q,r,b,O,Q,D⟩:=H;refine⟨v,J,K,X,L,M,N,n,p,a,q,r,b,O,Q,?_⟩;cases i with
 | nil=>exact D.elim
 | cons v0 i=>
  obtain⟨⟨R,Y,T,U,W,⟨g,o,Z,e2⟩,d⟩,t⟩:=D;refine⟨⟨R,Y,T,U,W,⟨g,o,Z,λj hj=>e2 j (by rw[(qP y).1];exact hj)⟩,zM y d⟩,t⟩
theorem aP.frame{P:Program}{f:Nat}{sh:Bool}{c c' r:List C}{A B:List MA}{k:Kd}{rcs:List C}(h:aP P f sh (.ptr c::A) (.ptr c'::B) k rcs)(hl:c'.length=c.length):aP P f sh (.ptr (c++r)::A) (.ptr (c'++r)::B) k rcs:=by
 refine⟨h.has,λw S V vs hS hV hVd hA=>?_⟩;cases vs with
 | nil=>exact hA.elim
 | cons v0 vs=>
 obtain⟨⟨X1,Y,hX1,hY,O,⟨g,q,rfl,u⟩,ff,hf1,J,hf3⟩,hA'⟩:=hA;have hlen:(c++r).length=c.length+r.length:=W2
 let V0:ac:=piece g q ff 0 c.length
 let W:Nat->ac:=KO V0 (λi=>V (i+1))
 have hcX:∀o,q<=o->o<q+(c++r).length->X1 g o:=λo l a=>by
  have:=(u (o - q) ω).1
  rwa [show q+(o - q)=o by omega]at this
 have hV0:∀b o,V0 b o->V 0 b o:=λb o p=>by
  rcases p with⟨rfl,l,a⟩|⟨j,-,a,Q⟩
  ·exact hX1 _ _ (hcX o ω ω)
  ·exact hY _ _ (J j ω b o Q)
 have K:∀i b o,W i b o->V i b o:=λi b o p=>by
  cases i with
  | zero=>exact hV0 b o p
  | succ i=>exact p
 have hA2:LU w S W (.ptr c::A) (.pointer (some ⟨g,q,none⟩)::vs):=by
  refine⟨?_,hA'⟩;have:=rA (lo:=0) (n:=c.length) (cs:=c++r) ω u hf1 J hf3 O;rw[show bv (c++r) 0 c.length=c by simp[bv]]at this;simp only[Q5,Nat.add_zero]at this;exact this
 refine(h.run w S W _ hS (λi b o p=>hV i b o (K i b o p)) (λi i' D b o l a=>hVd i i' D b o (K i b o l) (K i' b o a)) hA2).mono λe w1 hv=>?_
 obtain⟨v,he,hk,X,V',S1,hX,E,hS1,hVd',hXV,hXS,hVS1,hh,hr,hm⟩:=hv;have H:∀b o,(∃i,W i b o)->∃i,V i b o:=λb o ⟨i,Z⟩=>⟨i,K i b o Z⟩
 let R:ac:=λb o=>V 0 b o/\¬V0 b o
 have hRW:∀b o,R b o->¬∃i,W i b o:=λb o y ⟨i,Z⟩=>by
  cases i with
  | zero=>exact y.2 Z
  | succ i=>exact hVd 0 (i+1) ω b o y.1 Z
 have F:∀b o,R b o->b<w.heap.size:=λb o y=>(hV 0 b o y.1).1
 have t:∀b o,R b o->¬((∃i,W i b o)\/(b<w1.heap.size/\w.heap.size<=b)):=λb o y p=>by
  rcases p with p|p
  ·exact hRW b o y p
  ·have:=F b o y;omega
 have hRsame:bj R w w1:=λb o y=>⟨hk.cel b o (F b o y) (hRW b o y),hk.fro b o (F b o y) (hRW b o y)⟩
 have hRS1:∀b o,R b o->¬S1 b o:=λb o y hs=>by
  rcases hS1 b o hs with⟨-,l⟩|l
  ·exact(hV 0 b o y.1).2 l
  ·exact t b o y l
 have hSsame:bj S w w1:=λb o hb=>⟨hk.cel b o (hS b o hb) (λ⟨i,Z⟩=>(hV i b o (K i b o Z)).2 hb),hk.fro b o (hS b o hb) (λ⟨i,Z⟩=>(hV i b o (K i b o Z)).2 hb)⟩
 have hRc:∀j,c.length<=j->j<(c++r).length->R g (q+j):=λj l a=>by
  refine⟨hX1 _ _ (u j a).1,λp=>?_⟩;rcases p with⟨-,Q,h4⟩|⟨N,Q,h4,h5⟩
  ·omega
  ·exact O _ _ (u j a).1 (J N ω _ _ h5)
 have L:∀j,c.length<=j->j<(c++r).length->∀b o,ff j b o->R b o:=λj l a b o p=>by
  refine⟨hY _ _ (J j a b o p),λhp=>?_⟩;rcases hp with⟨rfl,Q,h4⟩|⟨N,Q,h4,h5⟩
  ·exact O _ _ (hcX o ω ω) (J j a _ _ p)
  ·exact hf3 j N a ω ω b o p h5
 let U:Nat->ac:=KO (λb o=>V' 0 b o\/R b o) (λi=>V' (i+1))
 have hU:∀i b o,U i b o->V' i b o\/(i=0/\R b o):=λi b o p=>by
  cases i with
  | zero=>exact p.imp id (λh=>⟨rfl,h⟩)
  | succ i=>exact .inl p
 refine⟨v,he,hk.more H,X,U,S1,λb o p=>(hX b o p).imp (H b o) id,λi b o p=>?_,λb o p=>(hS1 b o p).imp id (Or.imp (H b o) id),λi i' D b o l a=>?_,λi b o l a=>?_,hXS,λi b o l a=>?_,hh,hr,?_,hm.2⟩
 ·rcases hU i b o p with l|⟨-,l⟩
  ·exact(E i b o l).imp (H b o) id
  ·exact .inl ⟨0,l.1⟩
 ·rcases hU i b o l with l|⟨e1,l⟩
  ·rcases hU i' b o a with a|⟨e2,a⟩
   ·exact hVd' i i' D b o l a
   ·exact t b o a (E i b o l)
  ·rcases hU i' b o a with a|⟨e2,a⟩
   ·exact t b o l (E i' b o a)
   ·exact D ω
 ·rcases hU i b o a with a|⟨-,a⟩
  ·exact hXV i b o l a
  ·exact t b o a (hX b o l)
 ·rcases hU i b o l with l|⟨-,l⟩
  ·exact hVS1 i b o l a
  ·exact hRS1 b o l a
 ·obtain⟨Xa,Ya,ha1,ha2,ha3,⟨ga,oa,hea,ha4⟩,fa,ha5,ha6,ha7⟩:=(show oT w1 (λb o=>S b o\/S1 b o) (V' 0) (.ptr c') (.pointer (some ⟨g,q,none⟩)) from hm.1)
  obtain⟨rfl,rfl⟩ : g=ga/\q=oa:=by simpa using hea
  have G:(c'++r).length=c.length+r.length:=by rw[W2,hl]
  show oT w1 (λb o=>S b o\/S1 b o) (λb o=>V' 0 b o\/R b o) (.ptr (c'++r)) (.pointer (some ⟨g,q,none⟩));have faV:∀j,j<c.length->∀b o,fa j b o->V' 0 b o:=λj M b o p=>ha2 _ _ (ha6 j ω b o p)
  refine⟨λb o=>Xa b o\/(R b o/\∃j,c.length<=j/\j<(c++r).length/\b=g/\o=q+j),λb o=>Ya b o\/∃j,c.length<=j/\j<(c++r).length/\ff j b o,λb o p=>?_,λb o p=>?_,λb o l a=>?_,⟨g,q,rfl,λj M=>?_⟩,λj=>if j<c.length then fa j else ff j,λj d M=>?_,λj M b o p=>?_,λj N M hj' D b o l a=>?_⟩
  ·exact p.imp (ha1 b o) (·.1)
  ·rcases p with p|⟨j,l,a,Q⟩
   ·exact .inl (ha2 b o p)
   ·exact .inr (L j l a b o Q)
  ·rcases l with l|⟨l,j,j1,j2,rfl,rfl⟩
   ·rcases a with a|⟨j,j1,j2,j3⟩
    ·exact ha3 b o l a
    ·exact t b o (L j j1 j2 b o j3) (E 0 b o (ha1 b o l))
   ·rcases a with a|⟨N,j3,j4,j5⟩
    ·exact t _ _ l (E 0 _ _ (ha2 _ _ a))
    ·exact O _ _ (u j j2).1 (J N j4 _ _ j5)
  ·rw[G]at M
   by_cases hc:j<c.length
   ·have:=ha4 j ω
    exact⟨.inl this.1,this.2⟩
   ·have y:=hRc j ω ω
    have hs:=hRsame _ _ y;have T:=u j ω;refine⟨.inr ⟨y,j,ω,ω,rfl,rfl⟩,?_,?_⟩
    ·rw[hs.1];exact T.2.1
    ·rw[hs.2];exact T.2.2
  ·dsimp only
   by_cases hc:j<c.length
   ·rw[C8 hc]
    rw[W3 ω]at M;exact ha5 j d M
   ·rw[C7 hc]
    rw[X3 ω,hl]at M;have hj2:(c++r)[j]? = some d:=by rw[X3 ω];exact M
    have hjl:=(V1.1 hj2).1;have Q:=(hf1 j d hj2).keep hSsame (λb o p=>hRsame b o (L j ω hjl b o p));have T:=(hRsame _ _ (hRc j ω hjl)).1;have:bW w1 .box (.pointer (some ⟨g,q,none⟩)) j=bW w .box (.pointer (some ⟨g,q,none⟩)) j:=by
     simp only[bW];rw[T]
    rw[this];exact Q.mono (λ_ _ h=>.inl h) (λ_ _ h=>h)
  ·rw[G]at M
   split at p
   ·rename_i hc;exact .inl (ha6 j ω b o p)
   ·exact .inr ⟨j,ω,ω,p⟩
  ·rw[G]at M hj'
   split at l
   ·rename_i c1
    split at a
    ·exact ha7 j N ω ω D b o l a
    ·exact t b o (L N ω ω b o a) (E 0 b o (faV j c1 b o l))
   ·split at a
    ·rename_i c1;exact t b o (L j ω ω b o l) (E 0 b o (faV N c1 b o a))
    ·exact hf3 j N ω ω D b o l a
mutual
theorem P3:∀c:C,fz (fz c)=fz c
 | .v x=>by simp[fz]
 | .s o rows=>by simp only[fz];rw[G8 rows]
 | .x=>by simp[fz]
 | .z=>by simp[fz]
 | .m _=>by simp[fz]
 | .it _ _=>by simp[fz]
theorem G8:∀a:List (List C),fzR (fzR a)=fzR a
 | []=>rfl
 | r::a=>by simp only[fzR];rw[qI r,G8 a]
theorem qI:∀cs:List C,dA (dA cs)=dA cs
 | []=>rfl
 | c::cs=>by simp only[dA];rw[P3 c,qI cs]
end
theorem m8(k:af)(a:aB k=true)(e:k.Calls≠100000):aP Tryz.prog 347 false [.ptr (af.enc .own k)] [.ptr (af.enc .own (du k))] .one [B (!refd k)]:=by
 have b:=bp a;have c:=(aC.1 a).2.2.2.2;have d:=Dh k.Refuse k.Calls (by have:=b.2;omega);refine fM 22 [] [(2,9,[11,12,13,14,15,16,17,18,19])] [(0,0)] Tryz.func347 rfl (λu q=>?_)
 repeat'(first|refine gO ?_|(conv=>whnf);first|refine CD (d) ⟨⟨rfl,en _⟩,⟨rfl,T0 (λz=>[I z]) ω⟩,trivial⟩ ?_)
 refine CE rfl ?_ ?_
 ·rfl
 ·exact wB
theorem mR(k:af)(p m:Int)(a:aB k=true)(j:k.Calls≠100000)(d:(ar k.Machine.Table p).Mode≠0)(l:m=1\/m=2):aP Tryz.prog 406 false [.ptr (af.enc .own k),.val none [I p],.val none [I m]] [.ptr (af.enc .own (jQ k p m).1),.val none [I p],.val none [I m]] .one [B (jQ k p m).2]:=by
 have n:=bp a;have b:=m8 k a j;have g:=dJ (du k) p n.1.2;have c:=aE m 1 2;rw[O0 ω]at c;obtain⟨o,t,w,-⟩:=ch a d;have h:=ah (xs:=k.Machine.Table.Entries) (i:=p.toNat) ω;have r:¬(ar (du k).Machine.Table p).Mode=0:=d;unfold jQ;cases e:refd k<;>rw[e]at b
 ·rw[C7 (by simp),Hj]
  refine fM 31 [(347,[2])] [] [(0,0),(0,0),(0,0)] Tryz.func406 rfl (λu q=>?_)
  repeat'(first|refine gA ?_|(conv=>whnf);first|refine CG (b) (.inl rfl) ?_|refine CD (g) ⟨CN (du k),⟨rfl,rfl⟩,trivial⟩ ?_|refine C6 (c) ?_|refine CJ o (aa h) ?_|refine CL rfl rfl (aa h) rfl (X0 rfl) rfl ?_)
  refine CE rfl ?_ ?_
  ·rfl
  ·exact wB
 ·rw[C8 rfl]
  refine fM 31 [(347,[2])] [] [(0,0),(0,0),(0,0)] Tryz.func406 rfl (λu q=>?_)
  repeat'(first|refine gA ?_|(conv=>whnf);first|refine CG (b) (.inl rfl) ?_|refine CD (g) ⟨CN (du k),⟨rfl,rfl⟩,trivial⟩ ?_|refine C6 (c) ?_)
  refine CE rfl ?_ ?_
  ·rfl
  ·exact wB
theorem Rw.two{c:List C}{off i k j d e b:Nat}{K:List C->Nat->Prop}{o f:dw}{rows rows2:List (List C)}{r a:List C}(h1:c[off]? = some (.s o rows))(g:rows[i]? = some r)(h:r.length=k)(l:r[j]? = some (.s f rows2))(n:rows2[d]? = some a)(p:a.length=e)(q:K a b):Rw c off [(i,k,j),(d,e,b)] K:=
 Rw.mk (r:=a) (j:=b) (by simp[bS,h1,g,h,l,n,p]) q
theorem ya(k:af)(a b c:Int)(h:aB k=true)(F:(ar k.Machine.Table a).Mode≠0)(G:(ar k.Machine.Table b).Mode≠0)(g:0<=c/\c<=15):aP Tryz.prog 407 false [.ptr (af.enc .own k),.val none [I a],.val none [I b],.val none (aD .imm [c])] [.ptr (af.enc .own (yE k a b c)),.val none [I a],.val none [I b],.val none (aD .imm [c])] .one [B true]:=by
 have w:=bp h;have H:=dJ k a w.1.2;have J:=dJ k b w.1.2;have y:=aE c 0 15;rw[O0 g]at y;obtain⟨K,O,L,C,P⟩:=ch h F;obtain⟨M,Q,D,E,R⟩:=ch h G;have N:=(aY.1 (aC.1 h).2.1).2.2.1;have S:=row16 h (f:=mC k a) (by unfold mC;omega);have T:=row16 h (f:=mC k b) (by unfold mC;omega);have d:k.Machine.Frames.Cells[(ar k.Machine.Table a).Frame.toNat]? = some (nth k.Machine.Frames.Cells (mC k a)):=ah ω;have e:k.Machine.Frames.Cells[(ar k.Machine.Table b).Frame.toNat]? = some (nth k.Machine.Frames.Cells (mC k b)):=ah ω;have l:=ah (xs:=nth k.Machine.Frames.Cells (mC k a)) (i:=c.toNat) ω;have o:=ah (xs:=nth k.Machine.Frames.Cells (mC k b)) (i:=c.toNat) ω;have p:=ah (xs:=k.Machine.Table.Entries) (i:=a.toNat) ω;have r:=ah (xs:=k.Machine.Table.Entries) (i:=b.toNat) ω;rw[L]at C d;rw[D]at E e;have t:[c][0]? = some c:=rfl;refine fM 90 [] [(13,28,[61,62,63,64,65,66,67,68,69,70,71,72,73,74,75,76,77,78,79,80,81,82,83,84,85,86,87,88])] [(0,0),(0,0),(0,0),(0,0)] Tryz.func407 rfl (λu q=>?_)
 repeat'(first|refine gA ?_|(conv=>whnf);first|refine C9 ?_|refine CD (H) ⟨CN k,⟨rfl,rfl⟩,trivial⟩ ?_|refine CD (J) ⟨CN k,⟨rfl,rfl⟩,trivial⟩ ?_)
 (conv=>whnf)
 refine CC (ι:=Nat) (λn=>[(0,.hold .box (af.enc .own k)),(1,.hold .one [I (a)]),(2,.hold .one [I (b)]),(3,.hold .one (aD .imm [c])),(9,.hold .one [I ((n:Nat):Int)])]) (λn=>n<=1) (λn=>1 - n) (0) ?_ (R0 _) λn U=>?_
 ·exact wB
 by_cases V:n<1
 ·obtain rfl:n=0:=ω
  repeat'(first|refine gD ?_|(conv=>whnf);first|refine C9 ?_|refine CJ (by decide) (aa t) ?_|refine C6 (y) ?_)
  ((conv=>whnf);refine CB 1 ω ω ?_;(exact wB))
 ·obtain rfl:n=1:=ω
  repeat'(first|refine gD ?_|(conv=>whnf);first|refine C9 ?_|refine CJ K (aa p) ?_|refine CJ M (aa r) ?_|refine CF rfl (aa p) rfl ?_|refine CF rfl (aa r) rfl ?_)
  (conv=>whnf)
  refine CC (ι:=Nat) (λj=>[(0,.hold .box (af.enc .own (Np k a b c j))),(3,.hold .one (aD .imm [c])),(10,.hold .one [I ((nth k.Machine.Table.Entries a.toNat).Frame)]),(11,.hold .one [I ((nth k.Machine.Table.Entries b.toNat).Frame)]),(12,.hold .one [I ((j:Nat):Int)])]) (λj=>j<=1) (λj=>1 - j) (0) ?_ (R0 _) λj W=>?_
  ·exact wB
  by_cases X:j<1
  ·obtain rfl:j=0:=ω
   repeat'(first|refine gD ?_|(conv=>whnf);first|refine C9 ?_|refine CJ (by decide) (aa t) ?_|refine CJ C (aa d) ?_|refine CJ E (aa e) ?_|refine CJ g.1 (aa l) ?_|refine CJ g.1 (aa o) ?_|refine CF rfl (aa e) rfl ?_|refine CF rfl (aa d) rfl ?_|refine Rw.two rfl (aa d) rfl rfl (aa l) rfl ?_|refine Pu.two rfl rfl (aa e) rfl rfl rfl (aa o) rfl (R2 _) rfl ?_)
   ((conv=>whnf);refine CB 1 ω ω ?_)
   rw[show Np k a b c 1=yE k a b c from rfl];unfold yE;rw[El,show mC k b=(nth k.Machine.Table.Entries b.toNat).Frame.toNat by unfold mC;rw[D]];exact wB
  ·obtain rfl:j=1:=ω
   repeat'(first|refine gD ?_|(conv=>whnf);first|refine C9 ?_)
   refine CE rfl ?_ ?_
   ·rfl
   ·exact wB
theorem E1(k:af)(p o:Int)(a:aB k=true)(y:k.Calls≠100000)(g:(ar k.Machine.Table p).Mode≠0)(h:(ar k.Machine.Table o).Mode≠0)(C:p≠o):aP Tryz.prog 408 false [.ptr (af.enc .own k),.val none [I p],.val none [I o]] [.ptr (af.enc .own (Bh k p o).1),.val none [I p],.val none [I o]] .one [B (Bh k p o).2]:=by
 have b:=bp a;have c:=m8 k a y;have j:=dJ (du k) p b.1.2;have l:=dJ (du k) o b.1.2;obtain⟨D,K,E,n,r⟩:=ch a g;obtain⟨F,L,M,N,O⟩:=ch a h;have G:=(aY.1 (aC.1 a).2.1).2.2.1;have d:=ah (xs:=k.Machine.Table.Entries) (i:=p.toNat) ω;have t:=ah (xs:=k.Machine.Table.Entries) (i:=o.toNat) ω;have H:¬(ar (du k).Machine.Table p).Mode=0:=g;have J:¬(ar (du k).Machine.Table o).Mode=0:=h;rw[E]at n r;have w:=qq (vt (du k) p.toNat ⟨2,(nth k.Machine.Table.Entries o.toNat).Frame⟩) (nth k.Machine.Table.Entries p.toNat).Frame (KW _ _ b.1.2) ⟨n,by show _<((k.Machine.Frames.Cells.length:Nat):Int);omega,r⟩;rw[JD]at w;unfold Bh;cases e:refd k<;>rw[e]at c
 ·rw[C7 (by simp)]
  refine fM 60 [(347,[2]),(349,[2,0])] [(4,274,[38,39,40,41,42,43,44,45,46,47,48,49,50,51,52,53,54,56,0,1,2,3,4,5,6,7,8,9,10,11,12,13,14,15,16,17,1000,1001,1002,1003,1004,1005,1006,18,19])] [(0,0),(0,0),(0,0)] Tryz.func408 rfl (λu q=>?_)
  repeat'(first|refine gA ?_|(conv=>whnf);first|refine C9 ?_|refine CG (c) (.inl rfl) ?_|refine CD (j) ⟨CN (du k),⟨rfl,rfl⟩,trivial⟩ ?_|refine CD (l) ⟨CN (du k),⟨rfl,rfl⟩,trivial⟩ ?_|refine CJ D (aa d) ?_|refine CJ F (aa t) ?_|refine CF rfl (aa d) rfl ?_|refine CF rfl (aa t) rfl ?_|refine CL rfl rfl (aa d) rfl (X0 rfl) rfl ?_|refine CG (w) (.inl rfl) ?_)
  refine CE rfl ?_ ?_
  ·rfl
  ·exact wB
 ·rw[C8 rfl]
  refine fM 60 [(347,[2]),(349,[2,0])] [(4,274,[38,39,40,41,42,43,44,45,46,47,48,49,50,51,52,53,54,56,0,1,2,3,4,5,6,7,8,9,10,11,12,13,14,15,16,17,1000,1001,1002,1003,1004,1005,1006,18,19])] [(0,0),(0,0),(0,0)] Tryz.func408 rfl (λu q=>?_)
  repeat'(first|refine gA ?_|(conv=>whnf);first|refine C9 ?_|refine CG (c) (.inl rfl) ?_|refine CD (j) ⟨CN (du k),⟨rfl,rfl⟩,trivial⟩ ?_|refine CD (l) ⟨CN (du k),⟨rfl,rfl⟩,trivial⟩ ?_)
  refine CE rfl ?_ ?_
  ·rfl
  ·exact wB
theorem xS(m:aQ)(a:Int)(d:aQ.sml m)(c:0<=a/\a<512):ao Tryz.prog 411 false [.val (some 3) (aQ.enc .imm m),.val none [I a]] (.tup [some 2,none]) (bi.enc .own (ar m.Table (a / 16))++[I (a % 16)]):=by
 have e:=cT m.Table (a / 16) d.2;have b:a.tmod 16=a % 16:=eM c.1;refine fO 16 [] Tryz.func411 rfl ?_ (.inr ⟨trivial,trivial,trivial,trivial⟩)
 repeat'(first|refine gD ?_|(conv=>whnf);first|refine C9 ?_|refine C6 (e) ?_|refine CI (js c) ?_|refine CK (by decide) ?_|refine CO b ?_)
 rfl
theorem EI(m:aQ)(a v:Int)(o:dq m=true)(e:aQ.sml m)(p:0<=a/\a<512)(q:0<=v/\v<=999)(r:(ar m.Table (a / 16)).Mode≠0->0<=(ar m.Table (a / 16)).Frame/\(ar m.Table (a / 16)).Frame<m.Frames.Cells.length/\(nth m.Frames.Cells (ar m.Table (a / 16)).Frame.toNat).length=16):ao Tryz.prog 410 false [.val (some 3) (aQ.enc .imm m),.val none [I a],.val none [I v]] (.tup [some 3,none]) (aQ.enc .own (ll m a v).1++[I (ll m a v).2]):=by
 have c:=og m e;rw[o]at c;have g:=qy m e;have h:=xS m a e p;have d:=aE v 0 999;rw[O0 q]at d;have b:=aQ.enc_fr (ll m a v).1;unfold ll at b |-;by_cases j:(ar m.Table (a / 16)).Mode=0
 ·rw[C8 j]at b |-
  refine fO 47 [] Tryz.func410 rfl ?_ (.inr (aM b ⟨trivial,trivial⟩))
  repeat'(first|refine gA ?_|(conv=>whnf);first|refine C9 ?_|refine C6 (c) ?_|refine C6 (g) ?_|refine C6 (h) ?_|refine C6 (d) ?_)
  rfl
 ·rw[C7 j]at b |-
  by_cases l:(ar m.Table (a / 16)).Mode=1
  ·rw[C8 l]at b |-
   refine fO 47 [] Tryz.func410 rfl ?_ (.inr (aM b ⟨trivial,trivial⟩))
   repeat'(first|refine gA ?_|(conv=>whnf);first|refine C9 ?_|refine C6 (c) ?_|refine C6 (g) ?_|refine C6 (h) ?_|refine C6 (d) ?_)
   rfl
  ·rw[C7 l]at b |-
   obtain⟨t,u,w⟩:=r j;have k:=ah (xs:=m.Frames.Cells) (i:=(ar m.Table (a / 16)).Frame.toNat) ω;have n:=ah (xs:=nth m.Frames.Cells (ar m.Table (a / 16)).Frame.toNat) (i:=(a % 16).toNat) ω;simp only at b |-;rw[F6]at b |-;refine fO 47 [] Tryz.func410 rfl ?_ (.inr (aM b ⟨trivial,trivial⟩))
   repeat'(first|refine gA ?_|(conv=>whnf);first|refine C9 ?_|refine C6 (c) ?_|refine C6 (g) ?_|refine C6 (h) ?_|refine C6 (d) ?_|refine CJ t (aa k) ?_|refine CJ ω (aa n) ?_|refine CF rfl (aa k) rfl ?_|refine Pu.two rfl rfl (aa k) rfl rfl rfl (aa n) rfl (R2 _) rfl ?_)
   rfl
theorem lK{k:af}{j:cj} : jmay k j=true↔(aB k=true/\k.Calls≠100000)/\iY j=true/\(ar k.Machine.Table j.Plan.Keep).Mode≠0/\(ar k.Machine.Table j.Plan.Move).Mode≠0/\(ar k.Machine.Table j.Plan.Keep).Frame≠(ar k.Machine.Table j.Plan.Move).Frame:=by
 unfold jmay;simp only[I0,C0]
theorem lM{p:ci}(h:eH p=true):p.Cells.length<=16:=by
 unfold eH at h;simp only[I0]at h;have a:∀i,i<p.Cells.length->(i:Int)<=nth p.Cells i:=λi=>by
  induction i with
  | zero=>
   intro a;have:=dM h.1 a;unfold mb at this;rw[C0]at this;exact this.1
  | succ i b=>
   intro a;have c:=b ω;have:=dM h.1 a;unfold mb at this;rw[C0]at this;have d:=this.2.2.resolve_left ω;rw[Nat.add_sub_cancel]at d;omega
 by_cases e:p.Cells.length<=16
 ·exact e
 ·exfalso
  have c:=a 16 ω;have:=dM h.1 (show 16<p.Cells.length by omega);unfold mb at this;rw[C0]at this;omega
theorem Jh{j:cj}(h:iY j=true):cj.sml j:=by
 have:=lM (f6.1 h).1;show j.Plan.Cells.length<=1048576;omega
theorem sj{k:af}(h:aB k=true):dq k.Machine=true:=by
 unfold aB at h;simp only[I0]at h;exact h.1.2
theorem Bk(k:af)(j:cj)(p:jmay k j=true)(g:j.Phase=3):aP Tryz.prog 409 false [.ptr (af.enc .own k),.ptr (xi j)] [.ptr (af.enc .own (jstep k j).1),.ptr (xi (jstep k j).2)] (.tup []) []:=by
 obtain⟨⟨a,r⟩,t,c,d,w⟩:=lK.1 p;obtain⟨h,H,J,K,L⟩:=f6.1 t;have y:=bp a;obtain⟨M,N,O,B,P⟩:=ch a c;have l:=(br.1 (aC.1 a).2.2.1).2.2;have C:=lM h;have D:=(aY.1 (aC.1 a).2.1).2.2.1;unfold jstep;rw[C7 ω,C7 ω,C7 ω,C8 g];by_cases n:0<j.Next
 ·rw[C8 n]
  have o:=l9 h (i:=(j.Next - 1).toNat) ω;have E:=ah (xs:=j.Plan.Cells) (i:=(j.Next - 1).toNat) ω;have F:0<=j.Plan.Keep*16+nth j.Plan.Cells (j.Next - 1).toNat/\j.Plan.Keep*16+nth j.Plan.Cells (j.Next - 1).toNat<512:=ω
  have G:(j.Plan.Keep*16+nth j.Plan.Cells (j.Next - 1).toNat) / 16=j.Plan.Keep:=ω
  have b:=EI k.Machine (j.Plan.Keep*16+nth j.Plan.Cells (j.Next - 1).toNat) 0 (sj a) y.1 F ω (λ_=>by rw[G];exact⟨B,ω,row16 a (f:=mC k j.Plan.Keep) (by unfold mC;omega)⟩);generalize (ll k.Machine (j.Plan.Keep*16+nth j.Plan.Cells (j.Next - 1).toNat) 0).1=m at b |-;generalize (ll k.Machine (j.Plan.Keep*16+nth j.Plan.Cells (j.Next - 1).toNat) 0).2=e at b;refine fM 59 [(406,[2,0,0])] [(2,283,[20,21,22,23,24,25,26,27,28,29,30,31,32,33,34,35,36,37,38,39,40,41,42,19,43,44,4,0,1,2,3,4,5,6,7,8,9,10,11,12,13,14,15,16,17,18,19,20,21,22,23,24,25,26,27,1025,28])] [(0,0),(1,0)] Tryz.func409 rfl (λu q=>?_) (.inr trivial)
  repeat'(first|refine gD ?_|(conv=>whnf);first|refine C9 ?_|refine CD (b) ⟨⟨rfl,aQ.enc_fz k.Machine⟩,⟨rfl,rfl⟩,⟨rfl,rfl⟩,trivial⟩ ?_|refine CJ ω (aa E) ?_|refine C9 ?_)
  refine CE rfl rfl ?_;exact wC
 ·rw[C7 n]
  have b:=mR k j.Plan.Move 2 a r d (.inr rfl);cases e:(jQ k j.Plan.Move 2).2<;>rw[e]at b
  ·refine fM 59 [(406,[2,0,0])] [(2,283,[20,21,22,23,24,25,26,27,28,29,30,31,32,33,34,35,36,37,38,39,40,41,42,19,43,44,4,0,1,2,3,4,5,6,7,8,9,10,11,12,13,14,15,16,17,18,19,20,21,22,23,24,25,26,27,1025,28])] [(0,0),(1,0)] Tryz.func409 rfl (λu q=>?_) (.inr trivial)
   repeat'(first|refine gD ?_|(conv=>whnf);first|refine C9 ?_|refine CG (b) (.inl rfl) ?_)
   refine CE rfl rfl ?_;rw[<-g];exact wC
  ·refine fM 59 [(406,[2,0,0])] [(2,283,[20,21,22,23,24,25,26,27,28,29,30,31,32,33,34,35,36,37,38,39,40,41,42,19,43,44,4,0,1,2,3,4,5,6,7,8,9,10,11,12,13,14,15,16,17,18,19,20,21,22,23,24,25,26,27,1025,28])] [(0,0),(1,0)] Tryz.func409 rfl (λu q=>?_) (.inr trivial)
   repeat'(first|refine gD ?_|(conv=>whnf);first|refine C9 ?_|refine CG (b) (.inl rfl) ?_)
   refine CE rfl rfl ?_;exact wC
theorem A2(k:af)(j:cj)(g:jmay k j=true):aP Tryz.prog 396 false [.ptr (af.enc .own k),.ptr (xi j)] [.ptr (af.enc .own (jstep k j).1),.ptr (xi (jstep k j).2)] (.tup []) []:=by
 obtain⟨⟨h,p⟩,B,c,b,l⟩:=lK.1 g;obtain⟨r,F,G,H,J⟩:=f6.1 B;have n:j.Plan.Move≠j.Plan.Keep:=λe=>l (by rw[e])
 have C:=lM r;by_cases d:j.Phase=0
 ·have a:=mR k j.Plan.Move 1 h p b (.inl rfl)
  unfold jstep;rw[C8 d];cases e:(jQ k j.Plan.Move 1).2<;>rw[e]at a
  ·refine fM 80 [(406,[2,0,0]),(407,[2,0,0,0]),(408,[2,0,0]),(409,[2,2])] [(7,7,[27,28,29,30,31,32,33]),(9,14,[38,39,40,41,42,43,44,45,46,47,48,49,50,51])] [(0,0),(1,0)] Tryz.func396 rfl (λu q=>?_) (.inr trivial)
   repeat'(first|refine gA ?_|(conv=>whnf);first|refine C9 ?_|refine CG (a) (.inl rfl) ?_)
   refine CE rfl rfl ?_;exact wC
  ·refine fM 80 [(406,[2,0,0]),(407,[2,0,0,0]),(408,[2,0,0]),(409,[2,2])] [(7,7,[27,28,29,30,31,32,33]),(9,14,[38,39,40,41,42,43,44,45,46,47,48,49,50,51])] [(0,0),(1,0)] Tryz.func396 rfl (λu q=>?_) (.inr trivial)
   repeat'(first|refine gA ?_|(conv=>whnf);first|refine C9 ?_|refine CG (a) (.inl rfl) ?_)
   refine CE rfl rfl ?_;exact wC
 by_cases o:j.Phase=1
 ·unfold jstep
  rw[C7 d,C8 o];by_cases t:j.Next=j.Plan.Cells.length
  ·rw[C8 t]
   refine fM 80 [(406,[2,0,0]),(407,[2,0,0,0]),(408,[2,0,0]),(409,[2,2])] [(7,7,[27,28,29,30,31,32,33]),(9,14,[38,39,40,41,42,43,44,45,46,47,48,49,50,51])] [(0,0),(1,0)] Tryz.func396 rfl (λu q=>?_) (.inr trivial)
   repeat'(first|refine gA ?_|(conv=>whnf);first|refine C9 ?_|refine C9 ?_)
   refine CE rfl rfl ?_;exact wC
  ·rw[C7 t]
   have D:=ah (xs:=j.Plan.Cells) (i:=j.Next.toNat) ω;have a:=ya k j.Plan.Move j.Plan.Keep (nth j.Plan.Cells j.Next.toNat) h b c (l9 r ω);have E:=(lK.1 g).2.1;refine fM 80 [(406,[2,0,0]),(407,[2,0,0,0]),(408,[2,0,0]),(409,[2,2])] [(7,7,[27,28,29,30,31,32,33]),(9,14,[38,39,40,41,42,43,44,45,46,47,48,49,50,51])] [(0,0),(1,0)] Tryz.func396 rfl (λu q=>?_) (.inr trivial)
   repeat'(first|refine gA ?_|(conv=>whnf);first|refine C9 ?_|refine CG a (.inr ⟨rfl,af.enc_fr _,trivial⟩) ?_|refine CJ ω (aa D) ?_|refine C9 ?_)
   refine CE rfl rfl ?_;exact wC
 by_cases w:j.Phase=2
 ·have a:=E1 k j.Plan.Move j.Plan.Keep h p b c n
  unfold jstep;rw[C7 d,C7 o,C8 w];cases e:(Bh k j.Plan.Move j.Plan.Keep).2<;>rw[e]at a
  ·refine fM 80 [(406,[2,0,0]),(407,[2,0,0,0]),(408,[2,0,0]),(409,[2,2])] [(7,7,[27,28,29,30,31,32,33]),(9,14,[38,39,40,41,42,43,44,45,46,47,48,49,50,51])] [(0,0),(1,0)] Tryz.func396 rfl (λu q=>?_) (.inr trivial)
   repeat'(first|refine gA ?_|(conv=>whnf);first|refine C9 ?_|refine CG (a) (.inl rfl) ?_)
   refine CE rfl rfl ?_;exact wC
  ·refine fM 80 [(406,[2,0,0]),(407,[2,0,0,0]),(408,[2,0,0]),(409,[2,2])] [(7,7,[27,28,29,30,31,32,33]),(9,14,[38,39,40,41,42,43,44,45,46,47,48,49,50,51])] [(0,0),(1,0)] Tryz.func396 rfl (λu q=>?_) (.inr trivial)
   repeat'(first|refine gA ?_|(conv=>whnf);first|refine C9 ?_|refine CG (a) (.inl rfl) ?_)
   refine CE rfl rfl ?_;exact wC
 by_cases y:j.Phase=3
 ·have a:=Bk k j g y
  refine fM 80 [(406,[2,0,0]),(407,[2,0,0,0]),(408,[2,0,0]),(409,[2,2])] [(7,7,[27,28,29,30,31,32,33]),(9,14,[38,39,40,41,42,43,44,45,46,47,48,49,50,51])] [(0,0),(1,0)] Tryz.func396 rfl (λu q=>?_) (.inr trivial)
  repeat'(first|refine gA ?_|(conv=>whnf);first|refine C9 ?_|refine CG (a) (.inl rfl) ?_)
  refine CE rfl rfl ?_;exact wC
 ·unfold jstep
  rw[C7 d,C7 o,C7 w,C7 y];refine fM 80 [(406,[2,0,0]),(407,[2,0,0,0]),(408,[2,0,0]),(409,[2,2])] [(7,7,[27,28,29,30,31,32,33]),(9,14,[38,39,40,41,42,43,44,45,46,47,48,49,50,51])] [(0,0),(1,0)] Tryz.func396 rfl (λu q=>?_) (.inr trivial)
  repeat'(first|refine gA ?_|(conv=>whnf);first|refine C9 ?_)
  refine CE rfl rfl ?_;exact wC
theorem Dr(k:af)(j:cj)(e:aB k=true)(i:iY j=true):ao Tryz.prog 395 false [.val (some 5) (af.enc .imm k),.val (some 5) (cj.enc .imm j)] .one [B (jmay k j)]:=by
 have c:=bp e;have b:dA (af.enc .imm k)=af.enc .imm k:=by rw[<-CN k,qI]
 have r:=(aC.1 e).2.2.2.2;have a:=kC k c;rw[e]at a;have d:=vL j (Jh i);rw[i]at d;have l:=dJ k j.Plan.Keep c.1.2;have n:=dJ k j.Plan.Move c.1.2;have t:=cT k.Machine.Table j.Plan.Keep c.1.2;have u:=cT k.Machine.Table j.Plan.Move c.1.2;by_cases o:k.Calls=100000
 ·rw[Q0 ω]at a
  rw[show jmay k j=false by rw[<-R4,lK];exact λh=>h.1.2 o];refine fO 44 [(3,16,[27,28,29,30,31,32,33,34,35,36,37,38,39,40,41,42])] Tryz.func395 rfl ?_
  repeat'(first|refine gO ?_|(conv=>whnf);first|refine C9 ?_|refine C6 (a) ?_|refine C6 (d) ?_)
  rfl
 rw[O0 ω]at a;by_cases p:(ar k.Machine.Table j.Plan.Keep).Mode=0
 ·rw[show jmay k j=false by rw[<-R4,lK];exact λh=>h.2.2.1 p]
  refine fO 44 [(3,16,[27,28,29,30,31,32,33,34,35,36,37,38,39,40,41,42])] Tryz.func395 rfl ?_
  repeat'(first|refine gA ?_|(conv=>whnf);first|refine C9 ?_|refine C6 (a) ?_|refine C6 (d) ?_|refine CD (l) ⟨b,⟨rfl,rfl⟩,trivial⟩ ?_|refine CD (n) ⟨b,⟨rfl,rfl⟩,trivial⟩ ?_)
  rfl
 by_cases q:(ar k.Machine.Table j.Plan.Move).Mode=0
 ·rw[show jmay k j=false by rw[<-R4,lK];exact λh=>h.2.2.2.1 q]
  refine fO 44 [(3,16,[27,28,29,30,31,32,33,34,35,36,37,38,39,40,41,42])] Tryz.func395 rfl ?_
  repeat'(first|refine gA ?_|(conv=>whnf);first|refine C9 ?_|refine C6 (a) ?_|refine C6 (d) ?_|refine CD (l) ⟨b,⟨rfl,rfl⟩,trivial⟩ ?_|refine CD (n) ⟨b,⟨rfl,rfl⟩,trivial⟩ ?_)
  rfl
 refine fO 44 [(3,16,[27,28,29,30,31,32,33,34,35,36,37,38,39,40,41,42])] Tryz.func395 rfl ?_
 repeat'(first|refine gA ?_|(conv=>whnf);first|refine C9 ?_|refine C6 (a) ?_|refine C6 (d) ?_|refine CD (l) ⟨b,⟨rfl,rfl⟩,trivial⟩ ?_|refine CD (n) ⟨b,⟨rfl,rfl⟩,trivial⟩ ?_|refine C6 (t) ?_|refine C6 (u) ?_|refine C9 ?_)
 exact T0 (λz=>[B z]) (by
   unfold jmay;rw[e,i,O0 o];by_cases g:(ar k.Machine.Table j.Plan.Keep).Frame=(ar k.Machine.Table j.Plan.Move).Frame
   · rw[Q0 (λh=>h.2.2 g)];simp[g]
   · rw[O0 ⟨p,q,g⟩];simp[g])
theorem zo(j:cj):ao Tryz.prog 397 false [.val (some 5) (cj.enc .imm j)] .one [B (over j)]:=by
 by_cases a:j.Phase=4
 ·rw[show over j=true from O0 (.inl a)]
  refine fO 11 [] Tryz.func397 rfl ?_
  repeat'(first|refine gA ?_|(conv=>whnf);first|refine C9 ?_)
  rfl
 ·rw[show over j=decide (j.Phase=5) from decide_eq_decide.2 ω]
  refine fO 11 [] Tryz.func397 rfl ?_
  repeat'(first|refine gA ?_|(conv=>whnf);first|refine C9 ?_)
  exact T0 (λz=>[B z]) (by rw[Z3];simp)
def G4(x:ab):List C:=(b8 x).set 21 .z
theorem Dg{x:ab}(h:x.Job.Plan.Cells=[]):Jx (G4 x) (b8 x):=by
 unfold G4 b8;simp only[List.set,h,List.map_nil]
 repeat'(first|exact trivial|exact dx _|refine CH ?_ ?_|rfl)
theorem AO(h:ab)(j:bn h [])(k:h.Meshing=true):aP Tryz.prog 368 false [.ptr (b8 h)] [.ptr (b8 (mStep h))] .one [B (B3 h)]:=by
 obtain⟨l,-,-⟩:=j.job k;have b:=Dr h.Kernel h.Job j.ker l;have a:=zo (jg h.Kernel h.Job).2;unfold B3 mStep;cases e:jmay h.Kernel h.Job with
 | false=>
  rw[e]at b;have d:jg h.Kernel h.Job=(h.Kernel,h.Job):=by unfold jg;rw[e];rfl
  rw[d]at a |-;simp only at a |-;cases g:over h.Job<;>rw[g]at a
  ·refine fM 39 [(396,[3,5,5])] [(1,8,[4,5,6,7,8,9,10,11]),(2,6,[13,14,15,16,17,18])] [(0,0)] Tryz.func368 rfl (λu q=>?_)
   repeat'(first|refine gO ?_|(conv=>whnf);first|refine CD (b) ⟨⟨rfl,CN h.Kernel⟩,⟨rfl,rfl⟩,trivial⟩ ?_|refine C6 (a) ?_|refine C9 ?_)
   refine CE rfl ?_ ?_
   ·exact T0 (λz=>[B z]) (by rw[Z3];simp)
   ·exact wC
  ·refine aP.wk (c:=G4 _) ?_ (Dg rfl)
   refine fM 39 [(396,[3,5,5])] [(1,8,[4,5,6,7,8,9,10,11]),(2,6,[13,14,15,16,17,18])] [(0,0)] Tryz.func368 rfl (λu q=>?_)
   repeat'(first|refine gO ?_|(conv=>whnf);first|refine CD (b) ⟨⟨rfl,CN h.Kernel⟩,⟨rfl,rfl⟩,trivial⟩ ?_|refine C6 (a) ?_|refine C9 ?_)
   refine CE rfl ?_ ?_
   ·exact T0 (λz=>[B z]) (by rw[Z3];simp)
   ·exact wC
 | true=>
  rw[e]at b;have d:jg h.Kernel h.Job=jstep h.Kernel h.Job:=by unfold jg;rw[e];rfl
  have i:=A2 h.Kernel h.Job e;rw[d]at a |-;generalize jstep h.Kernel h.Job=r at i a |-;cases g:over r.2<;>rw[g]at a
  ·refine fM 39 [(396,[3,5,5])] [(1,8,[4,5,6,7,8,9,10,11]),(2,6,[13,14,15,16,17,18])] [(0,0)] Tryz.func368 rfl (λu q=>?_)
   repeat'(first|refine gO ?_|(conv=>whnf);first|refine CD (b) ⟨⟨rfl,CN h.Kernel⟩,⟨rfl,rfl⟩,trivial⟩ ?_|refine C6 (a) ?_|refine CG (i) (.inl rfl) ?_|refine C9 ?_)
   refine CE rfl ?_ ?_
   ·exact T0 (λz=>[B z]) (by rw[Z3];simp)
   ·exact wC
  ·refine aP.wk (c:=G4 _) ?_ (Dg rfl)
   refine fM 39 [(396,[3,5,5])] [(1,8,[4,5,6,7,8,9,10,11]),(2,6,[13,14,15,16,17,18])] [(0,0)] Tryz.func368 rfl (λu q=>?_)
   repeat'(first|refine gO ?_|(conv=>whnf);first|refine CD (b) ⟨⟨rfl,CN h.Kernel⟩,⟨rfl,rfl⟩,trivial⟩ ?_|refine C6 (a) ?_|refine CG (i) (.inl rfl) ?_|refine C9 ?_)
   refine CE rfl ?_ ?_
   ·exact T0 (λz=>[B z]) (by rw[Z3];simp)
   ·exact wC
theorem G1{k:Int} : ∀{l s s2 c:List Int}(n:Nat),(∀x∈s2,x∈s)->qi k s l=some c->∃d,qi k s2 (l.take n)=some d/\∀x∈d,x∈c
 | [],s,s2,c,n,h,e=>by
  simp only[qi,U0,List.take_nil]at e |-;subst e;exact⟨s2,rfl,h⟩
 | a::l,s,s2,c,0,h,e=>⟨s2,rfl,λx b=>(oc (λ_ y=>y) e).1 x (h x b)⟩
 | a::l,s,s2,c,n+1,h,e=>by
  simp only[List.take_succ_cons,qi]at e |-;split at e
  ·rename_i g
   rw[C8 (show good k s2 a from⟨g.1,g.2.1,g.2.2.1,λx=>g.2.2.2 (h a x)⟩)];exact G1 (l:=l) (s:=s++[a]) (s2:=s2++[a]) n (λx b=>by
     rcases Q2.1 b with b|b
     · exact Q2.2 (.inl (h x b))
     · exact Q2.2 (.inr b)) e
  ·cases e
theorem DZ:∀{a:List (List Int)}{k:Nat}{s s2:List Int}(i n:Nat),(∀x∈s2,x∈s)->(fK k s a).isSome=true->(fK k s2 (a.set i ((nth a i).take n))).isSome=true
 | [],_,_,_,_,_,_,_=>rfl
 | l::a,k,s,s2,i,n,h,e=>by
  simp only[fK,dY]at e;split at e
  ·rename_i g
   cases b:qi k s l with
   | none=>rw[b]at e;cases e
   | some j=>
    rw[b]at e;cases i with
    | zero=>
     obtain⟨c,d,f⟩:=G1 n h b;simp only[List.set_cons_zero,fK,dY];rw[C8 ⟨by have:=g.1;simp only[nth,List.getD_cons_zero,I1];omega,g.2⟩];show((qi (k:Nat) s2 (l.take n)).bind λj=>fK (k+1) j a).isSome=true;rw[d];exact rW f e
    | succ i=>
     obtain⟨o,c,d,f⟩:=oc h b;simp only[List.set_cons_succ,fK,dY];rw[C8 g,d];exact DZ i n f e
  ·cases e
theorem Mg{c:aA}(h:bo c=true)(k:Nat):bo (qB c k)=true:=by
 unfold bo at h |-;simp only[I0,C0]at h |-;exact⟨by simp only[qB,C1];exact h.1,DZ k _ (λ_ h=>h) h.2⟩
def nt(b:Int):Nat->List Int
 | 0=>[]
 | j+1=>if aX b (j:Nat)=true then nt b j else nt b j++[((j:Nat):Int)]
theorem sO{b:Int} : ∀{n:Nat}{z:Int},z∈nt b n->0<=z/\z<n/\aX b z=false
 | 0,_,h=>by cases h
 | n+1,z,h=>by
  unfold nt at h;split at h
  ·have:=sO h;exact⟨this.1,ω,this.2.2⟩
  ·rename_i e
   rcases Q2.1 h with h|h
   ·have:=sO h;exact⟨this.1,ω,this.2.2⟩
   ·rw[Z0.1 h];exact⟨ω,ω,by simpa using e⟩
theorem r7(b:Int):∀n,(nt b n).length<=n
 | 0=>R2 _
 | n+1=>by have:=r7 b n;unfold nt;split<;>simp<;>omega
def pU(k b:Int):List Int:=if J2 k b=true then nt b (slots k).toNat else []
def mz(h:ab)(i:Nat):List Int:=pU (nth h.Spans i).Class (gu h i)
theorem wF{k b z:Int}(h:z∈pU k b):0<=z/\z<slots k/\aX b z=false:=by
 unfold pU at h;split at h
 ·have:=sO h;exact⟨this.1,ω,this.2.2⟩
 ·cases h
theorem Ft(k b:Int):(pU k b).length<=16:=by
 unfold pU;split
 ·rename_i h
  unfold J2 at h;rw[C0]at h;have:=(gh (k:=k) ⟨h.1,h.2.1⟩).2.2.1;have:=r7 b (slots k).toNat;omega
 ·exact R0 _
def pm(h:ab)(i:Nat):Int:=nth (mz h i) (Ks h.Seed ((mz h i).length:Nat)).toNat
def slotT(h:ab)(i:Nat):ab:={h with Seed:=Gz h.Seed,Spans:=h.Spans.set i (pC (nth h.Spans i) (pm h i))}
def tf(h:ab)(i:Nat):Int:=16*(nth h.Spans i).Page+pm h i*csz (nth h.Spans i).Class
theorem yS{h:ab}{i:Nat}(a:0<(mz h i).length):pm h i∈mz h i:=by
 have:=vk h.Seed (n:=((mz h i).length:Nat)) ω;exact am ω
theorem bn.slotT{h:ab}{E:List Int}{i:Nat}(a:bn h E)(b:i<h.Spans.length)(e:0<(mz h i).length):bn (slotT h i) (tf h i::E)/\jd (slotT h i).Spans (tf h i) (nth h.Spans i).Class:=by
 obtain⟨c,d,f⟩:=wF (yS e);exact⟨a.take b ⟨c,d⟩ f (EJ _),(jd.setS a.L b ⟨c,d⟩ _ _).2 (.inr ⟨rfl,.inr rfl⟩)⟩
def rJ(h:ab)(c:Int)(i:Nat):Bool:=decide ((nth h.Spans i).Class=c)&&(!eR h (nth h.Spans i).Page&&decide (0<(mz h i).length))
def rF(h:ab)(c:Int):Option Nat:=(List.range h.Spans.length).find? (rJ h c)
def vW(h:ab)(c:Int):ab:=addS h (fJ h.Kernel (a8 h.Free 1).2.1).1 (a8 h.Free 1).1 (a8 h.Free 1).2.1 c
def tO(h:ab):Nat:=jE (Jn (a8 h.Free 1).2.1) h.Spans
def nJ(h:ab)(i:Nat):ab × Int:=if(mz h i).length=0 then(h,-1) else(slotT h i,tf h i)
def eL(h:ab)(t c:Nat):ab × Int:=
 if 0<(nth (nth h.Caches t).Lists c).length then({h with Caches:=h.Caches.set t (qB (nth h.Caches t) c)},nth (nth (nth h.Caches t).Lists c) ((nth (nth h.Caches t).Lists c).length - 1))
 else match rF h c with
 | some i=>(slotT h i,tf h i)
 | none=>if(a8 h.Free 1).2.2=false then(h,-1)
  else if(fJ h.Kernel (a8 h.Free 1).2.1).2=false then({h with Kernel:=(fJ h.Kernel (a8 h.Free 1).2.1).1},-1)
  else nJ (vW h c) (tO h)
theorem G7{α:Type}[Inhabited α](p:α->Bool)(xs:List α)(y:α):jE p xs<(je p xs y).length/\nth (je p xs y) (jE p xs)=y:=by
 have b:=LX p xs;have a:(xs.take (jE p xs)).length=jE p xs:=by rw[I1];omega
 refine⟨by rw[(jK p xs y).length_eq,List.length_cons];omega,bw ?_⟩;unfold je;rw[X3 ω,a,Nat.sub_self]
 rfl
theorem bn.tEq{h:ab}{E:List Int}(a:bn h E){k:af}(c:aB k=true)(b:tEq (tbl h) k.Machine.Table):bn {h with Kernel:=k} E/\JK h {h with Kernel:=k}:=
 ⟨a.step (j:=h.Job) (m:=h.Meshing) c b.1 (a.pg.tEq b) a.job a.noj,⟨rfl,rfl,λs d _=>⟨s,d,rfl,λ_ z=>z⟩,λq e=>.inl ⟨(b.2 q).1.1 e,(b.2 q).2⟩⟩⟩
structure PA(h:ab)(c:Int)(r:ab × Int):Prop where
 no:r.2<0->bn r.1 []
 yes:0<=r.2->bn r.1 [r.2]/\jd r.1.Spans r.2 c
 jk:JK h r.1
 nx:r.1.Next=h.Next
 cl:r.1.Caches.length=h.Caches.length
theorem jd.nn{h:ab}{E:List Int}(b:bn h E){a c:Int}(d:jd h.Spans a c):0<=a:=(jd.bd b d).1
theorem PA.slot{h h':ab}{i:Nat}{c:Int}(g:bn h' [])(j:i<h'.Spans.length)(k:0<(mz h' i).length)(l:(nth h'.Spans i).Class=c)(n:JK h h')(a:eR h' (nth h'.Spans i).Page=false)(h1:h'.Next=h.Next)(o:h'.Caches.length=h.Caches.length):PA h c (slotT h' i,tf h' i):=by
 obtain⟨d,f⟩:=g.slotT j k;have b:=jd.nn d f;exact⟨λe=>absurd b (by simp only at e;omega),λ_=>⟨d,by rw[<-l];exact f⟩,n.trans (JK.take a),h1,o⟩
theorem zn{h:ab}{t c:Nat}(a:bn h [])(q:t<h.Caches.length)(P:c<=3)(B:h.Kernel.Calls<=90000):PA h c (eL h t c):=by
 have f:=a.cach _ (am q);have C:=sX f;unfold eL;split
 ·rename_i D
  obtain⟨d,b⟩:=a.pop q ω D (Mg f c);have l:=jd.nn a b;exact⟨λe=>absurd l (by simp only at e;omega),λ_=>⟨d,b⟩,JK.eq rfl rfl rfl rfl,rfl,C1 ..⟩
 split
 ·rename_i i r
  have g:=List.find?_some r;have E:=List.mem_range.1 (List.mem_of_find?_eq_some r);unfold rJ at g;simp only[I0,C0,Bool.not_eq_true']at g;exact PA.slot a E g.2.2 g.1 (JK.refl h) g.2.1 rfl rfl
 split
 ·exact⟨λ_=>a,λe=>absurd e (by show ¬(0:Int)<=-1;decide),JK.refl h,rfl,rfl⟩
 rename_i F;have j:(a8 h.Free 1).2.2=true:=by simpa using F
 obtain⟨G,H,J,u⟩:=kz a (z4 1) j;have s:=AP.of (p:=(a8 h.Free 1).2.1) a.ker ω ⟨G,by have:(a8 h.Free 1).2.1+1<=(h.Kernel.Machine.Table.Entries.length:Nat):=H;omega⟩ (J _ ω ω);split
 ·rename_i n
  rw[s.no n];obtain⟨d,b⟩:=a.tEq (lw a.ker ω) (tEq.refl _);exact⟨λ_=>d,λe=>absurd e (by show ¬(0:Int)<=-1;decide),b,rfl,rfl⟩
 rename_i n;have o:(fJ h.Kernel (a8 h.Free 1).2.1).2=true:=by simpa using n
 have w:AP h.Kernel (a8 h.Free 1).2.1 ((fJ h.Kernel (a8 h.Free 1).2.1).1,true):=by rw[<-o];exact s
 have d:=a.addS (c:=c) ⟨ω,ω⟩ j w;have b:JK h (vW h c):=JK.addS w;obtain⟨K,A⟩:=G7 (Jn (a8 h.Free 1).2.1) h.Spans ⟨(a8 h.Free 1).2.1,c,0⟩;unfold nJ;split
 ·exact⟨λ_=>d,λe=>absurd e (by show ¬(0:Int)<=-1;decide),b,rfl,rfl⟩
 ·refine PA.slot (h':=vW h c) (i:=tO h) d K ω (by show(nth (je (Jn (a8 h.Free 1).2.1) h.Spans ⟨(a8 h.Free 1).2.1,c,0⟩) (tO h)).Class=_;unfold tO;rw[A]) b ?_ rfl rfl
  show eR (vW h c) (nth (je (Jn (a8 h.Free 1).2.1) h.Spans ⟨(a8 h.Free 1).2.1,c,0⟩) (tO h)).Page=false;unfold tO;rw[A,b.pg];rw[<-R4];intro k;unfold eR at k;simp only[I0,t5,C0]at k;obtain⟨-,⟨y,L,M⟩,⟨z,N,O⟩⟩:=a.job k.1;rcases k.2 with e|e
  ·exact u _ (z4 _) ω (by rw[e,<-M];exact d3 L)
  ·exact u _ (z4 _) ω (by rw[e,<-O];exact d3 N)
def kw(size:Int):Nat:=((size+15) / 16).toNat
def iN(h:ab)(size:Int):af × Nat:=cy h.Kernel (a8 h.Free (kw size:Nat)).2.1 (kw size)
def nI(h:ab)(t size:Int):ab × Int × Int:=
 if(a8 h.Free (kw size:Nat)).2.2=false then(h,-1,4)
 else if(iN h size).2=kw size then(addL h (iN h size).1 (a8 h.Free (kw size:Nat)).1 (a8 h.Free (kw size:Nat)).2.1 (kw size:Nat) size t,16*(a8 h.Free (kw size:Nat)).2.1,0)
 else({h with Kernel:=d6 (iN h size).1 (a8 h.Free (kw size:Nat)).2.1 (iN h size).2},-1,4)
def sR(xs:List bm):Nat->Int
 | 0=>0
 | i+1=>sR xs i+(nth xs i).Size
def vZ(h:ab):Int:=sR h.Objs h.Objs.length
def fB(h:ab)(t size:Int):ab × Int × Int:=
 if 1000000<=h.Next\/90000<h.Kernel.Calls then(h,-1,5)
 else if ¬(0<=t/\t<=h.Caches.length - 1) then(h,-1,1)
 else if ¬(1<=size/\size<=1000) then(h,-1,2)
 else if h.Limit<vZ h+size then(h,-1,3)
 else if 0<=aK size then(if(eL h t.toNat (aK size).toNat).2<0 then((eL h t.toNat (aK size).toNat).1,-1,4) else(addO (eL h t.toNat (aK size).toNat).1 (eL h t.toNat (aK size).toNat).2 size t,(eL h t.toNat (aK size).toNat).2,0))
 else nI h t size
theorem Ht{h:ab}{t size:Int}(a:bn h [])(g:9<=size/\size<=1000)(i:h.Next<1000000)(j:h.Kernel.Calls<=90000)(k:0<=t/\t<=h.Caches.length - 1):bn (nI h t size).1 []/\JK h (nI h t size).1:=by
 have l:(kw size:Int)=(size+15) / 16:=by unfold kw;omega
 unfold nI;split
 ·exact⟨a,JK.refl h⟩
 rename_i o;have b:(a8 h.Free (kw size:Nat)).2.2=true:=by simpa using o
 obtain⟨c,d,e,w⟩:=kz a (show(1:Int)<=(kw size:Nat) by omega) b;have s:=n9.of (p:=(a8 h.Free (kw size:Nat)).2.1) (n:=kw size) a.ker ω ⟨c,d⟩ e (kw size) (R2 _);split
 ·rename_i q
  have f:n9 h.Kernel (a8 h.Free (kw size:Nat)).2.1 (kw size) ((iN h size).1,kw size):=by
   have:((iN h size).1,kw size)=iN h size:=by rw[<-q]
   rw[this];exact s
  exact⟨a.addL g l b f i k,JK.addL f⟩
 ·obtain⟨r,u⟩:=s.undo a.ker ⟨c,d⟩ e
  exact a.tEq r u
theorem Hb{h:ab}{t size:Int}(a:bn h []):bn (fB h t size).1 []/\JK h (fB h t size).1:=by
 unfold fB;split
 ·exact⟨a,JK.refl h⟩
 rename_i d;rw[not_or]at d;split
 ·exact⟨a,JK.refl h⟩
 rename_i n;split
 ·exact⟨a,JK.refl h⟩
 rename_i o;split
 ·exact⟨a,JK.refl h⟩
 split
 ·rename_i b
  have f:aK size<=3:=by unfold aK;repeat' split<;>omega
  have s:=zn (t:=t.toNat) (c:=(aK size).toNat) a ω ω ω;generalize eL h t.toNat (aK size).toNat=r at s;split
  ·rename_i e;exact⟨s.no e,s.jk⟩
  ·rename_i e
   obtain⟨g,i⟩:=s.yes ω;refine⟨g.addO (.inl ?_) (by rw[s.nx];omega) (by rw[s.cl];omega),s.jk.trans (JK.eq rfl rfl rfl rfl)⟩;obtain⟨z,j,k,p⟩:=i;exact⟨z,j,k,by show z.Class=aK size;omega⟩
 ·rename_i b
  have l:9<=size:=by
   unfold aK at b
   repeat' split at b<;>omega
  exact Ht a ⟨l,ω⟩ ω ω ω
theorem mc{α β:Type}[Inhabited α]{f:α->β}{xs:List α}{i:Nat}{y:α}(a:i<xs.length)(e:f y=f (nth xs i)):(xs.set i y).map f=xs.map f:=by
 rw[Z4];refine List.ext_getElem (by simp) λj b c=>?_
 rw[List.getElem_set];split
 ·rename_i g;subst g
  rw[List.getElem_map,e,bw (U1 a)]
 ·rfl
theorem mV{α β:Type}[Inhabited α](f:α->List β):∀(xs:List α)(i:Nat)(y:α),i<xs.length->(f y).Sublist (f (nth xs i))->((xs.set i y).flatMap f).Sublist (xs.flatMap f)
 | [],_,_,h,_=>absurd h (Nat.not_lt_zero _)
 | x::xs,0,y,_,a=>by
  rw[List.set_cons_zero,I5,I5];exact List.Sublist.append a (List.Sublist.refl _)
 | x::xs,i+1,y,h,a=>by
  rw[List.set_cons_succ,I5,I5];exact List.Sublist.append (List.Sublist.refl _) (mV f xs i y (by simpa using h) a)
def zK(k:af)(a:Int):Nat->af
 | 0=>k
 | m+1=>kA (zK k a m) (a+m) 0
theorem sM(k:af)(a:Int):∀m,(zK k a m).Machine.Table=k.Machine.Table/\(zK k a m).Calls=k.Calls/\(zK k a m).Refuse=k.Refuse
 | 0=>⟨rfl,rfl,rfl⟩
 | m+1=>sM k a m
theorem N0{k:af}(h:aB k=true){a:Int} : ∀{m:Nat},(∀j:Nat,j<m->(ar k.Machine.Table ((a+j) / 16)).Mode≠0)->aB (zK k a m)=true
 | 0,_=>h
 | m+1,b=>vg (N0 h λj c=>b j ω) (by rw[(sM k a m).1];exact b m ω) ⟨ω,ω⟩
theorem EZ{h:ab}{E:List Int}(j:bn h E){sp:List au}{la:List ax}{o:List ay}{p:Int}{n:Nat}(y:p+n<=h.Kernel.Machine.Table.Entries.length)(A:sp.Sublist h.Spans)(M:∀l∈la,∀q∈lpgs l l.Pages.toNat,∃w∈h.Larges,q∈lpgs w w.Pages.toNat)(N:0<=p)(B:∀q,q∈pgs sp la↔q∈pgs h.Spans h.Larges/\¬(p<=q/\q<p+n))(O:∀q,RH o q↔RH h.Free q\/(p<=q/\q<p+n)) :
  Pg (d6 h.Kernel p n).Machine.Table o sp la:=by
 have b:=(gz h.Kernel p n).1;have d:=lz j.ker N n y;have f:∀q:Nat,(q:Int)∈pgs sp la->nth (d6 h.Kernel p n).Machine.Table.Entries q=nth (tbl h).Entries q:=λq c=>by rw[d,C7 ((B q).1 c).2];rfl
 have a:∀q:Nat,(nth (d6 h.Kernel p n).Machine.Table.Entries q).Mode≠0↔(nth (tbl h).Entries q).Mode≠0/\¬(p<=q/\(q:Int)<p+n):=λq=>by
  rw[d];by_cases e:p<=q/\(q:Int)<p+n
  ·rw[C8 e];exact⟨λx=>absurd rfl x,λx=>absurd e x.2⟩
  ·rw[C7 e];exact⟨λx=>⟨x,e⟩,λx=>x.1⟩
 refine⟨λl g q c r J C k=>?_,λq c=>?_,λq c=>?_,λq c=>?_,λs g u D F K=>?_⟩
 ·have t:=(a r).1 C
  rw[b]at J;rw[f q (fw g c),d,C7 t.2]at k;obtain⟨w,G,H⟩:=M l g _ c;exact j.pg.one w G q H r J t.1 k
 ·rw[b];exact j.pg.bnd q ((B q).1 c).1
 ·rw[b]at c
  rw[a,B,j.pg.own q c]
 ·rw[b]at c
  rw[a,O,j.pg.fre q c]
  grind
 ·have i:∀s∈sp,0<=s.Page:=λs g=>(aF (j.L.sok s (A.subset g))).1
  have P:=f s.Page.toNat (by rw[Int.toNat_of_nonneg (i s g)];exact d3 g);have Q:=f u.Page.toNat (by rw[Int.toNat_of_nonneg (i u D)];exact d3 D);rw[P,Q]at K;exact j.pg.mesh s (A.subset g) u (A.subset D) F K
def trimL(l:ax)(size:Int):ax:=⟨l.Page,(size+15) / 16,size⟩
def dG(l:ax)(size:Int):Nat:=(l.Pages - (size+15) / 16).toNat
theorem bn.trimL{h:ab}{E:List Int}{i k:Nat}{size:Int}(t:bn h E)(T:i<h.Objs.length)(H:k<h.Larges.length)(Y:(nth h.Objs i).Addr=16*(nth h.Larges k).Page)(N:9<=size/\size<=(nth h.Larges k).Size) :
  ∃o,(dG (nth h.Larges k) size=0->o=h.Free)/\(0<dG (nth h.Larges k) size->bX (dU h) h.Free ⟨(nth h.Larges k).Page+(size+15) / 16,(dG (nth h.Larges k) size:Nat)⟩ = some o)/\
   bn {h with Kernel:=d6 h.Kernel ((nth h.Larges k).Page+(size+15) / 16) (dG (nth h.Larges k) size),Larges:=h.Larges.set k (trimL (nth h.Larges k) size),Objs:=h.Objs.set i {nth h.Objs i with Size:=size},Free:=o} E:=by
 have U:=t.L;have C:=U.lok _ (am H);have hf:=aS C;unfold bV at C;rw[C0]at C;obtain⟨b1,b2⟩:=AR t H;have O:=U.dis;have G:=λj n=>U.one j k n H
 have y:=(am H:nth h.Larges k∈h.Larges)
 have d:∀z∈h.Larges.set k (Ab.trimL (nth h.Larges k) size),z=Ab.trimL (nth h.Larges k) size\/∃j,j<h.Larges.length/\j≠k/\nth h.Larges j=z:=λz N=>eQ N
 have p:Ab.trimL (nth h.Larges k) size∈h.Larges.set k (Ab.trimL (nth h.Larges k) size):=ig _ H;have u:∀j,j<h.Larges.length->j≠k->nth h.Larges j∈h.Larges.set k (Ab.trimL (nth h.Larges k) size):=λj n e=>iW _ n e
 have hpageM:(h.Larges.set k (Ab.trimL (nth h.Larges k) size)).map (·.Page)=h.Larges.map (·.Page):=mc H rfl;have w:(pgs h.Spans (h.Larges.set k (Ab.trimL (nth h.Larges k) size))).Sublist (pgs h.Spans h.Larges):=by
  unfold pgs;refine List.Sublist.append (List.Sublist.refl _) (mV _ _ _ _ H ?_);unfold lpgs;exact(List.range_sublist.2 (by simp only[Ab.trimL];omega)).map _
 obtain⟨l,V⟩ : ∃l,nth h.Larges k=l:=⟨_,rfl⟩
 rw[V]at C hf b1 b2 G y d p u hpageM w Y N |-;generalize hla:h.Larges.set k (Ab.trimL l size)=la at d p u hpageM w |-;have hn1:(1:Int)<=(size+15) / 16/\(size+15) / 16+(dG l size:Nat)=l.Pages:=by unfold dG;omega
 have D:∀q,q∈lpgs l l.Pages.toNat↔l.Page<=q/\q<l.Page+l.Pages:=λq=>by
  rw[df];constructor
  ·rintro⟨j,n,rfl⟩;omega
  ·rintro⟨Z,q2⟩;exact⟨(q - l.Page).toNat,ω,ω⟩
 have J:∀q,q∈lpgs (Ab.trimL l size) (Ab.trimL l size).Pages.toNat↔l.Page<=q/\q<l.Page+(size+15) / 16:=λq=>by
  rw[df];simp only[Ab.trimL];constructor
  ·rintro⟨j,n,rfl⟩;omega
  ·rintro⟨Z,q2⟩;exact⟨(q - l.Page).toNat,ω,ω⟩
 have hpe:l.Page+(size+15) / 16+(dG l size:Nat)=l.Page+l.Pages:=ω
 have P:∀q,q∈pgs h.Spans la↔q∈pgs h.Spans h.Larges/\¬(l.Page+(size+15) / 16<=q/\q<l.Page+(size+15) / 16+(dG l size:Nat)):=λq=>by
  rw[o7,o7,hpe];constructor
  ·rintro(⟨s,W,rfl⟩|⟨z,c,B⟩)
   ·exact⟨.inl ⟨s,W,rfl⟩,λe=>O s W l y (s.Page - l.Page).toNat ω ω⟩
   ·rcases d z c with rfl|⟨j,n,hjk,rfl⟩
    ·have:=(J q).1 B
     exact⟨.inr ⟨l,y,(D q).2 ⟨ω,ω⟩⟩,ω⟩
    ·refine⟨.inr ⟨_,am n,B⟩,λe=>?_⟩
     obtain⟨m,hm,rfl⟩:=df.1 B;exact hjk (G j n m ((nth h.Larges j).Page+(m:Int) - l.Page).toNat hm ω ω)
  ·rintro⟨⟨s,W,rfl⟩|⟨z,c,B⟩,hne⟩
   ·exact .inl ⟨s,W,rfl⟩
   ·obtain⟨j,n,rfl⟩:=bf c
    by_cases e:j=k
    ·subst e
     rw[V]at B;have:=(D q).1 B;exact .inr ⟨_,p,(J q).2 ⟨ω,ω⟩⟩
    ·exact .inr ⟨_,u j n e,B⟩
 have K:∃o,(dG l size=0->o=h.Free)/\(0<dG l size->bX (dU h) h.Free ⟨l.Page+(size+15) / 16,(dG l size:Nat)⟩ = some o)/\bx (dU h) o=true/\∀q,RH o q↔RH h.Free q\/(l.Page+(size+15) / 16<=q/\q<l.Page+(size+15) / 16+(dG l size:Nat)):=by
  by_cases e:dG l size=0
  ·refine⟨h.Free,λ_=>rfl,λg=>absurd g ω,t.rng,λq=>⟨.inl,λg=>g.resolve_right ω⟩⟩
  ·obtain⟨o,o1,o2,o3⟩:=tw (r:=⟨l.Page+(size+15) / 16,(dG l size:Nat)⟩) t.rng ⟨by simp only;omega,by simp only;omega,by show l.Page+(size+15) / 16+(dG l size:Nat)<=(dU h:Int);have:((tbl h).Entries.length:Int)=(dU h:Int):=rfl;omega⟩ λq Z q2=>by
    simp only at Z q2;obtain⟨m,rfl⟩:=O2 (show 0<=q by omega);have Q:m<(tbl h).Entries.length:=ω
    exact(t.pg.fre m Q).1 ((t.pg.own m Q).2 (fw y ((D _).2 ⟨ω,ω⟩)))
   exact⟨o,λg=>absurd g e,λ_=>o1,o2,o3⟩
 obtain⟨o,o0,o1,o2,o3⟩:=K;have R:=(gz h.Kernel (l.Page+(size+15) / 16) (dG l size)).1;have M:∀z∈h.Objs.set i {nth h.Objs i with Size:=size},z = {nth h.Objs i with Size:=size}\/∃j,j<h.Objs.length/\j≠i/\nth h.Objs j=z:=λz N=>eQ N
 have F:(h.Objs.set i {nth h.Objs i with Size:=size}).map (·.Addr)=h.Objs.map (·.Addr):=mc T rfl;have S:(h.Objs.set i {nth h.Objs i with Size:=size}).map (·.Id)=h.Objs.map (·.Id):=mc T rfl;have hli:=(am T:nth h.Objs i∈h.Objs)
 generalize h.Objs.set i {nth h.Objs i with Size:=size} = ob at M F S |-;refine⟨o,o0,o1,{t with
   ker:=jB t.ker _ _
   rng:=by show bx (((d6 h.Kernel (l.Page+(size+15) / 16) (dG l size)).Machine.Table.Entries.length:Nat):Int) o=true;rw[R];exact o2
   lay:=?_
   srl:=?_
   pg:=EZ t (by have:((tbl h).Entries.length:Int)=(h.Kernel.Machine.Table.Entries.length:Int):=rfl;omega) (List.Sublist.refl _) (λz c q B=>?_) ω P o3
   osr:=?_
   onu:=λz c=>?_
   oid:=by show(ob.map (·.Id)).Nodup;rw[S];exact t.oid
   oow:=λz c=>?_
   nd:=?_
   mem:=λb=>?_}⟩
 ·obtain⟨l1,l2,l3⟩:=dm t.lay
  unfold bg;simp only[I0,C0];refine⟨⟨l1,O3.2 λz c=>?_⟩,l3.sublist w⟩;rcases d z c with rfl|⟨j,n,-,rfl⟩
  ·exact O0 ⟨N.1,by show size<=1000;omega,rfl,by show 0<=l.Page;omega,by show l.Page<=32 - (size+15) / 16;omega⟩
  ·exact U.lok _ (am n)
 ·have A:(h.Larges.map (·.Page)).Pairwise (λa b=>a<b):=List.pairwise_map.2 t.srl
  rw[<-hpageM]at A;exact List.pairwise_map.1 A
 ·rcases d z c with rfl|⟨j,n,-,rfl⟩
  ·have:=(J q).1 B
   exact⟨l,y,(D q).2 ⟨ω,ω⟩⟩
  ·exact⟨_,am n,B⟩
 ·have A:(h.Objs.map (·.Addr)).Pairwise (λa b=>a<b):=List.pairwise_map.2 t.osr
  rw[<-F]at A;exact List.pairwise_map.1 A
 ·rcases M z c with rfl|⟨j,n,-,rfl⟩
  ·exact t.onu (nth h.Objs i) hli
  ·exact t.onu _ (am n)
 ·rcases M z c with rfl|⟨j,n,hji,rfl⟩
  ·exact .inr ⟨_,p,Y,rfl⟩
  ·rcases t.oow _ (am n) with A|⟨l',hl',e1,X⟩
   ·exact .inl A
   ·obtain⟨m,hm,rfl⟩:=bf hl'
    by_cases e:m=k
    ·subst e
     rw[V]at e1;exact absurd (gG (f:=(·.Addr)) (gY t.osr) n T (e1.trans Y.symm)) hji
    ·exact .inr ⟨_,u m hm e,e1,X⟩
 ·have hh:holders {h with Kernel:=d6 h.Kernel (l.Page+(size+15) / 16) (dG l size),Larges:=la,Objs:=ob,Free:=o} = holders h:=by
   show((ob.map (·.Addr)++cn h)++h.Quar.Lst.map (·.Addr))++aO h.Mail=_;rw[F];rfl
  rw[hh];exact t.nd
 ·have hh:holders {h with Kernel:=d6 h.Kernel (l.Page+(size+15) / 16) (dG l size),Larges:=la,Objs:=ob,Free:=o} = holders h:=by
   show((ob.map (·.Addr)++cn h)++h.Quar.Lst.map (·.Addr))++aO h.Mail=_;rw[F];rfl
  rw[hh,t.mem b];show lr h.Spans h.Larges b↔lr h.Spans la b;unfold lr;constructor
  ·rintro(A|⟨z,c,e⟩)
   ·exact .inl A
   ·obtain⟨j,n,rfl⟩:=bf c
    by_cases X:j=k
    ·subst X
     rw[V]at e;exact .inr ⟨_,p,e⟩
    ·exact .inr ⟨_,u j n X,e⟩
  ·rintro(A|⟨z,c,e⟩)
   ·exact .inl A
   ·rcases d z c with rfl|⟨j,n,-,rfl⟩
    ·exact .inr ⟨l,y,e⟩
    ·exact .inr ⟨_,am n,e⟩
def tt(h:ab)(k:Nat)(size:Int):af:=zK h.Kernel (16*(nth h.Larges k).Page+size) (16*((size+15) / 16) - size).toNat
def Gd(h:ab)(k:Nat)(size:Int):List ay:=if 0<dG (nth h.Larges k) size then(bX (dU h) h.Free ⟨(nth h.Larges k).Page+(size+15) / 16,(dG (nth h.Larges k) size:Nat)⟩).getD h.Free else h.Free
def trimH(h:ab)(i k:Nat)(size:Int):ab:={h with Kernel:=d6 (tt h k size) ((nth h.Larges k).Page+(size+15) / 16) (dG (nth h.Larges k) size),Larges:=h.Larges.set k (trimL (nth h.Larges k) size),Objs:=h.Objs.set i {nth h.Objs i with Size:=size},Free:=Gd h k size}
theorem nr{h:ab}{E:List Int}(b:bn h E){k:Nat}(c:k<h.Larges.length){a:Int}(g:16*(nth h.Larges k).Page<=a/\a<16*(nth h.Larges k).Page+16*(nth h.Larges k).Pages):(ar h.Kernel.Machine.Table (a / 16)).Mode≠0:=by
 obtain⟨i,j⟩:=AR b c;have l:=aS (b.L.lok _ (am c));have d:(a / 16)∈pgs h.Spans h.Larges:=fw (am c) (df.2 ⟨(a / 16 - (nth h.Larges k).Page).toNat,ω,ω⟩);have e:=b.pg.bnd _ d;have f:=(b.pg.own (a / 16).toNat ω).2 (by rw[show(((a / 16).toNat:Nat):Int)=a / 16 by omega];exact d);unfold ar;rw[C8 ⟨ω,e⟩];exact f
theorem Ed{h:ab}{E:List Int}(b:bn h E){k:Nat}(c:k<h.Larges.length){size:Int}(d:9<=size/\size<=(nth h.Larges k).Size):∀{m:Nat},m<=(16*((size+15) / 16) - size).toNat->aB (zK h.Kernel (16*(nth h.Larges k).Page+size) m)=true:=fun {m} hm=>by
 have a:=b.L.lok _ (am c);unfold bV at a;rw[C0]at a;exact N0 b.ker λj e=>nr b c ⟨ω,ω⟩
theorem bn.trimH{h:ab}{i k:Nat}{size:Int}(d:bn h [])(A:i<h.Objs.length)(f:k<h.Larges.length)(B:(nth h.Objs i).Addr=16*(nth h.Larges k).Page)(r:9<=size/\size<=(nth h.Larges k).Size):bn (trimH h i k size) []/\JK h (trimH h i k size):=by
 have t:=Ed d f r (R2 _);have l:=(sM h.Kernel (16*(nth h.Larges k).Page+size) (16*((size+15) / 16) - size).toNat).1;have C:=d.cells t l;obtain⟨o,u,w,y⟩:=C.trimL (i:=i) (k:=k) (size:=size) A f B r;simp only at u w y;have n:dU {h with Kernel:=zK h.Kernel (16*(nth h.Larges k).Page+size) (16*((size+15) / 16) - size).toNat} = dU h:=by
  unfold dU;simp only[l]
 have D:Gd h k size=o:=by
  unfold Gd;split
  ·rename_i g;have:=w g;rw[n]at this;rw[this];rfl
  ·exact(u ω).symm
 have E:Ab.trimH h i k size = {h with Kernel:=d6 (tt h k size) ((nth h.Larges k).Page+(size+15) / 16) (dG (nth h.Larges k) size),Larges:=h.Larges.set k (Ab.trimL (nth h.Larges k) size),Objs:=h.Objs.set i {nth h.Objs i with Size:=size},Free:=o}:=by unfold Ab.trimH;rw[D]
 refine⟨by rw[E];exact y,JK.less rfl rfl rfl λq j=>?_⟩;have a:=d.L.lok _ (am f);unfold bV at a;rw[C0]at a;obtain⟨F,G⟩:=AR d f;have b:(tt h k size).Machine.Table=h.Kernel.Machine.Table:=l;have c:=lz (k:=tt h k size) t (p:=(nth h.Larges k).Page+(size+15) / 16) ω (dG (nth h.Larges k) size) (by rw[b];have:((tbl h).Entries.length:Int)=(h.Kernel.Machine.Table.Entries.length:Int):=rfl;unfold dG;omega) q;change (nth (d6 (tt h k size) ((nth h.Larges k).Page+(size+15) / 16) (dG (nth h.Larges k) size)).Machine.Table.Entries q).Mode≠0 at j;show nth (d6 (tt h k size) ((nth h.Larges k).Page+(size+15) / 16) (dG (nth h.Larges k) size)).Machine.Table.Entries q=nth h.Kernel.Machine.Table.Entries q;rw[c]at j |-;split at j
 ·exact absurd rfl j
 ·rename_i e;rw[C7 e,b]
theorem FJ{t:Nat}(h:1<=t/\t<=4):b6 (dB t)=true:=by
 have f:∀n,n<=t->bu (dB t) n=0:=λn=>by
  induction n with
  | zero=>intro _;rfl
  | succ n g=>
   intro j;have a:nth (dB t).Buffers n=[]:=cU ω;have b:nth (dB t).Inbox n=[]:=cU ω;simp only[bu,g ω,a,b,List.length_nil]
   decide
 have e:(dB t).Buffers.length=t:=List.length_replicate ..;refine dy.2 ⟨⟨ω,ω,by simp[dB]⟩,λi c=>?_,by rw[e,f t (R2 _)];omega⟩;rw[e]at c;have a:nth (dB t).Buffers i=[]:=cU c;have b:nth (dB t).Inbox i=[]:=cU c;rw[a,b];exact⟨λp d=>(by cases d),λp d=>(by cases d)⟩
theorem tq(t:Nat):aO (dB t)=[]:=by
 unfold aO;split
 ·simp[dB]
 ·rfl
def qg(k:af)(t:Nat)(sd ck lim:Int):ab:=⟨k,[⟨0,(k.Machine.Table.Entries.length:Nat)⟩],[],[],[],List.replicate t eN,dB t,⟨16,[]⟩,sd,ck,lim,1,false,⟨⟨0,0,[]⟩,0,0⟩⟩
theorem En:bo eN=true:=by decide
theorem bn.fresh{k:af}{t:Nat}{lim sd ck:Int}(A:aB k=true)(B:∀q,q<k.Machine.Table.Entries.length->(nth k.Machine.Table.Entries q).Mode=0)(E:1<=t/\t<=4)(g:0<=lim/\lim<=1000)(h:0<=sd/\sd<=1073741823)(d:0<=ck/\ck<=1000000):bn (qg k t sd ck lim) []:=by
 obtain⟨G,H,J⟩:=br.1 (aC.1 A).2.2.1;have hca:cn (qg k t sd ck lim)=[]:=by
  unfold cn;refine List.flatMap_eq_nil_iff.2 λc d=>?_
  rw[(List.mem_replicate.1 d).2]
  rfl
 have C:holders (qg k t sd ck lim)=[]:=by
  unfold holders;rw[hca];show(([]++[])++[])++aO (dB t)=[];rw[tq];rfl
 have i:∀a,¬lr (qg k t sd ck lim).Spans (qg k t sd ck lim).Larges a:=λa=>by
  rintro(⟨s,h,-⟩|⟨l,g,-⟩)
  ·cases h
  ·cases g
 exact {
   ker:=A
   rng:=fh.2 ⟨⟨List.pairwise_singleton ..,λy n=>by rw[Z0.1 n];show(1:Int)<=(k.Machine.Table.Entries.length:Nat);omega⟩,λy n=>by
       rw[Z0.1 n];refine⟨z4 _,by show(1:Int)<=(k.Machine.Table.Entries.length:Nat);omega,?_⟩;show(0:Int)+(k.Machine.Table.Entries.length:Nat)<=(k.Machine.Table.Entries.length:Nat);omega,by show(1:Int)<=(k.Machine.Table.Entries.length:Nat);omega,by show((k.Machine.Table.Entries.length:Nat):Int)<=32;omega⟩
   lay:=by show bg [] []=true;decide
   srs:=List.Pairwise.nil
   srl:=List.Pairwise.nil
   pg:=⟨λl g=>(by cases g),λp f=>(by cases f),λp f=>⟨λe=>absurd (B p f) e,λe=>by cases e⟩,λp f=>⟨λe=>absurd (B p f) e,λe=>absurd ⟨_,Z0.2 rfl,by show(0:Int)<=p;omega,by
       show(p:Int)<0+(k.Machine.Table.Entries.length:Nat);have F:p<k.Machine.Table.Entries.length:=f;omega⟩ e⟩,λs h=>by cases h⟩
   mail:=FJ E
   nc:=by show(List.replicate t eN).length=(List.replicate t _).length;simp
   quar:=by show fj ⟨16,[]⟩ = true;decide
   snc:=λx r=>by cases r
   cach:=λc d=>by rw[(List.mem_replicate.1 d).2];exact En
   nums:=by unfold cm;rw[C0];simp only[qg];omega
   osr:=List.Pairwise.nil
   onu:=λo u=>by cases u
   oid:=List.nodup_nil
   oow:=λo u=>by cases u
   hca:=λc d j D a b=>by
     rw[(List.mem_replicate.1 d).2]at D b;have w:j<4:=D;have:nth eN.Lists j=[]:=cU w;rw[this]at b;cases b
   hqu:=λx r=>by cases r
   hfl:=λa b=>by
     have:aO (dB t)=[]:=tq t;change a∈aO (dB t) at b;rw[this]at b;cases b
   hin:=λa b=>by cases b
   nd:=by rw[C];exact List.nodup_nil
   mem:=λa=>by rw[C];exact⟨λe=>(by cases e),λe=>absurd e (i a)⟩
   job:=λe=>by cases e
   noj:=λ_=>by show qG ⟨⟨0,0,[]⟩,0,0⟩ = true;decide}
theorem JI.no{h:ab}(a:h.Meshing=false):JI h:=⟨λe=>(by rw[a]at e;cases e),λe=>(by rw[a]at e;cases e),λe=>(by rw[a]at e;cases e),λe=>(by rw[a]at e;cases e)⟩
theorem pq{p f:Nat}{a:List Int}(d:1<=p/\p<=32)(e:1<=f/\f<=32)(b:a.length<=40/\∀x∈a,0<=x):aB (bF p f a)=true:=by
 obtain⟨-,g,h,i,c⟩:=aC.1 (zU d e);exact aC.2 ⟨λj k=>b.2 _ (am k),g,h,i,c.1,c.2.1,b.1⟩
theorem D7{p f t:Nat}{lim:Int}{a:List Int}(c:1<=p/\p<=32)(d:1<=f/\f<=32)(g:1<=t/\t<=4)(i:0<=lim/\lim<=1000)(j:a.length<=40/\∀x∈a,0<=x):bn (ux p f t lim a) []:=by
 have h:=bn.fresh (k:=bF p f a) (t:=t) (lim:=lim) (sd:=0) (ck:=0) (pq c d j) (λq l=>by
   have b:q<p:=by simpa[bF,dR] using l
   rw[show nth (bF p f a).Machine.Table.Entries q = ⟨0,0⟩ from cU b]) g i ω ω
 have e:(bF p f a).Machine.Table.Entries.length=p:=by simp[bF,dR]
 unfold qg at h;rw[e]at h;exact h
structure ec where
 Kind:Int
 Thread:Int
 N:Int
 At:Int
 Value:Int
deriving DecidableEq,Inhabited
def ec.enc(_:dw)(x:ec):List C:=[I x.Kind,I x.Thread,I x.N,I x.At,I x.Value]
def mg(id:Int)(o:bH):Bool:=decide (o.Id=id)
def nl(r:a7)(id:Int):Int:=cX (mg id) r.Objs
def kb(r:a7)(n:Int):a7:=if 1<=n/\n<=1000 then {r with Next:=r.Next+1,Objs:=r.Objs++[⟨r.Next,List.replicate n.toNat 0⟩]} else r
def kO(r:a7)(id:Int):a7:=if nl r id<0 then r else {r with Objs:=dele r.Objs (nl r id).toNat}
def eG(r:a7)(id at_ v:Int):a7:=if 0<=nl r id/\(0<=at_/\at_<=(nth r.Objs (nl r id).toNat).Cells.length - 1)/\0<=v/\v<=999 then {r with Objs:=r.Objs.set (nl r id).toNat ⟨(nth r.Objs (nl r id).toNat).Id,(nth r.Objs (nl r id).toNat).Cells.set at_.toNat v⟩} else r
def gj(r:a7)(id n:Int):a7:=if 0<=nl r id/\1<=n/\n<=(nth r.Objs (nl r id).toNat).Cells.length then {r with Objs:=r.Objs.set (nl r id).toNat ⟨(nth r.Objs (nl r id).toNat).Id,(nth r.Objs (nl r id).toNat).Cells.take n.toNat⟩} else r
structure qo(r:a7)(m:Nat):Prop where
 len:r.Objs.length<=m
 cel:∀o∈r.Objs,o.Cells.length<=1000
 nx:0<=r.Next/\r.Next<=m+1
theorem qo.more{r:a7}{m n:Nat}(h:qo r m)(a:m<=n):qo r n:=⟨by have:=h.len;omega,h.cel,h.nx.1,by have:=h.nx.2;omega⟩
theorem qo.sml{r:a7}{m:Nat}(h:qo r m)(b:m<=1000):a7.sml r:=⟨by have:=h.len;omega,λo a=>by have:=h.cel o a;show o.Cells.length<=1048576;omega⟩
theorem qo.alloc{r:a7}{m:Nat}(h:qo r m)(n:Int):qo (kb r n) (m+1):=by
 unfold kb;split
 ·refine⟨by have:=h.len;simp only[W2,List.length_singleton];omega,λo a=>?_,by have:=h.nx.1;simp only;omega,by have:=h.nx.2;simp only;omega⟩
  rcases Q2.1 a with a|a
  ·exact h.cel o a
  ·rw[Z0.1 a];simp only[List.length_replicate];omega
 ·exact h.more ω
theorem qo.free{r:a7}{m:Nat}(h:qo r m)(id:Int):qo (kO r id) m:=by
 unfold kO;split
 ·exact h
 ·have a:=ep r.Objs (nl r id).toNat
  exact⟨t4 a.length_le h.len,λo b=>h.cel o (a.subset b),h.nx⟩
theorem qo.set{r:a7}{m i:Nat}{x:bH}(h:qo r m)(b:x.Cells.length<=1000):qo {r with Objs:=r.Objs.set i x} m:=
 ⟨by simp only[C1];exact h.len,λo a=>by
   rcases z5 a with a|rfl
   · exact h.cel o a
   · exact b,h.nx⟩
theorem gc{α:Type}[Inhabited α](p:α->Bool)(xs:List α)(h:0<=cX p xs):(cX p xs).toNat<xs.length/\p (nth xs (cX p xs).toNat)=true/\cX p xs=((cX p xs).toNat:Nat):=by
 rcases kx p xs with e|⟨n,a,e,b⟩
 ·omega
 ·rw[e,I2];exact⟨a,b,rfl⟩
theorem qo.store{r:a7}{m:Nat}(h:qo r m)(id a v:Int):qo (eG r id a v) m:=by
 unfold eG;split
 ·rename_i e
  refine h.set ?_;simp only[C1];exact h.cel (nth r.Objs (nl r id).toNat) (am (gc _ _ e.1).1)
 ·exact h
theorem qo.trim{r:a7}{m:Nat}(h:qo r m)(id n:Int):qo (gj r id n) m:=by
 unfold gj;split
 ·rename_i e
  refine h.set ?_;have:=h.cel (nth r.Objs (nl r id).toNat) (am (gc _ _ e.1).1);simp only[I1];omega
 ·exact h
def Ki(id:Int)(o:bm):Bool:=decide (o.Id=id)
def qp(h:ab)(id:Int):Int:=cX (Ki id) h.Objs
def GP(a:Int)(l:ax):Bool:=decide (l.Page*16=a)
def xw(h:ab)(a:Int):Int:=cX (GP a) h.Larges
def nq(h:ab)(a:ec):Prop:=0<=a.Thread/\a.Thread<=h.Caches.length - 1
instance (h:ab) (a:ec):Decidable (nq h a):=by unfold nq;infer_instance
def ru(w:bI)(a:ec)(i:Nat):bI × Int:=
 if w.Heap.Kernel.Calls=100000 then(w,6)
 else if nq w.Heap a then(⟨(freeT w.Heap a.Thread.toNat i).1,if(freeT w.Heap a.Thread.toNat i).2=0 then kO w.Ref (nth w.Heap.Objs i).Id else w.Ref⟩,(freeT w.Heap a.Thread.toNat i).2)
 else(w,1)
def nA(w:bI)(a:ec)(i:Nat):bI × Int:=
 if ¬(0<=a.At/\a.At<=(nth w.Heap.Objs i).Size - 1) then(w,90)
 else if(ar w.Heap.Kernel.Machine.Table (((nth w.Heap.Objs i).Addr+a.At) / 16)).Mode=1 then(w,2)
 else if ¬(0<=a.Value/\a.Value<=999) then(w,3)
 else(⟨{w.Heap with Kernel:=kA w.Heap.Kernel ((nth w.Heap.Objs i).Addr+a.At) a.Value},eG w.Ref (nth w.Heap.Objs i).Id a.At a.Value⟩,0)
def kG(h:ab)(i:Nat)(n:Int):Prop:=0<=xw h (nth h.Objs i).Addr/\9<=n/\n<=(nth h.Larges (xw h (nth h.Objs i).Addr).toNat).Size
instance (h:ab) (i:Nat) (n:Int):Decidable (kG h i n):=by unfold kG;infer_instance
def qN(w:bI)(a:ec)(i:Nat):bI × Int:=
 if w.Heap.Kernel.Calls≠100000/\kG w.Heap i a.Value then(⟨trimH w.Heap i (xw w.Heap (nth w.Heap.Objs i).Addr).toNat a.Value,gj w.Ref (nth w.Heap.Objs i).Id a.Value⟩,0) else(w,90)
def nU(w:bI)(a:ec)(i:Nat):bI × Int:=if a.Kind=2 then ru w a i else if a.Kind=3 then nA w a i else qN w a i
def gl(h:ab)(a:ec):ab × Int:=
 if a.Kind=5 then(if nq h a/\0<(nth h.Mail.Buffers a.Thread.toNat).length then({h with Mail:=f9 h.Mail a.Thread.toNat},0) else(h,90))
 else if ¬(h.Kernel.Calls≠100000/\nq h a) then(h,0)
 else if a.Kind=6 then(collect h a.Thread.toNat,((nth h.Mail.Inbox a.Thread.toNat).length:Nat))
 else((flushN a.Thread.toNat h 4).1,((flushN a.Thread.toNat h 4).2:Nat))
def oK(h:ab)(n:Int):ab × Int:=if h.Kernel.Calls≠100000/\(0<=n/\n<=1000)/\h.Clock+n<=1000000 then(tick h n,((mI h n).length:Nat)) else(h,0)
def sv(h:ab):Bool:=h.Meshing&&decide (h.Kernel.Calls<=99000)
def mE(h:ab):Nat->ab × Nat
 | 0=>(h,0)
 | i+1=>if sv (mE h i).1=true then(mStep (mE h i).1,(mE h i).2+1) else mE h i
def ot(h:ab):ab × Int:=if h.Meshing=true then(h,90) else((started h).1,if(started h).2=true then 0 else 90)
def ns(w:bI)(a:ec):bI × Int:=
 if a.Kind=1 then(⟨(fB w.Heap a.Thread a.N).1,if(fB w.Heap a.Thread a.N).2.2=0 then kb w.Ref a.N else w.Ref⟩,(fB w.Heap a.Thread a.N).2.2)
 else if a.Kind=2\/a.Kind=3\/a.Kind=4 then(if qp w.Heap a.N<0 then(w,90) else nU w a (qp w.Heap a.N).toNat)
 else if a.Kind=5\/a.Kind=6\/a.Kind=7 then(⟨(gl w.Heap a).1,w.Ref⟩,(gl w.Heap a).2)
 else if a.Kind=8 then(⟨(oK w.Heap a.N).1,w.Ref⟩,(oK w.Heap a.N).2)
 else if a.Kind=9 then(⟨(ot w.Heap).1,w.Ref⟩,(ot w.Heap).2)
 else if a.Kind=10/\0<=a.N/\a.N<=50 then(⟨(mE w.Heap a.N.toNat).1,w.Ref⟩,((mE w.Heap a.N.toNat).2:Nat))
 else(w,90)
structure r6(w:bI)(m:Nat):Prop where
 inv:bn w.Heap []
 ji:JI w.Heap
 ref:qo w.Ref m
theorem r6.more{w:bI}{m n:Nat}(h:r6 w m)(a:m<=n):r6 w n:=⟨h.inv,h.ji,h.ref.more a⟩
theorem r6.jk{w:bI}{m:Nat}(h:r6 w m){g:ab}{r:a7}(a:bn g []/\JK w.Heap g)(b:qo r m):r6 ⟨g,r⟩ m:=⟨a.1,h.ji.keep a.1 a.2,b⟩
theorem me{h:ab}{E:List Int}(a:bn h E){o:bm}(p:o∈h.Objs){k:Int}(D:0<=k/\k<=o.Size - 1):(ar h.Kernel.Machine.Table ((o.Addr+k) / 16)).Mode≠0/\0<=o.Addr/\o.Addr+k<512:=by
 rcases a.oow o p with⟨s,g,q,r⟩|⟨l,i,F,G⟩
 ·have b:=a.L.sok s g
  have t:=aF b;obtain⟨u,w,y⟩:=a.mapped g;have d:=cv t.2.2;obtain⟨H,J,A,-⟩:=q;have f:o.Size<=csz s.Class:=by
   have K:=pB (n:=o.Size) ω;rw[r];have:o.Size=1\/o.Size=2\/o.Size=3\/o.Size=4\/o.Size=5\/o.Size=6\/o.Size=7\/o.Size=8:=ω
   rcases this with e|e|e|e|e|e|e|e<;>rw[e]<;>decide
  have B:(o.Addr+k) / 16=s.Page:=by
   rcases d with e|e|e|e<;>rw[e]at A f<;>omega
  rw[B];refine⟨?_,ω,ω⟩;unfold ar;rw[C8 ⟨u,w⟩];exact y
 ·obtain⟨j,C,rfl⟩:=bf i
  have c:=a.L.lok _ i;unfold bV at c;rw[C0]at c;exact⟨nr a C ⟨ω,ω⟩,ω,ω⟩
theorem r6.obj{w:bI}{m:Nat}(h:r6 w m)(a:ec){i:Nat}(b:i<w.Heap.Objs.length):r6 (nU w a i).1 m:=by
 unfold nU;split
 ·unfold ru
  split
  ·exact h
  split
  ·rename_i d
   unfold nq at d;refine h.jk (h.inv.freeT b ω) ?_;split
   ·exact h.ref.free _
   ·exact h.ref
  ·exact h
 split
 ·unfold nA
  split
  ·exact h
  rename_i l;split
  ·exact h
  split
  ·exact h
  rename_i n;exact h.jk (h.inv.store (me h.inv (am b) ω).1 ω) (h.ref.store _ _ _)
 ·unfold qN
  split
  ·rename_i e
   obtain⟨-,f,g⟩:=e;obtain⟨j,k,o⟩:=gc _ _ f;have c:=of_decide_eq_true k;exact h.jk (h.inv.trimH b j (c.symm.trans (Int.mul_comm _ _)) g) (h.ref.trim _ _)
  ·exact h
theorem r6.thread{w:bI}{m:Nat}(h:r6 w m)(a:ec):r6 ⟨(gl w.Heap a).1,w.Ref⟩ m:=by
 unfold gl;split
 ·split
  ·rename_i e
   obtain⟨b,i⟩:=e;unfold nq at b;exact h.jk (g:={w.Heap with Mail:=f9 w.Heap.Mail a.Thread.toNat}) ⟨h.inv.deliv (by rw[<-h.inv.nc];omega) i,JK.eq rfl rfl rfl rfl⟩ h.ref
  ·exact h
 split
 ·exact h
 rename_i e;have e:=Classical.not_not.1 e;obtain⟨-,b⟩:=e;unfold nq at b;split
 ·exact h.jk (g:=collect w.Heap a.Thread.toNat) (h.inv.collect ω) h.ref
 ·have c:a.Thread.toNat<w.Heap.Caches.length:=ω
  have d:=(ki h.inv c (R2 4)).1;have f:=JK.flushN h.inv c (R2 4);generalize flushN a.Thread.toNat w.Heap 4=r at d f |-;exact h.jk (g:=r.1) ⟨d,f⟩ h.ref
theorem wy{h:ab}(a:bn h [])(b:JI h):∀n,bn (mE h n).1 []/\JI (mE h n).1
 | 0=>⟨a,b⟩
 | n+1=>by
  obtain⟨c,d⟩:=wy a b n;unfold mE;split
  ·rename_i e
   unfold sv at e;rw[I0]at e;exact c.mStep d e.1
  ·exact⟨c,d⟩
theorem r6.act{w:bI}{m:Nat}(h:r6 w m)(a:ec):r6 (ns w a).1 (m+1):=by
 unfold ns;split
 ·have b:=Hb (t:=a.Thread) (size:=a.N) h.inv
  refine⟨b.1,h.ji.keep b.1 b.2,?_⟩;show qo (if _ then _ else _) (m+1);split
  ·exact h.ref.alloc _
  ·exact h.ref.more ω
 refine r6.more (m:=m) ?_ ω;split
 ·split
  ·exact h
  ·rename_i e
   exact h.obj a (gc _ _ (by unfold qp at e;omega)).1
 split
 ·exact h.thread a
 split
 ·unfold oK
  split
  ·rename_i e
   exact h.jk (h.inv.tick e.2.1.1 e.2.2) h.ref
  ·exact h
 split
 ·unfold ot
  split
  ·exact h
  ·rename_i e
   have b:=FC h.inv (by simpa using e);exact⟨b.1,b.2,h.ref⟩
 split
 ·have b:=wy h.inv h.ji a.N.toNat
  exact⟨b.1,b.2,h.ref⟩
 ·exact h
structure cB where
 Pages:Nat
 Frames:Nat
 Threads:Nat
 Limit:Int
 Refuse:List Int
deriving Inhabited
structure FQ(c:cB):Prop where
 p:1<=c.Pages/\c.Pages<=32
 f:1<=c.Frames/\c.Frames<=32
 t:1<=c.Threads/\c.Threads<=4
 l:0<=c.Limit/\c.Limit<=1000
 r:c.Refuse.length<=40/\∀x∈c.Refuse,0<=x
def world0(c:cB):bI:=⟨ux c.Pages c.Frames c.Threads c.Limit c.Refuse,{Next:=1,Objs:=[]}⟩
def Aq(c:cB)(acts:List ec):Nat->bI × List Int
 | 0=>(world0 c,[])
 | i+1=>((ns (Aq c acts i).1 (nth acts i)).1,(Aq c acts i).2++[(ns (Aq c acts i).1 (nth acts i)).2])
theorem GW{c:cB}(h:FQ c):r6 (world0 c) 0:=
 ⟨D7 h.p h.f h.t h.l h.r,JI.no rfl,⟨R2 _,λo a=>(by cases a),by show(0:Int)<=1;omega,by show(1:Int)<=((0:Nat):Int)+1;omega⟩⟩
theorem wn{c:cB}(h:FQ c)(acts:List ec):∀n,r6 (Aq c acts n).1 n
 | 0=>GW h
 | n+1=>(wn h acts n).act _
theorem or64{z1 z2:Int}(h1:0<=z1/\z1<=65535)(a:0<=z2/\z2<=65535):IntKind.i64.wrap ((BitVec.ofInt IntKind.i64.bits z1 ||| BitVec.ofInt IntKind.i64.bits z2).toNat:Nat)=bor z1 z2:=by
 rw[BitVec.toNat_or,my ω,my ω];have b:=KF h1 a;unfold bor at b |-;exact eS ω ω
theorem xy(h:ab)(i:Nat)(n:dd h.Spans)(d:x8 h)(a:∀s∈h.Spans,bc s=true)(y:i<h.Spans.length):ao Tryz.prog 342 false [.val (some 24) (ab.enc .imm h),.val none [I (i:Nat)]] .one [I (gu h i)]:=by
 have F:=n.1;have G:=ah y;have g:=uw a y;have B:=aE ((i:Nat):Int) 0 ((h.Spans.length:Int) - 1);rw[O0 (show(0:Int)<=(i:Nat)/\((i:Nat):Int)<=(h.Spans.length:Int) - 1 by omega)]at B;have C:=gE h (nth h.Spans i).Page d;have o:=g9 h (nth h.Spans i).Page;have H:dU h<=1048576:=d.1;have c:gu h i=jr h.Spans (aT h (nth h.Spans i).Page) (nth h.Spans i).Bits (aT h (nth h.Spans i).Page).length:=rfl;obtain⟨ps,q⟩ : ∃ps,aT h (nth h.Spans i).Page=ps:=⟨_,rfl⟩
 obtain⟨b,r⟩ : ∃b,(nth h.Spans i).Bits=b:=⟨_,rfl⟩
 rw[q]at C o c;rw[r]at c g;rw[c];have J:jr h.Spans ps b 0=b:=rfl;refine fO 63 [(4,7,[22,23,24,25,26,27,28]),(11,10,[43,44,45,46,47,48,49,50,51,52])] Tryz.func342 rfl ?_
 repeat'(first|refine gO ?_|(conv=>whnf);first|with_reducible refine CA (aa G) ?_|refine C6 (B) ?_|refine C6 (C) ?_)
 (conv=>whnf)
 refine CC (ι:=Nat) (λu=>[(2,.hold .box (ab.enc .imm h)),(5,.hold .one [I (jr h.Spans ps b u)]),(6,.hold .one (aD .own ps)),(7,.hold .one [I ((u:Nat):Int)])]) (λu=>u<=ps.length) (λu=>ps.length - u) (0) ?_ (R0 _) λu M=>?_
 ·exact wB
 by_cases K:u<ps.length
 ·have l:=ah K
  have t:=qR a (ps:=ps) g u
  repeat'(first|refine gD ?_|fail)
  (conv=>whnf)
  refine CC (ι:=Nat) (λj=>[(2,.hold .box (ab.enc .imm h)),(5,.hold .one [I (qv h.Spans (nth ps u) (jr h.Spans ps b u) j)]),(6,.hold .one (aD .own ps)),(7,.hold .one [I ((u:Nat):Int)]),(8,.hold .one [I ((j:Nat):Int)])]) (λj=>j<=h.Spans.length) (λj=>h.Spans.length - j) (0) ?_ (R0 _) λj L=>?_
  ·exact wB
  by_cases D:j<h.Spans.length
  ·have E:=ah D
   have w:=u9 a (p:=nth ps u) t j L;by_cases e:(nth h.Spans j).Page=nth ps u
   ·have k:qv h.Spans (nth ps u) (jr h.Spans ps b u) (j+1)=bor (qv h.Spans (nth ps u) (jr h.Spans ps b u) j) (nth h.Spans j).Bits:=C8 e
    repeat'(first|refine gA ?_|(conv=>whnf);first|with_reducible (first|refine CA (aa l) ?_|refine CA (aa E) ?_)|refine CF rfl (aa l) rfl ?_|refine CI (or64 w (uw a D)) ?_)
    ((conv=>whnf);refine CB (j+1) ω ω ?_;(exact wB))
   ·have k:qv h.Spans (nth ps u) (jr h.Spans ps b u) (j+1)=qv h.Spans (nth ps u) (jr h.Spans ps b u) j:=C7 e
    repeat'(first|refine gA ?_|(conv=>whnf);first|with_reducible (first|refine CA (aa l) ?_|refine CA (aa E) ?_)|refine CF rfl (aa l) rfl ?_)
    ((conv=>whnf);refine CB (j+1) ω ω ?_;(exact wB))
  ·obtain rfl:j=h.Spans.length:=ω
   repeat'(first|refine gD ?_|fail)
   ((conv=>whnf);refine CB (u+1) ω ω ?_;(exact wB))
 ·obtain rfl:u=ps.length:=ω
  repeat'(first|refine gD ?_|fail)
  rfl
theorem rO{xs:List bm}(h:∀o∈xs,0<=o.Size/\o.Size<=1000):∀k:Nat,k<=xs.length->0<=sR xs k/\sR xs k<=1000*k
 | 0,_=>⟨z4 _,z4 _⟩
 | k+1,a=>by
  have b:=rO h k ω;have c:=h _ (am (xs:=xs) (i:=k) ω);simp only[sR];omega
theorem wR(h:ab)(a:∀o∈h.Objs,0<=o.Size/\o.Size<=1000)(e:h.Objs.length<=1048576):ao Tryz.prog 51 false [.val (some 24) (ab.enc .imm h)] .one [I (vZ h)]:=by
 refine fO 21 [] Tryz.func51 rfl ?_
 repeat'(first|refine gO ?_|fail)
 (conv=>whnf)
 refine CC (ι:=Nat) (λk=>[(1,.hold .box (ab.enc .imm h)),(3,.hold .one [I (sR h.Objs k)]),(4,.hold .one [I ((k:Nat):Int)])]) (λk=>k<=h.Objs.length) (λk=>h.Objs.length - k) (0) ?_ (R0 _) λk c=>?_
 ·exact wB
 have g:=rO a k c;by_cases b:k<h.Objs.length
 ·have d:=ah b
  have i:=a _ (am b)
  repeat'(first|refine gD ?_|(conv=>whnf);first|refine CA (aa d) ?_)
  ((conv=>whnf);refine CB (k+1) ω ω ?_;(exact wB))
 ·obtain rfl:k=h.Objs.length:=ω
  repeat'(first|refine gD ?_|fail)
  rfl
theorem vE(k b:Int)(h:b<=9223372036854775807):ao Tryz.prog 341 false [.val none [I (slots k)],.val none [I b]] .one (aD .own (pU k b)):=by
 have c:=oW k b;have p:0<=slots k/\slots k<=16:=by unfold slots;repeat' split<;>omega
 unfold pU;cases e:J2 k b<;>rw[e]at c
 ·rw[C7 (by simp)]
  refine fO 27 [] Tryz.func341 rfl ?_ (.inr (bK _))
  repeat'(first|refine gO ?_|fail)
  (conv=>whnf)
  refine CC (ι:=Nat) (λj=>[(0,.hold .one [I (slots k)]),(1,.hold .one [I (b)]),(5,.hold .one (aD .own [])),(6,.hold .one [I ((j:Nat):Int)])]) (λj=>j=0) (λj=>1 - j) (0) ?_ (rfl) λj g=>?_
  ·exact wB
  subst g
  repeat'(first|refine gD ?_|(conv=>whnf);first|with_reducible refine Bf.D (λi=>?_) (λi=>?_)|refine C6 (c) ?_)
  all_goals rfl
 ·rw[C8 rfl]
  refine fO 27 [] Tryz.func341 rfl ?_ (.inr (bK _))
  repeat'(first|refine gO ?_|fail)
  (conv=>whnf)
  refine CC (ι:=Nat) (λj=>[(0,.hold .one [I (slots k)]),(1,.hold .one [I (b)]),(5,.hold .one (aD .own (nt b j))),(6,.hold .one [I ((j:Nat):Int)])]) (λj=>j<=(slots k).toNat) (λj=>(slots k).toNat - j) (0) ?_ (R0 _) λj g=>?_
  ·exact wB
  have l:=r7 b j;by_cases q:j<(slots k).toNat
  ·have d:=ir b (j:Nat) h
   have a:nt b (j+1)=if aX b (j:Nat)=true then nt b j else nt b j++[((j:Nat):Int)]:=rfl
   cases n:aX b (j:Nat)<;>rw[n]at d a
   ·rw[C7 (by simp)]at a
    repeat'(first|refine gD ?_|(conv=>whnf);first|refine C6 (c) ?_|refine C6 (d) ?_|refine CQ cx (λr o=>by rw[Z0.1 o];rfl) (by simp[aV,dC]) (by simp;omega) (by simp only[W0];exact yk (by simp;omega) (by decide)) rfl ?_)
    ((conv=>whnf);refine CB (j+1) ω ω ?_)
    rw[a]
    repeat'(first|exact trivial|rfl|exact CH rfl (CH (T0 (C.s dw.own) (by simp[rI])) trivial)|refine CH ?_ ?_|(exact yP (by first|omega|(simp only;omega)|(simp;omega))))
   ·rw[C8 rfl]at a
    repeat'(first|refine gD ?_|(conv=>whnf);first|refine C6 (c) ?_|refine C6 (d) ?_)
    ((conv=>whnf);refine CB (j+1) ω ω ?_)
    rw[a];exact wB
  ·obtain rfl:j=(slots k).toNat:=ω
   repeat'(first|refine gD ?_|fail)
   rfl
theorem Jb(b i:Int):bor b (2 ^ i.toNat)=gp b i:=by
 unfold bor gp;have:((2 ^ i.toNat:Nat):Int)=(2:Int) ^ i.toNat:=Int.natCast_pow 2 i.toNat;rw[<-this,I2]
theorem x6(b i:Int)(d:0<=b/\b<=65535)(a:0<=i/\i<=15):ao Tryz.prog 344 false [.val none [I b],.val none [I i]] .one [I (gp b i)]:=by
 have c:=oJ b i;rw[O0 ω]at c;have e:IntKind.u64.wrap i=i:=by unfold IntKind.wrap;simp[IntKind.signed,IntKind.bits];omega
 have h:=(shl64 a).2;have g:=(or64 (z1:=b) (z2:=2 ^ i.toNat) d ω).trans (Jb b i);refine fO 15 [] Tryz.func344 rfl ?_
 repeat'(first|refine gO ?_|(conv=>whnf);first|refine C6 (c) ?_|refine CK ω ?_|refine CI e ?_|refine CI (shl64 a).1 ?_|refine CI g ?_)
 rfl
theorem KN{s:au}(b:bc s=true){k:Int}(d:0<=k/\k<slots s.Class):0<=k*csz s.Class/\k*csz s.Class<=15:=by
 have a:=aF b;have c:=gh a.2.2;rcases cv a.2.2 with e|e|e|e<;>rw[e]at c |-<;>omega
theorem xL(s:au)(k:Int)(a:bc s=true)(d:0<=k/\k<slots s.Class):ao Tryz.prog 345 false [.val (some 3) (au.enc .imm s),.val none [I k]] .one [I (16*s.Page+k*csz s.Class)]:=by
 have e:=aF a;have i:=KN a d;have j:=gh e.2.2;have b:=fZ s;rw[a]at b;have g:=mK s.Class;have c:=aE k 0 (slots s.Class - 1);rw[O0 ω]at c;have h:=d4 s.Class;refine fO 26 [(3,8,[17,18,19,20,21,22,23,24])] Tryz.func345 rfl ?_
 repeat'(first|refine gO ?_|(conv=>whnf);first|refine C6 (b) ?_|refine C6 (g) ?_|refine C6 (c) ?_|refine C6 (h) ?_|refine C9 ?_)
 exact T0 (λz=>[I z]) ω
theorem A6(f:aU)(g:f.Used.length<=1048576):ao Tryz.prog 346 false [.val (some 2) (aU.enc .imm f)] .one [I (cX (λu=>!u) f.Used)]:=by
 refine fO 18 [] Tryz.func346 rfl ?_
 repeat'(first|refine gO ?_|fail)
 (conv=>whnf)
 refine CC (ι:=Nat) (λi=>[(1,.hold .box (aU.enc .imm f)),(3,.hold .one [I ((i:Nat):Int)])]) (λi=>i<=f.Used.length/\∀(j:Nat)(z:Bool),j<i->f.Used[j]? = some z->(!z)=false) (λi=>f.Used.length - i) (0) ?_ (⟨R0 _,λj z h=>ω⟩) λi c=>?_
 ·exact wB
 obtain⟨c,b⟩:=c;by_cases d:i<f.Used.length
 ·have a:=ah d
  cases e:nth f.Used i<;>rw[e]at a
  ·repeat'(first|refine gD ?_|(conv=>whnf);first|with_reducible refine CA (aa a) ?_)
   exact T0 (λz=>[I z]) (dN a rfl b).symm
  ·repeat'(first|refine gD ?_|(conv=>whnf);first|with_reducible refine CA (aa a) ?_)
   ((conv=>whnf);refine CB (i+1) ⟨ω,di a rfl b⟩ ω ?_;(exact wB))
 ·repeat'(first|refine gD ?_|fail)
  exact T0 (λz=>[I z]) (fT ω b).symm
theorem mH(m:aH):∀(n i:Nat),i<n->((nth m.Buffers i).length:Int)+(nth m.Inbox i).length<=bu m n/\0<=bu m n
 | 0,i,h=>absurd h (Nat.not_lt_zero i)
 | n+1,i,h=>by
  have a:0<=bu m n:=by
   cases n with
   | zero=>exact z4 _
   | succ k=>exact(mH m (k+1) 0 ω).2
  simp only[bu];by_cases e:i=n
  ·subst e;omega
  ·have:=(mH m n i ω).1;omega
structure jt(m:aH):Prop where
 b4:1<=m.Buffers.length/\m.Buffers.length<=4
 i4:m.Inbox.length=m.Buffers.length
 bl:∀i,i<m.Buffers.length->(nth m.Buffers i).length<=30
 il:∀i,i<m.Buffers.length->(nth m.Inbox i).length<=30
theorem jt.of{m:aH}(h:b6 m=true):jt m:=by
 obtain⟨⟨b,c,d⟩,-,e⟩:=dy.1 h;exact⟨⟨b,c⟩,d,λi a=>by have:=(mH m m.Buffers.length i a).1;omega,λi a=>by have:=(mH m m.Buffers.length i a).1;omega⟩
theorem jt.sml{m:aH}(h:jt m):aH.sml m:=by
 have c:=h.b4;have d:=h.i4;refine⟨⟨ω,λl a=>?_⟩,⟨ω,λl a=>?_⟩⟩
 ·obtain⟨i,b,rfl⟩:=bf a
  have:=h.bl i b;exact⟨ω,λ_ _=>trivial⟩
 ·obtain⟨i,b,rfl⟩:=bf a
  have:=h.il i ω;show(nth m.Inbox i).length<=1048576;omega
theorem qU(m:aH)(k:Int)(a:aH.sml m):ao Tryz.prog 388 false [.val (some 2) (aH.enc .imm m),.val none [I k]] .one [B (b6 m&&decide (0<=k/\k<=m.Buffers.length - 1))]:=by
 have b:=kK m a;have c:m.Buffers.length<=1048576:=a.1.1;cases e:b6 m<;>rw[e]at b
 all_goals
  refine fO 15 [] Tryz.func388 rfl ?_
  repeat'(first|refine gO ?_|(conv=>whnf);first|refine C9 ?_|refine C6 (b) ?_|refine C6 (aE k 0 (m.Buffers.length - 1:Int)) ?_)
  all_goals rfl
theorem NP{m:aH}{f:Nat}(a:f<m.Buffers.length):m.Buffers[f]? = some (nth m.Buffers f):=ah a
theorem rG(m:aH)(f:Nat)(p:cG):aH.enc .own (eg m f p)=[.s .own ((m.Buffers.map (bN .own)).set f (bN .own (nth m.Buffers f++[p]))),.s .own (m.Inbox.map (aD .own))]:=by simp[aH.enc,eg,Z4]
theorem y5{m:aH}(h:jt m){f:Nat}(c:f<m.Buffers.length)(p:cG):aH.sml (eg m f p):=by
 have d:=h.b4;have b:=h.sml;refine⟨⟨by simp only[eg,C1];omega,λl a=>?_⟩,b.2⟩;rcases z5 a with a|rfl
 ·exact b.1.2 l a
 ·have:=h.bl f c
  exact⟨by simp;omega,λ_ _=>trivial⟩
theorem Hp(m:aH)(f:Nat)(p:cG)(j:b6 m=true)(g:f<m.Buffers.length):ao Tryz.prog 381 false [.val (some 2) (aH.enc .imm m),.val none [I (f:Nat)],.val (some 2) (cG.enc .imm p)] (.tup [some 2,none]) (aH.enc .own (if b6 (eg m f p)=true then eg m f p else m)++[B (b6 (eg m f p))]):=by
 have c:=jt.of j;have k:=c.sml;have q:=c.b4;have h:=qU m f k;rw[j,O0 ω]at h;have l:=fg m k;have b:=y5 c g p;have i:=kK (eg m f p) b;have n:=fg (eg m f p) b;have a:=NP g;have o:=c.bl f g;have d:=aH.enc_fz (eg m f p);rw[rG]at d;cases e:b6 (eg m f p)<;>rw[e]at i
 ·rw[C7 (by simp)]
  refine fO 35 [(4,267,[16,17,18,19,20,21,22,23,24,25,27,0,1,2,3,4,5,6,7,8,9,10,1000,1001,1002,11,12])] Tryz.func381 rfl ?_ (.inr (aM (CX _) ⟨trivial,trivial⟩))
  repeat'(first|refine gO ?_|(conv=>whnf);first|with_reducible refine CA (aa a) ?_|refine C9 ?_|refine CA (dn a) ?_|refine CF rfl (dn a) rfl ?_|refine C6 (h) ?_|refine C6 (l) ?_|refine Lq.one rfl rfl (aa a) rfl (X0 rfl) rfl rfl ?_|refine CF rfl (aa a) rfl ?_|refine CL rfl rfl (dn a) rfl (X0 rfl) (show [C.s dw.own ((m.Buffers.map (bN .own)).set f (bN .own (nth m.Buffers f++[p]))),C.s .own (m.Inbox.map (aD .own))]=_ from by simp only[List.set_cons_zero,List.set_set,I2];rfl) ?_|refine CT (aI λ_=>rfl) rfl (by simp;omega) (by decide) (ew _ _ _) ?_|refine CD (i) ⟨⟨rfl,d⟩,trivial⟩ ?_)
  rfl
 ·rw[C8 rfl]
  refine fO 35 [(4,267,[16,17,18,19,20,21,22,23,24,25,27,0,1,2,3,4,5,6,7,8,9,10,1000,1001,1002,11,12])] Tryz.func381 rfl ?_ (.inr (aM (CX _) ⟨trivial,trivial⟩))
  repeat'(first|refine gO ?_|(conv=>whnf);first|with_reducible refine CA (aa a) ?_|refine C9 ?_|refine CA (dn a) ?_|refine CF rfl (dn a) rfl ?_|refine C6 (h) ?_|refine C6 (l) ?_|refine Lq.one rfl rfl (aa a) rfl (X0 rfl) rfl rfl ?_|refine CF rfl (aa a) rfl ?_|refine CL rfl rfl (dn a) rfl (X0 rfl) (show [C.s dw.own ((m.Buffers.map (bN .own)).set f (bN .own (nth m.Buffers f++[p]))),C.s .own (m.Inbox.map (aD .own))]=_ from by simp only[List.set_cons_zero,List.set_set,I2];rfl) ?_|refine CT (aI λ_=>rfl) rfl (by simp;omega) (by decide) (ew _ _ _) ?_|refine CD (i) ⟨⟨rfl,d⟩,trivial⟩ ?_|refine CD (n) ⟨⟨rfl,d⟩,trivial⟩ ?_)
  rfl
theorem F5(m:aH)(f:Int)(a:b6 m=true)(d:¬(0<=f/\f<=m.Buffers.length - 1)):ao Tryz.prog 360 false [.val (some 2) (aH.enc .imm m),.val none [I f]] (.tup [some 2,none]) (aH.enc .own m++[B false]):=by
 have e:=jt.of a;have b:=e.sml;have c:=qU m f b;rw[a,Q0 d]at c;have g:=fg m b;refine fO 60 [(5,267,[31,32,33,34,35,36,37,38,39,40,42,0,1,2,3,4,5,6,7,8,9,10,1000,1001,1002,11,12]),(6,270,[43,44,45,46,47,48,49,50,51,52,53,54,55,57,0,1,2,3,4,5,6,7,8,9,10,11,12,13,1000,1001,1002,1003,14,15])] Tryz.func360 rfl ?_ (.inr (aM (CX _) ⟨trivial,trivial⟩))
 repeat'(first|refine gO ?_|(conv=>whnf);first|refine C9 ?_|refine C6 (c) ?_|refine C6 (g) ?_)
 rfl
theorem EN(m:aH)(f t:Nat)(a:(nth (nth m.Buffers f) 0).To=t):aH.enc .own (f9 m f)=[.s .own ((m.Buffers.map (bN .own)).set f [.s .own (((nth m.Buffers f).drop 1).map (cG.enc .imm))]),.s .own ((m.Inbox.map (aD .own)).set t (aD .own (nth m.Inbox t++[(nth (nth m.Buffers f) 0).Addr])))]:=by
 unfold aH.enc f9;simp only[Z4,a,I2]
 rfl
theorem Do(m:aH)(f:Nat)(h:b6 m=true)(i:f<m.Buffers.length):ao Tryz.prog 360 false [.val (some 2) (aH.enc .imm m),.val none [I (f:Nat)]] (.tup [some 2,none]) (aH.enc .own (if 0<(nth m.Buffers f).length then f9 m f else m)++[B (decide (0<(nth m.Buffers f).length))]):=by
 have d:=jt.of h;have u:=d.sml;have K:=d.b4;have D:=d.i4;have j:=qU m f u;rw[h,O0 ω]at j;have w:=fg m u;have a:=NP i;have F:=d.bl f i;by_cases e:0<(nth m.Buffers f).length
 ·rw[C8 e,O0 e]
  have g:=((dy.1 h).2.1 f i).1 _ (am e);obtain⟨t,k⟩:=O2 g.1;have l:t<m.Inbox.length:=ω
  have y:=ah e;have c:=ah l;have G:=d.il t ω;have n:=(jt.of (D1 h i e)).sml;have H:=fg (f9 m f) n;have o:=aH.enc_fz (f9 m f);rw[EN m f t k]at o;have q:=aM (b:=[B true]) (CX (f9 m f)) ⟨trivial,trivial⟩;generalize L:nth (nth m.Buffers f) 0=p at *;obtain⟨M,J⟩:=p;simp only at k g o;subst k;refine fO 60 [(5,267,[31,32,33,34,35,36,37,38,39,40,42,0,1,2,3,4,5,6,7,8,9,10,1000,1001,1002,11,12]),(6,270,[43,44,45,46,47,48,49,50,51,52,53,54,55,57,0,1,2,3,4,5,6,7,8,9,10,11,12,13,1000,1001,1002,1003,14,15])] Tryz.func360 rfl ?_ (.inr q)
  repeat'(first|refine gA ?_|(conv=>whnf);first|with_reducible (first|refine CA (aa a) ?_|refine CA (aa c) ?_|refine Bf.E (λr=>?_) (λr=>?_))|refine C9 ?_|refine CJ (by decide) (aa y) ?_|refine CA (dn a) ?_|refine CA (dn c) ?_|refine CF rfl (dn a) rfl ?_|refine CF rfl (dn c) rfl ?_|refine C6 (j) ?_|refine C6 (w) ?_|refine CF rfl (aa a) rfl ?_|refine CF rfl (aa c) rfl ?_|refine CF rfl (aa y) rfl ?_|refine Lq.one rfl rfl (aa c) rfl (X0 rfl) rfl rfl ?_|refine CU 1 rfl (by rw[W0];omega) (aI λ_=>rfl) T3 ?_|refine CR (λ_=>rfl) (λ_=>rfl) (by rw[X2];omega) (by decide) ?_|refine CM (λ_=>rfl) (λ_=>rfl) (by rw[X2];omega) (by decide) ?_|refine CL rfl rfl (aa a) rfl (X0 rfl) rfl ?_|refine CL rfl rfl (dn c) rfl (X0 rfl) (show [C.s dw.own ((m.Buffers.map (bN .own)).set f [.s .own (((nth m.Buffers f).drop 1).map (cG.enc .imm))]),C.s .own ((m.Inbox.map (aD .own)).set t (aD .own (nth m.Inbox t++[J])))]=_ from by simp only[List.set_cons_zero,List.set_cons_succ,List.set_set,I2];rfl) ?_|refine CT (aI λ_=>rfl) rfl (by simp;omega) (by decide) (ew _ _ _) ?_|refine C9 ?_|refine CD (H) ⟨⟨rfl,o⟩,trivial⟩ ?_)
  rfl
 ·rw[C7 e,Q0 e]
  refine fO 60 [(5,267,[31,32,33,34,35,36,37,38,39,40,42,0,1,2,3,4,5,6,7,8,9,10,1000,1001,1002,11,12]),(6,270,[43,44,45,46,47,48,49,50,51,52,53,54,55,57,0,1,2,3,4,5,6,7,8,9,10,11,12,13,1000,1001,1002,1003,14,15])] Tryz.func360 rfl ?_ (.inr (aM (CX _) ⟨trivial,trivial⟩))
  repeat'(first|refine gA ?_|(conv=>whnf);first|with_reducible (first|refine CA (aa a) ?_|refine Bf.E (λr=>?_) (λr=>?_))|refine C9 ?_|refine C6 (j) ?_|refine C6 (w) ?_|refine CF rfl (aa a) rfl ?_)
  rfl
theorem Jv.set(rows:List (List C))(i:Nat){r n:List C}(h:Lz r n):Jv (.s .own (rows.set i r)) (.s .own (rows.set i n)):=by
 refine .own_ _ _ (by simp) (λj a b d f=>?_) (λj l a b c p d f o g=>?_)
 ·by_cases e:i=j
  ·subst e
   have k:i<rows.length:=by have:=(V1.1 d).1;simpa using this
   rw[v3 k]at d f;cases d;cases f;exact h.1
  ·rw[List.getElem?_set_ne e]at d f
   rw[d]at f;cases f;rfl
 ·by_cases e:i=j
  ·subst e
   have k:i<rows.length:=by have:=(V1.1 d).1;simpa using this
   rw[v3 k]at d f;cases d;cases f;exact h.2 l c p o g
  ·rw[List.getElem?_set_ne e]at d f
   rw[d]at f;cases f;rw[o]at g;cases g;exact .rfl_ _
theorem A8(m:aH)(t:Nat)(d:b6 m=true)(h:t<m.Buffers.length):ao Tryz.prog 389 false [.val (some 2) (aH.enc .imm m),.val none [I (t:Nat)]] (.tup [some 2,none]) (aH.enc .own (kI m t)++aD .own (nth m.Inbox t)):=by
 have b:=jt.of d;have e:=b.sml;have o:=b.b4;have j:=b.i4;have g:=qU m t e;rw[d,O0 ω]at g;have k:=fg m e;have c:=ah (xs:=m.Inbox) (i:=t) ω;have l:=b.il t h;have a:=aM (CX (kI m t)) (bK (nth m.Inbox t));have n:aH.enc .own (kI m t)=[.s .own (m.Buffers.map (bN .own)),.s .own ((m.Inbox.map (aD .own)).set t [.s .own []])]:=by simp[aH.enc,kI,Z4];rfl
 rw[n]at a |-;refine fO 28 [(5,263,[20,21,22,23,24,25,26,0,1,2,3,4,5,6,7,1000,8,9])] Tryz.func389 rfl ?_ (.inr a)
 repeat'((conv=>whnf);first|with_reducible (first|refine Lm ?_|refine Wm ω ?_|refine CA (aa c) ?_|refine Bn ?_|refine jl.dk rfl ?_)|refine Bt ?_|refine Bu ?_|refine C9 ?_|refine C6 (g) ?_|refine C6 (k) ?_|refine CF rfl (aa c) rfl ?_|refine CL rfl rfl (aa c) rfl (X0 rfl) rfl ?_|refine CR (λ_=>rfl) (λ_=>rfl) ω (by decide) ?_|refine CM (λ_=>rfl) (λ_=>rfl) ω (by decide) ?_|refine C9 ?_)
 exact .cons (.rfl_ _) (.cons (Jv.set _ _ (.cons .z_ .nil)) (.cons (.rfl_ _) .nil))
end Go.Proofs.YtembpgjjnioagaaGreat.Ab
