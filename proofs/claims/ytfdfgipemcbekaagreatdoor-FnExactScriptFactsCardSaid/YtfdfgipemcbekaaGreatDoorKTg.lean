/- Pages mapped for new spans and large objects: a heap stays whole. No condition. -/
import Derived.Test.YtfdfgipemcbekaaGreatDoorKTd
import Derived.Test.YtfdfgipemcbekaaGreatDoorKTf
import Derived.Test.YtfdfgipemcbekaaGreatDoorKTe
import Derived.Test.YtfdfgipemcbekaaGreatDoorActP
import Derived.Lib.Split
import Derived.Lib.IndexLaws
import Derived.Test.YtfdfgipemcbekaaGreatDoorKTc
import Derived.Test.YtfdfgipemcbekaaGreatDoorNum
import Derived.Test.YtfdfgipemcbekaaGreatDoorXi
set_option linter.unusedVariables false
set_option linter.defProp false
set_option linter.unusedSimpArgs false
set_option linter.constructorNameAsVariable false
namespace Go.Proofs.YtfdfgipemcbekaaGreatDoor.Ab
def gt(xs:List aC)(n:Int):Nat->Int
 | 0=>-1
 | i+1=>if n<=(nth xs i).a6/\(gt xs n i<0\/(nth xs i).a6<(nth xs (gt xs n i).toNat).a6) then(i:Nat) else gt xs n i
def fS(xs:List aC)(n:Int):Int:=gt xs n xs.length
def aA(xs:List aC)(n:Int):List aC × Int × Bool:=
 if fS xs n<0 then(xs,-1,false)
 else if(nth xs (fS xs n).toNat).a6=n then(dele xs (fS xs n).toNat,(nth xs (fS xs n).toNat).At,true)
 else(xs.set (fS xs n).toNat ⟨(nth xs (fS xs n).toNat).At+n,(nth xs (fS xs n).toNat).a6 - n⟩,(nth xs (fS xs n).toNat).At,true)
theorem uF(xs:List aC)(n:Int):∀i,i<=xs.length->gt xs n i = -1\/(0<=gt xs n i/\gt xs n i<i/\n<=(nth xs (gt xs n i).toNat).a6)
 | 0,_=>.inl rfl
 | i+1,a=>by
  have b:=uF xs n i ω
  grind[gt]
variable{i:Nat}{xs:List aC}
def zb(h:kv xs){j:Nat}(a:i<j)(b:j<xs.length):(nth xs i).At+(nth xs i).a6<(nth xs j).At:=by
 have:=List.pairwise_iff_getElem.1 h.1 i j ω b a
 rwa [<-bk (Z3 (show i<xs.length by omega)),<-bk (Z3 b)]at this
variable{p:Int}
theorem Da : RH xs p↔∃j,j<xs.length/\(nth xs j).At<=p/\p<(nth xs j).At+(nth xs j).a6:=by grind[b9,ax,RH]
theorem pQ{pages:Int}{n:Int}(h:bJ pages xs=true)(R:1<=n)(f:(aA xs n).2.2=true) :
  bJ pages (aA xs n).1=true/\0<=(aA xs n).2.1/\(aA xs n).2.1+n<=pages/\(∀p,RH (aA xs n).1 p↔RH xs p/\¬((aA xs n).2.1<=p/\p<(aA xs n).2.1+n))/\∀p,(aA xs n).2.1<=p->p<(aA xs n).2.1+n->RH xs p:=by
 obtain⟨e,E,t⟩:=gF.1 h;have u:=uF xs n xs.length (O5 _);unfold aA at f |-;change fS xs n = -1\/_ at u;split at f
 ·cases f
 rename_i g;rw[CI g];obtain⟨F,G,w⟩:=u.resolve_left ω;change 0<=fS xs n at F;change fS xs n<xs.length at G;change n<=(nth xs (fS xs n).toNat).a6 at w;generalize H:(fS xs n).toNat=b at w |-;have d:b<xs.length:=ω
 have A:=E _ (ax d);have J:∀j,j<xs.length->j≠b->(nth xs j).At+(nth xs j).a6<(nth xs b).At\/(nth xs b).At+(nth xs b).a6<(nth xs j).At:=λj c k=>by
  rcases Nat.lt_or_gt_of_ne k with l|o
  ·exact .inl (zb e l d)
  exact .inr (zb e o c)
 split
 ·rename_i K
  have L:(dele xs b).Sublist xs:=fL ..;refine⟨gF.2 ⟨⟨e.1.sublist L,ψ⟩,ψ,t⟩,A.1,ψ,λp=>?_,λp M N=>Da.2 ψ⟩;simp only;rw[Da (xs:=xs)];constructor
  ·rintro⟨r,O,B,C⟩
   grind[gq]
  rintro⟨⟨j,c,B,C⟩,P⟩
  exact⟨_,gq.2 ψ,B,C⟩
 rename_i K;have a:∀j,nth (xs.set b ⟨(nth xs b).At+n,(nth xs b).a6 - n⟩) j=if j=b then⟨(nth xs b).At+n,(nth xs b).a6 - n⟩ else nth xs j:=λj=>by grind[cY]
 refine⟨gF.2 ⟨⟨?_,λy Q=>?_⟩,λy Q=>?_,t⟩,A.1,ψ,λp=>?_,λp M N=>Da.2 ψ⟩
 ·rw[List.pairwise_iff_getElem]
  intro i j D c q;rw[<-bk (Z3 D),<-bk (Z3 c),a,a];simp only[O2]at D c;have S:=zb e q c
  grind
 ·grind
 ·grind
 simp only;rw[Da,Da,O2];constructor
 ·grind
 grind
def qa(k:ah):Int:=cu (λu=>!u) k.F.W.a5
def wN(k:ah)(p:Int)(f:Nat):ah:={k with F:=⟨⟨k.F.W.V,k.F.W.a5.set f true⟩,⟨k.F.O.M.set p.toNat ⟨2,(f:Nat)⟩⟩⟩}
def dP(k:ah)(p:Int):ah × Bool:=if refd k=true\/qa k<0 then(dO k,false) else(wN (dO k) p (qa k).toNat,true)
variable{k:ah}
theorem Ll(h:¬qa k<0):(qa k).toNat<k.F.W.a5.length/\nth k.F.W.a5 (qa k).toNat=false:=by grind[ri,qa]
variable{f:Nat}
theorem Fx(h:aG k=true)(a:f<k.F.W.a5.length)(b:nth k.F.W.a5 f=false)(q:Nat)(c:q<k.F.O.M.length)(d:(nth k.F.O.M q).y≠0):(nth k.F.O.M q).j≠(f:Nat):=by grind[aF,fR]
theorem Vc(h:aG k=true)(A:0<=p/\p<k.F.O.M.length)(B:(nth k.F.O.M p.toNat).y=0)(c:f<k.F.W.a5.length)(d:nth k.F.W.a5 f=false):aG (wN k p f)=true:=by
 have g:=Fx h c d;obtain⟨i,l,n,o,r⟩:=aF.1 h;obtain⟨t,u,C,w⟩:=aT.1 l;obtain⟨D,E,F⟩:=bt.1 n;have a:∀q,nth (k.F.O.M.set p.toNat ⟨2,(f:Nat)⟩) q=if p.toNat=q then⟨2,(f:Nat)⟩ else nth k.F.O.M q:=λq=>by grind[cY]
 refine aF.2 ⟨i,aT.2 ⟨t,u,by grind[wN],λj b=>?_⟩,bt.2 ⟨λj b=>?_,?_,?_⟩,λj b=>?_,r⟩
 ·replace b:j<k.F.W.V.length:=b
  show iU (nth k.F.W.V j) (nth (k.F.W.a5.set f true) j)=true;have G:=w j b;rw[cY]
  grind[iU,jz]
 ·simp only[wN,O2]at b |-
  rw[a];split
  all_goals grind[m7]
 ·grind[wN]
 ·grind[wN]
 simp only[wN,O2]at b;show nth (k.F.W.a5.set f true) j=_;rw[cY];by_cases e:f=j
 ·grind[fR,wN]
 rw[CI λz=>e z.1,o j b];refine decide_eq_decide.2 ?_;rw[fR,fR];simp only[wN,O2,a];constructor
 ·rintro⟨q,y,H,J⟩
  refine⟨q,y,?_⟩
  grind
 grind
structure Dg(k:ah)(p:Int)(r:ah × Bool):Prop where
 ker:aG r.1=true
 len:r.1.F.O.M.length=k.F.O.M.length
 calls:r.1.b=k.b+1
 ref:r.1.d=k.d
 cells:r.1.F.W.V=k.F.W.V
 no:r.2=false->r.1=dO k
 yes:r.2=true->∃f:Nat,f<k.F.W.a5.length/\nth k.F.W.a5 f=false/\(∀q:Nat,nth r.1.F.O.M q=if(q:Int)=p then⟨2,(f:Nat)⟩ else nth k.F.O.M q)/\∀q,q<k.F.O.M.length->(nth k.F.O.M q).y≠0->(nth k.F.O.M q).j≠(f:Nat)
theorem Dg.of(h:aG k=true)(c:k.b≠100000)(f:0<=p/\p<k.F.O.M.length)(g:(nth k.F.O.M p.toNat).y=0):Dg k p (dP k p):=by
 unfold dP;split
 ·exact⟨oC h c,rfl,rfl,rfl,rfl,λ_=>rfl,λe=>by cases e⟩
 rename_i d;rw[not_or]at d;obtain⟨a,b⟩:=Ll d.2;refine⟨Vc (oC h c) f g a b,by simp[wN,dO],rfl,rfl,rfl,ψ,λ_=>⟨_,a,b,λq=>?_,λq=>Fx h a b q⟩⟩
 grind[cY,wN,dO]
def bG(k:ah)(p:Int):Nat->ah × Nat
 | 0=>(k,0)
 | i+1=>if(bG k p i).2=i then((dP (bG k p i).1 (p+(i:Nat))).1,if(dP (bG k p i).1 (p+(i:Nat))).2=true then i+1 else i) else bG k p i
structure im(k:ah)(p:Int)(i:Nat)(r:ah × Nat):Prop where
 ker:aG r.1=true
 len:r.1.F.O.M.length=k.F.O.M.length
 calls:k.b<=r.1.b/\r.1.b<=k.b+i
 ref:r.1.d=k.d
 cells:r.1.F.W.V=k.F.W.V
 le:r.2<=i
 out:∀q:Nat,¬(p<=q/\(q:Int)<p+r.2)->nth r.1.F.O.M q=nth k.F.O.M q
 new:∀q:Nat,p<=q->(q:Int)<p+r.2->(nth r.1.F.O.M q).y=2/\∀u:Nat,u<k.F.O.M.length->(nth r.1.F.O.M u).y≠0->(nth r.1.F.O.M u).j=(nth r.1.F.O.M q).j->u=q
theorem im.of{k:ah}{p:Int}{n:Nat}(h:aG k=true)(l:k.b+n<=100000)(o:0<=p/\p+n<=k.F.O.M.length)(t:∀q:Nat,p<=q->(q:Int)<p+n->(nth k.F.O.M q).y=0):∀i,i<=n->im k p i (bG k p i)
 | 0,_=>⟨h,rfl,⟨Z9 _,by show k.b<=k.b+((0:Nat):Int);omega⟩,rfl,rfl,O5 _,λ_ _=>rfl,λq d b=>by grind[bG]⟩
 | i+1,B=>by
  have a:=im.of h l o t i ω;unfold bG;split
  case isFalse=>exact⟨a.ker,a.len,⟨a.calls.1,by have:=a.calls.2;omega⟩,a.ref,a.cells,by have:=a.le;omega,a.out,a.new⟩
  rename_i u;generalize bG k p i=r at a u |-;have y:=a.calls;have c:(nth r.1.F.O.M (p+(i:Nat)).toNat).y=0:=by grind[im.out]
  have s:=Dg.of (p:=p+(i:Nat)) a.ker ω ⟨ω,by rw[a.len];omega⟩ c;generalize dP r.1 (p+(i:Nat))=w at s |-;refine⟨s.ker,s.len.trans a.len,⟨by grind[Dg.calls],by grind[Dg.calls]⟩,s.ref.trans a.ref,s.cells.trans a.cells,ψ,λq g=>?_,λq d b=>?_⟩
  ·simp only at g |-
   cases e:w.2 with
   | false=>
    rw[s.no e];rw[e]at g;exact a.out q ψ
   | true=>
    obtain⟨f,-,-,j,-⟩:=s.yes e
    grind[im.out]
  simp only at b |-;cases e:w.2 with
  | false=>
   rw[s.no e];rw[e]at b;exact a.new q d ψ
  | true=>
   obtain⟨f,-,-,j,C⟩:=s.yes e;rw[e,CJ rfl]at b;have A:q<k.F.O.M.length:=ω
   rw[j];by_cases D:(q:Int)=p+(i:Nat)
   ·grind[im.len]
   grind[im.new,im.len]
theorem im.undo{r:ah × Nat}(s:im k p i r)(h:aG k=true)(a:0<=p/\p+i<=k.F.O.M.length)(b:∀q:Nat,p<=q->(q:Int)<p+i->(nth k.F.O.M q).y=0):aG (dE r.1 p r.2)=true/\tEq k.F.O (dE r.1 p r.2).F.O:=by
 have c:=s.le;have d:=om s.ker a.1 r.2 (by rw[s.len];omega);refine⟨jJ s.ker p r.2,((gM r.1 p r.2).1).trans s.len,λq=>?_⟩;rw[d];split
 ·rename_i e
  have f:=b q e.1 ω
  grind[aF,bt,m7]
 grind[im.out]
variable{n:Nat}{la:List aB}{sp:List a8}
theorem Pg.add{t c:aM}{B f:List aC}{a:List a8}{b:List aB}(o:Pg t B sp la)(C:c.M.length=t.M.length)(H:p+n<=t.M.length)(R:0<=p)(S:∀q:Nat,¬(p<=q/\(q:Int)<p+n)->nth c.M q=nth t.M q)(D:∀q:Nat,p<=q->(q:Int)<p+n->(nth c.M q).y=2/\∀u:Nat,u<t.M.length->(nth c.M u).y≠0->(nth c.M u).j=(nth c.M q).j->u=q)(J:∀q,RH f q↔RH B q/\¬(p<=q/\q<p+n))(r:∀q,q∈pgs a b↔q∈pgs sp la\/(p<=q/\q<p+n))(g:∀s∈a,0<=s.S/\(s∈sp\/(p<=s.S/\s.S<p+n)))(w:∀l∈b,l∈la\/∀q∈lpgs l l.a2.toNat,p<=q/\q<p+n):Pg c f a b:=by
 have E:∀q:Nat,q<t.M.length->((nth c.M q).y≠0↔(q:Int)∈pgs a b):=λq h=>by grind[Pg.own]
 refine⟨λl i q h u k T U=>?_,λq h=>?_,ψ,λq h=>?_,λs F u k K V=>?_⟩
 ·rw[C]at k
  have A:=gL (sp:=a) i h;have L:q<t.M.length:=by
   rcases(r _).1 A with d|d
   ·have:=o.bnd _ d;omega
   omega
  by_cases e:p<=q/\(q:Int)<p+n
  ·grind
  have M:=(w l i).resolve_right ψ
  grind[Pg.one]
 ·rw[C]
  rcases(r _).1 h with d|d
  ·exact o.bnd _ d
  omega
 ·grind[Pg.fre]
 obtain⟨N,W⟩:=g s F;obtain⟨O,X⟩:=g u k;have j:∀y∈a,0<=y.S->y.S.toNat<t.M.length/\((y.S.toNat:Nat):Int)=y.S/\(nth c.M y.S.toNat).y≠0:=λy P Q=>by
  have d:=eP (la:=b) P;have Y:y.S.toNat<t.M.length:=by
   rcases(r _).1 d with G|G
   ·have:=o.bnd _ G;omega
   omega
  grind
 obtain⟨Z,sc,sd⟩:=j s F N;obtain⟨ub,uc,ud⟩:=j u k O;by_cases es:p<=s.S/\s.S<p+n
 ·grind
 by_cases eu:p<=u.S/\u.S<p+n
 all_goals grind[Pg.mesh]
theorem HW{a:List a8}{b:List aB}(c:a.Perm sp)(d:b.Perm la):(pgs a b).Perm (pgs sp la):=by grind[pgs]
def JW(p:Int)(s:a8):Bool:=decide (p<=s.S)
def UB(p:Int)(l:aB):Bool:=decide (p<=l.S)
def addS(h:ac)(k:ah)(a:List aC)(p c:Int):ac:={h with G:=k,e:=a,H:=kC (JW p) h.H ⟨p,c,0⟩}
variable{E:List Int}{h:ac}
def kE(a:bf h E){n:Int}(j:1<=n)(k:(aA h.e n).2.2=true):0<=(aA h.e n).2.1/\(aA h.e n).2.1+n<=(tbl h).M.length/\(∀q:Nat,(aA h.e n).2.1<=q->(q:Int)<(aA h.e n).2.1+n->(nth (tbl h).M q).y=0)/\∀q:Int,(aA h.e n).2.1<=q->q<(aA h.e n).2.1+n->q∉pgs h.H h.J:=by
 obtain⟨r,l,f,t,o⟩:=pQ a.rng j k;have g:∀q:Nat,(aA h.e n).2.1<=q->(q:Int)<(aA h.e n).2.1+n->(nth (tbl h).M q).y=0:=λq b c=>by
  have d:q<(tbl h).M.length:=by
   have:(aA h.e n).2.1+n<=((tbl h).M.length:Nat):=f;omega
  by_cases e:(nth (tbl h).M q).y=0
  ·exact e
  exact absurd (o q b c) ((a.pg.fre q d).1 e)
 refine⟨l,f,g,λq b c i=>?_⟩;have u:=a.pg.bnd q i;obtain⟨m,rfl⟩:=C5 (show 0<=q by omega);have p:=(a.pg.own m ω).2 i;exact p (g m b c)
theorem bf.addS{h:ac}{E:List Int}{c:Int}(a:bf h E)(V:0<=c/\c<=3)(D:(aA h.e 1).2.2=true){k:ah}(s:Dg h.G (aA h.e 1).2.1 (k,true)):bf (addS h k (aA h.e 1).1 (aA h.e 1).2.1 c) E:=by
 obtain⟨Q,R,W,F,X⟩:=pQ a.rng (Z9 _) D;obtain⟨-,S,Y,Z⟩:=kE a (Z9 _) D;generalize (aA h.e 1).2.1=p at R W F X S Y Z s |-;generalize (aA h.e 1).1=fr at Q F |-;obtain⟨f,f1,f2,T,f4⟩:=s.yes rfl;have G:=(bt.1 (aF.1 a.ker).2.2.1).2.2;change (tbl h).M.length<=32 at G;have hL:=a.L;have H:=mf (JW p) h.H ⟨p,c,0⟩;have J:=HW H (List.Perm.refl h.J);have A:(pgs (kC (JW p) h.H ⟨p,c,0⟩) h.J).Perm (p::pgs h.H h.J):=J;have K:p∉pgs h.H h.J:=ψ
 have M:∀z∈h.H,z.S≠p:=λz i e=>K (by grind[eP])
 have r:∀b d,jZ (kC (JW p) h.H ⟨p,c,0⟩) b d↔jZ h.H b d:=λb d=>by
  constructor
  ·rintro⟨s,B,w,N⟩
   rcases dU.1 B with rfl|B
   ·grind[H9]
   exact⟨s,B,w,N⟩
  rintro⟨s,B,w⟩
  exact⟨s,dU.2 (.inr B),w⟩
 exact {a with
   ker:=s.ker
   rng:=by show bJ ((k.F.O.M.length:Nat):Int) fr=true;rw[s.len];exact Q
   lay:=by
     obtain⟨l1,l2,l3⟩:=fC a.lay;unfold bA;simp only[I0,C0];refine⟨⟨S7.2 λz i=>?_,l2⟩,A.nodup_iff.2 ψ⟩;rcases dU.1 i with rfl|i
     · have hl0:0<=lim c:=by
         have:=(gQ V).1;obtain rfl|rfl|rfl|rfl:c=0\/c=1\/c=2\/c=3:=ω
         all_goals decide
       exact O0 ψ
     grind
   srs:=ne (f:=λz:a8=>z.S) (y:=⟨p,c,0⟩) a.srs M
   pg:=by
     refine a.pg.add (p:=p) (n:=1) s.len (by exact S) R (λq hq=>?_) (λq q1 q2=>?_) (λq=>F q) (λq=>?_) (λz i=>?_) (λl hl=>.inl hl)
     · exact(T q).trans (CI ω)
     · have hq:(q:Int)=p:=ω
       have U:nth k.F.O.M q = ⟨2,(f:Nat)⟩:=ψ
       refine⟨I1 bv.y U,λu O t g=>?_⟩;have fu:nth k.F.O.M u=if(u:Int)=p then⟨2,(f:Nat)⟩ else nth h.G.F.O.M u:=T u
       change (nth k.F.O.M u).y≠0 at t;change (nth k.F.O.M u).j=(nth k.F.O.M q).j at g;rw[fu]at t g;rw[U]at g;by_cases eu:(u:Int)=p
       · omega
       rw[CI eu]at t g;exact absurd g (f4 u O t)
     · show q∈pgs (kC (JW p) h.H ⟨p,c,0⟩) h.J↔_
       grind
     rcases dU.1 i with rfl|i
     · grind
     exact⟨(aJ (hL.sok z i)).1,.inl i⟩
   oow:=λo D=>by
     rcases a.oow o D with⟨z,i,w,N⟩|w
     · exact .inl ⟨z,dU.2 (.inr i),w,N⟩
     exact .inr w
   hca:=λd hd j hj b C=>(r b j).2 (a.hca d hd j hj b C)
   hqu:=λy P=>(r _ _).2 (a.hqu y P)
   hfl:=λb C=>(r _ _).2 (a.hfl b C)
   hin:=λb C=>(r _ _).2 (a.hin b C)
   mem:=λb=>(a.mem b).trans (by
     show oz h.H h.J b↔oz (kC (JW p) h.H ⟨p,c,0⟩) h.J b
     grind[oz])
   job:=λhm=>by
     obtain⟨j1,⟨y,P,e1⟩,⟨u,O,e2⟩⟩:=a.job hm;exact⟨j1,⟨y,dU.2 (.inr P),e1⟩,⟨u,dU.2 (.inr O),e2⟩⟩}
def addL(h:ac)(k:ah)(a:List aC)(p n size t:Int):ac:={h with G:=k,e:=a,J:=kC (UB p) h.J ⟨p,n,size⟩,K:=kC (N8 (16*p)) h.K ⟨h.o,16*p,size,t⟩,o:=h.o+1}
theorem bf.addL{h:ac}{E:List Int}{size t:Int}{n:Nat}(a:bf h E)(g:9<=size/\size<=1000)(J:(n:Int)=(size+15) / 16)(i:(aA h.e n).2.2=true){k:ah}(s:im h.G (aA h.e n).2.1 n (k,n))(hn:h.o<1000000)(ht:0<=t/\t<=h.Q.length - 1) :
  bf (addL h k (aA h.e n).1 (aA h.e n).2.1 n size t) E:=by
 have B:(1:Int)<=n:=ω
 obtain⟨V,K,r3,M,r5⟩:=pQ a.rng B i;obtain⟨-,W,u3,H⟩:=kE a B i;generalize (aA h.e n).2.1=p at K r3 M r5 W u3 H s |-;generalize (aA h.e n).1=fr at V M |-;have N:=(bt.1 (aF.1 a.ker).2.2.1).2.2;change (tbl h).M.length<=32 at N;have O:=a.L;have P:=mf (UB p) h.J ⟨p,n,size⟩;have C:=mf (N8 (16*p)) h.K ⟨h.o,16*p,size,t⟩;have Q:lpgs ⟨p,n,size⟩ ((n:Nat):Int).toNat=lpgs ⟨p,n,size⟩ n:=by rw[Z4]
 have D:(pgs h.H (kC (UB p) h.J ⟨p,n,size⟩)).Perm (lpgs ⟨p,n,size⟩ n++pgs h.H h.J):=by
  refine(HW (List.Perm.refl h.H) P).trans ?_;unfold pgs;rw[CD];simp only[Q];rw[<-CB,<-CB];exact List.perm_append_comm.append_right _
 have u:∀q,q∈lpgs ⟨p,n,size⟩ n↔p<=q/\q<p+n:=λq=>by
  rw[dR];constructor
  ·rintro⟨j,hj,rfl⟩;exact⟨by show p<=p+(j:Int);omega,by show p+(j:Int)<_;omega⟩
  rintro⟨X,Y⟩;exact⟨(q - p).toNat,ω,by show q=p+_;omega⟩
 have R:(lpgs ⟨p,n,size⟩ n).Nodup:=by
  unfold lpgs List.Nodup;rw[List.pairwise_map];exact List.nodup_range.imp λr e=>r (by simp only at e;omega)
 have r:∀z∈h.J,z.S≠p:=λz g e=>H p (Z9 _) ω (by rw[<-e];exact gL g (dR.2 ⟨0,by have:=aV (O.lok z g);omega,ω⟩))
 have S:¬oz h.H h.J (16*p):=by
  rintro(⟨z,g,d,-⟩|⟨l,c,e⟩)
  ·exact H p (Z9 _) ω (by rw[show p=z.S by have a1:=d.1;have a2:=d.2.1;omega];exact eP g)
  exact r l c ω
 have F:(16*p)∉E++holders h:=λT=>S ((a.mem _).1 T)
 have U:∀o∈h.K,o.U≠16*p:=λo i e=>F (I5.2 (.inr (by unfold holders;simp only[I5];exact .inl (.inl (.inl (O8.2 ⟨o,i,e⟩))))))
 have Z:(E++holders (Ab.addL h k fr p n size t)).Perm ((16*p)::(E++holders h)):=by
  have h0:=C.map (·.U);refine List.perm_iff_count.2 λb=>?_
  have d:=h0.count_eq b;simp only[SB,List.count_cons]at d;simp only[holders,cT,Ab.addL,ZB,List.count_cons];omega
 exact {a with
   ker:=s.ker
   rng:=by show bJ ((k.F.O.M.length:Nat):Int) fr=true;rw[s.len];exact V
   lay:=by
     obtain⟨l1,l2,l3⟩:=fC a.lay;unfold bA;simp only[I0,C0];refine⟨⟨l1,S7.2 λz w=>?_⟩,D.nodup_iff.2 (List.nodup_append.2 ⟨R,l3,λq G b hb e=>?_⟩)⟩
     · rcases dU.1 w with rfl|w
       · exact O0 ⟨g.1,g.2,J,K,by show p<=32 - (n:Int);omega⟩
       exact O.lok z w
     subst e;have:=(u q).1 G;exact H q this.1 this.2 hb
   srl:=ne (f:=λz:aB=>z.S) (y:=⟨p,n,size⟩) a.srl r
   pg:=by
     refine a.pg.add (p:=p) (n:=n) s.len (by exact W) K (λq G=>s.out q G) (λq X Y=>s.new q X Y) (λq=>M q) (λq=>?_) (λz g=>⟨(aJ (O.sok z g)).1,.inl g⟩) (λl c=>?_)
     · show q∈pgs h.H (kC (UB p) h.J ⟨p,n,size⟩)↔_
       rw[D.mem_iff,I5,u];exact Or.comm
     rcases dU.1 c with rfl|c
     · exact .inr λq G=>(u q).1 (by simpa using G)
     exact .inl c
   nums:=Fr a.nums hn
   osr:=ne (f:=λo:bc=>o.U) (y:=⟨h.o,16*p,size,t⟩) a.osr U
   onu:=λo i=>by
     rcases dU.1 i with rfl|i
     · have:=a.nums
       unfold ch at this;rw[C0]at this;exact⟨by show 1<=h.o;omega,by show h.o<=h.o+1 - 1;omega,ht⟩
     have:=a.onu o i;exact⟨this.1,by show o.Id<=h.o+1 - 1;omega,this.2.2⟩
   oid:=by
     show((kC (N8 (16*p)) h.K ⟨h.o,16*p,size,t⟩).map (·.Id)).Nodup;rw[(C.map _).nodup_iff,SB];refine List.nodup_cons.2 ⟨λT=>?_,a.oid⟩;obtain⟨o,i,e⟩:=O8.1 T;have:=(a.onu o i).2.1;simp only at e;omega
   oow:=λo A=>by
     rcases dU.1 A with rfl|A
     · exact .inr ⟨_,dU.2 (.inl rfl),rfl,rfl⟩
     rcases a.oow o A with d|⟨l,c,d⟩
     · exact .inl d
     exact .inr ⟨l,dU.2 (.inr c),d⟩
   nd:=Z.nodup_iff.2 (List.nodup_cons.2 ⟨F,a.nd⟩)
   mem:=λb=>by
     rw[Z.mem_iff,List.mem_cons,a.mem b];show _↔oz h.H (kC (UB p) h.J ⟨p,n,size⟩) b;unfold oz;constructor
     · rintro(rfl|d|⟨l,c,e⟩)
       · exact .inr ⟨_,dU.2 (.inl rfl),rfl⟩
       · exact .inl d
       exact .inr ⟨l,dU.2 (.inr c),e⟩
     rintro(d|⟨l,c,e⟩)
     · exact .inr (.inl d)
     rcases dU.1 c with rfl|c
     · exact .inl e
     exact .inr (.inr ⟨l,c,e⟩)}
structure JK(h h':ac):Prop where
 job:h'.a9=h.a9
 msh:h'.a3=h.a3
 sp:∀s∈h.H,gv h s.S=true->∃s'∈h'.H,s'.S=s.S/\∀u,meshable s u=true->meshable s' u=true
 ent:∀q:Nat,(nth (tbl h').M q).y≠0->((nth (tbl h).M q).y≠0/\(nth (tbl h').M q).j=(nth (tbl h).M q).j)\/∀u:Nat,(nth (tbl h').M u).y≠0->(nth (tbl h').M u).j=(nth (tbl h').M q).j->u=q
theorem JK.refl(h:ac):JK h h:=⟨rfl,rfl,ψ,ω⟩
variable{h':ac}
theorem JK.pg(k:JK h h')(p:Int):gv h' p=gv h p:=by grind[JK.job,JK.msh,gv]
theorem JK.trans{h1 h2:ac}(a:JK h h1)(b:JK h1 h2):JK h h2:=by
 refine⟨b.job.trans a.job,b.msh.trans a.msh,λs e f=>?_,λq c=>?_⟩
 ·grind[JK.sp,JK.pg]
 rcases b.ent q c with⟨d,g⟩|d
 all_goals grind[JK.ent]
theorem pX.keep(c:0<=p)(d:(nth (tbl h').M p.toNat).y≠0)(e:pX (tbl h) p)(k:JK h h'):pX (tbl h') p:=λq f g=>by
 rcases k.ent p.toNat d with⟨n,i⟩|a
 ·rcases k.ent q f with⟨j,l⟩|b
  ·exact e q j (by rw[<-l,g,i])
  grind
 grind
theorem bf.mapped(a:bf h E){s:a8}(b:s∈h.H):0<=s.S/\s.S<(tbl h).M.length/\(nth (tbl h).M s.S.toNat).y≠0:=by
 have c:=(aJ (a.L.sok s b)).1;have d:=a.pg.bnd _ (eP (la:=h.J) b);refine⟨c,d,(a.pg.own s.S.toNat ω).2 ?_⟩
 grind[eP]
theorem JI.keep(g:JI h)(j:bf h' E)(k:JK h h'):JI h':=by
 have d:h.a3=true->∃a∈h'.H,∃b∈h'.H,a.S=h.a9.g.b1/\b.S=h.a9.g.b3/\meshable a b=true:=λc=>by grind[JI.sp,JK.sp,k4,gv]
 refine⟨λc=>?_,λc=>?_,λc=>?_,λc=>?_⟩
 ·rw[k.msh]at c;rw[k.job];exact g.ph c
 ·grind[JK.msh,JK.job]
 ·rw[k.msh]at c
  obtain⟨a,l,b,n,o,p,i⟩:=d c;obtain⟨e,q,f⟩:=j.mapped l;rw[k.job];rw[o]at e f;exact(g.sk c).keep e f k
 rw[k.msh]at c;obtain⟨a,l,b,n,o,p,i⟩:=d c;obtain⟨e,q,f⟩:=j.mapped n;rw[k.job];rw[p]at e f;exact(g.sm c).keep e f k
theorem JK.less(h1:h'.a9=h.a9)(h2:h'.a3=h.a3)(a:h'.H=h.H)(b:∀q:Nat,(nth (tbl h').M q).y≠0->nth (tbl h').M q=nth (tbl h).M q):JK h h':=
 ⟨h1,h2,ψ,ψ⟩
theorem JK.eq(h1:h'.a9=h.a9)(h2:h'.a3=h.a3)(a:h'.H=h.H)(b:tbl h'=tbl h):JK h h':=.less h1 h2 a ψ
def JK.clrS{h:ac}{E:List Int}{a:Int}{i:Nat}(f:bf h E)(c:i<h.H.length)(d:gk (nth h.H i) a):JK h (clrS h i a):=by
 refine⟨rfl,rfl,λs g _=>?_,λq k=>.inl ⟨k,rfl⟩⟩;obtain⟨j,l,rfl⟩:=b9 g;by_cases e:j=i
 ·subst e
  have b:=f.L.sok _ (ax c);exact⟨_,j9 _ c,rfl,λu n=>E4 b (xn b ⟨d.1,d.2.1⟩) n⟩
 exact⟨_,lv _ l e,rfl,λ_ z=>z⟩
theorem JK.giveP{h:ac}{E:List Int}{i:Nat}(a:bf h E)(b:i<h.H.length)(c:gv h (nth h.H i).S=false):JK h (giveP h i):=by
 obtain⟨d,e,-⟩:=a.mapped (ax b);refine⟨rfl,rfl,λs f g=>?_,λq k=>.inl ?_⟩
 ·obtain⟨j,l,rfl⟩:=b9 f
  exact⟨_,gq.2 ψ,rfl,λ_ z=>z⟩
 have n:=AA a.ker (p:=(nth h.H i).S) ⟨d,e⟩ q;change (nth (cW h.G (nth h.H i).S).F.O.M q).y≠0 at k;show(nth h.G.F.O.M q).y≠0/\(nth (cW h.G (nth h.H i).S).F.O.M q).j=(nth h.G.F.O.M q).j
 grind
def JK.freeS{h:ac}{E:List Int}{a:Int}{i:Nat}(c:bf h (a::E))(b:i<h.H.length)(d:gk (nth h.H i) a):JK h (freeS h i a):=by
 have g:=c.give b d;have f:=JK.clrS c b d;unfold Ab.freeS;split
 ·rename_i e
  have j:nth (Ab.clrS h i a).H i=lW (nth h.H i) (eg (nth h.H i) a):=by unfold Ab.clrS;simp only[cY,true_and];rw[CJ b]
  exact f.trans (JK.giveP (h:=Ab.clrS h i a) g (by unfold Ab.clrS;simp only[O2];exact b) (by rw[j];exact e.2))
 exact f
theorem JK.freeA{h:ac}{E:List Int}{a:Int}(b:bf h (a::E)):JK h (freeA h a):=by
 obtain⟨c,d,-⟩:=b.at (b.hin a ψ);exact JK.freeS b c d
def JK.recyc{h:ac}{E:List Int}{a:Int}{t:Nat}(b:bf h (a::E)):JK h (recyc t h a):=by
 unfold Ab.recyc;split
 ·exact JK.eq rfl rfl rfl rfl
 exact JK.freeA b
theorem JK.recycs{t:Nat}{E:List Int} : ∀{az:List Int}{h:ac},bf h (az++E)->t<h.Q.length->JK h (recycs t h az)
 | [],h,_,_=>JK.refl h
 | a::az,h,b,c=>(JK.recyc (t:=t) b).trans (JK.recycs (az:=az) (h:=Ab.recyc t h a) (b.recyc c) (by grind[tz]))
def JK.freeAs{E:List Int} : ∀{az:List Int}{h:ac},bf h (az++E)->JK h (freeAs h az)
 | [],h,_=>JK.refl h
 | a::az,h,b=>(JK.freeA b).trans (JK.freeAs (az:=az) (h:=Ab.freeA h a) b.freeA)
theorem JK.flushN{t:Nat}{h:ac}(c:bf h [])(d:t<h.Q.length):∀{k:Nat},k<=4->JK h (flushN t h k).1
 | 0,_=>JK.refl h
 | k+1,e=>by
  obtain⟨h1,f,-⟩:=kh c d (k:=k) ω;have a:t<(Ab.flushN t h k).1.Q.length:=ω
  have b:k<(nth (Ab.flushN t h k).1.Q t).X.length:=by grind[dZ,bf.cach,ax]
  exact JK.trans (h1:=Ab.spilt (Ab.flushN t h k).1 t k) ((JK.flushN c d (k:=k) ω).trans (JK.eq rfl rfl rfl rfl)) (JK.freeAs (h1.spilt a b))
def HA(a:bf h E){k:Nat}(b:k<h.J.length):0<=(nth h.J k).S/\(nth h.J k).S+((nth h.J k).a2.toNat:Nat)<=(tbl h).M.length:=by
 have c:=aV (a.L.lok _ (ax b));have d:=a.pg.bnd _ (gL (sp:=h.H) (ax b) (dR.2 ⟨(nth h.J k).a2.toNat - 1,ω,rfl⟩));omega
theorem JK.freeL{h:ac}{E:List Int}{i k:Nat}(a:bf h E)(b:k<h.J.length):JK h (freeL h i k):=by
 obtain⟨c,d⟩:=HA a b;refine JK.less rfl rfl rfl λq e=>?_
 have f:=om a.ker c (nth h.J k).a2.toNat d q;change (nth (dE h.G (nth h.J k).S (nth h.J k).a2.toNat).F.O.M q).y≠0 at e;show nth (dE h.G (nth h.J k).S (nth h.J k).a2.toNat).F.O.M q=nth h.G.F.O.M q
 grind
theorem JK.freeOb{h:ac}{t i:Nat}(b:bf h [])(c:i<h.K.length)(d:t<h.Q.length):JK h (freeOb h t i).1:=by
 unfold Ab.freeOb;split
 ·rename_i a
  obtain⟨l,e,h1,-⟩:=(eE b (ax c)).1 a
  grind[JK.freeL,vz]
 rename_i a;split
 ·exact JK.refl h
 have h1:=b.inQuar c a;exact JK.trans (h1:=Ab.inQuar h i) (JK.eq rfl rfl rfl rfl) (JK.recycs (E:=[]) ψ d)
theorem JK.take{k sd:Int}(a:gv h (nth h.H i).S=false):JK h {h with c1:=sd,H:=h.H.set i (sA (nth h.H i) k)}:=by
 refine⟨rfl,rfl,λs d b=>?_,λq c=>.inl ⟨c,rfl⟩⟩
 grind[b9,lv]
theorem Gi{t:aM}{q:Nat}(h:(nth t.M q).y≠0):q<t.M.length:=by
 by_cases e:q<t.M.length
 ·exact e
 exfalso;apply h;unfold nth;rw[O4,I4 ω]
 rfl
theorem JK.addS{h:ac}{k:ah}{b:List aC}{p c:Int}(s:Dg h.G p (k,true)):JK h (addS h k b p c):=by
 obtain⟨f,g,i,j,l⟩:=s.yes rfl;have a:k.F.O.M.length=h.G.F.O.M.length:=s.len;refine⟨rfl,rfl,λz d _=>⟨z,dU.2 (.inr d),rfl,λ_ y=>y⟩,λq e=>?_⟩;change (nth k.F.O.M q).y≠0 at e;show((nth h.G.F.O.M q).y≠0/\(nth k.F.O.M q).j=(nth h.G.F.O.M q).j)\/∀u:Nat,(nth k.F.O.M u).y≠0->(nth k.F.O.M u).j=(nth k.F.O.M q).j->u=q
 grind[Gi]
theorem JK.addL{h:ac}{k:ah}{d:List aC}{p size t:Int}{n:Nat}(s:im h.G p n (k,n)):JK h (addL h k d p n size t):=by
 have a:k.F.O.M.length=h.G.F.O.M.length:=s.len;refine⟨rfl,rfl,λz f _=>⟨z,f,rfl,λ_ y=>y⟩,λq g=>?_⟩;change (nth k.F.O.M q).y≠0 at g;show((nth h.G.F.O.M q).y≠0/\(nth k.F.O.M q).j=(nth h.G.F.O.M q).j)\/∀u:Nat,(nth k.F.O.M u).y≠0->(nth k.F.O.M u).j=(nth k.F.O.M q).j->u=q
 by_cases e:p<=q/\(q:Int)<p+n
 ·exact .inr λu c b=>(s.new q e.1 e.2).2 u (by rw[<-a];exact Gi c) c b
 have i:=s.out q e
 grind
theorem wP(h:ac):∀{n:Nat},n<=h.H.length->∀s∈jH h n,(aS h s.S).length=1
 | 0,_,s,a=>by cases a
 | n+1,b,s,a=>by
  unfold jH at a;split at a
  ·rename_i e
   rcases I5.1 a with a|a
   ·exact wP h ω s a
   grind[tf]
  exact wP h ω s a
theorem bf.sole(b:bf h E){s:a8}(c:s∈h.H)(h1:(aS h s.S).length=1):pX (tbl h) s.S:=λq a d=>by
 obtain⟨g,i,e⟩:=b.mapped c;have f:s.S=((s.S.toNat:Nat):Int):=ω
 rw[f,gd (by show s.S.toNat<(tbl h).M.length;omega) e]at h1;obtain⟨z,j⟩:=List.length_eq_one_iff.1 h1;have k:(s.S.toNat:Int)∈pagesOn (tbl h) (nth (tbl h).M s.S.toNat).j:=fw.2 ω;have l:(q:Int)∈pagesOn (tbl h) (nth (tbl h).M s.S.toNat).j:=fw.2 ⟨Gi a,a,d⟩
 grind
def LN(hi:bf h [])(l:h.a3=false):bf (started h).1 []/\JI (started h).1:=by
 have F:=hi.nums;unfold ch at F;rw[C0]at F;have L:=(ly (bC h).length (show 0<=h.c1/\h.c1<=1073741823 by omega) ((bC h).length - 1)).2;have n:=pc (bC h) (show 0<=h.c1/\h.c1<=1073741823 by omega);have c:ch {h with c1:=(shuf (bC h).length h.c1).2} = true:=by
  unfold ch;rw[C0];unfold shuf;simp only;omega
 cases o:kF (bC h) h.c1 with
 | nil=>
  have f:Ab.started h=({h with c1:=(shuf (bC h).length h.c1).2},false):=by unfold Ab.started;rw[o]
  rw[f];exact⟨{hi with nums:=c},⟨λe=>by simp[l]at e,λe=>by simp[l]at e,λe=>by simp[l]at e,λe=>by simp[l]at e⟩⟩
 | cons q Q=>
  obtain⟨R,S,g⟩:=n q (by rw[o];exact C3 ..);have f:Ab.started h=({h with c1:=(shuf (bC h).length h.c1).2,a3:=true,a9:=yH (eD (nth (bC h) q.A.toNat) (nth (bC h) q.B.toNat))},true):=by unfold Ab.started;rw[o]
  rw[f];have d:∀s∈bC h,s∈h.H/\pX (tbl h) s.S:=λs M=>by
   have G:=List.mem_of_mem_take M;have H:=rM h (O5 _) s G;exact⟨H,hi.sole H (wP h (O5 _) s G)⟩
  have j:=d _ (ax (xs:=bC h) (i:=q.A.toNat) ω);have k:=d _ (ax (xs:=bC h) (i:=q.B.toNat) ω);generalize nth (bC h) q.A.toNat=a at g j |-;generalize nth (bC h) q.B.toNat=b at g k |-;obtain⟨N,T,U⟩:=rT g;have p:(eD a b).b1=a.S/\(eD a b).b3=b.S\/(eD a b).b1=b.S/\(eD a b).b3=a.S:=by
   unfold eD;split
   ·exact .inr ⟨rfl,rfl⟩
   exact .inl ⟨rfl,rfl⟩
  have r:kf (yH (eD a b))=true:=gr.2 ⟨N,by show(0:Int)<=0;omega,by show(0:Int)<=5;omega,by show(0:Int)<=0;omega,by show(0:Int)<=(((eD a b).V.length:Nat):Int);omega⟩;have t:∃x∈h.H,∃y∈h.H,x.S=(eD a b).b1/\y.S=(eD a b).b3/\meshable x y=true/\pX (tbl h) x.S/\pX (tbl h) y.S:=by
   rcases p with⟨u,w⟩|⟨u,w⟩
   ·exact⟨a,j.1,b,k.1,u.symm,w.symm,g,j.2,k.2⟩
   exact⟨b,k.1,a,j.1,u.symm,w.symm,by rw[k4];exact g,k.2,j.2⟩
  obtain⟨x,J,y,K,C,D,E,O,P⟩:=t;exact⟨{hi with nums:=c,job:=λ_=>⟨r,⟨x,J,C⟩,⟨y,K,D⟩⟩,noj:=λe=>by cases e},⟨λ_=>⟨by show(0:Int)<=0;omega,by show(0:Int)<=3;omega⟩,λ_=>⟨x,J,y,K,C,D,E⟩,λ_=>by show pX (tbl h) (eD a b).b1;rw[<-C];exact O,λ_=>by show pX (tbl h) (eD a b).b3;rw[<-D];exact P⟩⟩
def gg(m:aL)(f:Nat):aL:=⟨m.T.set f ((nth m.T f).drop 1),m.w.set (nth (nth m.T f) 0).To.toNat (nth m.w (nth (nth m.T f) 0).To.toNat++[(nth (nth m.T f) 0).U])⟩
def jl(m:aL)(t:Nat):aL:=⟨m.T,m.w.set t []⟩
def fT(m:aL)(f:Nat)(p:cX):aL:=⟨m.T.set f (nth m.T f++[p]),m.w⟩
theorem dQ{m:aL} : bE m=true↔(1<=m.T.length/\m.T.length<=4/\m.w.length=m.T.length)/\(∀i,i<m.T.length->(∀p∈nth m.T i,0<=p.To/\p.To<=(m.T.length:Int) - 1/\0<=p.U)/\∀a∈nth m.w i,0<=a)/\bM m m.T.length<=30:=by grind[cI,bE,i7,oY,VT]
theorem qC(m:aL)(f t:Nat)(x:List cX)(y:List Int)(a:f<m.T.length)(b:t<m.w.length):∀n:Nat,bM ⟨m.T.set f x,m.w.set t y⟩ n=bM m n+(if f<n then(x.length:Int) - ((nth m.T f).length:Nat) else 0)+(if t<n then(y.length:Int) - ((nth m.w t).length:Nat) else 0)
 | 0=>by simp[bM]
 | n+1=>by
  have c:=qC m f t x y a b n
  grind[cY,bM]
variable{α:Type}
theorem Np[Inhabited α]{xs:List α}(h:i<xs.length):xs.set i (nth xs i)=xs:=by
 rw[<-C4.1 (ar h) |>.2]
 simp_all
theorem JN{m:aL}(h:bE m=true)(a:f<m.T.length)(b:0<(nth m.T f).length):bE (gg m f)=true:=by
 obtain⟨⟨e,g,j⟩,c,k⟩:=dQ.1 h;obtain⟨d,l⟩:=c f a;have n:=d _ (ax b);have o:(nth (nth m.T f) 0).To.toNat<m.w.length:=ω
 refine dQ.2 ⟨⟨?_,?_,?_⟩,λi p=>?_,?_⟩
 ·grind[gg]
 ·grind[gg]
 ·grind[gg]
 ·grind[cY,gg]
 grind[qC,gg]
variable{t:Nat}
theorem Vq{m:aL}(h:bE m=true)(a:t<m.w.length):bE (jl m t)=true:=by
 obtain⟨⟨b,c,e⟩,f,g⟩:=dQ.1 h;refine dQ.2 ⟨⟨b,c,?_⟩,λi j=>?_,?_⟩
 ·grind[jl]
 ·grind[cY,jl]
 have d:=qC m t t (nth m.T t) [] ω a m.T.length;rw[Np ω]at d;show bM ⟨m.T,m.w.set t []⟩ m.T.length<=30
 grind
theorem oy{m:aL}(h:bE m=true)(b:Int):(aR m).count b=(m.T.flatMap λl=>l.map (·.U)).count b+(m.w.flatMap λx=>x).count b:=by grind[mn,aR]
theorem bf.mailed{c:List Int}{m:aL}(d:bf h E)(e:bE m=true)(f:m.T.length=h.q.T.length)(i:∀b,c.count b+(aR m).count b=E.count b+(aR h.q).count b)(j:∀a,a∈c\/a∈aR m->jZ h.H a (-1)):bf {h with q:=m} c:=by
 have g:(E++holders h).Perm (c++holders {h with q:=m}):=by grind[holders,cT]
 exact {d with
   mail:=e
   nc:=d.nc.trans f.symm
   hfl:=(ψ)
   hin:=(ψ)
   nd:=g.nodup_iff.1 d.nd
   mem:=λb=>by grind[bf.mem]}
theorem LC{c:List Int}{m:aL}(e:bf h E)(d:∀b,c.count b+(aR m).count b=E.count b+(aR h.q).count b):∀a,a∈c\/a∈aR m->jZ h.H a (-1):=λa f=>by
 have g:=d a
 grind[bf.hin,bf.hfl]
theorem bf.deliv(c:bf h E)(d:f<h.q.T.length)(a:0<(nth h.q.T f).length):bf {h with q:=gg h.q f} E:=by
 have e:=JN c.mail d a;obtain⟨⟨j,k,n⟩,g,o⟩:=dQ.1 c.mail;have i:=(g f d).1 _ (ax a);have q:∀b,E.count b+(aR (gg h.q f)).count b=E.count b+(aR h.q).count b:=λb=>by
  rw[oy e,oy c.mail];have r:=jB (λl:List cX=>l.map (·.U)) b h.q.T f ((nth h.q.T f).drop 1) d;have t:=jB (λx:List Int=>x) b h.q.w (nth (nth h.q.T f) 0).To.toNat (nth h.q.w (nth (nth h.q.T f) 0).To.toNat++[(nth (nth h.q.T f) 0).U]) ω;have u:(nth h.q.T f).map (·.U)=(nth (nth h.q.T f) 0).U::((nth h.q.T f).drop 1).map (·.U):=by
   generalize nth h.q.T f=l at a
   match l,a with
   | p::l,_=>rfl
  grind[gg]
 grind[bf.mailed,LC,gg]
theorem bf.coll(a:bf h E)(e:t<h.q.w.length):bf {h with q:=jl h.q t} (nth h.q.w t++E):=by
 have c:=Vq a.mail e;have d:∀b,(nth h.q.w t++E).count b+(aR (jl h.q t)).count b=E.count b+(aR h.q).count b:=λb=>by grind[oy,bf.mail,jB,jl]
 exact a.mailed c rfl d (LC a d)
theorem bf.send{p:cX}(c:bf h (p.U::E))(d:f<h.q.T.length)(a:bE (fT h.q f p)=true):bf {h with q:=fT h.q f p} E:=by
 have e:∀b,E.count b+(aR (fT h.q f p)).count b=(p.U::E).count b+(aR h.q).count b:=λb=>by
  rw[oy a,oy c.mail];have g:=jB (λl:List cX=>l.map (·.U)) b h.q.T f (nth h.q.T f++[p]) d
  grind[fT]
 grind[bf.mailed,LC,fT]
def pA(now:Int):List aO->Nat
 | []=>0
 | x::xs=>if x.b7<now - 100 then pA now xs+1 else 0
def aged(h:ac)(n:Int):ac:={h with b2:=h.b2+n,a4:=⟨h.a4.c0,h.a4.a0.drop (pA (h.b2+n) h.a4.a0)⟩}
def lT(h:ac)(n:Int):List Int:=(h.a4.a0.take (pA (h.b2+n) h.a4.a0)).map (·.U)
def tick(h:ac)(n:Int):ac:=freeAs (aged h n) (lT h n)
def rc(x:aO)(xs:List aO):∀n,quarCells (x::xs) (n+1)=csz x.a+quarCells xs n
 | 0=>by simp only[quarCells];show 0+csz x.a=csz x.a+0;omega
 | n+1=>by
  rw[jW,rc x xs n,jW];show csz x.a+quarCells xs n+csz (nth xs n).a=_;omega
theorem WY(k:Int):0<=csz k:=by grind[csz]
theorem Pt:∀(l:List aO)(k:Nat),qc (l.drop k)<=qc l
 | [],k=>by simp
 | x::xs,0=>Z9 _
 | x::xs,k+1=>by
  have a:=Pt xs k;have b:=WY x.a;have c:qc (x::xs)=csz x.a+qc xs:=rc x xs xs.length
  grind
theorem bf.aged{h:ac}{E:List Int}{n:Int}(a:bf h E)(t:0<=n)(u:h.b2+n<=1000000):bf (aged h n) (lT h n++E):=by
 obtain⟨i,j,k,o,p,q⟩:=iQ.1 a.quar;have c:=a.nums;unfold ch at c;rw[C0]at c;have e:=List.drop_sublist (pA (h.b2+n) h.a4.a0) h.a4.a0;have g:(E++holders h).Perm ((lT h n++E)++holders (Ab.aged h n)):=by
  refine List.perm_iff_count.2 λb=>?_
  have r:=I1 (λl:List aO=>(l.map (·.U)).count b) (List.take_append_drop (pA (h.b2+n) h.a4.a0) h.a4.a0);simp only[IB,ZB]at r;simp only[holders,cT,Ab.aged,lT,ZB];omega
 exact {a with
   nums:=by unfold ch;rw[C0];simp only[Ab.aged];omega
   quar:=iQ.2 ⟨λy d=>i y (e.subset d),j.sublist e,k.sublist (e.map _),o,p,Int.le_trans (Pt _ _) q⟩
   snc:=λy d=>by
     have:=a.snc y (e.subset d);show y.b7<=h.b2+n;omega
   hqu:=λy d=>a.hqu y (e.subset d)
   hin:=λb f=>by
     rcases I5.1 f with f|f
     · obtain⟨y,d,rfl⟩:=O8.1 f
       exact(a.hqu y ψ).any
     exact a.hin b f
   nd:=g.nodup_iff.1 a.nd
   mem:=λb=>by rw[<-g.mem_iff];exact a.mem b}
theorem bf.tick{h:ac}{n:Int}(a:bf h [])(b:0<=n)(c:h.b2+n<=1000000):bf (tick h n) []/\JK h (tick h n):=by
 have h1:=a.aged b c;exact⟨bf.freeAs h1,JK.trans (h1:=Ab.aged h n) (JK.eq rfl rfl rfl rfl) (JK.freeAs h1)⟩
def collect(h:ac)(t:Nat):ac:=recycs t {h with q:=jl h.q t} (nth h.q.w t)
theorem bf.collect{h:ac}{t:Nat}(b:bf h [])(a:t<h.Q.length):bf (collect h t) []/\JK h (collect h t):=by
 have h1:=b.coll (t:=t) (by grind[dQ,bf.mail,bf.nc]);exact⟨bf.recycs h1 a,JK.trans (h1:={h with q:=jl h.q t}) (JK.eq rfl rfl rfl rfl) (JK.recycs h1 a)⟩
def Fh(h:ac)(t i:Nat):ac:={h with G:=eM h.G (nth h.K i).U (csz (aP (nth h.K i).k)).toNat,K:=dele h.K i,q:=fT h.q t ⟨(nth h.K i).a1,(nth h.K i).U⟩}
def freeT(h:ac)(t i:Nat):ac × Int:=
 if aP (nth h.K i).k<0 then(freeL h i (u7 h (nth h.K i).U),0)
 else if(au (tbl h) ((nth h.K i).U / 16)).y=1 then(h,5)
 else if(nth h.K i).a1=t then(Po h t i,0)
 else if bE (fT h.q t ⟨(nth h.K i).a1,(nth h.K i).U⟩)=true then(Fh h t i,0) else(h,5)
theorem xk(e:(nth h.K i).a1=t):freeT h t i=freeOb h t i:=by grind[freeT,freeOb]
theorem bf.freeT{h:ac}{t i:Nat}(a:bf h [])(b:i<h.K.length)(c:t<h.Q.length):bf (freeT h t i).1 []/\JK h (freeT h t i).1:=by
 by_cases e:(nth h.K i).a1=t
 ·grind[xk,bf.freeOb,JK.freeOb]
 have d:=a.freeOb b c;have f:=JK.freeOb a b c;unfold Ab.freeOb at d f;unfold Ab.freeT;split
 ·grind
 rename_i g;rw[CI g]at d f;split
 ·grind
 split
 ·rename_i j
  obtain⟨⟨s,l,n,o⟩,u⟩:=(eE a (ax b)).2 g;have q:=a.dropO b (jZ.any ⟨s,l,n,.inr o⟩);have r:=q.cells (k:=eM h.G (nth h.K i).U (csz (aP (nth h.K i).k)).toNat) (KD a.ker _ _) rfl;exact⟨bf.send (p:=⟨(nth h.K i).a1,(nth h.K i).U⟩) r (by grind[bf.nc]) j,JK.eq rfl rfl rfl rfl⟩
 grind[JK.refl]
def iH(k:ah)(a v:Int):ah:=setCell k (fe k a) (a % 16) v
variable{a:Int}
def Bq(h:aG k=true){v:Int}(b:(au k.F.O (a / 16)).y≠0)(c:0<=v/\v<=999):aG (iH k a v)=true:=by
 obtain⟨d,e,-⟩:=km h b;exact tl h (f:=fe k a) d e c
def bf.store{v:Int}(b:bf h [])(c:(au h.G.F.O (a / 16)).y≠0)(d:0<=v/\v<=999):bf {h with G:=iH h.G a v} []/\JK h {h with G:=iH h.G a v}:=
 ⟨b.cells (Bq b.ker c d) rfl,JK.eq rfl rfl rfl rfl⟩
theorem NQ{k:Int} : ∀{l s s2 b:List Int}(n:Nat),(∀x∈s2,x∈s)->uJ k s l=some b->∃c,uJ k s2 (l.take n)=some c/\∀x∈c,x∈b
 | [],s,s2,b,n,h,e=>by grind[uJ]
 | a::l,s,s2,b,0,h,e=>⟨s2,rfl,λx d=>(qO (λ_ y=>y) e).1 x (h x d)⟩
 | a::l,s,s2,b,n+1,h,e=>by
  simp only[List.take_succ_cons,uJ]at e |-;split at e
  ·rename_i g
   rw[CJ (show good k s2 a from⟨g.1,g.2.1,g.2.2.1,λx=>g.2.2.2 (h a x)⟩)];exact NQ (l:=l) (s:=s++[a]) (s2:=s2++[a]) n ψ e
  cases e
theorem Jc:∀{a:List (List Int)}{k:Nat}{s s2:List Int}(i n:Nat),(∀x∈s2,x∈s)->(iG k s a).isSome=true->(iG k s2 (a.set i ((nth a i).take n))).isSome=true
 | [],_,_,_,_,_,_,_=>rfl
 | l::a,k,s,s2,i,n,h,e=>by
  simp only[iG,fW]at e;split at e
  ·rename_i g
   cases b:uJ k s l with
   | none=>grind
   | some j=>
    rw[b]at e;cases i with
    | zero=>
     obtain⟨c,d,f⟩:=NQ n h b
     grind[Z2,wW,iG,fW,nth]
    | succ i=>
     obtain⟨o,c,d,f⟩:=qO h b;simp only[List.set_cons_succ,iG,fW];rw[CJ g,d];exact Jc i n f e
  cases e
theorem Nj{c:aD}(h:bB c=true)(k:Nat):bB (vu c k)=true:=by grind[Jc,bB,vu]
def mL(b:Int):Nat->List Int
 | 0=>[]
 | j+1=>if bg b (j:Nat)=true then mL b j else mL b j++[((j:Nat):Int)]
theorem wz{b:Int} : ∀{n:Nat}{z:Int},z∈mL b n->0<=z/\z<n/\bg b z=false
 | 0,_,h=>by cases h
 | n+1,z,h=>by
  unfold mL at h;split at h
  ·have:=wz h;grind
  rename_i e;rcases I5.1 h with h|h
  ·have:=wz h;grind
  grind
theorem ss(b:Int):∀n,(mL b n).length<=n
 | 0=>O5 _
 | n+1=>by have:=ss b n;grind[mL]
def oV(k b:Int):List Int:=if PR k b=true then mL b (slots k).toNat else []
def iz(h:ac)(i:Nat):List Int:=oV (nth h.H i).a (ep h i)
theorem tT{k b z:Int}(h:z∈oV k b):0<=z/\z<slots k/\bg b z=false:=by
 unfold oV at h;split at h
 ·have:=wz h;grind
 cases h
theorem BM(k b:Int):(oV k b).length<=16:=by grind[gQ,ss,oV,PR]
def oo(h:ac)(i:Nat):Int:=nth (iz h i) (HJ h.c1 ((iz h i).length:Nat)).toNat
def slotT(h:ac)(i:Nat):ac:={h with c1:=Dj h.c1,H:=h.H.set i (sA (nth h.H i) (oo h i))}
def rm(h:ac)(i:Nat):Int:=16*(nth h.H i).S+oo h i*csz (nth h.H i).a
def wy(a:0<(iz h i).length):oo h i∈iz h i:=by
 have:=qX h.c1 (n:=((iz h i).length:Nat)) ω;exact ax ω
def bf.slotT{h:ac}{E:List Int}{i:Nat}(a:bf h E)(b:i<h.H.length)(e:0<(iz h i).length):bf (slotT h i) (rm h i::E)/\jZ (slotT h i).H (rm h i) (nth h.H i).a:=by
 obtain⟨c,d,f⟩:=tT (wy e);exact⟨a.take b ⟨c,d⟩ f (GJ _),(jZ.setS a.L b ⟨c,d⟩ _ _).2 (.inr ⟨rfl,.inr rfl⟩)⟩
def qt(h:ac)(c:Int)(i:Nat):Bool:=decide ((nth h.H i).a=c)&&(!gv h (nth h.H i).S&&decide (0<(iz h i).length))
def pT(h:ac)(c:Int):Option Nat:=(List.range h.H.length).find? (qt h c)
def qy(h:ac)(c:Int):ac:=addS h (dP h.G (aA h.e 1).2.1).1 (aA h.e 1).1 (aA h.e 1).2.1 c
def pH(h:ac):Nat:=kW (JW (aA h.e 1).2.1) h.H
def lJ(h:ac)(i:Nat):ac × Int:=if(iz h i).length=0 then(h,-1) else(slotT h i,rm h i)
def eY(h:ac)(t c:Nat):ac × Int:=
 if 0<(nth (nth h.Q t).X c).length then({h with Q:=h.Q.set t (vu (nth h.Q t) c)},nth (nth (nth h.Q t).X c) ((nth (nth h.Q t).X c).length - 1))
 else match pT h c with
 | some i=>(slotT h i,rm h i)
 | none=>if(aA h.e 1).2.2=false then(h,-1)
  else if(dP h.G (aA h.e 1).2.1).2=false then({h with G:=(dP h.G (aA h.e 1).2.1).1},-1)
  else lJ (qy h c) (pH h)
theorem N7[Inhabited α](p:α->Bool)(xs:List α)(y:α):kW p xs<(kC p xs y).length/\nth (kC p xs y) (kW p xs)=y:=by
 have a:=VZ p xs;have b:(xs.take (kW p xs)).length=kW p xs:=ψ
 refine⟨by grind[List.Perm.length_eq,mf,List.length_cons],bk ?_⟩
 grind[kC]
theorem bf.tEq{h:ac}{E:List Int}(a:bf h E){k:ah}(c:aG k=true)(b:tEq (tbl h) k.F.O):bf {h with G:=k} E/\JK h {h with G:=k}:=
 ⟨a.step (j:=h.a9) (m:=h.a3) c b.1 (a.pg.tEq b) a.job a.noj,⟨rfl,rfl,ψ,λq d=>.inl ⟨(b.2 q).1.1 d,(b.2 q).2⟩⟩⟩
structure W6(h:ac)(c:Int)(r:ac × Int):Prop where
 no:r.2<0->bf r.1 []
 yes:0<=r.2->bf r.1 [r.2]/\jZ r.1.H r.2 c
 jk:JK h r.1
 nx:r.1.o=h.o
 cl:r.1.Q.length=h.Q.length
def jZ.nn(b:bf h E){c:Int}(d:jZ h.H a c):0<=a:=(jZ.bd b d).1
theorem W6.slot{c:Int}(b:bf h' [])(d:i<h'.H.length)(e:0<(iz h' i).length)(l:(nth h'.H i).a=c)(f:JK h h')(a:gv h' (nth h'.H i).S=false)(h1:h'.o=h.o)(h2:h'.Q.length=h.Q.length):W6 h c (slotT h' i,rm h' i):=by
 obtain⟨g,j⟩:=b.slotT d e;have k:=jZ.nn g j;exact⟨ω,ψ,f.trans (JK.take a),h1,h2⟩
theorem sj{c:Nat}(a:bf h [])(l:t<h.Q.length)(J:c<=3)(r:h.G.b<=90000):W6 h c (eY h t c):=by
 have f:=a.cach _ (ax l);have u:=qz f;unfold eY;split
 ·rename_i w
  obtain⟨d,b⟩:=a.pop l ω w (Nj f c);have A:=jZ.nn a b;exact⟨ω,λ_=>⟨d,b⟩,JK.eq rfl rfl rfl rfl,rfl,O2 ..⟩
 split
 ·rename_i i n
  have K:=List.find?_some n;have L:=List.mem_range.1 (List.mem_of_find?_eq_some n)
  grind[W6.slot,JK.refl,qt]
 split
 ·exact⟨λ_=>a,ω,JK.refl h,rfl,rfl⟩
 rename_i B;have g:(aA h.e 1).2.2=true:=by simpa using B
 obtain⟨C,D,E,o⟩:=kE a (Z9 1) g;have s:=Dg.of (p:=(aA h.e 1).2.1) a.ker ω ⟨C,by have:(aA h.e 1).2.1+1<=(h.G.F.O.M.length:Nat):=D;omega⟩ (E _ ω ω);split
 ·rename_i k
  rw[s.no k];obtain⟨d,b⟩:=a.tEq (oC a.ker ω) (tEq.refl _);exact⟨λ_=>d,ω,b,rfl,rfl⟩
 rename_i k;have F:(dP h.G (aA h.e 1).2.1).2=true:=by simpa using k
 have q:Dg h.G (aA h.e 1).2.1 ((dP h.G (aA h.e 1).2.1).1,true):=ψ
 have d:=a.addS (c:=c) ω g q;have b:JK h (qy h c):=JK.addS q;obtain⟨G,H⟩:=N7 (JW (aA h.e 1).2.1) h.H ⟨(aA h.e 1).2.1,c,0⟩;unfold lJ;split
 ·exact⟨λ_=>d,ω,b,rfl,rfl⟩
 refine W6.slot (h':=qy h c) (i:=pH h) d G ω (by show(nth (kC (JW (aA h.e 1).2.1) h.H ⟨(aA h.e 1).2.1,c,0⟩) (pH h)).a=_;grind[pH]) b ?_ rfl rfl;show gv (qy h c) (nth (kC (JW (aA h.e 1).2.1) h.H ⟨(aA h.e 1).2.1,c,0⟩) (pH h)).S=false;unfold pH;rw[H,b.pg];rw[<-SA];intro j;unfold gv at j;simp only[I0,IC,C0]at j;obtain⟨-,⟨y,M,N⟩,⟨z,O,P⟩⟩:=a.job j.1;rcases j.2 with e|e
 ·exact o _ (Z9 _) ω (by grind[eP])
 exact o _ (Z9 _) ω (by grind[eP])
def ma(size:Int):Nat:=((size+15) / 16).toNat
def jY(h:ac)(size:Int):ah × Nat:=bG h.G (aA h.e (ma size:Nat)).2.1 (ma size)
def tD(h:ac)(t size:Int):ac × Int × Int:=
 if(aA h.e (ma size:Nat)).2.2=false then(h,-1,4)
 else if(jY h size).2=ma size then(addL h (jY h size).1 (aA h.e (ma size:Nat)).1 (aA h.e (ma size:Nat)).2.1 (ma size:Nat) size t,16*(aA h.e (ma size:Nat)).2.1,0)
 else({h with G:=dE (jY h size).1 (aA h.e (ma size:Nat)).2.1 (jY h size).2},-1,4)
def tQ(xs:List bc):Nat->Int
 | 0=>0
 | i+1=>tQ xs i+(nth xs i).k
def pD(h:ac):Int:=tQ h.K h.K.length
def eX(h:ac)(t size:Int):ac × Int × Int:=
 if 1000000<=h.o\/90000<h.G.b then(h,-1,5)
 else if ¬(0<=t/\t<=h.Q.length - 1) then(h,-1,1)
 else if ¬(1<=size/\size<=1000) then(h,-1,2)
 else if h.c2<pD h+size then(h,-1,3)
 else if 0<=aP size then(if(eY h t.toNat (aP size).toNat).2<0 then((eY h t.toNat (aP size).toNat).1,-1,4) else(addO (eY h t.toNat (aP size).toNat).1 (eY h t.toNat (aP size).toNat).2 size t,(eY h t.toNat (aP size).toNat).2,0))
 else tD h t size
variable{size:Int}
theorem Qs{t:Int}(a:bf h [])(l:9<=size/\size<=1000)(o:h.o<1000000)(f:h.G.b<=90000)(q:0<=t/\t<=h.Q.length - 1):bf (tD h t size).1 []/\JK h (tD h t size).1:=by
 have r:(ma size:Int)=(size+15) / 16:=by unfold ma;omega
 unfold tD;split
 ·grind[JK.refl]
 rename_i g;have b:(aA h.e (ma size:Nat)).2.2=true:=by simpa using g
 obtain⟨c,d,e,u⟩:=kE a ω b;have s:=im.of (p:=(aA h.e (ma size:Nat)).2.1) (n:=ma size) a.ker ω ⟨c,d⟩ e (ma size) (O5 _);split
 ·rename_i i
  have w:im h.G (aA h.e (ma size:Nat)).2.1 (ma size) ((jY h size).1,ma size):=by
   have:((jY h size).1,ma size)=jY h size:=by rw[<-i]
   rw[this];exact s
  grind[bf.addL,JK.addL]
 obtain⟨j,k⟩:=s.undo a.ker ⟨c,d⟩ e;exact a.tEq j k
theorem PM{t:Int}(a:bf h []):bf (eX h t size).1 []/\JK h (eX h t size).1:=by
 unfold eX;split
 ·grind[JK.refl]
 rename_i b;rw[not_or]at b;split
 ·grind[JK.refl]
 rename_i i;split
 ·grind[JK.refl]
 rename_i j;split
 ·grind[JK.refl]
 split
 ·rename_i k
  have d:aP size<=3:=by grind[aP]
  have s:=sj (t:=t.toNat) (c:=(aP size).toNat) a ω ω ω;generalize eY h t.toNat (aP size).toNat=r at s;split
  ·grind[W6.no,W6.jk]
  rename_i e;obtain⟨f,g⟩:=s.yes ω;refine⟨f.addO (.inl ?_) (by rw[s.nx];omega) (by rw[s.cl];omega),s.jk.trans (JK.eq rfl rfl rfl rfl)⟩;obtain⟨z,l,n,o⟩:=g
  grind
 grind[Qs,aP]
def pv{β:Type}[Inhabited α]{f:α->β}{xs:List α}{y:α}(a:i<xs.length)(e:f y=f (nth xs i)):(xs.set i y).map f=xs.map f:=by
 rw[CC];refine List.ext_getElem ϕ λj b c=>?_
 rw[List.getElem_set];split
 ·rename_i g;subst g
  rw[List.getElem_map,e,bk (Z3 a)]
 rfl
theorem qn{α β:Type}[Inhabited α](f:α->List β):∀(xs:List α)(i:Nat)(y:α),i<xs.length->(f y).Sublist (f (nth xs i))->((xs.set i y).flatMap f).Sublist (xs.flatMap f)
 | [],_,_,h,_=>absurd h (Nat.not_lt_zero _)
 | x::xs,0,y,_,a=>by
  rw[List.set_cons_zero,CD,CD];exact List.Sublist.append a ψ
 | x::xs,i+1,y,h,a=>by
  rw[List.set_cons_succ,CD,CD];exact List.Sublist.append ψ (qn f xs i y (by simpa using h) a)
def zK(k:ah)(a:Int):Nat->ah
 | 0=>k
 | m+1=>iH (zK k a m) (a+m) 0
theorem xa(k:ah)(a:Int):∀m,(zK k a m).F.O=k.F.O/\(zK k a m).b=k.b/\(zK k a m).d=k.d
 | 0=>⟨rfl,rfl,rfl⟩
 | m+1=>xa k a m
theorem Wb{k:ah}(h:aG k=true){a:Int} : ∀{m:Nat},(∀j:Nat,j<m->(au k.F.O ((a+j) / 16)).y≠0)->aG (zK k a m)=true
 | 0,_=>h
 | m+1,b=>Bq (Wb h ψ) (by grind[xa]) ω
theorem MP(f:bf h E){o:List aC}(w:p+n<=h.G.F.O.M.length)(G:sp.Sublist h.H)(H:∀l∈la,∀q∈lpgs l l.a2.toNat,∃t∈h.J,q∈lpgs t t.a2.toNat)(J:0<=p)(y:∀q,q∈pgs sp la↔q∈pgs h.H h.J/\¬(p<=q/\q<p+n))(K:∀q,RH o q↔RH h.e q\/(p<=q/\q<p+n)) :
  Pg (dE h.G p n).F.O o sp la:=by
 have b:=(gM h.G p n).1;have d:=om f.ker J n w;have g:∀q:Nat,(q:Int)∈pgs sp la->nth (dE h.G p n).F.O.M q=nth (tbl h).M q:=λq c=>by rw[d,CI ((y q).1 c).2];rfl
 have a:∀q:Nat,(nth (dE h.G p n).F.O.M q).y≠0↔(nth (tbl h).M q).y≠0/\¬(p<=q/\(q:Int)<p+n):=λq=>by
  rw[d];by_cases e:p<=q/\(q:Int)<p+n
  ·grind
  rw[CI e];exact⟨λx=>⟨x,e⟩,λx=>x.1⟩
 refine⟨λl i q c r D A j=>?_,λq c=>?_,λq c=>?_,λq c=>?_,λs i u N M O=>?_⟩
 ·have k:=(a r).1 A
  rw[b]at D;rw[g q (gL i c),d,CI k.2]at j;obtain⟨t,B,C⟩:=H l i _ c;exact f.pg.one t B q C r D k.1 j
 ·rw[b];exact f.pg.bnd q ((y q).1 c).1
 ·rw[b]at c
  rw[a,y,f.pg.own q c]
 ·rw[b]at c
  rw[a,K,f.pg.fre q c]
  grind
 have F:∀s∈sp,0<=s.S:=λs i=>(aJ (f.L.sok s (G.subset i))).1
 grind[eP,Pg.mesh,bf.pg]
def trimL(l:aB)(size:Int):aB:=⟨l.S,(size+15) / 16,size⟩
def dB(l:aB)(size:Int):Nat:=(l.a2 - (size+15) / 16).toNat
def bf.trimL{h:ac}{E:List Int}{i k:Nat}{size:Int}(t:bf h E)(T:i<h.K.length)(H:k<h.J.length)(Y:(nth h.K i).U=16*(nth h.J k).S)(N:9<=size/\size<=(nth h.J k).k) :
  ∃o,(dB (nth h.J k) size=0->o=h.e)/\(0<dB (nth h.J k) size->cm (fk h) h.e ⟨(nth h.J k).S+(size+15) / 16,(dB (nth h.J k) size:Nat)⟩ = some o)/\
   bf {h with G:=dE h.G ((nth h.J k).S+(size+15) / 16) (dB (nth h.J k) size),J:=h.J.set k (trimL (nth h.J k) size),K:=h.K.set i {nth h.K i with k:=size},e:=o} E:=by
 have U:=t.L;have C:=U.lok _ (ax H);have hf:=aV C;unfold bZ at C;rw[C0]at C;obtain⟨b1,b2⟩:=HA t H;have O:=U.dis;have G:=λj n=>U.one j k n H
 have y:=(ax H:nth h.J k∈h.J)
 have d:∀z∈h.J.set k (Ab.trimL (nth h.J k) size),z=Ab.trimL (nth h.J k) size\/∃j,j<h.J.length/\j≠k/\nth h.J j=z:=λz N=>jv N
 have p:Ab.trimL (nth h.J k) size∈h.J.set k (Ab.trimL (nth h.J k) size):=j9 _ H;have u:∀j,j<h.J.length->j≠k->nth h.J j∈h.J.set k (Ab.trimL (nth h.J k) size):=λj n e=>lv _ n e
 have hpageM:(h.J.set k (Ab.trimL (nth h.J k) size)).map (·.S)=h.J.map (·.S):=pv H rfl;have w:(pgs h.H (h.J.set k (Ab.trimL (nth h.J k) size))).Sublist (pgs h.H h.J):=by
  unfold pgs;refine List.Sublist.append (List.Sublist.refl _) (qn _ _ _ _ H ?_);unfold lpgs;exact(List.range_sublist.2 (by simp only[Ab.trimL];omega)).map _
 obtain⟨l,V⟩ : ∃l,nth h.J k=l:=⟨_,rfl⟩
 rw[V]at C hf b1 b2 G y d p u hpageM w Y N |-;generalize hla:h.J.set k (Ab.trimL l size)=la at d p u hpageM w |-;have hn1:(1:Int)<=(size+15) / 16/\(size+15) / 16+(dB l size:Nat)=l.a2:=by unfold dB;omega
 have D:∀q,q∈lpgs l l.a2.toNat↔l.S<=q/\q<l.S+l.a2:=λq=>by
  rw[dR];constructor
  ·rintro⟨j,n,rfl⟩;omega
  rintro⟨Z,q2⟩;exact⟨(q - l.S).toNat,ω,ω⟩
 have J:∀q,q∈lpgs (Ab.trimL l size) (Ab.trimL l size).a2.toNat↔l.S<=q/\q<l.S+(size+15) / 16:=λq=>by
  rw[dR];simp only[Ab.trimL];constructor
  ·rintro⟨j,n,rfl⟩;omega
  rintro⟨Z,q2⟩;exact⟨(q - l.S).toNat,ω,ω⟩
 have hpe:l.S+(size+15) / 16+(dB l size:Nat)=l.S+l.a2:=ω
 have P:∀q,q∈pgs h.H la↔q∈pgs h.H h.J/\¬(l.S+(size+15) / 16<=q/\q<l.S+(size+15) / 16+(dB l size:Nat)):=λq=>by
  rw[rK,rK,hpe];constructor
  ·rintro(⟨s,W,rfl⟩|⟨z,c,B⟩)
   ·exact⟨.inl ⟨s,W,rfl⟩,λe=>O s W l y (s.S - l.S).toNat ω ω⟩
   rcases d z c with rfl|⟨j,n,hjk,rfl⟩
   ·have:=(J q).1 B
    exact⟨.inr ⟨l,y,(D q).2 ⟨ω,ω⟩⟩,ω⟩
   refine⟨.inr ⟨_,ax n,B⟩,λe=>?_⟩;obtain⟨m,hm,rfl⟩:=dR.1 B;exact hjk (G j n m ((nth h.J j).S+(m:Int) - l.S).toNat hm ω ω)
  rintro⟨⟨s,W,rfl⟩|⟨z,c,B⟩,hne⟩
  ·exact .inl ⟨s,W,rfl⟩
  obtain⟨j,n,rfl⟩:=b9 c;by_cases e:j=k
  ·subst e
   rw[V]at B;have:=(D q).1 B;exact .inr ⟨_,p,(J q).2 ⟨ω,ω⟩⟩
  exact .inr ⟨_,u j n e,B⟩
 have K:∃o,(dB l size=0->o=h.e)/\(0<dB l size->cm (fk h) h.e ⟨l.S+(size+15) / 16,(dB l size:Nat)⟩ = some o)/\bJ (fk h) o=true/\∀q,RH o q↔RH h.e q\/(l.S+(size+15) / 16<=q/\q<l.S+(size+15) / 16+(dB l size:Nat)):=by
  by_cases e:dB l size=0
  ·refine⟨h.e,λ_=>rfl,λg=>absurd g ω,t.rng,λq=>⟨.inl,λg=>g.resolve_right ω⟩⟩
  obtain⟨o,o1,o2,o3⟩:=xG (r:=⟨l.S+(size+15) / 16,(dB l size:Nat)⟩) t.rng ⟨by simp only;omega,by simp only;omega,by show l.S+(size+15) / 16+(dB l size:Nat)<=(fk h:Int);have:((tbl h).M.length:Int)=(fk h:Int):=rfl;omega⟩ λq Z q2=>by
   simp only at Z q2;obtain⟨m,rfl⟩:=C5 (show 0<=q by omega);have Q:m<(tbl h).M.length:=ω
   exact(t.pg.fre m Q).1 ((t.pg.own m Q).2 (gL y ((D _).2 ⟨ω,ω⟩)))
  exact⟨o,λg=>absurd g e,λ_=>o1,o2,o3⟩
 obtain⟨o,o0,o1,o2,o3⟩:=K;have R:=(gM h.G (l.S+(size+15) / 16) (dB l size)).1;have M:∀z∈h.K.set i {nth h.K i with k:=size},z = {nth h.K i with k:=size}\/∃j,j<h.K.length/\j≠i/\nth h.K j=z:=λz N=>jv N
 have F:(h.K.set i {nth h.K i with k:=size}).map (·.U)=h.K.map (·.U):=pv T rfl;have S:(h.K.set i {nth h.K i with k:=size}).map (·.Id)=h.K.map (·.Id):=pv T rfl;have hli:=(ax T:nth h.K i∈h.K)
 generalize h.K.set i {nth h.K i with k:=size} = ob at M F S |-;refine⟨o,o0,o1,{t with
   ker:=jJ t.ker _ _
   rng:=by show bJ (((dE h.G (l.S+(size+15) / 16) (dB l size)).F.O.M.length:Nat):Int) o=true;rw[R];exact o2
   lay:=?_
   srl:=?_
   pg:=MP t (by have:((tbl h).M.length:Int)=(h.G.F.O.M.length:Int):=rfl;omega) (List.Sublist.refl _) (λz c q B=>?_) ω P o3
   osr:=?_
   onu:=λz c=>?_
   oid:=by show(ob.map (·.Id)).Nodup;rw[S];exact t.oid
   oow:=λz c=>?_
   nd:=?_
   mem:=λb=>?_}⟩
 ·obtain⟨l1,l2,l3⟩:=fC t.lay
  unfold bA;simp only[I0,C0];refine⟨⟨l1,S7.2 λz c=>?_⟩,l3.sublist w⟩;rcases d z c with rfl|⟨j,n,-,rfl⟩
  ·exact O0 ⟨N.1,by show size<=1000;omega,rfl,by show 0<=l.S;omega,by show l.S<=32 - (size+15) / 16;omega⟩
  exact U.lok _ (ax n)
 ·have A:(h.J.map (·.S)).Pairwise (λa b=>a<b):=List.pairwise_map.2 t.srl
  rw[<-hpageM]at A;exact List.pairwise_map.1 A
 ·rcases d z c with rfl|⟨j,n,-,rfl⟩
  ·have:=(J q).1 B
   exact⟨l,y,(D q).2 ⟨ω,ω⟩⟩
  exact⟨_,ax n,B⟩
 ·have A:(h.K.map (·.U)).Pairwise (λa b=>a<b):=List.pairwise_map.2 t.osr
  rw[<-F]at A;exact List.pairwise_map.1 A
 ·rcases M z c with rfl|⟨j,n,-,rfl⟩
  ·exact t.onu (nth h.K i) hli
  exact t.onu _ (ax n)
 ·rcases M z c with rfl|⟨j,n,hji,rfl⟩
  ·exact .inr ⟨_,p,Y,rfl⟩
  rcases t.oow _ (ax n) with A|⟨l',hl',e1,X⟩
  ·exact .inl A
  obtain⟨m,hm,rfl⟩:=b9 hl';by_cases e:m=k
  ·subst e
   rw[V]at e1;exact absurd (hJ (f:=(·.U)) (gR t.osr) n T (e1.trans Y.symm)) hji
  exact .inr ⟨_,u m hm e,e1,X⟩
 ·have hh:holders {h with G:=dE h.G (l.S+(size+15) / 16) (dB l size),J:=la,K:=ob,e:=o} = holders h:=by
   show((ob.map (·.U)++cT h)++h.a4.a0.map (·.U))++aR h.q=_;rw[F];rfl
  rw[hh];exact t.nd
 have hh:holders {h with G:=dE h.G (l.S+(size+15) / 16) (dB l size),J:=la,K:=ob,e:=o} = holders h:=by
  show((ob.map (·.U)++cT h)++h.a4.a0.map (·.U))++aR h.q=_;rw[F];rfl
 rw[hh,t.mem b];show oz h.H h.J b↔oz h.H la b;unfold oz;constructor
 ·rintro(A|⟨z,c,e⟩)
  ·exact .inl A
  obtain⟨j,n,rfl⟩:=b9 c;by_cases X:j=k
  ·subst X
   rw[V]at e;exact .inr ⟨_,p,e⟩
  exact .inr ⟨_,u j n X,e⟩
 rintro(A|⟨z,c,e⟩)
 ·exact .inl A
 rcases d z c with rfl|⟨j,n,-,rfl⟩
 ·exact .inr ⟨l,y,e⟩
 exact .inr ⟨_,ax n,e⟩
def qq(h:ac)(k:Nat)(size:Int):ah:=zK h.G (16*(nth h.J k).S+size) (16*((size+15) / 16) - size).toNat
def xW(h:ac)(k:Nat)(size:Int):List aC:=if 0<dB (nth h.J k) size then(cm (fk h) h.e ⟨(nth h.J k).S+(size+15) / 16,(dB (nth h.J k) size:Nat)⟩).getD h.e else h.e
def trimH(h:ac)(i k:Nat)(size:Int):ac:={h with G:=dE (qq h k size) ((nth h.J k).S+(size+15) / 16) (dB (nth h.J k) size),J:=h.J.set k (trimL (nth h.J k) size),K:=h.K.set i {nth h.K i with k:=size},e:=xW h k size}
theorem nh(b:bf h E){k:Nat}(c:k<h.J.length)(g:16*(nth h.J k).S<=a/\a<16*(nth h.J k).S+16*(nth h.J k).a2):(au h.G.F.O (a / 16)).y≠0:=by
 obtain⟨i,j⟩:=HA b c;have l:=aV (b.L.lok _ (ax c));have d:(a / 16)∈pgs h.H h.J:=gL (ax c) (dR.2 ⟨(a / 16 - (nth h.J k).S).toNat,ω,ω⟩);have e:=b.pg.bnd _ d;have f:=(b.pg.own (a / 16).toNat ω).2 ψ;unfold au;rw[CJ ⟨ω,e⟩];exact f
theorem A2(a:bf h E){k:Nat}(b:k<h.J.length)(d:9<=size/\size<=(nth h.J k).k):∀{m:Nat},m<=(16*((size+15) / 16) - size).toNat->aG (zK h.G (16*(nth h.J k).S+size) m)=true:=fun {m} hm=>by
 have c:=a.L.lok _ (ax b)
 grind[Wb,bf.ker,nh,bZ]
theorem bf.trimH{h:ac}{i k:Nat}{size:Int}(b:bf h [])(n:i<h.K.length)(c:k<h.J.length)(r:(nth h.K i).U=16*(nth h.J k).S)(e:9<=size/\size<=(nth h.J k).k):bf (trimH h i k size) []/\JK h (trimH h i k size):=by
 have f:=A2 b c e (O5 _);have g:=(xa h.G (16*(nth h.J k).S+size) (16*((size+15) / 16) - size).toNat).1;have t:=b.cells f g;obtain⟨o,u,w,j⟩:=t.trimL (i:=i) (k:=k) (size:=size) n c r e;simp only at u w j;have y:fk {h with G:=zK h.G (16*(nth h.J k).S+size) (16*((size+15) / 16) - size).toNat} = fk h:=by grind[fk]
 have A:xW h k size=o:=by grind[xW]
 have B:Ab.trimH h i k size = {h with G:=dE (qq h k size) ((nth h.J k).S+(size+15) / 16) (dB (nth h.J k) size),J:=h.J.set k (Ab.trimL (nth h.J k) size),K:=h.K.set i {nth h.K i with k:=size},e:=o}:=by unfold Ab.trimH;rw[A]
 refine⟨by rw[B];exact j,JK.less rfl rfl rfl λq C=>?_⟩;have a:=b.L.lok _ (ax c);unfold bZ at a;rw[C0]at a;obtain⟨D,E⟩:=HA b c;have d:(qq h k size).F.O=h.G.F.O:=g;have l:=om (k:=qq h k size) f (p:=(nth h.J k).S+(size+15) / 16) ω (dB (nth h.J k) size) (by rw[d];have:((tbl h).M.length:Int)=(h.G.F.O.M.length:Int):=rfl;unfold dB;omega) q;change (nth (dE (qq h k size) ((nth h.J k).S+(size+15) / 16) (dB (nth h.J k) size)).F.O.M q).y≠0 at C;show nth (dE (qq h k size) ((nth h.J k).S+(size+15) / 16) (dB (nth h.J k) size)).F.O.M q=nth h.G.F.O.M q
 grind
theorem Mx(e:1<=t/\t<=4):bE (eS t)=true:=by
 have f:∀n,n<=t->bM (eS t) n=0:=λn=>by
  induction n with
  | zero=>intro _;rfl
  | succ n g=>
   intro h;have b:nth (eS t).T n=[]:=fo ω;have c:nth (eS t).w n=[]:=fo ω
   grind[bM]
 have d:(eS t).T.length=t:=C7 ..;refine dQ.2 ⟨⟨ω,ω,by simp[eS]⟩,λi a=>?_,ψ⟩;rw[d]at a;have b:nth (eS t).T i=[]:=fo a;have c:nth (eS t).w i=[]:=fo a
 grind
theorem xO(t:Nat):aR (eS t)=[]:=by
 unfold aR;split
 ·simp[eS]
 rfl
def tM(k:ah)(t:Nat)(sd ck lim:Int):ac:=⟨k,[⟨0,(k.F.O.M.length:Nat)⟩],[],[],[],List.replicate t f9,eS t,⟨16,[]⟩,sd,ck,lim,1,false,⟨⟨0,0,[]⟩,0,0⟩⟩
def J2:bB f9=true:=by decide
theorem bf.fresh{lim sd ck:Int}(w:aG k=true)(A:∀q,q<k.F.O.M.length->(nth k.F.O.M q).y=0)(C:1<=t/\t<=4)(f:0<=lim/\lim<=1000)(g:0<=sd/\sd<=1073741823)(b:0<=ck/\ck<=1000000):bf (tM k t sd ck lim) []:=by
 obtain⟨F,G,H⟩:=bt.1 (aF.1 w).2.2.1;have hca:cT (tM k t sd ck lim)=[]:=by
  unfold cT;refine List.flatMap_eq_nil_iff.2 λc b=>?_
  rw[(List.mem_replicate.1 b).2]
  rfl
 have J:holders (tM k t sd ck lim)=[]:=by
  unfold holders;rw[hca];show(([]++[])++[])++aR (eS t)=[]
  grind[xO]
 have D:∀a,¬oz (tM k t sd ck lim).H (tM k t sd ck lim).J a:=λa=>by
  rintro(⟨s,g,-⟩|⟨l,f,-⟩)
  ·cases g
  cases f
 exact {
   ker:=w
   rng:=gF.2 ⟨⟨List.pairwise_singleton ..,λy h=>by rw[I2.1 h];grind⟩,λy h=>by
       rw[I2.1 h];refine⟨Z9 _,ψ,?_⟩;show(0:Int)+(k.F.O.M.length:Nat)<=(k.F.O.M.length:Nat);omega,by show(1:Int)<=(k.F.O.M.length:Nat);omega,by show((k.F.O.M.length:Nat):Int)<=32;omega⟩
   lay:=by show bA [] []=true;decide
   srs:=List.Pairwise.nil
   srl:=List.Pairwise.nil
   pg:=⟨λl f=>(by cases f),λp d=>(by cases d),λp d=>⟨λe=>absurd (A p d) e,λe=>by cases e⟩,λp d=>⟨λe=>absurd (A p d) e,λe=>absurd ⟨_,I2.2 rfl,ψ,by
       show(p:Int)<0+(k.F.O.M.length:Nat);have E:p<k.F.O.M.length:=d;omega⟩ e⟩,λs g=>by cases g⟩
   mail:=Mx C
   nc:=by show(List.replicate t f9).length=(List.replicate t _).length;simp
   quar:=by show gj ⟨16,[]⟩ = true;decide
   snc:=λx i=>by cases i
   cach:=λc b=>by rw[(List.mem_replicate.1 b).2];exact J2
   nums:=by grind[ch,tM]
   osr:=List.Pairwise.nil
   onu:=λo n=>by cases n
   oid:=List.nodup_nil
   oow:=λo n=>by cases n
   hca:=λc b j B a r=>by
     rw[(List.mem_replicate.1 b).2]at B r;have u:j<4:=B;have:nth f9.X j=[]:=fo u
     grind
   hqu:=λx i=>by cases i
   hfl:=λa r=>by
     have:aR (eS t)=[]:=xO t;change a∈aR (eS t) at r
     grind
   hin:=(ψ)
   nd:=ψ
   mem:=(ψ)
   job:=λe=>by cases e
   noj:=λ_=>by show wb ⟨⟨0,0,[]⟩,0,0⟩ = true;decide}
theorem JI.no(a:h.a3=false):JI h:=⟨ψ,ψ,ψ,ψ⟩
def nB{p:Nat}{a:List Int}(d:1<=p/\p<=32)(e:1<=f/\f<=32)(b:a.length<=40/\∀x∈a,0<=x):aG (bD p f a)=true:=by
 obtain⟨-,g,h,i,c⟩:=aF.1 (vH d e);exact aF.2 ⟨λj k=>b.2 _ (ax k),g,h,i,c.1,c.2.1,b.1⟩
theorem KK{p:Nat}{lim:Int}{a:List Int}(b:1<=p/\p<=32)(c:1<=f/\f<=32)(d:1<=t/\t<=4)(g:0<=lim/\lim<=1000)(i:a.length<=40/\∀x∈a,0<=x):bf (rX p f t lim a) []:=by
 have h:=bf.fresh (k:=bD p f a) (t:=t) (lim:=lim) (sd:=0) (ck:=0) (nB b c i) (λq j=>by grind[bD,ew,nth]) d g ω ω;have e:(bD p f a).F.O.M.length=p:=by grind[bD,ew]
 unfold tM at h;rw[e]at h;exact h
structure dv where
 b5:Int
 a1:Int
 N:Int
 At:Int
 Value:Int
deriving DecidableEq,Inhabited
def dv.enc(_:ek)(x:dv):List C:=[I x.b5,I x.a1,I x.N,I x.At,I x.Value]
def ib(id:Int)(o:aQ):Bool:=decide (o.Id=id)
def mT(r:a7)(id:Int):Int:=cu (ib id) r.K
def iW(r:a7)(n:Int):a7:=if 1<=n/\n<=1000 then {r with o:=r.o+1,K:=r.K++[⟨r.o,List.replicate n.toNat 0⟩]} else r
def jI(r:a7)(id:Int):a7:=if mT r id<0 then r else {r with K:=dele r.K (mT r id).toNat}
def dM(r:a7)(id at_ v:Int):a7:=if 0<=mT r id/\(0<=at_/\at_<=(nth r.K (mT r id).toNat).V.length - 1)/\0<=v/\v<=999 then {r with K:=r.K.set (mT r id).toNat ⟨(nth r.K (mT r id).toNat).Id,(nth r.K (mT r id).toNat).V.set at_.toNat v⟩} else r
def eO(r:a7)(id n:Int):a7:=if 0<=mT r id/\1<=n/\n<=(nth r.K (mT r id).toNat).V.length then {r with K:=r.K.set (mT r id).toNat ⟨(nth r.K (mT r id).toNat).Id,(nth r.K (mT r id).toNat).V.take n.toNat⟩} else r
structure qu(r:a7)(m:Nat):Prop where
 len:r.K.length<=m
 cel:∀o∈r.K,o.V.length<=1000
 nx:0<=r.o/\r.o<=m+1
variable{m:Nat}{r:a7}
theorem qu.more(h:qu r m)(a:m<=n):qu r n:=⟨by have:=h.len;omega,h.cel,h.nx.1,by have:=h.nx.2;omega⟩
def qu.sml(h:qu r m)(b:m<=1000):a7.sml r:=⟨by have:=h.len;omega,λo a=>by have:=h.cel o a;show o.V.length<=1048576;omega⟩
theorem qu.alloc(h:qu r m)(n:Int):qu (iW r n) (m+1):=by
 unfold iW;split
 ·refine⟨by have:=h.len;grind,λo a=>?_,by have:=h.nx.1;simp only;omega,by have:=h.nx.2;simp only;omega⟩
  grind[qu.cel]
 grind[qu.more]
theorem qu.free(h:qu r m)(id:Int):qu (jI r id) m:=by
 unfold jI;split
 ·exact h
 have a:=fL r.K (mT r id).toNat;exact⟨S9 a.length_le h.len,λo b=>h.cel o (a.subset b),h.nx⟩
theorem qu.set{x:aQ}(h:qu r m)(a:x.V.length<=1000):qu {r with K:=r.K.set i x} m:=
 ⟨by simp only[O2];exact h.len,λo b=>by grind[qu.cel],h.nx⟩
theorem eL[Inhabited α](p:α->Bool)(xs:List α)(h:0<=cu p xs):(cu p xs).toNat<xs.length/\p (nth xs (cu p xs).toNat)=true/\cu p xs=((cu p xs).toNat:Nat):=by grind[ri]
def qu.store(h:qu r m)(id a v:Int):qu (dM r id a v) m:=by
 unfold dM;split
 ·rename_i e
  refine h.set ?_;simp only[O2];exact h.cel (nth r.K (mT r id).toNat) (ax (eL _ _ e.1).1)
 exact h
theorem qu.trim(h:qu r m)(id n:Int):qu (eO r id n) m:=by
 unfold eO;split
 ·rename_i e
  refine h.set ?_;have:=h.cel (nth r.K (mT r id).toNat) (ax (eL _ _ e.1).1)
  grind
 exact h
def NL(id:Int)(o:bc):Bool:=decide (o.Id=id)
def ml(h:ac)(id:Int):Int:=cu (NL id) h.K
def lI(a:Int)(l:aB):Bool:=decide (l.S*16=a)
def r8(h:ac)(a:Int):Int:=cu (lI a) h.J
def mE(h:ac)(a:dv):Prop:=0<=a.a1/\a.a1<=h.Q.length - 1
instance (h:ac) (a:dv):Decidable (mE h a):=by unfold mE;infer_instance
def uO(w:bn)(a:dv)(i:Nat):bn × Int:=
 if w.Z.G.b=100000 then(w,6)
 else if mE w.Z a then(⟨(freeT w.Z a.a1.toNat i).1,if(freeT w.Z a.a1.toNat i).2=0 then jI w.c6 (nth w.Z.K i).Id else w.c6⟩,(freeT w.Z a.a1.toNat i).2)
 else(w,1)
def ru(w:bn)(a:dv)(i:Nat):bn × Int:=
 if ¬(0<=a.At/\a.At<=(nth w.Z.K i).k - 1) then(w,90)
 else if(au w.Z.G.F.O (((nth w.Z.K i).U+a.At) / 16)).y=1 then(w,2)
 else if ¬(0<=a.Value/\a.Value<=999) then(w,3)
 else(⟨{w.Z with G:=iH w.Z.G ((nth w.Z.K i).U+a.At) a.Value},dM w.c6 (nth w.Z.K i).Id a.At a.Value⟩,0)
def i6(h:ac)(i:Nat)(n:Int):Prop:=0<=r8 h (nth h.K i).U/\9<=n/\n<=(nth h.J (r8 h (nth h.K i).U).toNat).k
instance (h:ac) (i:Nat) (n:Int):Decidable (i6 h i n):=by unfold i6;infer_instance
def ve(w:bn)(a:dv)(i:Nat):bn × Int:=
 if w.Z.G.b≠100000/\i6 w.Z i a.Value then(⟨trimH w.Z i (r8 w.Z (nth w.Z.K i).U).toNat a.Value,eO w.c6 (nth w.Z.K i).Id a.Value⟩,0) else(w,90)
def m0(w:bn)(a:dv)(i:Nat):bn × Int:=if a.b5=2 then uO w a i else if a.b5=3 then ru w a i else ve w a i
def iD(h:ac)(a:dv):ac × Int:=
 if a.b5=5 then(if mE h a/\0<(nth h.q.T a.a1.toNat).length then({h with q:=gg h.q a.a1.toNat},0) else(h,90))
 else if ¬(h.G.b≠100000/\mE h a) then(h,0)
 else if a.b5=6 then(collect h a.a1.toNat,((nth h.q.w a.a1.toNat).length:Nat))
 else((flushN a.a1.toNat h 4).1,((flushN a.a1.toNat h 4).2:Nat))
def rN(h:ac)(n:Int):ac × Int:=if h.G.b≠100000/\(0<=n/\n<=1000)/\h.b2+n<=1000000 then(tick h n,((lT h n).length:Nat)) else(h,0)
def oJ(h:ac):Bool:=h.a3&&decide (h.G.b<=99000)
def lg(h:ac):Nat->ac × Nat
 | 0=>(h,0)
 | i+1=>if oJ (lg h i).1=true then(mStep (lg h i).1,(lg h i).2+1) else lg h i
def rL(h:ac):ac × Int:=if h.a3=true then(h,90) else((started h).1,if(started h).2=true then 0 else 90)
def nu(w:bn)(a:dv):bn × Int:=
 if a.b5=1 then(⟨(eX w.Z a.a1 a.N).1,if(eX w.Z a.a1 a.N).2.2=0 then iW w.c6 a.N else w.c6⟩,(eX w.Z a.a1 a.N).2.2)
 else if a.b5=2\/a.b5=3\/a.b5=4 then(if ml w.Z a.N<0 then(w,90) else m0 w a (ml w.Z a.N).toNat)
 else if a.b5=5\/a.b5=6\/a.b5=7 then(⟨(iD w.Z a).1,w.c6⟩,(iD w.Z a).2)
 else if a.b5=8 then(⟨(rN w.Z a.N).1,w.c6⟩,(rN w.Z a.N).2)
 else if a.b5=9 then(⟨(rL w.Z).1,w.c6⟩,(rL w.Z).2)
 else if a.b5=10/\0<=a.N/\a.N<=50 then(⟨(lg w.Z a.N.toNat).1,w.c6⟩,((lg w.Z a.N.toNat).2:Nat))
 else(w,90)
structure pe(w:bn)(m:Nat):Prop where
 inv:bf w.Z []
 ji:JI w.Z
 ref:qu w.c6 m
variable{w:bn}
def pe.more(h:pe w m)(a:m<=n):pe w n:=⟨h.inv,h.ji,h.ref.more a⟩
theorem pe.jk(h:pe w m){g:ac}(a:bf g []/\JK w.Z g)(b:qu r m):pe ⟨g,r⟩ m:=⟨a.1,h.ji.keep a.1 a.2,b⟩
theorem kq(b:bf h E){o:bc}(i:o∈h.K){k:Int}(C:0<=k/\k<=o.k - 1):(au h.G.F.O ((o.U+k) / 16)).y≠0/\0<=o.U/\o.U+k<512:=by
 rcases b.oow o i with⟨s,f,p,q⟩|⟨l,g,D,F⟩
 ·have a:=b.L.sok s f
  have r:=aJ a;obtain⟨t,u,w⟩:=b.mapped f;have c:=dd r.2.2;obtain⟨G,H,y,-⟩:=p;have d:o.k<=csz s.a:=by
   have J:=mC (n:=o.k) ω;rw[q];have:o.k=1\/o.k=2\/o.k=3\/o.k=4\/o.k=5\/o.k=6\/o.k=7\/o.k=8:=ω
   rcases this with e|e|e|e|e|e|e|e<;>rw[e]<;>decide
  have A:(o.U+k) / 16=s.S:=by
   rcases c with e|e|e|e<;>rw[e]at y d<;>omega
  rw[A];refine⟨?_,ω,ω⟩;unfold au;rw[CJ ⟨t,u⟩];exact w
 obtain⟨j,K,rfl⟩:=b9 g;have B:=b.L.lok _ g
 grind[nh,bZ]
theorem pe.obj(h:pe w m)(a:dv)(c:i<w.Z.K.length):pe (m0 w a i).1 m:=by
 unfold m0;split
 ·grind[pe.jk,bf.freeT,pe.inv,qu.free,pe.ref,uO,mE]
 split
 ·unfold ru
  split
  ·exact h
  rename_i k;split
  ·exact h
  split
  ·exact h
  rename_i l;exact h.jk (h.inv.store (kq h.inv (ax c) ω).1 ω) (h.ref.store _ _ _)
 unfold ve;split
 ·rename_i e
  obtain⟨-,d,f⟩:=e;obtain⟨g,j,n⟩:=eL _ _ d;have b:=of_decide_eq_true j;exact h.jk (h.inv.trimH c g (b.symm.trans (Int.mul_comm _ _)) f) (h.ref.trim _ _)
 exact h
theorem pe.thread(h:pe w m)(a:dv):pe ⟨(iD w.Z a).1,w.c6⟩ m:=by
 unfold iD;split
 ·split
  ·rename_i e
   obtain⟨b,c⟩:=e;unfold mE at b;exact h.jk (g:={w.Z with q:=gg w.Z.q a.a1.toNat}) ⟨h.inv.deliv (by grind[bf.nc,pe.inv]) c,JK.eq rfl rfl rfl rfl⟩ h.ref
  exact h
 split
 ·exact h
 grind[pe.jk,bf.collect,pe.inv,pe.ref,kh,JK.flushN,mE]
theorem Ba{h:ac}(a:bf h [])(b:JI h):∀n,bf (lg h n).1 []/\JI (lg h n).1
 | 0=>⟨a,b⟩
 | n+1=>by
  obtain⟨c,d⟩:=Ba a b n
  grind[bf.mStep,lg,oJ]
theorem pe.act(h:pe w m)(a:dv):pe (nu w a).1 (m+1):=by
 unfold nu;split
 ·have b:=PM (t:=a.a1) (size:=a.N) h.inv
  refine⟨b.1,h.ji.keep b.1 b.2,?_⟩;show qu (if _ then _ else _) (m+1);split
  ·exact h.ref.alloc _
  exact h.ref.more ω
 refine pe.more (m:=m) ?_ ω;split
 ·grind[pe.obj,eL,ml]
 split
 ·exact h.thread a
 split
 ·unfold rN
  split
  ·grind[pe.jk,bf.tick,pe.inv,pe.ref]
  exact h
 split
 ·unfold rL
  split
  ·exact h
  rename_i e;have b:=LN h.inv (by simpa using e);exact⟨b.1,b.2,h.ref⟩
 split
 ·have b:=Ba h.inv h.ji a.N.toNat
  exact⟨b.1,b.2,h.ref⟩
 exact h
structure eH where
 a2:Nat
 W:Nat
 c4:Nat
 c2:Int
 d:List Int
deriving Inhabited
structure KX(c:eH):Prop where
 p:1<=c.a2/\c.a2<=32
 f:1<=c.W/\c.W<=32
 t:1<=c.c4/\c.c4<=4
 l:0<=c.c2/\c.c2<=1000
 r:c.d.length<=40/\∀x∈c.d,0<=x
def world0(c:eH):bn:=⟨rX c.a2 c.W c.c4 c.c2 c.d,{o:=1,K:=[]}⟩
def yE(c:eH)(acts:List dv):Nat->bn × List Int
 | 0=>(world0 c,[])
 | i+1=>((nu (yE c acts i).1 (nth acts i)).1,(yE c acts i).2++[(nu (yE c acts i).1 (nth acts i)).2])
def PO{c:eH}(h:KX c):pe (world0 c) 0:=
 ⟨KK h.p h.f h.t h.l h.r,JI.no rfl,⟨O5 _,λo a=>(by cases a),by show(0:Int)<=1;omega,by show(1:Int)<=((0:Nat):Int)+1;omega⟩⟩
def Bx{c:eH}(h:KX c)(acts:List dv):∀n,pe (yE c acts n).1 n
 | 0=>PO h
 | n+1=>(Bx h acts n).act _
open Go Tx Go.Proofs.YtfdfgipemcbekaaGreatDoor.Sp Ac
noncomputable section
def vO(r:ByteArray):Int:=(valL r.data.toList:Nat)
def acz(z:List Int):dv:=⟨nth z 0,nth z 1,nth z 2,nth z 3,nth z 4⟩
def Ua(k:Nat)(a:List Int):dv:=
 match k with
 | 1=>⟨1,nth a 0,nth a 1,0,0⟩
 | 2=>⟨2,nth a 0,nth a 1,0,0⟩
 | 3=>⟨3,0,nth a 0,nth a 1,nth a 2⟩
 | 4=>⟨4,0,nth a 0,0,nth a 1⟩
 | 5=>⟨5,nth a 0,0,0,0⟩
 | 6=>⟨6,nth a 0,0,0,0⟩
 | 7=>⟨7,nth a 0,0,0,0⟩
 | 8=>⟨8,0,nth a 0,0,0⟩
 | 9=>⟨9,0,0,0,0⟩
 | 10=>⟨10,0,nth a 0,0,0⟩
 | _=>⟨0,0,0,0,0⟩
variable{s:ByteArray}
def F8{z b:List Int}(h:IsAct s z)(h':IsAct s b):z=b:=by
 obtain⟨_,k,c,_,rfl⟩:=h;obtain⟨_,d,a,_,rfl⟩:=h';rw[fits_inj c a]
def prs(s:ByteArray):Option dv:=@dite _ (∃z,IsAct s z) (Classical.propDecidable _) (λh=>some (acz (Classical.choose h))) λ_=>none
def HM{z:List Int}(h:IsAct s z):prs s=some (acz z):=by
 have a:∃z,IsAct s z:=⟨z,h⟩
 unfold prs;rw[dif_pos a,F8 (Classical.choose_spec a) h]
def oI(h:∀z,¬IsAct s z):prs s=none:=by
 unfold prs;rw[dif_neg λ⟨z,a⟩=>h z a]
def VP(k:Nat)(h1:1<=k)(h2:k<=10)(rs:List ByteArray)(h:rs.length=(idx k).length):acz (zsP k rs (idx k).length)=Ua k (rs.map vO):=by
 rcases kinds k h1 h2 with rfl|rfl|rfl|rfl|rfl|rfl|rfl|rfl|rfl|rfl
 all_goals
  simp only[idx,List.length_cons,List.length_nil]at h
  match rs,h with
  | [],h=>first|(simp at h;done)|rfl
  | [a],h=>first|(simp at h;done)|rfl
  | [a,b],h=>first|(simp at h;done)|rfl
  | [a,b,c],h=>first|(simp at h;done)|rfl
  | _::_::_::_::_,h=>simp at h;try omega
def TT(f:ByteArray):(∃k,1<=k/\k<=10/\f=word k)\/∀k,1<=k->k<=10->f≠word k:=by
 by_cases h:∃k,1<=k/\k<=10/\f=word k
 ·exact .inl h
 exact .inr λk a b e=>h ⟨k,a,b,e⟩
def zA(s f:ByteArray)(h:f∈fields s):f.size<=s.size:=by
 obtain⟨p,a,rfl⟩:=O8.1 h;have b:=spans_mem s p a;unfold cut;rw[ByteArray.size_extract];omega
def HL(h:¬LineOk s):prs s=none:=oI λ_ a=>h a.1
def UL(h:fields s=[]):prs s=none:=oI λ_ ⟨_,k,a,_⟩=>by have:=a.2.2.1;rw[h]at this;cases this
def PN{r:ByteArray}(a:r∈(fields s).tail)(h:¬Canon r.data.toList):prs s=none:=oI λ_ ⟨_,_,_,b,_⟩=>h (b r a)
variable{rs:List ByteArray}
def Tp{f:ByteArray}(b:fields s=f::rs)(h:∀k,1<=k->k<=10->f≠word k):prs s=none:=oI λ_ ⟨_,k,a,_⟩=>by
 have:=a.2.2.1;rw[b]at this;exact h k a.1 a.2.1 (Option.some.inj this)
def UR{k:Nat}(b:fields s=word k::rs)(h1:1<=k)(h2:k<=10)(h:(idx k).length≠rs.length):prs s=none:=oI λ_ ⟨_,c,a,_⟩=>by
 have e:=a.2.2.1;rw[b]at e;obtain rfl:=word_inj _ _ h1 h2 a.1 a.2.1 (Option.some.inj e);have:=a.2.2.2;rw[b,List.length_cons]at this;omega
def WC{k:Nat}(b:LineOk s)(a:fields s=word k::rs)(h1:1<=k)(h2:k<=10)(h:(idx k).length=rs.length)(c:∀r∈rs,Canon r.data.toList):prs s=some (Ua k (rs.map vO)):=by
 rw[<-VP k h1 h2 rs h.symm,HM (z:=zsP k rs (idx k).length) ⟨b,k,⟨h1,h2,by rw[a];rfl,by rw[a,List.length_cons,h]⟩,by rw[a];exact c,by rw[a];rfl⟩]
end
open Go Ac Tx Go.Proofs.YtfdfgipemcbekaaGreatDoor.Sp
noncomputable section
def fX:List UInt8->List (List UInt8)
 | []=>[[]]
 | c::l=>if c=10 then []::fX l else match fX l with
  | []=>[[c]]
  | x::r=>(c::x)::r
def Qo(l:List UInt8):fX l≠[]:=by
 cases l with
 | nil=>simp[fX]
 | cons c l=>
  simp only[fX];split
  ·simp
  split<;>simp
def um(a:List UInt8)(l:List UInt8)(h:(10:UInt8)∉a):fX (a++10::l)=a::fX l:=by
 induction a with
 | nil=>simp[fX]
 | cons c a d=>
  have f:c≠10:=λe=>h (by simp[e])
  have b:=d λe=>h (by simp[e])
  simp only[List.cons_append,fX];rw[CI f,b]
def tZ(a:List UInt8)(h:(10:UInt8)∉a):fX a=[a]:=by
 induction a with
 | nil=>rfl
 | cons c a d=>
  have f:c≠10:=λe=>h (by simp[e])
  have b:=d λe=>h (by simp[e])
  simp only[fX];rw[CI f,b]
def dz(s:ByteArray):List ByteArray:=(fX s.data.toList).map λl=>⟨l.toArray⟩
def LK(l:List UInt8):(fX l).length<=l.length+1:=by
 induction l with
 | nil=>simp[fX]
 | cons c l a=>
  simp only[fX];split
  ·simp;omega
  split<;>rename_i h<;>rw[h]at a<;>simp at a |-<;>omega
def uy(s:ByteArray)(b:Nat):List ByteArray:=if b<=s.size then(fX (s.data.toList.drop b)).map (λl=>⟨l.toArray⟩) else []
def Qb(s:ByteArray):dz s=[]++uy s 0:=by
 unfold uy dz;rw[CJ (C1 _),List.drop_zero,List.nil_append]
def F9(s:ByteArray)(a b:Nat):s.extract a b = ⟨((s.data.toList.drop a).take (b - a)).toArray⟩:=by
 apply ByteArray.ext;apply Array.ext';rw[ByteArray.data_extract];simp
variable{b i:Nat}{s:ByteArray}
def QD(l:b<=i)(n:i<s.size)(e:s.data[i]? = some 10)(f:∀j,b<=j->j<i->s.data[j]?≠some 10):uy s b=s.extract b i::uy s (i+1):=by
 have g:s.data.toList.length=s.size:=rfl;have hsplit:s.data.toList.drop b=(s.data.toList.drop b).take (i - b)++10::s.data.toList.drop (i+1):=by
  have c:s.data.toList.drop b=(s.data.toList.drop b).take (i - b)++(s.data.toList.drop b).drop (i - b):=(List.take_append_drop _ _).symm;rw[List.drop_drop,show b+(i - b)=i by omega]at c;have h:s.data.toList.drop i=10::s.data.toList.drop (i+1):=by
   rw[List.drop_eq_getElem_cons ω]
   congr 1
   rw[<-Array.getElem?_toList,Z3 ω]at e;exact Option.some.inj e
  rw[h]at c;exact c
 have d:(10:UInt8)∉(s.data.toList.drop b).take (i - b):=λk=>by
  obtain⟨j,a⟩:=List.getElem?_of_mem k;rw[List.getElem?_take]at a;split at a
  ·rw[List.getElem?_drop,Array.getElem?_toList]at a
   exact f (b+j) ω ω a
  cases a
 unfold uy;rw[CJ ω,CJ ω,hsplit,um _ _ d,SB,F9 s b i]
def QH(e:b<=s.size)(f:∀j,b<=j->j<s.size->s.data[j]?≠some 10):uy s b=[s.extract b s.size]/\uy s (s.size+1)=[]:=by
 have g:s.data.toList.length=s.size:=rfl;have a:(10:UInt8)∉s.data.toList.drop b:=λh=>by
  obtain⟨j,c⟩:=List.getElem?_of_mem h;have d:j<(s.data.toList.drop b).length:=(C4.1 c).1;rw[I6]at d;rw[List.getElem?_drop,Array.getElem?_toList]at c;exact f (b+j) ω ω c
 unfold uy;rw[CJ e,CI ω,tZ _ a,SB,F9,ZD ε];exact⟨rfl,rfl⟩
def tp(l:List UInt8)(c:UInt8):Lib.index l [c]=Lib.indexByte l c:=by
 induction l with
 | nil=>rfl
 | cons b l a=>
  simp only[Lib.index,Lib.indexByte,a,List.isPrefixOf,Bool.and_true];by_cases h:b=c
  ·subst h;simp
  have d:(c == b)=false:=beq_eq_false_iff_ne.2 λe=>h e.symm
  have f:(b == c)=false:=beq_eq_false_iff_ne.2 h;rw[d,f]
def vo:∀(fuel:Nat)(l:List UInt8),l.length<fuel->Lib.splitK [10] 0 (Lib.countFrom [10] fuel l) l=fX l
 | 0,_,h=>absurd h ω
 | fuel+1,l,h=>by
  have n:=Lib.indexByte_ge l 10;unfold Lib.countFrom;rw[tp];by_cases i:Lib.indexByte l 10 = -1
  ·rw[i,CJ qs]
   have a:(10:UInt8)∉l:=λe=>by
    obtain⟨j,b⟩:=List.getElem?_of_mem e;exact Lib.indexByte_none i j b
   rw[tZ _ a]
   rfl
  obtain⟨o,f⟩ : ∃o:Nat,Lib.indexByte l 10=(o:Int):=⟨(Lib.indexByte l 10).toNat,ω⟩
  obtain⟨g,p⟩:=Lib.indexByte_some f;have c:o<l.length:=(C4.1 g).1;have d:((o:Int) == -1)=false:=beq_eq_false_iff_ne.2 ω;rw[f,d,CI qs,Z4,Nat.add_comm 1,Lib.splitK,tp,f,d,CI qs,Z4,Nat.add_zero];have q:l=l.take o++10::l.drop (o+1):=by
   have k:=(List.take_append_drop o l).symm;rw[List.drop_eq_getElem_cons c]at k;rw[Z3 c]at g
   rwa [Option.some.inj g]at k
  have a:(10:UInt8)∉l.take o:=λe=>by
   obtain⟨j,b⟩:=List.getElem?_of_mem e;rw[List.getElem?_take]at b;split at b
   ·exact p j ω b
   cases b
  have r:=vo fuel (l.drop (o+1)) ε;have t:([10]:List UInt8).length=1:=rfl;rw[t,r]
  conv=>rhs;rw[q]
  rw[um _ _ a]
def GR(s:ByteArray):Lib.splitB ⟨#[10]⟩ 0 (Lib.countB s ⟨#[10]⟩) s=dz s:=by
 have h:=Lib.splitB_data ⟨#[10]⟩ 0 (Lib.countB s ⟨#[10]⟩) s;have e:(⟨#[10]⟩ : ByteArray).data.toList=[10]:=rfl;have c:=vo (s.data.toList.length+1) s.data.toList ω;have b:Lib.countB s ⟨#[10]⟩ = Lib.countFrom [10] (s.data.toList.length+1) s.data.toList:=rfl;rw[e,b,c]at h;rw[b];unfold dz;rw[<-h,List.map_map]
 conv=>lhs;rw[<-List.map_id (Lib.splitB ⟨#[10]⟩ 0 (Lib.countFrom [10] (s.data.toList.length+1) s.data.toList) s)]
 apply List.map_congr_left;intro a _
 rfl
def xZ:∀(fuel:Nat)(l:List UInt8),l.length<fuel->(fX l).length=Lib.countFrom [10] fuel l+1
 | 0,_,h=>absurd h ω
 | fuel+1,l,h=>by
  have n:=Lib.indexByte_ge l 10;unfold Lib.countFrom;rw[tp];by_cases g:Lib.indexByte l 10 = -1
  ·rw[g,CJ qs]
   have a:(10:UInt8)∉l:=λd=>by
    obtain⟨j,b⟩:=List.getElem?_of_mem d;exact Lib.indexByte_none g j b
   rw[tZ _ a]
   rfl
  obtain⟨o,i⟩ : ∃o:Nat,Lib.indexByte l 10=(o:Int):=⟨(Lib.indexByte l 10).toNat,ω⟩
  obtain⟨e,p⟩:=Lib.indexByte_some i;have c:o<l.length:=(C4.1 e).1;have f:((o:Int) == -1)=false:=beq_eq_false_iff_ne.2 ω;rw[i,f,CI qs,Z4,Nat.add_comm 1];have q:l=l.take o++10::l.drop (o+1):=by
   have k:=(List.take_append_drop o l).symm;rw[List.drop_eq_getElem_cons c]at k;rw[Z3 c]at e
   rwa [Option.some.inj e]at k
  have a:(10:UInt8)∉l.take o:=λd=>by
   obtain⟨j,b⟩:=List.getElem?_of_mem d;rw[List.getElem?_take]at b;split at b
   ·exact p j ω b
   cases b
  have r:=xZ fuel (l.drop (o+1)) ε;have t:([10]:List UInt8).length=1:=rfl;rw[t]
  conv=>lhs;rw[q]
  rw[um _ _ a,List.length_cons,r]
def Hh(s:ByteArray):Lib.countB s ⟨#[10]⟩ + 1=(dz s).length:=by
 have h:=xZ (s.data.toList.length+1) s.data.toList ω;have a:Lib.countB s ⟨#[10]⟩ = Lib.countFrom [10] (s.data.toList.length+1) s.data.toList:=rfl;rw[a,<-h];simp[dz]
def mZ:∀(l:List UInt8)(x:List UInt8),x∈fX l->x.length<=l.length
 | [],x,h=>by simp[fX]at h;subst h;simp
 | c::l,x,h=>by
  simp only[fX]at h;split at h
  ·rcases List.mem_cons.1 h with rfl|h
   ·simp
   have:=mZ l x h;simp;omega
  split at h
  ·rename_i a;exact absurd a (Qo l)
  rename_i y r a;rcases List.mem_cons.1 h with rfl|h
  ·have:=mZ l y (by rw[a];simp);simp;omega
  have:=mZ l x (by rw[a];simp[h]);simp;omega
def Wp(l:ByteArray):Bool:=yO l&&match fields l with|[]=>true|f::_=>decide (byt f 0=59)
def Gl(l:ByteArray):Option (List dv):=if Wp l=true then some [] else(prs l).map λa=>[a]
def qx(L:List ByteArray):List dv:=L.flatMap λl=>(Gl l).getD []
def Eg(L:List ByteArray):Prop:=∀l∈L,Gl l≠none
def parse(s:ByteArray):List dv × Nat × Bool:=
 if 20000<s.size then([],0,false) else match(dz s).findIdx? (λl=>(Gl l).isNone) with
  | some k=>([],k+1,false)
  | none=>if 80<(qx (dz s)).length then([],0,false) else(qx (dz s),(dz s).length,true)
def Fs(h:20000<s.size):parse s=([],0,false):=by unfold parse;rw[CJ h]
variable{l:ByteArray}
def wQ{L1 L2:List ByteArray}(h:¬20000<s.size)(a:dz s=L1++l::L2)(b:Eg L1)(c:Gl l=none):parse s=([],L1.length+1,false):=by
 have e:(dz s).findIdx? (λl=>(Gl l).isNone)=some L1.length:=by
  rw[a,List.findIdx?_append,List.findIdx?_eq_none_iff.2 λx d=>by have:=b x d;cases e:Gl x with|none=>exact absurd e this|some _=>rfl];simp[List.findIdx?_cons,c]
 unfold parse;rw[CI h,e]
def Af(h:¬20000<s.size)(a:Eg (dz s)):parse s=if 80<(qx (dz s)).length then([],0,false) else(qx (dz s),(dz s).length,true):=by
 have e:(dz s).findIdx? (λl=>(Gl l).isNone)=none:=List.findIdx?_eq_none_iff.2 λx b=>by have:=a x b;cases e:Gl x with|none=>exact absurd e this|some _=>rfl
 unfold parse;rw[CI h,e]
def Ff(L:List ByteArray)(l:ByteArray):qx (L++[l])=qx L++(Gl l).getD []:=by unfold qx;rw[List.flatMap_append];simp
def UU(l:ByteArray):((Gl l).getD []).length<=1:=by
 unfold Gl;split
 ·simp
 cases prs l<;>simp
def AW:∀L:List ByteArray,(qx L).length<=L.length
 | []=>by simp[qx]
 | l::L=>by
  have b:=UU l;have a:=AW L;unfold qx at a |-;rw[CD,C6,List.length_cons];omega
variable{L:List ByteArray}
def Eg.snoc(h:Eg L)(b:Gl l≠none):Eg (L++[l]):=λx a=>by
 rcases I5.1 a with a|a
 ·exact h x a
 rw[I2.1 a];exact b
def E8(s:ByteArray):(dz s).length<=s.size+1:=by
 have:=LK s.data.toList;unfold dz;rw[Z1];exact this
def ED(s:ByteArray):(parse s).1.length<=80:=by
 unfold parse;split
 ·simp
 split
 ·simp
 split
 ·simp
 simp only;omega
end
open Go.RowKit
def EF:List MA->Bool
 | []=>true
 | .ptr _::_=>false
 | _::A=>EF A
def XV:MA->MA
 | .mut ag cs=>.mut ag (List.replicate cs.length .x)
 | m=>m
def Dl:Nat->List MA->List (Nat × AV)
 | _,[]=>[]
 | i,.val a cs::A=>(i,.Y (kZ a) cs)::Dl (i+1) A
 | i,.mut a cs::A=>(i,.Y (kZ a) cs)::Dl (i+1) A
 | i,.ptr cs::A=>(i,.Y .box cs)::Dl (i+1) A
def Wz:MA->AV
 | .val a cs=>.Y (kZ a) cs
 | .mut a cs=>.Y (kZ a) cs
 | .ptr cs=>.Y .box cs
def XE(TE:Nat->Option TI)(rs:List ResultVar)(k:Kd)(rcs:List C):Exit->(Nat->AV)->Prop:=λe F=>
 match e with
 | .normal=>resA TE F rs [] λa b=>aY (gT a) k b rcs True
 | .ret=>resA TE F rs [] λa b=>aY (gT a) k b rcs True
 | _=>False
section
variable{P:Program}{w0 w w1:World}{M S0 S:af}{N:fF}{φ:Nat->af}{F:Nat->AV}{a:Act}{TE:Nat->Option TI}
def EG:∀{A:List MA}{vs:List Value}{V:Nat->af}(i:Nat),P4 w S V A vs->∀t,(lay (Dl i A) t=.dead)\/(∃m v,i<=t/\vs[t - i]? = some v/\A[t - i]? = some m/\lay (Dl i A) t=Wz m/\rx w S (V (t - i)) m v)
 | [],_,_,i,_,t=>.inl rfl
 | m::A,[],_,i,h,t=>h.elim
 | m::A,v::vs,V,i,h,t=>by
  have c:lay (Dl i (m::A)) t=bif Nat.beq t i then Wz m else lay (Dl (i+1) A) t:=by cases m<;>rfl
  rw[c];cases a:Nat.beq t i with
  | true=>
   have:=O3 a;subst this;exact .inr ⟨m,v,O5 _,by simp,by simp,rfl,by rw[Nat.sub_self];exact h.1⟩
  | false=>
   have d:t≠i:=λe=>by subst e;rw[Nat.beq_refl]at a;cases a
   rcases EG (i+1) h.2 t with b|⟨f,g,b,j,k,l,n⟩
   ·exact .inl b
   refine .inr ⟨f,g,ω,?_,?_,l,?_⟩
   ·rw[show t - i=(t - (i+1))+1 by omega];simpa using j
   ·rw[show t - i=(t - (i+1))+1 by omega];simpa using k
   rw[show t - i=(t - (i+1))+1 by omega];exact n
def Jj{d:World}{S':af} : ∀{A:List MA}{vs:List Value}{V:Nat->af},EF A=true->P4 w S V A vs->AY d S' (λ_=>NO) (A.map XV) vs
 | [],[],_,_,_=>trivial
 | [],_::_,_,_,h=>h.elim
 | _::_,[],_,_,h=>h.elim
 | .ptr _::_,_::_,_,a,_=>by cases a
 | .val ag cs::A,v::vs,V,a,h=>⟨tV1,Jj (A:=A) a h.2⟩
 | .mut ag cs::A,v::vs,V,a,h=>by
  refine⟨?_,Jj (A:=A) a h.2⟩;obtain⟨e,f,g⟩:=bm.celF (show bm w S (V 0) ag cs v from h.1);refine⟨by rw[C7];exact e,celF v,f,λ_=>NO,λj c i=>?_,λ_ _ _ _ h=>h.elim,λ_ _ _ _ _ _ _ h=>h.elim⟩;obtain⟨b,rfl⟩:=List.getElem?_replicate.symm.trans i |> λh=>by
   rw[<-List.getElem?_replicate]at h;have b:=(C4.1 h).1;rw[C7]at b;rw[List.getElem?_replicate,CJ b]at h;exact CQ b (Option.some.inj h).symm
  exact .x _ _ (g.one b)
def Wh:C->C
 | .s _ rows=>.hd rows.length
 | _=>.x
def Wq:MA->MA
 | .mut ag cs=>.mut ag (cs.map Wh)
 | m=>m
def cU.drop{F S' F':af}{d:World}{c:C}{v:Value}(h:cU w S F c v):cU d S' F' (Wh c) v:=by
 have e:=h.one;cases c with
 | s o a=>obtain⟨b,f,rfl⟩:=h.slice;exact .hd _ _ _ _
 | _=>exact .x _ _ e
def xu{e:World}{S':af} : ∀{A:List MA}{vs:List Value}{V:Nat->af},EF A=true->P4 w S V A vs->AY e S' (λ_=>NO) (A.map Wq) vs
 | [],[],_,_,_=>trivial
 | [],_::_,_,_,h=>h.elim
 | _::_,[],_,_,h=>h.elim
 | .ptr _::_,_::_,_,a,_=>by cases a
 | .val ag cs::A,v::vs,V,a,h=>⟨tV1,xu (A:=A) a h.2⟩
 | .mut ag cs::A,v::vs,V,a,h=>by
  refine⟨?_,xu (A:=A) a h.2⟩;obtain⟨g,u,i,f,k,-⟩:=(show bm w S (V 0) ag cs v from h.1)
  refine⟨by rw[Z1];exact g,u,i,λ_=>NO,λj c b=>?_,λ_ _ _ _ h=>h.elim,λ_ _ _ _ _ _ _ h=>h.elim⟩;rw[Z5]at b;cases d:cs[j]? with
  | none=>rw[d]at b;cases b
  | some l=>rw[d]at b;obtain rfl:=Option.some.inj b;exact(k j l d).drop
def Qp{R : MA -> MA}(T : ∀{w d : World}{S S' : af}{A : List MA}{vs : List Value}{V : Nat -> af}, EF A = true -> P4 w S V A vs -> AY d S' (λ_ => NO) (A.map R) vs){f : Nat}{g : Func}{c : Code}{A : List MA}{k : Kd}{rcs : List C}{mo : List (Nat × List Nat)}{n : Nat}(K : ∀t i, TE t = some i -> ix P t i)(hf : P.funcs[f]? = some g)(hn : (g.name == "runtime.NumGoroutine") = false)(y:g.body=some c){ck:Nat->Array Oper->Bool}{D:fF->Nat->Array Oper->((Nat->AV)->Prop)->(Nat->AV)->Prop}(hD:∀N,Di P N ck (D N))(hc:gU ck c=true)(hN:A.length+(g.ntmps - A.length)=n)(U:EF A=true)(W:fy rcs)(hp:aw P TE ⟨n,[],mo⟩ (D ⟨n,[],mo⟩) c (XE TE g.results.toList k rcs) (lay (Dl 0 A))):aU P f false A (A.map R) k rcs:=by
 refine⟨⟨g,hf,hn,by rw[y];rfl⟩,λw S V vs hS hV Z hA=>?_⟩;have hlen:=FO hA;refine calls_of_wp hf y ?_;have htv:∀t v,vs[t]? = some v->tvs {tmps:=vs.toArray++Array.replicate (g.ntmps - vs.toArray.size) undef,defers:=[]} t=v:=λt v B=>by
  have hlt:=(C4.1 B).1;simp only[tvs,ZC];rw[Array.getElem?_append_left (by simpa using hlt)];simp only[List.getElem?_toArray];rw[B];rfl
 have hst:St w (λb o=>∃i,V i b o) S ⟨n,[],mo⟩ (lay (Dl 0 A)) {tmps:=vs.toArray++Array.replicate (g.ntmps - vs.toArray.size) undef,defers:=[]} w:=by
  refine⟨S,V,λt=>?_,Z,λt b o h=>(hV t b o h).2,λt b o h=>⟨(hV t b o h).1,.inr ⟨t,h⟩⟩,λ_ _ h=>h,λb o h=>⟨hS.1 b o h,.inl h⟩,Cj _ _,by simp;omega,rfl,⟨λq hq=>(by simp at hq),hS.2⟩⟩;rcases EG 0 hA t with h1|⟨m,v,-,B,h2',h3,G⟩
  ·rw[h1];trivial
  rw[h3];rw[Nat.sub_zero]at B G;rw[htv t v B];cases m with
  | val u p=>exact(bm.mono (show bm w S NO u p v from G) (λ_ _ h=>h) (λ_ _ h=>h.elim)).slot
  | «mut» u p=>exact bm.slot (show bm w S (V t) u p v from G)
  | ptr p=>exact G
 refine jE K (hD _) c hc _ _ _ _ w hp hst λe F' H d he hs'=>?_
 obtain⟨S',φ',h⟩:=hs';have fin:resA TE F' g.results.toList [] (λsh p=>aY (gT sh) k p rcs True)->H.defers=[]/\∃v,(results g H.tmps).run P d=.ok v d/\(∃v',Ending.returned v=.returned v'/\bu (λb o=>∃i,V i b o) w d/\∃(X:af)(J:Nat->af)(S1:af),
     (∀b o,X b o->(∃i,V i b o)\/(b<d.heap.size/\w.heap.size<=b))/\(∀i b o,J i b o->(∃i,V i b o)\/(b<d.heap.size/\w.heap.size<=b))/\
     (∀b o,S1 b o->(false=true/\S b o)\/(∃i,V i b o)\/(b<d.heap.size/\w.heap.size<=b))/\
     (∀i i',i≠i'->∀b o,J i b o->¬J i' b o)/\(∀i b o,X b o->¬J i b o)/\(∀b o,X b o->¬S1 b o)/\(∀i b o,J i b o->¬S1 b o)/\
     fZ d NO k rcs.length v'/\cw d S1 X rcs (co d k v')/\AY d (λb o=>S b o\/S1 b o) J (A.map R) vs):=by
  intro hr;obtain⟨shs,p,a,u',L,M,r,hln,O,hcells,l,Q⟩:=h.resA K hr;obtain⟨rfl,rfl,-⟩:=L.out;refine⟨h.defers,?_⟩;have E:(results g H.tmps).run P d=.ok (if h:a.toArray.size=1 then a.toArray[0] else .tuple a.toArray) d:=by
   have e:results g H.tmps=(do let vs <-g.results.mapM (Fn H.tmps);pure (if h:vs.size=1 then vs[0] else .tuple vs)):=by
    unfold results
    congr 1
   rw[e,<-Array.toArray_toList (xs:=g.results),List.mapM_toArray];simp only[Sem.run_bind,Sem.run_map,M,Result.andThen_ok,Sem.run_pure]
  have hex:∀t b o,φ' t b o->(∃i,V i b o)\/(b<d.heap.size/\w.heap.size<=b):=λt b o y=>(h.ex t b o y).2.elim (λh'=>.inr ⟨(h.ex t b o y).1,h'⟩) .inl
  refine⟨_,E,_,rfl,h.old,λb o=>∃t,t∉([]:List Nat)/\φ' t b o,λ_=>NO,NO,λb o ⟨t,_,y⟩=>hex t b o y,λ_ _ _ h=>h.elim,λ_ _ h=>h.elim,λ_ _ _ _ _ h=>h.elim,λ_ _ _ _ h=>h.elim,λ_ _ _ h=>h.elim,λ_ _ _ h=>h.elim,?_⟩;have hk:fZ d NO (gT shs) p.length (if h:a.toArray.size=1 then a.toArray[0] else .tuple a.toArray)/\cw d S' (λb o=>∃t,t∉([]:List Nat)/\φ' t b o) p (co d (gT shs) (if h:a.toArray.size=1 then a.toArray[0] else .tuple a.toArray)):=by
   match shs,r,l,O with
   | [],r,_,O=>
    cases a with
    | cons _ _=>exact r.elim
    | nil=>
     have:p=[]:=IE (by simpa[uN] using O.symm);subst this;exact⟨⟨_,rfl,tV1,rfl⟩,cw.nil _ _ _ _⟩
   | [u],_,l,_=>
    obtain⟨v,rfl,hv⟩:=l u rfl;have:=hv.slot (F:=F') (tv:=tvs H);obtain⟨X1,Y,h1,B,h3,G,h5⟩:=this;refine⟨?_,h5.mono (λ_ _ h=>h) B⟩;cases u<;>exact G
   | u::ag2::sh,r,_,O=>
    have hsz:¬a.toArray.size=1:=by
     match a,r with
     | [],r=>simp
     | [v],r=>cases u<;>cases ag2<;>exact r.2.elim
     | _::_::_,_=>simp
    rw[dif_neg hsz];refine⟨⟨_,rfl,r,O⟩,Q.congr λj hj=>?_⟩;simp only[co,gT,j8,hcells];simp[List.getD,hj]
  exact⟨hk.1,(hk.2.fresh W).mono (λ_ _ h=>h.elim) (λ_ _ h=>h),T U hA⟩
 cases e with
 | normal=>exact fin he
 | ret=>exact fin he
 | _=>exact he.elim
end
variable{rcs: List C}{A: List MA}{n f: Nat}
def Wg{mo : List (Nat × List Nat)}{a : Func}{c : Code}{k : Kd}(e : Tryz.prog.funcs[f]? = some a)(g : (a.name == "runtime.NumGoroutine") = false)(h : a.body = some c){tb : List (Nat × Nat × List Nat)}(i : gU (oU tb) c = true)(j:A.length+(a.ntmps - A.length)=n)(b:EF A=true)(d:fy rcs)(l:aw Tryz.prog TE ⟨n,[],mo⟩ (DF Tryz.prog TE ⟨n,[],mo⟩ tb) c (XE TE a.results.toList k rcs) (lay (Dl 0 A))):zzB f false A (A.map Wq) k rcs:=
 Qp xu qd e g h (λN=>tw qd un N tb) i j b d l
open Go.RowKit Go.Proofs.YtfdfgipemcbekaaGreatDoor.Sp Ac Tx
set_option maxRecDepth 20000
set_option maxHeartbeats 4000000
variable{a:ByteArray}
def YH{b:ByteArray}(h:a.data.toList=b.data.toList):(a.toList == b.toList)=true:=by
 rw[ByteArray.toList_eq,ByteArray.toList_eq,h];simp
def DM{b:ByteArray}(h:a≠b):(a.toList == b.toList)=false:=by
 rw[ByteArray.toList_eq,ByteArray.toList_eq,beq_eq_false_iff_ne];exact λe=>h (ByteArray.ext (Array.ext' e))
def Yv{b:ByteArray}(h:(a.data.toList == b.data.toList)=false):(a.toList == b.toList)=false:=by
 rw[ByteArray.toList_eq,ByteArray.toList_eq,h]
def BT(s:ByteArray)(d:s.size<=1048576):zzA 39 false [.val none [tC s]] (.tup [none,none]) [I (pN s.data.toList),B (pB s.data.toList)]:=
 .plainT (l:=[.int .i64 (pN s.data.toList),.bool (pB s.data.toList)]) (vs0:=[.int .i64 (pN s.data.toList),.bool (pB s.data.toList)]) (λv b=>by simp at b;rcases b with rfl|rfl<;>rfl) ⟨rfl,rfl,tV1⟩ rfl rfl ⟨_,Tryz.func39,by kernel_rfl,by kernel_rfl⟩ λw S c e g a=>by
  match c,a with
  | [v],⟨a,_⟩=>
   obtain rfl:=val_v (show bm w S NO none [.v (.string s)] v from a);exact Nm.spec_parse s w (by unfold maxLen;omega)
def Yz{l:List Int} : ∀r∈l.map (rI .own),r.length=1:=aI λ_=>rfl
def Ht(l:List Int)(j i:Nat):nth (l++List.replicate j 0) i=nth l i:=by
 unfold nth List.getD;by_cases h:i<l.length
 ·rw[Z8 h]
 rw[C9 ω,I4 (l:=l) ω,List.getElem?_replicate];split<;>rfl
def Qc{f:ByteArray}(k:Nat)(e:f=word k)(h1:1<=k)(h2:k<=10)(a:List Int):zzB 40 false [.val none [tC f],.mut none (aE .own a)] [.val none [tC f],.mut none [.hd (a.map (rI .own)).length]] (.tup [some 5,none]) (dv.enc .R (Ua k a)++[I ((idx k).length:Nat)]):=by
 rcases kinds k h1 h2 with rfl|rfl|rfl|rfl|rfl|rfl|rfl|rfl|rfl|rfl
 all_goals
  refine Wg (n:=86) (mo:=[]) (tb:=[ρ 5 6 15,ρ 7 6 24,ρ 9 9 33,ρ 11 6 45]) Tryz.func40 ϖ rfl ϖ (by rfl) rfl ⟨tV1,tV1,tV1,tV1,tV1,tV1,tV1⟩ ?_
  repeat'(first|refine gE ?_|refine gS (λb=>?_) (λb=>?_)|fail)
  refine lE (ι:=List Int) (λl=>[(0,bK [tC f]),(1,bK (aE .own l)),(4,bF [I 0,I 0,I 0,I 0,I 0])]) (λl=>∃j,l=a++List.replicate j 0/\(j=0\/a.length+j<=3)) (λl=>3 - l.length) (a) (⟨0,by simp,.inl rfl⟩) λl p=>?_
  obtain⟨j,c,q⟩:=p;have d:=I1 List.length c;simp only[C6,C7]at d;by_cases y:l.length<3
  ·repeat'(first|refine gE ?_|refine gS (λb=>?_) (λb=>?_)|refine Cc (rs:=(l++[0]).map (rI .own)) Yz rfl kd qs (by simp[rI,qM]) ?_)
   (exact cV (l++[0]) ⟨j+1,by rw[c,List.replicate_succ',CB],.inr ω⟩)
  have g:=ar (xs:=l) (i:=0) ω;have h:=ar (xs:=l) (i:=1) ω;have o:=ar (xs:=l) (i:=2) ω;have r:nth l 0=nth a 0:=by rw[c];exact Ht ..
  have u:nth l 1=nth a 1:=by rw[c];exact Ht ..
  have w:nth l 2=nth a 2:=by rw[c];exact Ht ..
  repeat'(first|refine gE ?_|refine gS (λb=>?_) (λb=>?_)|refine Bf.t (YH (by rw[e];rfl)) ?_|refine Bf.f (Yv (by rw[e];rfl)) ?_|refine CM rfl ?_ tV1)
  simp only[Ua,<-r,<-u,<-w]
  rfl
def Mi{f:ByteArray}(a:∀k,1<=k->k<=10->f≠word k)(b:List Int):zzB 40 false [.val none [tC f],.mut none (aE .own b)] [.val none [tC f],.mut none [.hd (b.map (rI .own)).length]] (.tup [some 5,none]) (dv.enc .R (Ua 0 b)++[I (-1)]):=by
 refine Wg (n:=86) (mo:=[]) (tb:=[ρ 5 6 15,ρ 7 6 24,ρ 9 9 33,ρ 11 6 45]) Tryz.func40 ϖ rfl ϖ (by rfl) rfl ⟨tV1,tV1,tV1,tV1,tV1,tV1,tV1⟩ ?_
 repeat'(first|refine gE ?_|refine gS (λc=>?_) (λc=>?_)|fail)
 refine lE (ι:=List Int) (λl=>[(0,bK [tC f]),(1,bK (aE .own l)),(4,bF [I 0,I 0,I 0,I 0,I 0])]) (λl=>l.length<=b.length+3) (λl=>3 - l.length) (b) (Nat.le_add_right ..) λl d=>?_
 by_cases e:l.length<3
 ·repeat'(first|refine gE ?_|refine gS (λc=>?_) (λc=>?_)|refine Cc (rs:=(l++[0]).map (rI .own)) Yz rfl kd qs (by simp[rI,qM]) ?_)
  (exact cV (l++[0]) kd)
 repeat'(first|refine gE ?_|refine gS (λc=>?_) (λc=>?_)|refine Bf.f (DM (a 1 qs qs)) ?_|refine Bf.f (DM (a 2 qs qs)) ?_|refine Bf.f (DM (a 3 qs qs)) ?_|refine Bf.f (DM (a 4 qs qs)) ?_|refine Bf.f (DM (a 5 qs qs)) ?_|refine Bf.f (DM (a 6 qs qs)) ?_|refine Bf.f (DM (a 7 qs qs)) ?_|refine Bf.f (DM (a 8 qs qs)) ?_|refine Bf.f (DM (a 9 qs qs)) ?_|refine Bf.f (DM (a 10 qs qs)) ?_|refine CM rfl ?_ tV1)
 rfl
def Xi(o:Option dv):List C:=dv.enc .R (o.getD default)++[B o.isSome]
def TY{r:ByteArray}(h:Canon r.data.toList):pN r.data.toList=vO r/\pB r.data.toList=true:=by
 unfold pN pB vO;rw[CJ h];exact⟨rfl,O0 h⟩
def Wu{r:ByteArray}(h:¬Canon r.data.toList):pN r.data.toList=0/\pB r.data.toList=false:=by
 unfold pN pB;rw[CI h];exact⟨rfl,Z0 h⟩
def Et(s:ByteArray)(G:s.size<=1048576):zzA 25 false [.val none [tC s]] (.tup [some 5,none]) (Xi (prs s)):=by
 have a:fy (Xi (prs s)):=⟨tV1,tV1,tV1,tV1,tV1,tV1,tV1⟩
 have d:=oM s G;cases l:yO s with
 | false=>
  rw[HL (λh=>by rw[KI h]at l;cases l)]at a |-;unfold flds at d;rw[l]at d;refine fO 61 [] Tryz.func25 rfl ?_ (.inr a)
  refine σP ?_
  rfl
 | true=>
  have F:LineOk s:=Classical.byContradiction λh=>by rw[Ag h]at l;cases l
  unfold flds at d;rw[l,CJ rfl]at d;have p:(fields s).length<=24:=by unfold fields;rw[Z1];exact F.2.2
  have t:=zA s;cases i:fields s with
  | nil=>
   rw[i]at d;rw[UL i]at a |-;refine fO 61 [] Tryz.func25 rfl ?_ (.inr a)
   refine σP ?_
   rfl
  | cons f rs=>
   rw[i]at d p t;rw[List.length_cons]at p;have H:(f::rs).length=rs.length+1:=List.length_cons ..;refine fP 61 [(40,[0,1])] [] Tryz.func25 rfl ?_ (.inr a)
   repeat'(first|refine gB ?_|refine gS (λc=>?_) (λc=>?_)|fail)
   refine gl rs.length (λq=>[(2,bF [I 0,I 0,I 0,I 0,I 0]),(4,bK (BN .own (f::rs))),(6,bK (aE .own ((rs.take q).map vO))),(7,fN ((q+1)))]) (λq=>∀r∈rs.take q,Canon r.data.toList) (λ_ h=>by cases h) λq c=>?_
   obtain⟨J,j⟩:=c;by_cases K:q<rs.length
   ·obtain⟨r,C⟩ : ∃r,rs[q]? = some r:=⟨_,Z3 K⟩
    have e:(f::rs)[q+1]? = some r:=C;have u:r∈rs:=I3 C;have g:=BT r (by have:=t r (OA _ u);omega);have w:rs.take (q+1)=rs.take q++[r]:=by rw[ZA,C];rfl
    by_cases n:Canon r.data.toList
    ·rw[(TY n).1,(TY n).2]at g
     repeat'(first|refine gE ?_|refine gS (λc=>?_) (λc=>?_)|refine Cc (rs:=((rs.take q++[r]).map vO).map (rI .own)) Yz rfl kd qs (by simp[rI,qM]) ?_)
     refine CP (q+1) ⟨ω,by rw[w];intro x y;rcases I5.1 y with y|y;exact j x y;rw[I2.1 y];exact n⟩ ω ?_;rw[w];exact wC
    rw[(Wu n).1,(Wu n).2]at g;rw[PN (r:=r) (by rw[i];exact u) n]at a |-
    repeat'(first|refine gE ?_|refine gS (λc=>?_) (λc=>?_)|fail)
    rfl
   obtain rfl:q=rs.length:=ω
   rw[CA]at j |-;have b:(f::rs)[0]? = some f:=rfl;have L:(rs.map vO).length=rs.length:=Z1 ..;have M:((rs.map vO).map (rI .own)).length=rs.length:=by simp
   rcases TT f with⟨k,D,E,o⟩|o
   ·have g:=Qc k o D E (rs.map vO)
    have N:=idx_len k;by_cases B:(idx k).length=rs.length
    ·rw[WC F (o ▸ i) D E B j]at a |-
     repeat'(first|refine gB ?_|with_reducible refine CH b ?_|refine gS (λc=>?_) (λc=>?_)|fail)
     rfl
    rw[UR (o ▸ i) D E B]at a |-
    repeat'(first|refine gB ?_|with_reducible refine CH b ?_|refine gS (λc=>?_) (λc=>?_)|fail)
    rfl
   have g:=Mi o (rs.map vO);rw[Tp i o]at a |-
   repeat'(first|refine gB ?_|with_reducible refine CH b ?_|refine gS (λc=>?_) (λc=>?_)|fail)
   rfl
def Ry(s:ByteArray)(L:List ByteArray)(g:s.size<4294967281)(j:Lib.splitB ⟨#[10]⟩ 0 (Lib.countB s ⟨#[10]⟩) s=L)(l:Lib.countB s ⟨#[10]⟩ + 1=L.length):zzA 71 false [.val none [tC s],.val none [tC ⟨#[10]⟩]] .one (BN .own L):=
 ⟨⟨_,Tryz.func71,by kernel_rfl,by kernel_rfl⟩,λw S p q a=>by
   match p,a with
   | [v,r],⟨a,u,_⟩=>
     obtain rfl:=val_v (show bm w S NO none [.v (.string s)] v from a);obtain rfl:=val_v (show bm w S NO none [.v (.string ⟨#[10]⟩)] r from u);obtain⟨m,y⟩:=q.2.max;refine(Tryz.strings_Split s ⟨#[10]⟩ m w g y qs).mono λe w1 ⟨c,B⟩=>?_
     subst B;rw[l]at c;rw[j];have d:=vC (U0 (w:=w) (S:=NO) L) (n:=L.length) (k:=1) (e:=9) ϕ ω (cells:=(L.map Value.string).toArray) (List.ext_getElem? λi=>by
       rw[Z5,Z5];by_cases h:i<L.length
       · rw[ID (by simpa using h),Z3 h];simp[List.getD,h]
       rw[I4 ω,I4 kd];rfl) (λ_ _ h=>h.elim) (λ_ _ h=>h.elim)
     rw[EQ]at d;exact⟨_,c,cQ w _,_,NO,λb o (C:NO b o\/_)=>C.elim (λh=>h.elim) λh=>⟨h.2,h.1⟩,λ_ _ h=>h.elim,λ_ _ _ h=>h.elim,rfl,row1 d⟩⟩
open Go.RowKit Go.Proofs.YtfdfgipemcbekaaGreatDoor.Sp Ac Tx
def FJ{w0:World}{S:af}(s:ByteArray)(Z:Tb w0 S)(hS:∀b o,S b o->b<w0.heap.size)(hs:s.size<=1048576):PaI.SplitOk s w0:=λw R=>by
 refine((o6 s hs).run w S [.string s] ⟨λb o h=>I7 (hS b o h) R.size,Z.keep (bu.of_below R NO) (λ_ _ h=>h.elim) (λ_ _ h=>h)⟩ ⟨⟨rfl,λ_=>.string s,rfl,row1 (.v _ _ rfl)⟩,tV1⟩).mono ?_
 rintro e w1 ⟨v,rfl,hk,X,S1,-,-,-,⟨K,rfl,H,-⟩,f,q,-⟩
 have r:=hk.below;obtain⟨a,b,E⟩ : ∃a b,K.toList=[a,b]:=by
  match K.toList,H with
  | [a,b],_=>exact⟨a,b,rfl⟩
 rw[E]at H;obtain rfl:K = #[a,b]:=by rw[<-E]
 have hu:∀j,co w1 (.tup [none,none]) (.tuple #[a,b]) j=[a,b].getD j undef:=λj=>by
  show(a.cells.toList++(b.cells.toList++[])).getD j undef=_;rw[H.1,H.2.1];rfl
 have l:=q 0 _ rfl;have T:=q 1 _ rfl;rw[hu]at l T;have L:b=.bool (yO s):=by
  have:cU w1 S1 (f 1) (.v (.bool (yO s))) b:=T;cases this;rfl
 subst L;have l:cU w1 S1 (f 0) (.s .own ((flds s).map (L0 .own))) a:=l;unfold flds at l;cases D:yO s with
 | false=>
  rw[D,CI qs]at l;obtain⟨A,c,J⟩:=l.slice;exact .inr ⟨λh=>(by rw[KI h]at D;cases D),A,c,by rw[J];rfl,r⟩
 | true=>
  have hL:LineOk s:=Classical.byContradiction λh=>by rw[Ag h]at D;cases D
  rw[D,CJ rfl]at l;obtain⟨A,c,J⟩:=l.slice;rw[Z1]at J;subst J;refine .inl ⟨hL,A,c,rfl,λd=>?_,r⟩;generalize p:C.s .own ((fields s).map (L0 .own))=cc at l;generalize M:Value.slice A (fields s).length c=vv at l;cases l with
  | nil=>simp only[C.s.injEq,List.map_eq_nil_iff]at p;rw[p.2]at d;simp at d
  | own _ o g k n N F u U V hn O W hp hF P hf hd hc=>
   cases p;cases M;have Q:k=1:=by
    obtain⟨x,t⟩ : ∃x,x∈fields s:=List.exists_mem_of_length_pos d
    have:=O (L0 .own x) (List.mem_map_of_mem t);rw[<-this];rfl
   subst Q;have B:∀i v,((fields s).map Value.string)[i]? = some v->w1.cell? ⟨g,i,none⟩ = some v:=λi v G=>by
    rw[Z5]at G;cases t:(fields s)[i]? with
    | none=>rw[t]at G;cases G
    | some x=>
     rw[t]at G;obtain rfl:=Option.some.inj G;have hi:i<(fields s).length:=(C4.1 t).1;have Y:=hc i 0 (L0 .own x) (tC x) (by rw[Z5,t];rfl) rfl;rw[Nat.mul_one,Nat.add_zero]at Y;have h2:u i=.string x:=by
      have:cU w1 S1 (U i) (.v (.string x)) (u i):=Y;generalize u i=y at this;cases this;rfl
     rw[<-h2];exact P i ω
   obtain⟨x,t⟩ : ∃x,(fields s)[0]? = some x:=⟨_,Z3 d⟩
   exact⟨g,rfl,World.block_lt_of_cell? w1 _ (B 0 (.string x) (by rw[Z5,t];rfl)),B⟩
  | suf _ o g off k n N F u U V=>cases p;exact V.elim
  | _=>cases p
def DJ(s:ByteArray)(q:s.size<=1048576):zzA 73 false [.val none [tC s]] (.tup [some 5,none]) (Xi (prs s)):=by
 have u:JY Tryz.prog 73:=⟨_,Tryz.func73,by kernel_rfl,by kernel_rfl⟩
 have key:∀(z:List Int)(b:Bool),(∀(w:World)(S:af),Tb w S->(∀b o,S b o->b<w.heap.size)->Calls Tryz.prog 73 #[.string s] w λe j=>e=.returned (.tuple #[PaI.Agg z,.bool b])/\Below w.heap.size w j)->zzA 73 false [.val none [tC s]] (.tup [some 5,none]) (dv.enc .R (acz z)++[B b]):=λz b h=>
  .plainT (l:=[.int .i64 (nth z 0),.int .i64 (nth z 1),.int .i64 (nth z 2),.int .i64 (nth z 3),.int .i64 (nth z 4),.bool b]) (vs0:=[PaI.Agg z,.bool b]) (λv r=>by simp at r;rcases r with rfl|rfl|rfl|rfl|rfl|rfl<;>rfl) ⟨⟨_,rfl,rfl⟩,rfl,tV1⟩ rfl rfl u λw S y c d k=>by
   match y,k with
   | [v],⟨k,_⟩=>
    obtain rfl:=val_v (show bm w S NO none [.v (.string s)] v from k);exact h w S d c
 by_cases h:∃z,IsAct s z
 ·obtain⟨z,g⟩:=h
  rw[HM g];exact key z true λw S d c=>(PaI.impl_any s w (FJ s d c q)).mono λe j ⟨n,p⟩=>by
   rcases n with⟨t,a,i⟩|⟨C,_⟩
   ·exact⟨by rw[i,F8 g a],p⟩
   exact absurd g (C z)
 rw[oI λz g=>h ⟨z,g⟩];exact key [] false λw S d c=>(PaI.impl_any s w (FJ s d c q)).mono λe j ⟨n,p⟩=>by
  rcases n with⟨t,a,i⟩|⟨_,i⟩
  ·exact absurd ⟨t,a⟩ h
  exact⟨i,p⟩
structure qe where
 i:Nat
 h:Int
deriving Inhabited
def w64(x:Int):Int:=IntKind.i64.wrap x
def Ys(h:Int):Int:=w64 (w64 (h*6364136223846793005)+1442695040888963407)
def YB(a b:Int):Int:=w64 ((BitVec.ofInt IntKind.i64.bits a ^^^ BitVec.ofInt IntKind.i64.bits b).toNat:Nat)
def and255(a:Int):Int:=w64 ((BitVec.ofInt IntKind.i64.bits a &&& BitVec.ofInt IntKind.i64.bits 255).toNat:Nat)
def YT(h:Int)(n:Nat):Int:=h.fdiv (2 ^ (min n IntKind.i64.bits))
def Wo(h:Int):Int:=and255 (YB (YT h 33) (YT h 45))
def lL(a:List Int)(c:qe):Int × qe:=if c.i<a.length then(and255 (Wo (Ys c.h)+nth a c.i),⟨c.i+1,Ys c.h⟩) else(Wo (Ys c.h),⟨c.i,Ys c.h⟩)
def W0(a:List Int)(c:qe):Int × qe:=
 ((lL a c).1*16777216+(lL a (lL a c).2).1*65536+(lL a (lL a (lL a c).2).2).1*256+(lL a (lL a (lL a (lL a c).2).2).2).1,(lL a (lL a (lL a (lL a c).2).2).2).2)
def eU(a:List Int)(c:qe)(n:Int):Int × qe:=if n<=256 then((lL a c).1 % n,(lL a c).2) else((W0 a c).1 % n,(W0 a c).2)
def yk(a:List Int)(c:qe)(l:List Int):Int × qe:=(nth l (eU a c (l.length:Nat)).1.toNat,(eU a c (l.length:Nat)).2)
def Yg(a:List Int):Nat->Nat->List Int->qe->List Int × qe
 | 0,_,out,c=>(out,(eU a c 4).2)
 | f+1,i,out,c=>if(i:Int)<(eU a c 4).1 then Yg a f (i+1) (out++[(eU a (eU a c 4).2 12).1]) (eU a (eU a c 4).2 12).2 else(out,(eU a c 4).2)
def YD(a:List Int)(c:qe):List Int × qe:=Yg a 4 0 [] c
def Y4(a:List Int)(c:qe):Int × qe:=eU a c 7
def YW(a:List Int)(c:qe):Int × qe:=eU a (Y4 a c).2 3
def YV(a:List Int)(c:qe):Int × qe:=eU a (YW a c).2 100
def YM(a:List Int)(c:qe):Int × qe:=eU a (YV a c).2 4
def YJ(a:List Int)(c:qe):List Int × qe:=YD a (YM a c).2
def XW(a:List Int)(c:qe):eH:=⟨(6+(Y4 a c).1).toNat,(6+(Y4 a c).1 - (YM a c).1).toNat,(1+(YW a c).1).toNat,40+(YV a c).1,(YJ a c).1⟩
def U4(a:List Int)(c:qe):Int × qe:=eU a c 3
def WS(a:List Int)(c:qe)(ids:Int):Int × qe:=eU a (U4 a c).2 ids
def yW(a:List Int)(c:qe)(ids:Int):Int × qe:=eU a (WS a c ids).2 20
def szs:List Int:=[1,1,2,2,3,4,4,5,8,9,20]
def Wv(a:List Int)(c:qe)(ids:Int):dv × qe:=
 if(yW a c ids).1<=6 then(⟨1,(U4 a c).1,(yk a (yW a c ids).2 szs).1,0,0⟩,(yk a (yW a c ids).2 szs).2)
 else if(yW a c ids).1<=9 then(⟨2,(U4 a c).1,1+(WS a c ids).1,0,0⟩,(yW a c ids).2)
 else if(yW a c ids).1<=12 then(⟨3,(U4 a c).1,1+(WS a c ids).1,(eU a (yW a c ids).2 4).1,1+(eU a (eU a (yW a c ids).2 4).2 999).1⟩,(eU a (eU a (yW a c ids).2 4).2 999).2)
 else if(yW a c ids).1=13 then(⟨4,(U4 a c).1,1+(WS a c ids).1,0,9+(eU a (yW a c ids).2 10).1⟩,(eU a (yW a c ids).2 10).2)
 else if(yW a c ids).1=14 then(⟨(yk a (yW a c ids).2 [5,6]).1,(U4 a c).1,1+(WS a c ids).1,0,0⟩,(yk a (yW a c ids).2 [5,6]).2)
 else if(yW a c ids).1=15 then(⟨7,(U4 a c).1,1+(WS a c ids).1,0,0⟩,(yW a c ids).2)
 else if(yW a c ids).1=16 then(⟨8,(U4 a c).1,(yk a (yW a c ids).2 [1,30,60,120]).1,0,0⟩,(yk a (yW a c ids).2 [1,30,60,120]).2)
 else if(yW a c ids).1=17 then(⟨9,(U4 a c).1,1+(WS a c ids).1,0,0⟩,(yW a c ids).2)
 else(⟨10,(U4 a c).1,(yk a (yW a c ids).2 [1,2,3,10,30]).1,0,0⟩,(yk a (yW a c ids).2 [1,2,3,10,30]).2)
def N5(a:List Int)(c:qe):Nat->List dv × qe
 | 0=>([],(eU a c 41).2)
 | i+1=>((N5 a c i).1++[(Wv a (N5 a c i).2 (1+(i:Int) / 2)).1],(Wv a (N5 a c i).2 (1+(i:Int) / 2)).2)
def We(a:List Int)(c:qe):List dv × qe:=N5 a c (eU a c 41).1.toNat
def XD(a:List Int):Nat->Int
 | 0=>w64 (98801+(a.length:Nat))
 | i+1=>w64 ((BitVec.ofInt IntKind.i64.bits (w64 (w64 (w64 (XD a i*131)+nth a i)+7)) &&& BitVec.ofInt IntKind.i64.bits 1073741823).toNat:Nat)
def XZ(a:List Int):qe:=⟨0,XD a (min a.length 4000)⟩
def R6(a:List Int):qe:=(YJ a (XZ a)).2
def drawn(a:List Int):bn:=(yE (XW a (XZ a)) (We a (R6 a)).1 (We a (R6 a)).1.length).1
def VA{xs:List Int}{x:Int}(h:du xs.length (λj=>decide (nth xs j≠x))=true):x∉xs:=λb=>by
 obtain⟨j,a⟩:=List.mem_iff_getElem?.1 b;have:=fE h (C4.1 a).1;rw[bk a]at this;simp at this
def JL(xs:List Int)(x:Int)(g:xs.length<=4611686018427387904):zzA 123 false [.val none (aE .R xs),.vI x] .one [B (decide (x∈xs))]:=by
 refine fO 18 [] Tryz.func123 rfl ?_
 refine σP ?_
 refine gl xs.length (λi=>[(0,bK (aE .R xs)),(1,fI x),(5,fN i)]) (λi=>du i (λj=>decide (nth xs j≠x))=true) rfl λi a=>?_
 obtain⟨a,b⟩:=a;by_cases c:i<xs.length
 ·have d:=ar c
  by_cases e:nth xs i=x
  ·refine σB ?_
   exact bY ((by symm;exact O0 (by rw[<-e];exact ax c)))
  refine σB ?_
  (exact cV (i+1) ⟨ω,bX b (O0 e)⟩)
 refine σE ?_
 obtain rfl:i=xs.length:=ω
 exact bY ((by symm;exact Z0 (VA b)))
theorem bu.more{M c:af}{w d:World}(h:bu M w d)(f:∀b o,M b o->c b o):bu c w d:=
 ⟨h.os,h.tape,h.output,h.size,λb a e=>h.blk b a ψ,λb o a e=>h.cel b o a ψ,λb o a e=>h.fro b o a ψ⟩
variable{c:List C}
theorem aU.wk{P:Program}{sh:Bool}{u:List C}{B:List MA}{k:Kd}(h:aU P f sh A (.ptr c::B) k rcs)(D:Qd c u):aU P f sh A (.ptr u::B) k rcs:=by
 refine⟨h.has,λw S V i E F l G=>(h.run w S V i E F l G).mono λe w1 H=>?_⟩;obtain⟨v,J,K,X,L,S1,M,n,p,a,q,r,b,N,O,y⟩:=H;refine⟨v,J,K,X,L,S1,M,n,p,a,q,r,b,N,O,?_⟩;cases i with
 | nil=>exact y.elim
 | cons v0 i=>
  obtain⟨⟨Q,Y,R,T,U,⟨g,o,W,Z⟩,d⟩,t⟩:=y;refine⟨⟨Q,Y,R,T,U,⟨g,o,W,λj hj=>Z j (by grind[vA])⟩,H0 D d⟩,t⟩
variable{r:List C}
def aU.frame{P:Program}{sh:Bool}{c':List C}{B:List MA}{k:Kd}(h:aU P f sh (.ptr c::A) (.ptr c'::B) k rcs)(hl:c'.length=c.length):aU P f sh (.ptr (c++r)::A) (.ptr (c'++r)::B) k rcs:=by
 refine⟨h.has,λw S V vs hS hV hVd hA=>?_⟩;cases vs with
 | nil=>exact hA.elim
 | cons v0 vs=>
 obtain⟨⟨X1,Y,hX1,hY,O,⟨g,q,rfl,u⟩,ff,hf1,J,hf3⟩,hA'⟩:=hA;have hlen:(c++r).length=c.length+r.length:=C6
 let V0:af:=piece g q ff 0 c.length
 let W:Nat->af:=Rj V0 (λi=>V (i+1))
 have hcX:∀o,q<=o->o<q+(c++r).length->X1 g o:=λo l a=>by
  have:=(u (o - q) ω).1
  rwa [show q+(o - q)=o by omega]at this
 have hV0:∀b o,V0 b o->V 0 b o:=λb o p=>by
  rcases p with⟨rfl,l,a⟩|⟨j,-,a,Q⟩
  ·exact hX1 _ _ (hcX o ω ω)
  exact hY _ _ (J j ω b o Q)
 have K:∀i b o,W i b o->V i b o:=λi b o p=>by
  cases i with
  | zero=>exact hV0 b o p
  | succ i=>exact p
 have hA2:P4 w S W (.ptr c::A) (.pointer (some ⟨g,q,none⟩)::vs):=by
  refine⟨?_,hA'⟩;have:=wK (lo:=0) (n:=c.length) (cs:=c++r) ω u hf1 J hf3 O;rw[show bP (c++r) 0 c.length=c by simp[bP]]at this;simp only[OD,Nat.add_zero]at this;exact this
 refine(h.run w S W _ hS (λi b o p=>hV i b o (K i b o p)) (λi i' D b o l a=>hVd i i' D b o (K i b o l) (K i' b o a)) hA2).mono λe w1 hv=>?_
 obtain⟨v,he,hk,X,V',S1,hX,E,hS1,hVd',hXV,hXS,hVS1,hh,hr,hm⟩:=hv;have H:∀b o,(∃i,W i b o)->∃i,V i b o:=λb o ⟨i,Z⟩=>⟨i,K i b o Z⟩
 let R:af:=λb o=>V 0 b o/\¬V0 b o
 have hRW:∀b o,R b o->¬∃i,W i b o:=λb o y ⟨i,Z⟩=>by
  cases i with
  | zero=>exact y.2 Z
  | succ i=>exact hVd 0 (i+1) ω b o y.1 Z
 have F:∀b o,R b o->b<w.heap.size:=λb o y=>(hV 0 b o y.1).1
 have t:∀b o,R b o->¬((∃i,W i b o)\/(b<w1.heap.size/\w.heap.size<=b)):=λb o y p=>by
  rcases p with p|p
  ·exact hRW b o y p
  have:=F b o y;omega
 have hRsame:b8 R w w1:=λb o y=>⟨hk.cel b o (F b o y) (hRW b o y),hk.fro b o (F b o y) (hRW b o y)⟩
 have hRS1:∀b o,R b o->¬S1 b o:=λb o y hs=>by
  rcases hS1 b o hs with⟨-,l⟩|l
  ·exact(hV 0 b o y.1).2 l
  exact t b o y l
 have hSsame:b8 S w w1:=λb o hb=>⟨hk.cel b o (hS.1 b o hb) (λ⟨i,Z⟩=>(hV i b o (K i b o Z)).2 hb),hk.fro b o (hS.1 b o hb) (λ⟨i,Z⟩=>(hV i b o (K i b o Z)).2 hb)⟩
 have hRc:∀j,c.length<=j->j<(c++r).length->R g (q+j):=λj l a=>by
  refine⟨hX1 _ _ (u j a).1,λp=>?_⟩;rcases p with⟨-,Q,h4⟩|⟨N,Q,h4,h5⟩
  ·omega
  exact O _ _ (u j a).1 (J N ω _ _ h5)
 have L:∀j,c.length<=j->j<(c++r).length->∀b o,ff j b o->R b o:=λj l a b o p=>by
  refine⟨hY _ _ (J j a b o p),λhp=>?_⟩;rcases hp with⟨rfl,Q,h4⟩|⟨N,Q,h4,h5⟩
  ·exact O _ _ (hcX o ω ω) (J j a _ _ p)
  exact hf3 j N a ω ω b o p h5
 let U:Nat->af:=Rj (λb o=>V' 0 b o\/R b o) (λi=>V' (i+1))
 have hU:∀i b o,U i b o->V' i b o\/(i=0/\R b o):=λi b o p=>by
  cases i with
  | zero=>exact p.imp id (λh=>⟨rfl,h⟩)
  | succ i=>exact .inl p
 refine⟨v,he,hk.more H,X,U,S1,λb o p=>(hX b o p).imp (H b o) id,λi b o p=>?_,λb o p=>(hS1 b o p).imp id (Or.imp (H b o) id),λi i' D b o l a=>?_,λi b o l a=>?_,hXS,λi b o l a=>?_,hh,hr,?_,hm.2⟩
 ·rcases hU i b o p with l|⟨-,l⟩
  ·exact(E i b o l).imp (H b o) id
  exact .inl ⟨0,l.1⟩
 ·rcases hU i b o l with l|⟨e1,l⟩
  ·rcases hU i' b o a with a|⟨e2,a⟩
   ·exact hVd' i i' D b o l a
   exact t b o a (E i b o l)
  rcases hU i' b o a with a|⟨e2,a⟩
  ·exact t b o l (E i' b o a)
  exact D ω
 ·rcases hU i b o a with a|⟨-,a⟩
  ·exact hXV i b o l a
  exact t b o a (hX b o l)
 ·rcases hU i b o l with l|⟨-,l⟩
  ·exact hVS1 i b o l a
  exact hRS1 b o l a
 obtain⟨Xa,Ya,ha1,ha2,ha3,⟨ga,oa,hea,ha4⟩,fa,ha5,ha6,ha7⟩:=(show rx w1 (λb o=>S b o\/S1 b o) (V' 0) (.ptr c') (.pointer (some ⟨g,q,none⟩)) from hm.1)
 obtain⟨rfl,rfl⟩ : g=ga/\q=oa:=by simpa using hea
 have G:(c'++r).length=c.length+r.length:=by rw[C6,hl]
 show rx w1 (λb o=>S b o\/S1 b o) (λb o=>V' 0 b o\/R b o) (.ptr (c'++r)) (.pointer (some ⟨g,q,none⟩));have faV:∀j,j<c.length->∀b o,fa j b o->V' 0 b o:=λj M b o p=>ha2 _ _ (ha6 j ω b o p)
 refine⟨λb o=>Xa b o\/(R b o/\∃j,c.length<=j/\j<(c++r).length/\b=g/\o=q+j),λb o=>Ya b o\/∃j,c.length<=j/\j<(c++r).length/\ff j b o,λb o p=>?_,λb o p=>?_,λb o l a=>?_,⟨g,q,rfl,λj M=>?_⟩,λj=>if j<c.length then fa j else ff j,λj d M=>?_,λj M b o p=>?_,λj N M hj' D b o l a=>?_⟩
 ·exact p.imp (ha1 b o) (·.1)
 ·rcases p with p|⟨j,l,a,Q⟩
  ·exact .inl (ha2 b o p)
  exact .inr (L j l a b o Q)
 ·rcases l with l|⟨l,j,j1,j2,rfl,rfl⟩
  ·rcases a with a|⟨j,j1,j2,j3⟩
   ·exact ha3 b o l a
   exact t b o (L j j1 j2 b o j3) (E 0 b o (ha1 b o l))
  rcases a with a|⟨N,j3,j4,j5⟩
  ·exact t _ _ l (E 0 _ _ (ha2 _ _ a))
  exact O _ _ (u j j2).1 (J N j4 _ _ j5)
 ·rw[G]at M
  by_cases hc:j<c.length
  ·have:=ha4 j ω
   exact⟨.inl this.1,this.2⟩
  have y:=hRc j ω ω;have hs:=hRsame _ _ y;have T:=u j ω;refine⟨.inr ⟨y,j,ω,ω,rfl,rfl⟩,?_,?_⟩
  ·rw[hs.1];exact T.2.1
  rw[hs.2];exact T.2.2
 ·dsimp only
  by_cases hc:j<c.length
  ·rw[CJ hc]
   rw[Z8 ω]at M;exact ha5 j d M
  rw[CI hc];rw[C9 ω,hl]at M;have hj2:(c++r)[j]? = some d:=by rw[C9 ω];exact M
  have hjl:=(C4.1 hj2).1;have Q:=(hf1 j d hj2).keep hSsame (λb o p=>hRsame b o (L j ω hjl b o p));have T:=(hRsame _ _ (hRc j ω hjl)).1;have:co w1 .box (.pointer (some ⟨g,q,none⟩)) j=co w .box (.pointer (some ⟨g,q,none⟩)) j:=by
   simp only[co];rw[T]
  rw[this];exact Q.mono (λ_ _ h=>.inl h) (λ_ _ h=>h)
 ·rw[G]at M
  split at p
  ·rename_i hc;exact .inl (ha6 j ω b o p)
  exact .inr ⟨j,ω,ω,p⟩
 rw[G]at M hj';split at l
 ·rename_i c1
  split at a
  ·exact ha7 j N ω ω D b o l a
  exact t b o (L N ω ω b o a) (E 0 b o (faV j c1 b o l))
 split at a
 ·rename_i c1;exact t b o (L j ω ω b o l) (E 0 b o (faV N c1 b o a))
 exact hf3 j N ω ω D b o l a
mutual
def XA:∀c:C,fz (fz c)=fz c
 | .v x=>by simp[fz]
 | .s o rows=>by simp only[fz];rw[P1 rows]
 | .x=>by simp[fz]
 | .hd _=>by simp[fz]
 | .z=>by simp[fz]
 | .m _=>by simp[fz]
 | .it _ _=>by simp[fz]
def P1:∀rs:List (List C),fzR (fzR rs)=fzR rs
 | []=>rfl
 | r::rs=>by simp only[fzR];rw[rU r,P1 rs]
def rU:∀cs:List C,dw (dw cs)=dw cs
 | []=>rfl
 | c::cs=>by simp only[dw];rw[XA c,rU cs]
end
def pY(k:ah)(a:aG k=true)(e:k.b≠100000):zzB 291 false [.ptr (ah.enc .own k)] [.ptr (ah.enc .own (dO k))] .one [B (!refd k)]:=by
 have b:=aX a;have c:=(aF.1 a).2.2.2.2;have d:=JL k.d k.b (by have:=b.2;omega);refine fM 22 [] [ρ 2 9 11] [(0,0)] Tryz.func291 rfl (λu q=>?_)
 repeat'(first|refine gP ?_|refine CL (d) ⟨⟨rfl,dX _⟩,⟨rfl,nr ω⟩,tV1⟩ ?_)
 refine CM rfl ?_ ?_
 ·rfl
 exact wB
def qf(k:ah)(p m:Int)(a:aG k=true)(j:k.b≠100000)(d:(au k.F.O p).y≠0)(l:m=1\/m=2):zzB 298 false [.ptr (ah.enc .own k),.vI p,.vI m] [.ptr (ah.enc .own (ju k p m).1),.vI p,.vI m] .one [B (ju k p m).2]:=by
 have n:=aX a;have b:=pY k a j;have g:=fj (dO k) p n.1.2;have c:=aK m 1 2;rw[O0 ω]at c;obtain⟨o,t,w,-⟩:=bQ a d;have h:=ar (xs:=k.F.O.M) (i:=p.toNat) ω;have r:¬(au (dO k).F.O p).y=0:=d;unfold ju;cases e:refd k<;>rw[e]at b
 ·rw[CI ϕ,xj]
  refine fM 31 [(291,[2])] [] [(0,0),(0,0),(0,0)] Tryz.func298 rfl (λu q=>?_)
  repeat'(first|refine gB ?_|refine CL (g) ⟨CW (dO k),π⟩ ?_|apply CO o (aa h)|refine CS rfl rfl (aa h) rfl δ rfl ?_)
  refine CM rfl ?_ ?_
  ·rfl
  exact wB
 rw[CJ rfl];refine fM 31 [(291,[2])] [] [(0,0),(0,0),(0,0)] Tryz.func298 rfl (λu q=>?_)
 repeat'(first|refine gB ?_|refine CL (g) ⟨CW (dO k),π⟩ ?_)
 refine CM rfl ?_ ?_
 ·rfl
 exact wB
variable{rows:List (List C)}{b:Nat}
def Rw.two{off k j d e:Nat}{K:List C->Nat->Prop}{o f:ek}{rows2:List (List C)}{a:List C}(h1:c[off]? = some (.s o rows))(h2:rows[i]? = some r)(g:r.length=k)(h:r[j]? = some (.s f rows2))(l:rows2[d]? = some a)(n:a.length=e)(p:K a b):Rw c off [(i,k,j),(d,e,b)] K:=
 Rw.mk (r:=a) (j:=b) (by simp[cr,h1,h2,g,h,l,n]) p
def Ds(k:ah)(a b c:Int)(h:aG k=true)(F:(au k.F.O a).y≠0)(G:(au k.F.O b).y≠0)(g:0<=c/\c<=15):zzB 299 false [.ptr (ah.enc .own k),.vI a,.vI b,.val none (aE .R [c])] [.ptr (ah.enc .own (uH k a b c)),.vI a,.vI b,.val none (aE .R [c])] .one [B true]:=by
 have w:=aX h;have H:=fj k a w.1.2;have J:=fj k b w.1.2;have y:=aK c 0 15;rw[O0 g]at y;obtain⟨K,O,L,C,P⟩:=bQ h F;obtain⟨M,Q,D,E,R⟩:=bQ h G;have N:=(aT.1 (aF.1 h).2.1).2.2.1;have S:=row16 h (f:=jU k a) (by unfold jU;omega);have T:=row16 h (f:=jU k b) (by unfold jU;omega);have d:k.F.W.V[(au k.F.O a).j.toNat]? = some (nth k.F.W.V (jU k a)):=ar ω;have e:k.F.W.V[(au k.F.O b).j.toNat]? = some (nth k.F.W.V (jU k b)):=ar ω;have l:=ar (xs:=nth k.F.W.V (jU k a)) (i:=c.toNat) ω;have o:=ar (xs:=nth k.F.W.V (jU k b)) (i:=c.toNat) ω;have p:=ar (xs:=k.F.O.M) (i:=a.toNat) ω;have r:=ar (xs:=k.F.O.M) (i:=b.toNat) ω;rw[L]at C d;rw[D]at E e;have t:[c][0]? = some c:=rfl;refine fM 90 [] [ρ 13 28 61] [(0,0),(0,0),(0,0),(0,0)] Tryz.func299 rfl (λu q=>?_)
 repeat'(first|refine gB ?_|refine CL (H) ⟨CW k,π⟩ ?_|refine CL (J) ⟨CW k,π⟩ ?_)
 refine lp0 1 (λn=>[(0,bF (ah.enc .own k)),(1,fI a),(2,fI b),(3,bK (aE .R [c])),(9,fN n)]) λn U=>?_
 by_cases V:n<1
 ·obtain rfl:n=0:=ω
  repeat'(first|refine gE ?_|apply CO qs (aa t))
  (exact cV 1 ω)
 obtain rfl:n=1:=ω
 repeat'(first|refine gE ?_|apply CO K (aa p)|apply CO M (aa r))
 refine lp0 1 (λj=>[(0,bF (ah.enc .own (N9 k a b c j))),(3,bK (aE .R [c])),(10,fI ((nth k.F.O.M a.toNat).j)),(11,fI ((nth k.F.O.M b.toNat).j)),(12,fN j)]) λj W=>?_
 by_cases X:j<1
 ·obtain rfl:j=0:=ω
  repeat'(first|refine gE ?_|apply CO qs (aa t)|apply CO C (aa d)|apply CO E (aa e)|apply CO g.1 (aa l)|apply CO g.1 (aa o)|refine Rw.two rfl (aa d) rfl rfl (aa l) rfl ?_|refine Pu.two rfl rfl (aa e) rfl rfl rfl (aa o) rfl (O5 _) rfl ?_)
  (refine CP 1 ω ω ?_)
  rw[show N9 k a b c 1=uH k a b c from rfl];unfold uH;rw[yg,show jU k b=(nth k.F.O.M b.toNat).j.toNat by unfold jU;rw[D]];exact wB
 obtain rfl:j=1:=ω
 refine σE ?_
 refine CM rfl ?_ ?_
 ·rfl
 exact wB
def Nf(k:ah)(p o:Int)(a:aG k=true)(y:k.b≠100000)(g:(au k.F.O p).y≠0)(h:(au k.F.O o).y≠0)(C:p≠o):zzB 300 false [.ptr (ah.enc .own k),.vI p,.vI o] [.ptr (ah.enc .own (zd k p o).1),.vI p,.vI o] .one [B (zd k p o).2]:=by
 have b:=aX a;have c:=pY k a y;have j:=fj (dO k) p b.1.2;have l:=fj (dO k) o b.1.2;obtain⟨D,K,E,n,r⟩:=bQ a g;obtain⟨F,L,M,N,O⟩:=bQ a h;have G:=(aT.1 (aF.1 a).2.1).2.2.1;have d:=ar (xs:=k.F.O.M) (i:=p.toNat) ω;have t:=ar (xs:=k.F.O.M) (i:=o.toNat) ω;have H:¬(au (dO k).F.O p).y=0:=g;have J:¬(au (dO k).F.O o).y=0:=h;rw[E]at n r;have w:=wh (yG (dO k) p.toNat ⟨2,(nth k.F.O.M o.toNat).j⟩) (nth k.F.O.M p.toNat).j (Kl _ _ b.1.2) ⟨n,by show _<((k.F.W.V.length:Nat):Int);omega,r⟩;rw[JU]at w;unfold zd;cases e:refd k<;>rw[e]at c
 ·rw[CI ϕ]
  refine fM 60 [(291,[2]),(293,[2,0])] [ς1d] [(0,0),(0,0),(0,0)] Tryz.func300 rfl (λu q=>?_)
  repeat'(first|refine gB ?_|refine CL (j) ⟨CW (dO k),π⟩ ?_|refine CL (l) ⟨CW (dO k),π⟩ ?_|apply CO D (aa d)|apply CO F (aa t)|refine CS rfl rfl (aa d) rfl δ rfl ?_)
  refine CM rfl ?_ ?_
  ·rfl
  exact wB
 rw[CJ rfl];refine fM 60 [(291,[2]),(293,[2,0])] [ς1d] [(0,0),(0,0),(0,0)] Tryz.func300 rfl (λu q=>?_)
 repeat'(first|refine gB ?_|refine CL (j) ⟨CW (dO k),π⟩ ?_|refine CL (l) ⟨CW (dO k),π⟩ ?_)
 refine CM rfl ?_ ?_
 ·rfl
 exact wB
def Er(m:aN)(a:Int)(d:aN.sml m)(c:0<=a/\a<512):zzA 405 false [.val (some 3) (aN.enc .R m),.vI a] (.tup [some 2,none]) (bv.enc .own (au m.O (a / 16))++[I (a % 16)]):=by
 have e:=cZ m.O (a / 16) d.2;have b:a.tmod 16=a % 16:=dy c.1;refine fO 16 [] Tryz.func405 rfl ?_ (.inr ⟨tV1,tV1,tV1,tV1⟩)
 repeat'(first|refine gE ?_|apply CR (kV c)|apply CT qs|apply CY b)
 rfl
def LV(m:aN)(a v:Int)(o:de m=true)(e:aN.sml m)(p:0<=a/\a<512)(q:0<=v/\v<=999)(r:(au m.O (a / 16)).y≠0->0<=(au m.O (a / 16)).j/\(au m.O (a / 16)).j<m.W.V.length/\(nth m.W.V (au m.O (a / 16)).j.toNat).length=16):zzA 360 false [.val (some 3) (aN.enc .R m),.vI a,.vI v] (.tup [some 3,none]) (aN.enc .own (ij m a v).1++[I (ij m a v).2]):=by
 have c:=rq m e;rw[o]at c;have g:=uP m e;have h:=Er m a e p;have d:=aK v 0 999;rw[O0 q]at d;have b:=aN.enc_fr (ij m a v).1;unfold ij at b |-;by_cases j:(au m.O (a / 16)).y=0
 ·rw[CJ j]at b |-
  refine fO 47 [] Tryz.func360 rfl ?_ (.inr (ay b ⟨tV1,tV1⟩))
  refine σB ?_
  rfl
 rw[CI j]at b |-;by_cases l:(au m.O (a / 16)).y=1
 ·rw[CJ l]at b |-
  refine fO 47 [] Tryz.func360 rfl ?_ (.inr (ay b ⟨tV1,tV1⟩))
  refine σB ?_
  rfl
 rw[CI l]at b |-;obtain⟨t,u,w⟩:=r j;have k:=ar (xs:=m.W.V) (i:=(au m.O (a / 16)).j.toNat) ω;have n:=ar (xs:=nth m.W.V (au m.O (a / 16)).j.toNat) (i:=(a % 16).toNat) ω;simp only at b |-;rw[AR]at b |-;refine fO 47 [] Tryz.func360 rfl ?_ (.inr (ay b ⟨tV1,tV1⟩))
 repeat'(first|refine gB ?_|apply CO t (aa k)|refine CO ω (aa n) ?_|refine Pu.two rfl rfl (aa k) rfl rfl rfl (aa n) rfl (O5 _) rfl ?_)
 rfl
def ik{k:ah}{j:cH} : jmay k j=true↔(aG k=true/\k.b≠100000)/\kf j=true/\(au k.F.O j.g.b1).y≠0/\(au k.F.O j.g.b3).y≠0/\(au k.F.O j.g.b1).j≠(au k.F.O j.g.b3).j:=by
 unfold jmay;simp only[I0,C0]
def mq{p:cj}(h:fY p=true):p.V.length<=16:=by
 unfold fY at h;simp only[I0]at h;have a:∀i,i<p.V.length->(i:Int)<=nth p.V i:=λi=>by
  induction i with
  | zero=>
   intro a;have:=fE h.1 a;unfold oZ at this;rw[C0]at this;exact this.1
  | succ i b=>
   intro a;have c:=b ω;have:=fE h.1 a;unfold oZ at this;rw[C0]at this;have d:=this.2.2.resolve_left ω;rw[Nat.add_sub_cancel]at d;omega
 by_cases e:p.V.length<=16
 ·exact e
 exfalso;have c:=a 16 ω;have:=fE h.1 (show 16<p.V.length by omega);unfold oZ at this;rw[C0]at this;omega
def xw{j:cH}(h:kf j=true):cH.sml j:=by
 have:=mq (gr.1 h).1;show j.g.V.length<=1048576;omega
def i9{k:ah}(h:aG k=true):de k.F=true:=by
 unfold aG at h;simp only[I0]at h;exact h.1.2
def HB(k:ah)(j:cH)(p:jmay k j=true)(g:j.b6=3):zzB 301 false [.ptr (ah.enc .own k),.ptr (zt j)] [.ptr (ah.enc .own (jstep k j).1),.ptr (zt (jstep k j).2)] (.tup []) []:=by
 obtain⟨⟨a,r⟩,t,c,d,w⟩:=ik.1 p;obtain⟨h,H,J,K,L⟩:=gr.1 t;have y:=aX a;obtain⟨M,N,O,B,P⟩:=bQ a c;have l:=(bt.1 (aF.1 a).2.2.1).2.2;have C:=mq h;have D:=(aT.1 (aF.1 a).2.1).2.2.1;unfold jstep;rw[CI ω,CI ω,CI ω,CJ g];by_cases n:0<j.o
 ·rw[CJ n]
  have o:=ku h (i:=(j.o - 1).toNat) ω;have E:=ar (xs:=j.g.V) (i:=(j.o - 1).toNat) ω;have F:0<=j.g.b1*16+nth j.g.V (j.o - 1).toNat/\j.g.b1*16+nth j.g.V (j.o - 1).toNat<512:=ω
  have G:(j.g.b1*16+nth j.g.V (j.o - 1).toNat) / 16=j.g.b1:=ω
  have b:=LV k.F (j.g.b1*16+nth j.g.V (j.o - 1).toNat) 0 (i9 a) y.1 F ω (λ_=>by rw[G];exact⟨B,ω,row16 a (f:=jU k j.g.b1) (by unfold jU;omega)⟩);generalize (ij k.F (j.g.b1*16+nth j.g.V (j.o - 1).toNat) 0).1=m at b |-;generalize (ij k.F (j.g.b1*16+nth j.g.V (j.o - 1).toNat) 0).2=e at b;refine fM 59 [(298,[2,0,0])] [ςx] [(0,0),(1,0)] Tryz.func301 rfl (λu q=>?_) (.inr tV1)
  repeat'(first|refine gE ?_|refine CL (b) ⟨⟨rfl,aN.enc_fz k.F⟩,⟨rfl,rfl⟩,π⟩ ?_|refine CO ω (aa E) ?_)
  exact kk
 rw[CI n];have b:=qf k j.g.b3 2 a r d (.inr rfl);cases e:(ju k j.g.b3 2).2<;>rw[e]at b
 ·refine fM 59 [(298,[2,0,0])] [ςx] [(0,0),(1,0)] Tryz.func301 rfl (λu q=>?_) (.inr tV1)
  refine σE ?_
  refine CM rfl rfl ?_;rw[<-g];exact wC
 refine fM 59 [(298,[2,0,0])] [ςx] [(0,0),(1,0)] Tryz.func301 rfl (λu q=>?_) (.inr tV1)
 refine σE ?_
 exact kk
def GU(k:ah)(j:cH)(g:jmay k j=true):zzB 223 false [.ptr (ah.enc .own k),.ptr (zt j)] [.ptr (ah.enc .own (jstep k j).1),.ptr (zt (jstep k j).2)] (.tup []) []:=by
 obtain⟨⟨h,p⟩,B,c,b,l⟩:=ik.1 g;obtain⟨r,F,G,H,J⟩:=gr.1 B;have n:j.g.b3≠j.g.b1:=λe=>l (by rw[e])
 have C:=mq r;by_cases d:j.b6=0
 ·have a:=qf k j.g.b3 1 h p b (.inl rfl)
  unfold jstep;rw[CJ d];cases e:(ju k j.g.b3 1).2<;>rw[e]at a
  ·refine fM 80 [(298,[2,0,0]),(299,[2,0,0,0]),(300,[2,0,0]),(301,[2,2])] [ς8,ς9] [(0,0),(1,0)] Tryz.func223 rfl (λu q=>?_) (.inr tV1)
   refine σB ?_
   exact kk
  refine fM 80 [(298,[2,0,0]),(299,[2,0,0,0]),(300,[2,0,0]),(301,[2,2])] [ς8,ς9] [(0,0),(1,0)] Tryz.func223 rfl (λu q=>?_) (.inr tV1)
  refine σB ?_
  exact kk
 by_cases o:j.b6=1
 ·unfold jstep
  rw[CI d,CJ o];by_cases t:j.o=j.g.V.length
  ·rw[CJ t]
   refine fM 80 [(298,[2,0,0]),(299,[2,0,0,0]),(300,[2,0,0]),(301,[2,2])] [ς8,ς9] [(0,0),(1,0)] Tryz.func223 rfl (λu q=>?_) (.inr tV1)
   refine σB ?_
   exact kk
  rw[CI t];have D:=ar (xs:=j.g.V) (i:=j.o.toNat) ω;have a:=Ds k j.g.b3 j.g.b1 (nth j.g.V j.o.toNat) h b c (ku r ω);have E:=(ik.1 g).2.1;refine fM 80 [(298,[2,0,0]),(299,[2,0,0,0]),(300,[2,0,0]),(301,[2,2])] [ς8,ς9] [(0,0),(1,0)] Tryz.func223 rfl (λu q=>?_) (.inr tV1)
  repeat'(first|refine gB ?_|refine CN a (.inr ⟨rfl,Ck _,tV1⟩) ?_|refine CO ω (aa D) ?_)
  exact kk
 by_cases w:j.b6=2
 ·have a:=Nf k j.g.b3 j.g.b1 h p b c n
  unfold jstep;rw[CI d,CI o,CJ w];cases e:(zd k j.g.b3 j.g.b1).2<;>rw[e]at a
  ·refine fM 80 [(298,[2,0,0]),(299,[2,0,0,0]),(300,[2,0,0]),(301,[2,2])] [ς8,ς9] [(0,0),(1,0)] Tryz.func223 rfl (λu q=>?_) (.inr tV1)
   refine σB ?_
   exact kk
  refine fM 80 [(298,[2,0,0]),(299,[2,0,0,0]),(300,[2,0,0]),(301,[2,2])] [ς8,ς9] [(0,0),(1,0)] Tryz.func223 rfl (λu q=>?_) (.inr tV1)
  refine σB ?_
  exact kk
 by_cases y:j.b6=3
 ·have a:=HB k j g y
  refine fM 80 [(298,[2,0,0]),(299,[2,0,0,0]),(300,[2,0,0]),(301,[2,2])] [ς8,ς9] [(0,0),(1,0)] Tryz.func223 rfl (λu q=>?_) (.inr tV1)
  refine σB ?_
  exact kk
 unfold jstep;rw[CI d,CI o,CI w,CI y];refine fM 80 [(298,[2,0,0]),(299,[2,0,0,0]),(300,[2,0,0]),(301,[2,2])] [ς8,ς9] [(0,0),(1,0)] Tryz.func223 rfl (λu q=>?_) (.inr tV1)
 refine σB ?_
 exact kk
def J9(k:ah)(j:cH)(e:aG k=true)(i:kf j=true):zzA 222 false [.val (some 5) (ah.enc .R k),.val (some 5) (cH.enc .R j)] .one [B (jmay k j)]:=by
 have c:=aX e;have b:dw (ah.enc .R k)=ah.enc .R k:=by rw[<-CW k,rU]
 have r:=(aF.1 e).2.2.2.2;have a:=nt k c;rw[e]at a;have d:=By j (xw i);rw[i]at d;have l:=fj k j.g.b1 c.1.2;have n:=fj k j.g.b3 c.1.2;have t:=cZ k.F.O j.g.b1 c.1.2;have u:=cZ k.F.O j.g.b3 c.1.2;by_cases o:k.b=100000
 ·rw[Z0 ω]at a
  rw[show jmay k j=false by rw[<-SA,ik];exact λh=>h.1.2 o];refine fO 44 [ςk] Tryz.func222 rfl ?_
  refine σP ?_
  rfl
 rw[O0 ω]at a;by_cases p:(au k.F.O j.g.b1).y=0
 ·rw[show jmay k j=false by rw[<-SA,ik];exact λh=>h.2.2.1 p]
  refine fO 44 [ςk] Tryz.func222 rfl ?_
  repeat'(first|refine gB ?_|refine CL (l) ⟨b,π⟩ ?_|refine CL (n) ⟨b,π⟩ ?_)
  rfl
 by_cases q:(au k.F.O j.g.b3).y=0
 ·rw[show jmay k j=false by rw[<-SA,ik];exact λh=>h.2.2.2.1 q]
  refine fO 44 [ςk] Tryz.func222 rfl ?_
  repeat'(first|refine gB ?_|refine CL (l) ⟨b,π⟩ ?_|refine CL (n) ⟨b,π⟩ ?_)
  rfl
 refine fO 44 [ςk] Tryz.func222 rfl ?_
 repeat'(first|refine gB ?_|refine CL (l) ⟨b,π⟩ ?_|refine CL (n) ⟨b,π⟩ ?_)
 exact bY (by
   unfold jmay;rw[e,i,O0 o];by_cases g:(au k.F.O j.g.b1).j=(au k.F.O j.g.b3).j
   · rw[Z0 (λh=>h.2.2 g)];simp[g]
   rw[O0 ⟨p,q,g⟩];simp[g])
def Gw(j:cH):zzA 224 false [.val (some 5) (cH.enc .R j)] .one [B (over j)]:=by
 by_cases a:j.b6=4
 ·rw[show over j=true from O0 (.inl a)]
  refine fO 11 [] Tryz.func224 rfl ?_
  refine σB ?_
  rfl
 rw[show over j=decide (j.b6=5) from decide_eq_decide.2 ω];refine fO 11 [] Tryz.func224 rfl ?_
 refine σB ?_
 exact bY (by rw[O9];simp)
def P7(x:ac):List C:=(bO x).set 21 .z
def HX{x:ac}(h:x.a9.g.V=[]):Qd (P7 x) (bO x):=by
 unfold P7 bO;simp only[List.set,h,List.map_nil]
 repeat'(first|exact tV1|exact qH _|refine CQ ?_ ?_|rfl)
def GO(h:ac)(j:bf h [])(k:h.a3=true):zzB 114 false [.ptr (bO h)] [.ptr (bO (mStep h))] .one [B (J7 h)]:=by
 obtain⟨l,-,-⟩:=j.job k;have b:=J9 h.G h.a9 j.ker l;have a:=Gw (gY h.G h.a9).2;unfold J7 mStep;cases e:jmay h.G h.a9 with
 | false=>
  rw[e]at b;have d:gY h.G h.a9=(h.G,h.a9):=by unfold gY;rw[e];rfl
  rw[d]at a |-;simp only at a |-;cases g:over h.a9<;>rw[g]at a
  ·refine fM 39 [(223,[3,5,5])] [ςl,ςm] [(0,0)] Tryz.func114 rfl (λu q=>?_)
   repeat'(first|refine gP ?_|refine CL (b) ⟨⟨rfl,CW h.G⟩,π⟩ ?_)
   refine CM rfl ?_ ?_
   ·exact bY (by rw[O9];simp)
   exact wC
  refine aU.wk (c:=P7 _) ?_ (HX rfl);refine fM 39 [(223,[3,5,5])] [ςl,ςm] [(0,0)] Tryz.func114 rfl (λu q=>?_)
  repeat'(first|refine gP ?_|refine CL (b) ⟨⟨rfl,CW h.G⟩,π⟩ ?_)
  refine CM rfl ?_ ?_
  ·exact bY (by rw[O9];simp)
  exact wC
 | true=>
  rw[e]at b;have d:gY h.G h.a9=jstep h.G h.a9:=by unfold gY;rw[e];rfl
  have i:=GU h.G h.a9 e;rw[d]at a |-;generalize jstep h.G h.a9=r at i a |-;cases g:over r.2<;>rw[g]at a
  ·refine fM 39 [(223,[3,5,5])] [ςl,ςm] [(0,0)] Tryz.func114 rfl (λu q=>?_)
   repeat'(first|refine gP ?_|refine CL (b) ⟨⟨rfl,CW h.G⟩,π⟩ ?_)
   refine CM rfl ?_ ?_
   ·exact bY (by rw[O9];simp)
   exact wC
  refine aU.wk (c:=P7 _) ?_ (HX rfl);refine fM 39 [(223,[3,5,5])] [ςl,ςm] [(0,0)] Tryz.func114 rfl (λu q=>?_)
  repeat'(first|refine gP ?_|refine CL (b) ⟨⟨rfl,CW h.G⟩,π⟩ ?_)
  refine CM rfl ?_ ?_
  ·exact bY (by rw[O9];simp)
  exact wC
def dN(o:ek)(x:List bp):List C:=[.s o (x.map (bp.enc o))]
def ue(x:List bp):dw (dN .own x)=dN .R x:=by simp[dw,dN,bp.enc_fz,<-bU,OB]
def gz(x:List bp):fy (dN .own x):=⟨⟨.inl λh=>(by cases h),aZ _ _ λy _=>bp.enc_fr y⟩,tV1⟩
def fJ:List bp->Nat
 | []=>0
 | x::xs=>bp.cnt x+fJ xs
def zl(x:List bp):Nat:=x.length
def rH(x:List bp):Prop:=x.length<=1048576/\∀y∈x,bp.sml y
def fA:List bp->Int->List bp
 | [],_=>[]
 | x::xs,k=>bp.mark x k::fA xs (k+(bp.cnt x:Nat))
def mt:∀(x:List bp)(k:Int),(fA x k).length=x.length
 | [],_=>rfl
 | _::xs,k=>by simp[fA,mt xs]
def dL:List bp->Nat->Nat
 | [],_=>0
 | _::_,0=>0
 | x::xs,i+1=>bp.cnt x+dL xs i
def m8:∀(x:List bp)(k:Int)(i:Nat)(y:bp),x[i]? = some y->(fA x k)[i]? = some (bp.mark y (k+(dL x i:Nat)))
 | [],_,i,y,h=>by simp at h
 | x::xs,k,0,y,h=>by simp at h;subst h;simp[fA,dL]
 | x::xs,k,i+1,y,h=>by
  simp only[fA,List.getElem?_cons_succ];rw[m8 xs _ i y (by simpa using h)]
  congr 2
  simp only[dL];omega
def mw(x:List bp):dL x 0=0:=by cases x<;>rfl
def mH:∀(x:List bp)(i:Nat)(y:bp),x[i]? = some y->dL x (i+1)=dL x i+bp.cnt y
 | [],i,y,h=>by simp at h
 | x::xs,0,y,h=>by simp at h;subst h;simp[dL,mw]
 | x::xs,i+1,y,h=>by
  simp only[dL];rw[mH xs i y (by simpa using h)];omega
def nX:∀(x:List bp),dL x x.length=fJ x
 | []=>rfl
 | x::xs=>by simp only[List.length_cons,dL,fJ,nX xs]
def vB:∀(x:List bp),fJ x<=8*zl x
 | []=>by simp[fJ]
 | x::xs=>by have:=vB xs;simp only[fJ,zl,List.length_cons,bp.cnt]at this |-;omega
def pq:∀(x:List bp)(i:Nat),dL x i<=fJ x
 | [],_=>by simp[dL]
 | x::xs,0=>by simp[dL]
 | x::xs,i+1=>by simp only[dL,fJ];have:=pq xs i;omega
def Ap.sl{rs:List (List C)}{sz by_:Nat}{K:List (List C)->Prop}(h1:∀r∈rows,r.length=sz)(h2:r.length=sz)(b:rows.length+1<=1073741824)(c:by_<=1000)(a:rs=rows++[r])(d:K rs):Ap false rows [r] sz by_ K:=
 Cb h1 (λe a=>by rw[I2.1 a];exact h2) (λh=>by cases h) kd (by
   have h1:(rows.length+[r].length)*by_<=1073741824*1000:=Nat.mul_le_mul (by simpa using b) c;omega) a d
variable{α:Type}
def UG[Inhabited α]{p:α->Bool}{xs:List α}(a:i<xs.length)(b:p (nth xs i)=true):(xs.take (i+1)).filter p=(xs.take i).filter p++[nth xs i]:=by
 rw[ZA,ar a,List.filter_append];simp[b]
def WE[Inhabited α]{p:α->Bool}{xs:List α}(a:i<xs.length)(b:p (nth xs i)=false):(xs.take (i+1)).filter p=(xs.take i).filter p:=by
 rw[ZA,ar a,List.filter_append];simp[b]
def hC(h:ac)(n i:Nat):List bp:=ec h n++((h.K.take i).filter (dS n)).map (nM h.G)
def Hw(h:ac)(n:Nat):hC h n 0=ec h n:=by simp[hC]
def KF(h:ac)(n:Nat):hC h n h.K.length=ec h (n+1):=by simp[hC,ec]
def Jq{h:ac}(a:i<h.K.length)(b:(nth h.K i).Id=n):hC h n (i+1)=hC h n i++[nM h.G (nth h.K i)]:=by
 unfold hC;rw[UG a (by unfold dS;exact O0 b)];simp
def LE{h:ac}(a:i<h.K.length)(b:(nth h.K i).Id≠n):hC h n (i+1)=hC h n i:=by
 unfold hC;rw[WE a (by unfold dS;exact Z0 b)]
def Mm{h:ac}(a:cz h=true)(n i:Nat):(hC h n i).length<=h.K.length+h.K.length:=by
 have b:=rZ a;have d:=Mg (h:=h) (λo c=>by have:=b o c;omega) n;have e:((h.K.take i).filter (dS n)).length<=(h.K.take i).length:=List.length_filter_le ..;have f:(h.K.take i).length<=h.K.length:=List.length_take_le' ..;unfold hC;rw[C6,Z1];omega
def KL{v k:Int}(a:0<=v/\v<=999)(b:0<=k/\k<=1000):0<=k*v/\k*v<=1000000:=by
 have c:0<=k*v:=Int.mul_nonneg b.1 a.1;have d:k*v<=1000*999:=Int.mul_le_mul b.2 a.2 a.1 qs;omega
def ac.enc_fzi(h:ac):dw (ac.enc .R h)=ac.enc .R h:=by rw[<-ac.enc_fz h,rU]
def RM{e:α->List C}{l:List α}(h:l=[]):Rp .z (.s .own (l.map e)):=by subst h;rfl
def GF(h:ac)(p:ac.sml h)(w:ac.wf h):zzA 17 false [ν h] .one (dN .own (gI h)):=by
 have g:=ya h p w;have y:h.K.length<=1048576:=p.2.2.2.2.1.1;cases a:cz h<;>rw[a]at g
 ·rw[show gI h=[] by unfold gI;rw[a];rfl]
  refine fO 78 [] Tryz.func17 rfl ?_ (.inr (gz _))
  repeat'(first|refine σQ ?_|refine CF (g) ?_)
  exact⟨rfl,tV1⟩
 have r:=wg a;have B:=yZ a;have D:=Kk a;refine fO 78 [] Tryz.func17 rfl ?_ (.inr (gz _))
 repeat'(first|refine σQ ?_|refine CF (g) ?_)
 (conv=>whnf)
 refine Lp.mk (ι:=Nat) (λn=>[(1,bF (ac.enc .R h)),(3,bK (dN .own (ec h n))),(4,fN n)]) (λn=>1<=n/\(n:Int)<=h.o) (λn=>h.o.toNat - n) (1) ?_ (⟨O5 _,ω⟩) λn E=>?_
 ·repeat'(first|exact tV1|rfl |exact RM ϑ|refine CQ ?_ ?_|(exact UA ξ))
 obtain⟨F,j⟩:=E;by_cases O:(ec h n).length<h.K.length/\(n:Int)<h.o
 ·repeat'(first|refine gE ?_|refine Bf.t kd ?_)
  rw[<-Hw h n]
  (conv=>whnf)
  refine Lp.mk (ι:=Nat) (λi=>[(1,bF (ac.enc .R h)),(3,bK (dN .own (hC h n i))),(4,fN n),(5,fN i)]) (λi=>i<=h.K.length) (λi=>h.K.length - i) (0) ?_ (C1 _) λi P=>?_
  ·repeat'(first|exact tV1|rfl |exact RM ϑ|refine CQ ?_ ?_|(exact UA ξ))
  by_cases e:i<h.K.length
  ·have l:=ar e
   obtain⟨Q,R,S,T,U,V,-⟩:=vS a e;have G:=Mm a n i;have H:=En h (nth h.K i) r ω ω;have J:=ng h.G (nth h.K i).U (nth h.K i).k.toNat;by_cases b:(nth h.K i).Id=n
   ·repeat'(first|refine gB ?_|refine CL (H) ⟨ac.enc_fzi h,π⟩ ?_)
    refine Lp.mk (ι:=Nat) (λq=>[(1,bF (ac.enc .R h)),(3,bK (dN .own (hC h n i))),(4,fN n),(5,fN i),(6,fI (uX (cellsOf h.G (nth h.K i).U (nth h.K i).k.toNat) q)),(7,bK (aE .own (cellsOf h.G (nth h.K i).U (nth h.K i).k.toNat))),(8,fN q)]) (λq=>q<=(nth h.K i).k.toNat) (λq=>(nth h.K i).k.toNat - q) (0) ?_ (C1 _) λq u=>?_
    ·repeat'(first|exact tV1|rfl |exact RM ϑ|refine CQ ?_ ?_|(exact UA ξ))
    have K:=Pc (cellsOf h.G (nth h.K i).U (nth h.K i).k.toNat) q;by_cases L:q<(nth h.K i).k.toNat
    ·have o:=xL h.G (nth h.K i).U L
     have M:=FA r ((nth h.K i).U+(q:Int));have N:=KL (k:=(q:Int)+1) M ω;have d:(uX (cellsOf h.G (nth h.K i).U (nth h.K i).k.toNat) q+((q:Int)+1)*jV h.G ((nth h.K i).U+(q:Int))).tmod 9973=uX (cellsOf h.G (nth h.K i).U (nth h.K i).k.toNat) (q+1):=by
      rw[dy ω,uX,bk o]
     repeat'(first|refine gE ?_|apply CT qs|apply CY d)
     (exact cV (q+1) ω)
    obtain rfl:q=(nth h.K i).k.toNat:=ω
    repeat'(first|refine gE ?_|refine Ap.sl (aI λ_=>rfl) rfl kd qs rfl ?_)
    refine CP (i+1) ω ω ?_;rw[Jq e b]
    (repeat'(first|exact tV1|rfl|exact CQ rfl (CQ (I1 (C.s ek.own) (by simp[bp.enc,nM,b])) tV1)|refine CQ ?_ ?_))
   refine σB ?_
   refine CP (i+1) ω ω ?_;rw[LE e b];exact wB
  refine σE ?_
  obtain rfl:i=h.K.length:=ω
  rw[KF]
  ((conv=>whnf);exact cV (n+1) ⟨ω,ω⟩)
 have c:=G7 a j ω
 repeat'(first|refine gE ?_|refine gS (λu=>?_) (λu=>?_)|fail)
 all_goals exact I1 (dN .own) c
def or64{z1 z2:Int}(h1:0<=z1/\z1<=65535)(h2:0<=z2/\z2<=65535):IntKind.i64.wrap ((BitVec.ofInt IntKind.i64.bits z1 ||| BitVec.ofInt IntKind.i64.bits z2).toNat:Nat)=bor z1 z2:=by
 rw[BitVec.toNat_or,rY ω,rY ω];have a:=Mz h1 h2;unfold bor at a |-;exact fH ω ω
def D0(h:ac)(i:Nat)(n:ee h.H)(d:y2 h)(a:∀s∈h.H,bh s=true)(y:i<h.H.length):zzA 286 false [ν h,.vI (i:Nat)] .one [I (ep h i)]:=by
 have F:=n.1;have G:=ar y;have g:=nw a y;have B:=aK ((i:Nat):Int) 0 ((h.H.length:Int) - 1);rw[O0 (show(0:Int)<=(i:Nat)/\((i:Nat):Int)<=(h.H.length:Int) - 1 by omega)]at B;have C:=jb h (nth h.H i).S d;have o:=gf h (nth h.H i).S;have H:fk h<=1048576:=d.1;have c:ep h i=iP h.H (aS h (nth h.H i).S) (nth h.H i).b0 (aS h (nth h.H i).S).length:=rfl;obtain⟨ps,q⟩ : ∃ps,aS h (nth h.H i).S=ps:=⟨_,rfl⟩
 obtain⟨b,r⟩ : ∃b,(nth h.H i).b0=b:=⟨_,rfl⟩
 rw[q]at C o c;rw[r]at c g;rw[c];have J:iP h.H ps b 0=b:=rfl;refine fO 63 [ρ 4 7 22,ρ 11 10 43] Tryz.func286 rfl ?_
 refine σP ?_
 refine lp0 ps.length (λu=>[(2,bF (ac.enc .R h)),(5,fI (iP h.H ps b u)),(6,bK (aE .own ps)),(7,fN u)]) λu M=>?_
 by_cases K:u<ps.length
 ·have l:=ar K
  have t:=mJ a (ps:=ps) g u
  refine σE ?_
  refine lp0 h.H.length (λj=>[(2,bF (ac.enc .R h)),(5,fI (r6 h.H (nth ps u) (iP h.H ps b u) j)),(6,bK (aE .own ps)),(7,fN u),(8,fN j)]) λj L=>?_
  by_cases D:j<h.H.length
  ·have E:=ar D
   have w:=yR a (p:=nth ps u) t j L;by_cases e:(nth h.H j).S=nth ps u
   ·have k:r6 h.H (nth ps u) (iP h.H ps b u) (j+1)=bor (r6 h.H (nth ps u) (iP h.H ps b u) j) (nth h.H j).b0:=CJ e
    repeat'(first|refine gB ?_|apply CR (or64 w (nw a D)))
    (exact cV (j+1) ω)
   have k:r6 h.H (nth ps u) (iP h.H ps b u) (j+1)=r6 h.H (nth ps u) (iP h.H ps b u) j:=CI e
   refine σB ?_
   (exact cV (j+1) ω)
  obtain rfl:j=h.H.length:=ω
  refine σE ?_
  (exact cV (u+1) ω)
 obtain rfl:u=ps.length:=ω
 refine σE ?_
 rfl
def og{xs:List bc}(h:∀o∈xs,0<=o.k/\o.k<=1000):∀k:Nat,k<=xs.length->0<=tQ xs k/\tQ xs k<=1000*k
 | 0,_=>⟨Z9 _,Z9 _⟩
 | k+1,a=>by
  have b:=og h k ω;have c:=h _ (ax (xs:=xs) (i:=k) ω);simp only[tQ];omega
def z7(h:ac)(a:∀o∈h.K,0<=o.k/\o.k<=1000)(e:h.K.length<=1048576):zzA 95 false [ν h] .one [I (pD h)]:=by
 refine fO 21 [] Tryz.func95 rfl ?_
 refine σP ?_
 refine lp0 h.K.length (λk=>[(1,bF (ac.enc .R h)),(3,fI (tQ h.K k)),(4,fN k)]) λk c=>?_
 have g:=og a k c;by_cases b:k<h.K.length
 ·have d:=ar b
  have i:=a _ (ax b)
  refine σE ?_
  (exact cV (k+1) ω)
 obtain rfl:k=h.K.length:=ω
 refine σE ?_
 rfl
def AI(k b:Int)(h:b<=9223372036854775807):zzA 285 false [.vI (slots k),.vI b] .one (aE .own (oV k b)):=by
 have c:=sX k b;have p:0<=slots k/\slots k<=16:=by unfold slots;repeat' split<;>omega
 unfold oV;cases e:PR k b<;>rw[e]at c
 ·rw[CI ϕ]
  refine fO 27 [] Tryz.func285 rfl ?_ (.inr (bH _))
  refine σP ?_
  refine lE (λj:Nat=>[(0,fI (slots k)),(1,fI b),(5,bK (aE .own [])),(6,fN j)]) (λj=>j=0) (λj=>1 - j) (0) (rfl) λj g=>?_
  subst g
  repeat'(first|refine gE ?_|refine gS (λi=>?_) (λi=>?_)|fail)
  all_goals rfl
 rw[CJ rfl];refine fO 27 [] Tryz.func285 rfl ?_ (.inr (bH _))
 refine σP ?_
 refine lp0 ((slots k).toNat) (λj=>[(0,fI (slots k)),(1,fI b),(5,bK (aE .own (mL b j))),(6,fN j)]) λj g=>?_
 have l:=ss b j;by_cases q:j<(slots k).toNat
 ·have d:=jy b (j:Nat) h
  have a:mL b (j+1)=if bg b (j:Nat)=true then mL b j else mL b j++[((j:Nat):Int)]:=rfl
  cases n:bg b (j:Nat)<;>rw[n]at d a
  ·rw[CI ϕ]at a
   repeat'(first|refine gE ?_|refine Cb cx (λr o=>by rw[I2.1 o];rfl) ζ kd χ rfl ?_)
   (refine CP (j+1) ω ω ?_)
   rw[a]
   repeat'(first|exact tV1|rfl|exact CQ rfl (CQ (I1 (C.s ek.own) (by simp[rI])) tV1)|refine CQ ?_ ?_|(exact UA ξ))
  rw[CJ rfl]at a
  refine σE ?_
  (refine CP (j+1) ω ω ?_)
  rw[a];exact wB
 obtain rfl:j=(slots k).toNat:=ω
 refine σE ?_
 rfl
def E5(b i:Int):bor b (2 ^ i.toNat)=io b i:=by
 unfold bor io;have:((2 ^ i.toNat:Nat):Int)=(2:Int) ^ i.toNat:=Int.natCast_pow 2 i.toNat;rw[<-this,Z4]
def Ee(b i:Int)(d:0<=b/\b<=65535)(a:0<=i/\i<=15):zzA 288 false [.vI b,.vI i] .one [I (io b i)]:=by
 have c:=sg b i;rw[O0 ω]at c;have e:IntKind.u64.wrap i=i:=by unfold IntKind.wrap;simp[IntKind.signed,IntKind.bits];omega
 have h:=(shl64 a).2;have g:=(or64 (z1:=b) (z2:=2 ^ i.toNat) d ω).trans (E5 b i);refine fO 15 [] Tryz.func288 rfl ?_
 repeat'(first|refine gP ?_|refine CT ω ?_|apply CR e|apply CR (shl64 a).1|apply CR g)
 rfl
def Ty{s:a8}(b:bh s=true){k:Int}(d:0<=k/\k<slots s.a):0<=k*csz s.a/\k*csz s.a<=15:=by
 have a:=aJ b;have c:=gQ a.2.2;rcases dd a.2.2 with e|e|e|e<;>rw[e]at c |-<;>omega
def DZ(s:a8)(k:Int)(a:bh s=true)(d:0<=k/\k<slots s.a):zzA 289 false [.val (some 3) (a8.enc .R s),.vI k] .one [I (16*s.S+k*csz s.a)]:=by
 have e:=aJ a;have i:=Ty a d;have j:=gQ e.2.2;have b:=iw s;rw[a]at b;have g:=pO s.a;have c:=aK k 0 (slots s.a - 1);rw[O0 ω]at c;have h:=eK s.a;refine fO 26 [ρ 3 8 17] Tryz.func289 rfl ?_
 refine σP ?_
 exact nr ω
def Gx(f:aW)(g:f.a5.length<=1048576):zzA 290 false [.val (some 2) (aW.enc .R f)] .one [I (cu (λu=>!u) f.a5)]:=by
 refine fO 18 [] Tryz.func290 rfl ?_
 refine σP ?_
 refine gl f.a5.length (λi=>[(1,bF (aW.enc .R f)),(3,fN i)]) (λi=>∀(j:Nat)(z:Bool),j<i->f.a5[j]? = some z->(!z)=false) (λj z h=>ω) λi c=>?_
 obtain⟨c,b⟩:=c;by_cases d:i<f.a5.length
 ·have a:=ar d
  cases e:nth f.a5 i<;>rw[e]at a
  ·refine σE ?_
   exact nr (dJ a rfl b).symm
  refine σE ?_
  (exact cV (i+1) ⟨ω,fh a rfl b⟩)
 refine σE ?_
 exact nr (f8 ω b).symm
structure Rq where
 i:Nat
 out:List Int
 c:qe
def eH.enc(o:ek)(c:eH):List C:=[I (c.a2:Nat),I (c.W:Nat),I (c.c4:Nat),I c.c2,.s o (c.d.map (rI o))]
def kj(o:ek)(l:List dv):List C:=[.s o (l.map (dv.enc o))]
def dv.enc_fr(x:dv):fy (dv.enc .own x):=⟨tV1,tV1,tV1,tV1,tV1,tV1⟩
def FC(l:List dv):fy (kj .own l):=⟨⟨.inl λh=>(by cases h),aZ _ _ λy _=>dv.enc_fr y⟩,tV1⟩
def Qy(l:List dv):dw (kj .own l)=kj .R l:=by simp[dw,kj,dv.enc,<-bU,OB]
open Go.RowKit Go.Proofs.YtfdfgipemcbekaaGreatDoor.Sp Ac Tx
def n9(o:ek)(s:List dv × Nat × Bool):List C:=kj o s.1++[I (s.2.1:Nat),B s.2.2]
variable{s l:ByteArray}{L:List ByteArray}
def F4{f:ByteArray}{rs:List ByteArray}(h:fields s=f::rs):0<f.size/\f.size<=s.size:=by
 have a:f∈fields s:=by rw[h];exact C3 ..
 refine⟨?_,zA s f a⟩;obtain⟨p,b,rfl⟩:=O8.1 a;have c:=spans_mem s p b;unfold cut;rw[ByteArray.size_extract];omega
def B4(l:ByteArray):(yO l=false/\prs l=none/\flds l=[]/\Gl l=none)\/(yO l=true/\flds l=[]/\Gl l=some [])\/
  (∃f rs,yO l=true/\flds l=f::rs/\0<f.size/\byt f 0=59/\Gl l=some [])\/∃f rs,yO l=true/\flds l=f::rs/\0<f.size/\byt f 0≠59/\Gl l=(prs l).map λa=>[a]:=by
 unfold flds Gl Wp;cases h:yO l with
 | false=>
  have:=HL λx=>by rw[KI x]at h;cases h
  exact .inl ⟨rfl,this,rfl,by rw[this];rfl⟩
 | true=>
  cases c:fields l with
  | nil=>exact .inr (.inl ⟨rfl,rfl,rfl⟩)
  | cons f rs=>
   by_cases b:byt f 0=59
   ·exact .inr (.inr (.inl ⟨f,rs,rfl,rfl,(F4 c).1,b,by simp[b]⟩))
   exact .inr (.inr (.inr ⟨f,rs,rfl,rfl,(F4 c).1,b,by simp[b]⟩))
def Ue(s:ByteArray):uy s (s.size+1)=[]:=by unfold uy;rw[CI ω]
def VH(f:b<=i)(l:i<=s.size)(g:∀j,b<=j->j<i->byt s j≠10)(k:i<s.size->byt s i=10):uy s b=s.extract b i::uy s (i+1):=by
 have a:∀j,b<=j->j<i->s.data[j]?≠some 10:=λj c d e=>g j c d ((nR ω 10).1 e)
 rcases Nat.lt_or_ge i s.size with h|h
 ·exact QD f h ((nR h 10).2 (k h)) a
 obtain rfl:i=s.size:=ω
 obtain⟨c,d⟩:=QH f a;rw[c,d]
def Ho(s:ByteArray)(a b:Nat):(s.extract a b).size<=s.size:=by rw[ByteArray.size_extract];omega
def xh(s:ByteArray)(hs:s.size<=1048576):zzA 14 false [.val none [tC s]] (.tup [none,none,none]) (n9 .own (parse s)):=by
 have d:fy (n9 .own (parse s)):=ay (FC _) ⟨tV1,tV1,tV1⟩;by_cases o:20000<s.size
 ·rw[Fs o]at d |-
  refine fO 80 [] Tryz.func14 rfl ?_ (.inr d)
  repeat'(first|refine σR ?_|refine CV rfl ?_)
  exact⟨rfl,rfl,rfl,tV1⟩
 have Y:=E8 s;refine fO 80 [] Tryz.func14 rfl ?_ (.inr d)
 repeat'(first|refine σR ?_|refine CV rfl ?_)
 (conv=>whnf)
 refine lE (ι:=Nat × Nat × List ByteArray) (λp=>[(0,bK [tC s]),(5,bK (kj .own (qx p.2.2))),(6,fN (p.2.2.length)),(7,fN (p.2.1)),(8,fN (p.1))]) (λp=>p.1<=s.size+1/\p.2.1<=p.1/\dz s=p.2.2++uy s p.2.1/\Eg p.2.2/\(∀j,p.2.1<=j->j<p.1->byt s j≠10)/\(p.1=s.size+1->p.2.1=s.size+1)) (λp=>s.size+1 - p.1) ((0,0,[])) (⟨C1 _,O5 _,Qb s,(λ_ h=>by cases h),(λj G o=>absurd o ϕ),λh=>by simp at h⟩) λp Z=>?_
 obtain⟨i,b,L⟩:=p;obtain⟨hi,g,H,J,T,X⟩:=Z;simp only at hi g H J T X |-;have U:=I1 List.length H;rw[C6]at U;have hal:=AW L;by_cases M:i<=s.size
 ·have hb:=LA s i
  by_cases y:i<s.size/\byt s i≠10
  ·obtain⟨r,y⟩:=y
   repeat'(first|refine σT ?_|refine gS (λc=>?_) (λc=>?_)|refine CV rfl ?_|refine Cg i rfl r ?_)
   ((conv=>whnf);exact cV (i+1,b,L) ⟨by simp only;omega,by simp only;omega,H,J,(λj G o=>by rcases Nat.eq_or_lt_of_le (Nat.le_of_lt_succ o) with e|e;rw[e];exact y;exact T j G e),λh=>by simp only at h;omega⟩)
  have P:i<s.size->byt s i=10:=λh=>Decidable.of_not_not λx=>y ⟨h,x⟩
  have R:=VH g M T P;have B:dz s=(L++[s.extract b i])++uy s (i+1):=by rw[H,R];simp
  have V:=Ho s b i;have w:=oM (s.extract b i) ω;have C:=Et (s.extract b i) ω;have k:=Ff L (s.extract b i);have t:i<s.size/\byt s i=10\/¬i<s.size:=by by_cases h:i<s.size;exact .inl ⟨h,P h⟩;exact .inr h
  generalize u:s.extract b i=l at w C R B V k;rcases B4 l with⟨F,O,K,q⟩|⟨F,K,q⟩|⟨f,rs,F,K,S,e6,q⟩|⟨f,rs,F,K,S,e6,q⟩
  ·rw[F,K]at w
   rw[O]at C;rw[wQ o (H.trans (I1 (L++·) R)) J q]at d |-;rcases t with⟨r,y⟩|r
   all_goals
    repeat'(first|refine σT ?_|refine gS (λc=>?_) (λc=>?_)|refine CV rfl ?_|refine Cg i rfl ϑ ?_|refine Sx.mid b i rfl rfl g M u ?_|refine CF (w) ?_|refine CF (C) ?_)
    exact⟨rfl,rfl,rfl,tV1⟩
  ·rw[F,K]at w
   rw[q]at k;have hnl:([]:List ByteArray).length=0:=rfl;rcases t with⟨r,y⟩|r
   all_goals
    repeat'(first|refine σT ?_|refine gS (λc=>?_) (λc=>?_)|refine CV rfl ?_|refine Cg i rfl ϑ ?_|refine Sx.mid b i rfl rfl g M u ?_|refine CF (w) ?_|refine CF (C) ?_)
    (conv=>whnf)
    refine CP (i+1,i+1,L++[l]) ⟨by simp only;omega,O5 _,B,J.snoc (by rw[q];simp),(λj G o=>by simp only at G o;omega),λ_=>by simp only at *;omega⟩ τ ?_;simp only[k,Option.getD_some,List.append_nil,C6,List.length_singleton];exact wC
  ·rw[F,K]at w
   rw[q]at k;have n:(f::rs)[0]? = some f:=rfl;have W:(f::rs).length=rs.length+1:=List.length_cons ..;rcases t with⟨r,y⟩|r
   all_goals
    repeat'(first|refine σT ?_|refine gS (λc=>?_) (λc=>?_)|refine CV rfl ?_|refine Cg i rfl ϑ ?_|refine Cg 0 rfl S ?_|refine Sx.mid b i rfl rfl g M u ?_|refine CF (w) ?_|refine CF (C) ?_|refine CH (aa n) ?_|refine CK rfl (aa n) rfl ?_)
    (conv=>whnf)
    refine CP (i+1,i+1,L++[l]) ⟨by simp only;omega,O5 _,B,J.snoc (by rw[q];simp),(λj G o=>by simp only at G o;omega),λ_=>by simp only at *;omega⟩ τ ?_;simp only[k,Option.getD_some,List.append_nil,C6,List.length_singleton];exact wC
  rw[F,K]at w;have n:(f::rs)[0]? = some f:=rfl;have W:(f::rs).length=rs.length+1:=List.length_cons ..;cases O:prs l with
  | none=>
   rw[O]at C q;rw[wQ o (H.trans (I1 (L++·) R)) J q]at d |-;rcases t with⟨r,y⟩|r
   all_goals
    repeat'(first|refine σT ?_|refine gS (λc=>?_) (λc=>?_)|refine CV rfl ?_|refine Cg i rfl ϑ ?_|refine Cg 0 rfl S ?_|refine Sx.mid b i rfl rfl g M u ?_|refine CF (w) ?_|refine CF (C) ?_|refine CH (aa n) ?_|refine CK rfl (aa n) rfl ?_)
    exact⟨rfl,rfl,rfl,tV1⟩
  | some a=>
   rw[O]at C q;rw[q]at k;rcases t with⟨r,y⟩|r
   all_goals
    repeat'(first|refine σT ?_|refine gS (λc=>?_) (λc=>?_)|refine CV rfl ?_|refine Cg i rfl ϑ ?_|refine Cg 0 rfl S ?_|refine Sx.mid b i rfl rfl g M u ?_|refine CF (w) ?_|refine CF (C) ?_|refine CH (aa n) ?_|refine CK rfl (aa n) rfl ?_|refine Cc (rs:=(qx L++[a]).map (dv.enc .own)) (aI λ_=>rfl) rfl kd qs (by simp[dv.enc]) ?_)
    (conv=>whnf)
    refine CP (i+1,i+1,L++[l]) ⟨by simp only;omega,O5 _,B,J.snoc (by rw[q];simp),(λj G o=>by simp only at G o;omega),λ_=>by simp only at *;omega⟩ τ ?_;simp only[k,IA,Option.getD_some,C6,List.length_singleton];exact wC
 have F:i=s.size+1:=ω
 have O:=X F;rw[O,Ue,List.append_nil]at H;subst H;rw[Af o J]  at d |-;by_cases Q:80<(qx (dz s)).length
 ·rw[CJ Q]at d |-
  repeat'(first|refine σR ?_|refine gS (λc=>?_) (λc=>?_)|refine CV rfl ?_)
  exact⟨rfl,rfl,rfl,tV1⟩
 rw[CI Q]at d |-
 repeat'(first|refine σR ?_|refine gS (λc=>?_) (λc=>?_)|refine CV rfl ?_)
 exact⟨rfl,rfl,rfl,tV1⟩
def Eg.take(h:Eg (L.take i))(a:L[i]? = some l)(b:Gl l≠none):Eg (L.take (i+1)):=by rw[ZA,a];exact h.snoc b
def Q0(a:L[i]? = some l):qx (L.take (i+1))=qx (L.take i)++(Gl l).getD []:=by rw[ZA,a];exact Ff _ _
def Uq(h:l∈dz s):l.size<=s.size:=by
 obtain⟨x,a,rfl⟩:=O8.1 h;exact mZ _ _ a
def oB(s:ByteArray)(T:s.size<=1048576):zzA 32 false [.val none [tC s]] (.tup [none,none,none]) (n9 .own (parse s)):=by
 have c:fy (n9 .own (parse s)):=ay (FC _) ⟨tV1,tV1,tV1⟩;by_cases G:20000<s.size
 ·rw[Fs G]at c |-
  refine fO 64 [] Tryz.func32 rfl ?_ (.inr c)
  repeat'(first|refine σR ?_|refine CV rfl ?_)
  exact⟨rfl,rfl,rfl,tV1⟩
 have H:=E8 s;have O:=Ry s (dz s) ω (GR s) (Hh s);have t:=λl=>Uq (s:=s) (l:=l)
 have o:=λ(l:ByteArray)(L1 L2:List ByteArray)=>wQ (s:=s) (l:=l) (L1:=L1) (L2:=L2) G
 have u:=Af G;generalize dz s=L at H O t o u;refine fO 64 [] Tryz.func32 rfl ?_ (.inr c)
 repeat'(first|refine σR ?_|refine CV rfl ?_|refine CF (O) ?_)
 (conv=>whnf)
 refine gl L.length (λi=>[(5,bK (BN .own L)),(6,bK (kj .own (qx (L.take i)))),(19,.c5 5 0 [] none),(20,fN (L.length)),(21,fN i)]) (λi=>Eg (L.take i)) (λ_ h=>by cases h) λi P=>?_
 obtain⟨P,p⟩:=P;have J:=AW (L.take i);have w:(L.take i).length=i:=by rw[Z2];omega
 by_cases K:i<L.length
 ·obtain⟨l,d⟩ : ∃l,L[i]? = some l:=⟨_,Z3 K⟩
  have Q:=t l (I3 d);have k:=o6 l ω;have n:=DJ l ω;have g:=Q0 d;have y:L=L.take i++l::L.drop (i+1):=by
   conv=>lhs;rw[<-List.take_append_drop i L,List.drop_eq_getElem_cons K]
   rw[Z3 K]at d;rw[Option.some.inj d]
  rcases B4 l with⟨q,C,r,j⟩|⟨q,r,j⟩|⟨f,rs,q,r,F,R,j⟩|⟨f,rs,q,r,F,R,j⟩
  ·rw[q,r]at k
   rw[C]at n;rw[o l _ _ y p j,w]at c |-
   repeat'((conv=>whnf);first|with_reducible (first|refine Lm ?_|refine Wm ω ?_|refine CH (aa d) ?_|refine dT ω (λb=>?_)|refine dF ω (λb=>?_)|refine Bf.D (λb=>?_) (λb=>?_)|refine nT ω (λb=>?_)|refine nF ω (λb=>?_)|refine Bf.N (λb=>?_) (λb=>?_)|refine Bn ?_|refine CU rfl ?_)|refine Bt ?_|refine Bu ?_|refine CK rfl (aa d) rfl ?_|refine CF (k) ?_|refine CF (n) ?_)
   exact⟨rfl,rfl,rfl,tV1⟩
  ·rw[q,r]at k
   rw[j]at g;have S:([]:List ByteArray).length=0:=rfl
   repeat'((conv=>whnf);first|with_reducible (first|refine Lm ?_|refine Wm ω ?_|refine CH (aa d) ?_|refine dT ω (λb=>?_)|refine dF ω (λb=>?_)|refine Bf.D (λb=>?_) (λb=>?_)|refine nT ω (λb=>?_)|refine nF ω (λb=>?_)|refine Bf.N (λb=>?_) (λb=>?_)|refine eT ω (λb=>?_)|refine eF ω (λb=>?_)|refine Bf.E (λb=>?_) (λb=>?_)|refine Bn ?_|refine CU rfl ?_)|refine Bt ?_|refine Bu ?_|refine CK rfl (aa d) rfl ?_|refine CF (k) ?_|refine CF (n) ?_)
   (conv=>whnf)
   refine CP (i+1) ⟨ω,p.take d (by rw[j];simp)⟩ ω ?_;simp only[g,Option.getD_some,List.append_nil];exact wC
  ·rw[q,r]at k
   rw[j]at g;have e:(f::rs)[0]? = some f:=rfl;have M:(f::rs).length=rs.length+1:=List.length_cons ..
   repeat'((conv=>whnf);first|with_reducible (first|refine Lm ?_|refine Wm ω ?_|refine CH (aa d) ?_|refine dT ω (λb=>?_)|refine dF ω (λb=>?_)|refine Bf.D (λb=>?_) (λb=>?_)|refine nT ω (λb=>?_)|refine nF ω (λb=>?_)|refine Bf.N (λb=>?_) (λb=>?_)|refine eT ω (λb=>?_)|refine eF ω (λb=>?_)|refine Bf.E (λb=>?_) (λb=>?_)|refine Bn ?_|refine CU rfl ?_)|refine Bt ?_|refine Bu ?_|refine Cg 0 rfl F ?_|refine CK rfl (aa d) rfl ?_|refine CF (k) ?_|refine CF (n) ?_|refine CH (aa e) ?_|refine CK rfl (aa e) rfl ?_)
   (conv=>whnf)
   refine CP (i+1) ⟨ω,p.take d (by rw[j];simp)⟩ ω ?_;simp only[g,Option.getD_some,List.append_nil];exact wC
  rw[q,r]at k;have e:(f::rs)[0]? = some f:=rfl;have M:(f::rs).length=rs.length+1:=List.length_cons ..;cases C:prs l with
  | none=>
   rw[C]at n j;rw[o l _ _ y p j,w]at c |-
   repeat'((conv=>whnf);first|with_reducible (first|refine Lm ?_|refine Wm ω ?_|refine CH (aa d) ?_|refine dT ω (λb=>?_)|refine dF ω (λb=>?_)|refine Bf.D (λb=>?_) (λb=>?_)|refine nT ω (λb=>?_)|refine nF ω (λb=>?_)|refine Bf.N (λb=>?_) (λb=>?_)|refine eT ω (λb=>?_)|refine eF ω (λb=>?_)|refine Bf.E (λb=>?_) (λb=>?_)|refine Bn ?_|refine CU rfl ?_)|refine Bt ?_|refine Bu ?_|refine Cg 0 rfl F ?_|refine CK rfl (aa d) rfl ?_|refine CF (k) ?_|refine CF (n) ?_|refine CH (aa e) ?_|refine CK rfl (aa e) rfl ?_)
   exact⟨rfl,rfl,rfl,tV1⟩
  | some a=>
   rw[C]at n j;rw[j]at g
   repeat'((conv=>whnf);first|with_reducible (first|refine Lm ?_|refine Wm ω ?_|refine CH (aa d) ?_|refine dT ω (λb=>?_)|refine dF ω (λb=>?_)|refine Bf.D (λb=>?_) (λb=>?_)|refine nT ω (λb=>?_)|refine nF ω (λb=>?_)|refine Bf.N (λb=>?_) (λb=>?_)|refine eT ω (λb=>?_)|refine eF ω (λb=>?_)|refine Bf.E (λb=>?_) (λb=>?_)|refine Bn ?_|refine CU rfl ?_)|refine Bt ?_|refine Bu ?_|refine Cg 0 rfl F ?_|refine CK rfl (aa d) rfl ?_|refine CF (k) ?_|refine CF (n) ?_|refine CH (aa e) ?_|refine CK rfl (aa e) rfl ?_|refine Cc (rs:=(qx (L.take i)++[a]).map (dv.enc .own)) (aI λ_=>rfl) rfl kd qs (by simp[dv.enc]) ?_)
   (conv=>whnf)
   refine CP (i+1) ⟨ω,p.take d (by rw[j];simp)⟩ ω ?_;simp only[g,IA,Option.getD_some];exact wC
 obtain rfl:i=L.length:=ω
 rw[CA]at p J |-;rw[u p]at c |-;by_cases B:80<(qx L).length
 ·rw[CJ B]at c |-
  repeat'(first|refine σR ?_|refine gS (λb=>?_) (λb=>?_))
  exact⟨rfl,rfl,rfl,tV1⟩
 rw[CI B]at c |-
 repeat'(first|refine σR ?_|refine gS (λb=>?_) (λb=>?_))
 exact⟨rfl,rfl,rfl,tV1⟩
end Go.Proofs.YtfdfgipemcbekaaGreatDoor.Ab
