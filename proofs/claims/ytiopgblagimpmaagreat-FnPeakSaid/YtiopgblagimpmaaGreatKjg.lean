/- What is lent together with more that lies behind it: the more stays as it is. No condition. -/
import Derived.Test.YtiopgblagimpmaaGreatKjc
import Derived.Test.YtiopgblagimpmaaGreatKjd
import Derived.Test.YtiopgblagimpmaaGreatKjf
import Derived.Test.YtiopgblagimpmaaGreatKje
import Derived.Laws.StructEq
set_option linter.unusedVariables false
set_option linter.defProp false
set_option linter.unusedSimpArgs false
set_option linter.constructorNameAsVariable false
namespace Go.Proofs.YtiopgblagimpmaaGreat.Ab
open Go.RowKit
variable{rcs:List C}{f:Nat}{P:Program}
set_option maxRecDepth 20000
set_option maxHeartbeats 4000000
variable{rows:List (List C)}{o:dH}{off i k j:Nat}
def Rw.two{c:List C}{d e b:Nat}{K:List C->Nat->Prop}{f:dH}{rows2:List (List C)}{r a:List C}(h1:c[off]? = some (.s o rows))(g:rows[i]? = some r)(h:r.length=k)(l:r[j]? = some (.s f rows2))(n:rows2[d]? = some a)(p:a.length=e)(q:K a b):Rw c off [(i,k,j),(d,e,b)] K:=
 Rw.mk (r:=a) (j:=b) (by simp[ci,h1,g,h,l,n,p]) q
def oR{k:ah}{j:dy} : jmay k j=true↔(aH k=true/\k.Calls≠100000)/\kq j=true/\(ar k.F.O j.Y.a8).o≠0/\(ar k.F.O j.Y.a6).o≠0/\(ar k.F.O j.Y.a8).e≠(ar k.F.O j.Y.a6).e:=by
 unfold jmay;simp only[I0,C0]
def oo{p:cB}(h:fo p=true):p.W.length<=16:=by
 unfold fo at h;simp only[I0]at h;have a:∀i,i<p.W.length->(i:Int)<=nth p.W i:=λi=>by
  induction i with
  | zero=>
   intro a;have:=f8 h.1 a;unfold nr at this;rw[C0]at this;exact this.1
  | succ i b=>
   intro a;have c:=b ω;have:=f8 h.1 a;unfold nr at this;rw[C0]at this;have d:=this.2.2.resolve_left ω;rw[Nat.add_sub_cancel]at d;omega
 by_cases e:p.W.length<=16
 ·exact e
 exfalso;have c:=a 16 ω;have:=f8 h.1 (show 16<p.W.length by omega);unfold nr at this;rw[C0]at this;omega
def AB{j:dy}(h:kq j=true):dy.sml j:=by
 have:=oo (fJ.1 h).1;show j.Y.W.length<=1048576;omega
def iT{k:ah}(h:aH k=true):cU k.F=true:=by
 unfold aH at h;simp only[I0]at h;exact h.1.2
def HQ{k:Int} : ∀{l s s2 c:List Int}(n:Nat),(∀x∈s2,x∈s)->rd k s l=some c->∃d,rd k s2 (l.take n)=some d/\∀x∈d,x∈c
 | [],s,s2,c,n,h,e=>by
  simp only[rd,Z0,List.take_nil]at e |-;subst e;exact⟨s2,rfl,h⟩
 | a::l,s,s2,c,0,h,e=>⟨s2,rfl,λx b=>(o8 (λ_ y=>y) e).1 x (h x b)⟩
 | a::l,s,s2,c,n+1,h,e=>by
  simp only[List.take_succ_cons,rd]at e |-;split at e
  ·rename_i g
   rw[CA (show good k s2 a from⟨g.1,g.2.1,g.2.2.1,λx=>g.2.2.2 (h a x)⟩)];exact HQ (l:=l) (s:=s++[a]) (s2:=s2++[a]) n (λx b=>by
     rcases z3.1 b with b|b
     · exact z3.2 (.inl (h x b))
     exact z3.2 (.inr b)) e
  cases e
def FF:∀{a:List (List Int)}{k:Nat}{s s2:List Int}(i n:Nat),(∀x∈s2,x∈s)->(fX k s a).isSome=true->(fX k s2 (a.set i ((nth a i).take n))).isSome=true
 | [],_,_,_,_,_,_,_=>rfl
 | l::a,k,s,s2,i,n,h,e=>by
  simp only[fX,eL]at e;split at e
  ·rename_i g
   cases b:rd k s l with
   | none=>rw[b]at e;cases e
   | some j=>
    rw[b]at e;cases i with
    | zero=>
     obtain⟨c,d,f⟩:=HQ n h b;simp only[List.set_cons_zero,fX,eL];rw[CA ⟨by have:=g.1;simp only[nth,List.getD_cons_zero,V1];omega,g.2⟩];show((rd (k:Nat) s2 (l.take n)).bind λj=>fX (k+1) j a).isSome=true;rw[d];exact sY f e
    | succ i=>
     obtain⟨o,c,d,f⟩:=o8 h b;simp only[List.set_cons_succ,fX,eL];rw[CA g,d];exact FF i n f e
  cases e
def HF{c:aE}(h:bF c=true)(k:Nat):bF (qC c k)=true:=by
 unfold bF at h |-;simp only[I0,C0]at h |-;exact⟨by simp only[qC,U1];exact h.1,FF k _ (λ_ h=>h) h.2⟩
def nX(b:Int):Nat->List Int
 | 0=>[]
 | j+1=>if aW b (j:Nat)=true then nX b j else nX b j++[((j:Nat):Int)]
def tK{b:Int} : ∀{n:Nat}{z:Int},z∈nX b n->0<=z/\z<n/\aW b z=false
 | 0,_,h=>by cases h
 | n+1,z,h=>by
  unfold nX at h;split at h
  ·have:=tK h;exact⟨this.1,ω,this.2.2⟩
  rename_i e;rcases z3.1 h with h|h
  ·have:=tK h;exact⟨this.1,ω,this.2.2⟩
  rw[O1.1 h];exact⟨ω,ω,by simpa using e⟩
def th(b:Int):∀n,(nX b n).length<=n
 | 0=>C3 _
 | n+1=>by have:=th b n;unfold nX;split<;>simp<;>omega
def qr(k b:Int):List Int:=if Lr k b=true then nX b (slots k).toNat else []
def kj(h:ac)(i:Nat):List Int:=qr (nth h.H i).Z (fC h i)
def xo{k b z:Int}(h:z∈qr k b):0<=z/\z<slots k/\aW b z=false:=by
 unfold qr at h;split at h
 ·have:=tK h;exact⟨this.1,ω,this.2.2⟩
 cases h
def G6(k b:Int):(qr k b).length<=16:=by
 unfold qr;split
 ·rename_i h
  unfold Lr at h;rw[C0]at h;have:=(jw (k:=k) ⟨h.1,h.2.1⟩).2.2.1;have:=th b (slots k).toNat;omega
 exact W0 _
def zP(h:ac)(i:Nat):Int:=nth (kj h i) (ER h.b5 ((kj h i).length:Nat)).toNat
def slotT(h:ac)(i:Nat):ac:={h with b5:=yw h.b5,H:=h.H.set i (rK (nth h.H i) (zP h i))}
def uK(h:ac)(i:Nat):Int:=16*(nth h.H i).Q+zP h i*csz (nth h.H i).Z
variable{h:ac}
def zG(a:0<(kj h i).length):zP h i∈kj h i:=by
 have:=q8 h.b5 (n:=((kj h i).length:Nat)) ω;exact ax ω
def bi.slotT{h:ac}{E:List Int}{i:Nat}(a:bi h E)(b:i<h.H.length)(e:0<(kj h i).length):bi (slotT h i) (uK h i::E)/\iU (slotT h i).H (uK h i) (nth h.H i).Z:=by
 obtain⟨c,d,f⟩:=xo (zG e);exact⟨a.take b ⟨c,d⟩ f (Bq _),(iU.setS a.L b ⟨c,d⟩ _ _).2 (.inr ⟨rfl,.inr rfl⟩)⟩
def sD(h:ac)(c:Int)(i:Nat):Bool:=decide ((nth h.H i).Z=c)&&(!fp h (nth h.H i).Q&&decide (0<(kj h i).length))
def tU(h:ac)(c:Int):Option Nat:=(List.range h.H.length).find? (sD h c)
def tj(h:ac)(c:Int):ac:=addS h (ek h.J (aB h.b 1).2.1).1 (aB h.b 1).1 (aB h.b 1).2.1 c
def ru(h:ac):Nat:=kh (Hb (aB h.b 1).2.1) h.H
def m9(h:ac)(i:Nat):ac × Int:=if(kj h i).length=0 then(h,-1) else(slotT h i,uK h i)
def eJ(h:ac)(t c:Nat):ac × Int:=
 if 0<(nth (nth h.T t).X c).length then({h with T:=h.T.set t (qC (nth h.T t) c)},nth (nth (nth h.T t).X c) ((nth (nth h.T t).X c).length - 1))
 else match tU h c with
 | some i=>(slotT h i,uK h i)
 | none=>if(aB h.b 1).2.2=false then(h,-1)
  else if(ek h.J (aB h.b 1).2.1).2=false then({h with J:=(ek h.J (aB h.b 1).2.1).1},-1)
  else m9 (tj h c) (ru h)
variable{α:Type}
def Jt[Inhabited α](p:α->Bool)(xs:List α)(y:α):kh p xs<(jt p xs y).length/\nth (jt p xs y) (kh p xs)=y:=by
 have b:=NX p xs;have a:(xs.take (kh p xs)).length=kh p xs:=by rw[V1];omega
 refine⟨by rw[(kI p xs y).length_eq,List.length_cons];omega,bD ?_⟩;unfold jt;rw[O4 ω,a,Nat.sub_self]
 rfl
def bi.tEq{h:ac}{E:List Int}(a:bi h E){k:ah}(c:aH k=true)(b:tEq (tbl h) k.F.O):bi {h with J:=k} E/\JK h {h with J:=k}:=
 ⟨a.step (j:=h.y) (m:=h.q) c b.1 (a.pg.tEq b) a.job a.noj,⟨rfl,rfl,λs d _=>⟨s,d,rfl,λ_ z=>z⟩,λq e=>.inl ⟨(b.2 q).1.1 e,(b.2 q).2⟩⟩⟩
structure RK(h:ac)(c:Int)(r:ac × Int):Prop where
 no:r.2<0->bi r.1 []
 yes:0<=r.2->bi r.1 [r.2]/\iU r.1.H r.2 c
 jk:JK h r.1
 nx:r.1.w=h.w
 cl:r.1.T.length=h.T.length
variable{a c:Int}{E:List Int}
def iU.nn(b:bi h E)(d:iU h.H a c):0<=a:=(iU.bd b d).1
def RK.slot{h':ac}(g:bi h' [])(j:i<h'.H.length)(k:0<(kj h' i).length)(l:(nth h'.H i).Z=c)(n:JK h h')(a:fp h' (nth h'.H i).Q=false)(h1:h'.w=h.w)(o:h'.T.length=h.T.length):RK h c (slotT h' i,uK h' i):=by
 obtain⟨d,f⟩:=g.slotT j k;have b:=iU.nn d f;exact⟨λe=>absurd b (by simp only at e;omega),λ_=>⟨d,by rw[<-l];exact f⟩,n.trans (JK.take a),h1,o⟩
variable{t:Nat}
def tJ{c:Nat}(a:bi h [])(q:t<h.T.length)(P:c<=3)(B:h.J.Calls<=90000):RK h c (eJ h t c):=by
 have f:=a.cach _ (ax q);have C:=nZ f;unfold eJ;split
 ·rename_i D
  obtain⟨d,b⟩:=a.pop q ω D (HF f c);have l:=iU.nn a b;exact⟨λe=>absurd l (by simp only at e;omega),λ_=>⟨d,b⟩,JK.eq rfl rfl rfl rfl,rfl,U1 ..⟩
 split
 ·rename_i i r
  have g:=List.find?_some r;have E:=List.mem_range.1 (List.mem_of_find?_eq_some r);unfold sD at g;simp only[I0,C0,Bool.not_eq_true']at g;exact RK.slot a E g.2.2 g.1 (JK.refl h) g.2.1 rfl rfl
 split
 ·exact⟨λ_=>a,λe=>absurd e (by show ¬(0:Int)<=-1;decide),JK.refl h,rfl,rfl⟩
 rename_i F;have j:(aB h.b 1).2.2=true:=by simpa using F
 obtain⟨G,H,J,u⟩:=lF a (V4 1) j;have s:=BX.of (p:=(aB h.b 1).2.1) a.ker ω ⟨G,by have:(aB h.b 1).2.1+1<=(h.J.F.O.K.length:Nat):=H;omega⟩ (J _ ω ω);split
 ·rename_i n
  rw[s.no n];obtain⟨d,b⟩:=a.tEq (md a.ker ω) (tEq.refl _);exact⟨λ_=>d,λe=>absurd e (by show ¬(0:Int)<=-1;decide),b,rfl,rfl⟩
 rename_i n;have o:(ek h.J (aB h.b 1).2.1).2=true:=by simpa using n
 have w:BX h.J (aB h.b 1).2.1 ((ek h.J (aB h.b 1).2.1).1,true):=by rw[<-o];exact s
 have d:=a.addS (c:=c) ⟨ω,ω⟩ j w;have b:JK h (tj h c):=JK.addS w;obtain⟨K,A⟩:=Jt (Hb (aB h.b 1).2.1) h.H ⟨(aB h.b 1).2.1,c,0⟩;unfold m9;split
 ·exact⟨λ_=>d,λe=>absurd e (by show ¬(0:Int)<=-1;decide),b,rfl,rfl⟩
 refine RK.slot (h':=tj h c) (i:=ru h) d K ω (by show(nth (jt (Hb (aB h.b 1).2.1) h.H ⟨(aB h.b 1).2.1,c,0⟩) (ru h)).Z=_;unfold ru;rw[A]) b ?_ rfl rfl;show fp (tj h c) (nth (jt (Hb (aB h.b 1).2.1) h.H ⟨(aB h.b 1).2.1,c,0⟩) (ru h)).Q=false;unfold ru;rw[A,b.pg];rw[<-Z4];intro k;unfold fp at k;simp only[I0,T5,C0]at k;obtain⟨-,⟨y,L,M⟩,⟨z,N,O⟩⟩:=a.job k.1;rcases k.2 with e|e
 ·exact u _ (V4 _) ω (by rw[e,<-M];exact dG L)
 exact u _ (V4 _) ω (by rw[e,<-O];exact dG N)
def mh(size:Int):Nat:=((size+15) / 16).toNat
def js(h:ac)(size:Int):ah × Nat:=bO h.J (aB h.b (mh size:Nat)).2.1 (mh size)
def ou(h:ac)(t size:Int):ac × Int × Int:=
 if(aB h.b (mh size:Nat)).2.2=false then(h,-1,4)
 else if(js h size).2=mh size then(addL h (js h size).1 (aB h.b (mh size:Nat)).1 (aB h.b (mh size:Nat)).2.1 (mh size:Nat) size t,16*(aB h.b (mh size:Nat)).2.1,0)
 else({h with J:=dM (js h size).1 (aB h.b (mh size:Nat)).2.1 (js h size).2},-1,4)
def tX(xs:List bc):Nat->Int
 | 0=>0
 | i+1=>tX xs i+(nth xs i).a2
def wH(h:ac):Int:=tX h.R h.R.length
def fy(h:ac)(t size:Int):ac × Int × Int:=
 if 1000000<=h.w\/90000<h.J.Calls then(h,-1,5)
 else if ¬(0<=t/\t<=h.T.length - 1) then(h,-1,1)
 else if ¬(1<=size/\size<=1000) then(h,-1,2)
 else if h.c1<wH h+size then(h,-1,3)
 else if 0<=aV size then(if(eJ h t.toNat (aV size).toNat).2<0 then((eJ h t.toNat (aV size).toNat).1,-1,4) else(addO (eJ h t.toNat (aV size).toNat).1 (eJ h t.toNat (aV size).toNat).2 size t,(eJ h t.toNat (aV size).toNat).2,0))
 else ou h t size
variable{size:Int}
def KK{t:Int}(a:bi h [])(g:9<=size/\size<=1000)(i:h.w<1000000)(j:h.J.Calls<=90000)(k:0<=t/\t<=h.T.length - 1):bi (ou h t size).1 []/\JK h (ou h t size).1:=by
 have l:(mh size:Int)=(size+15) / 16:=by unfold mh;omega
 unfold ou;split
 ·exact⟨a,JK.refl h⟩
 rename_i o;have b:(aB h.b (mh size:Nat)).2.2=true:=by simpa using o
 obtain⟨c,d,e,w⟩:=lF a (show(1:Int)<=(mh size:Nat) by omega) b;have s:=mn.of (p:=(aB h.b (mh size:Nat)).2.1) (n:=mh size) a.ker ω ⟨c,d⟩ e (mh size) (C3 _);split
 ·rename_i q
  have f:mn h.J (aB h.b (mh size:Nat)).2.1 (mh size) ((js h size).1,mh size):=by
   have:((js h size).1,mh size)=js h size:=by rw[<-q]
   rw[this];exact s
  exact⟨a.addL g l b f i k,JK.addL f⟩
 obtain⟨r,u⟩:=s.undo a.ker ⟨c,d⟩ e;exact a.tEq r u
def Kq{t:Int}(a:bi h []):bi (fy h t size).1 []/\JK h (fy h t size).1:=by
 unfold fy;split
 ·exact⟨a,JK.refl h⟩
 rename_i d;rw[not_or]at d;split
 ·exact⟨a,JK.refl h⟩
 rename_i n;split
 ·exact⟨a,JK.refl h⟩
 rename_i o;split
 ·exact⟨a,JK.refl h⟩
 split
 ·rename_i b
  have f:aV size<=3:=by unfold aV;repeat' split<;>omega
  have s:=tJ (t:=t.toNat) (c:=(aV size).toNat) a ω ω ω;generalize eJ h t.toNat (aV size).toNat=r at s;split
  ·rename_i e;exact⟨s.no e,s.jk⟩
  rename_i e;obtain⟨g,i⟩:=s.yes ω;refine⟨g.addO (.inl ?_) (by rw[s.nx];omega) (by rw[s.cl];omega),s.jk.trans (JK.eq rfl rfl rfl rfl)⟩;obtain⟨z,j,k,p⟩:=i;exact⟨z,j,k,by show z.Z=aV size;omega⟩
 rename_i b;have l:9<=size:=by
  unfold aV at b
  repeat' split at b<;>omega
 exact KK a ⟨l,ω⟩ ω ω ω
def nl{β:Type}[Inhabited α]{f:α->β}{xs:List α}{y:α}(a:i<xs.length)(e:f y=f (nth xs i)):(xs.set i y).map f=xs.map f:=by
 rw[S5];refine List.ext_getElem (by simp) λj b c=>?_
 rw[List.getElem_set];split
 ·rename_i g;subst g
  rw[List.getElem_map,e,bD (O2 a)]
 rfl
def nC{α β:Type}[Inhabited α](f:α->List β):∀(xs:List α)(i:Nat)(y:α),i<xs.length->(f y).Sublist (f (nth xs i))->((xs.set i y).flatMap f).Sublist (xs.flatMap f)
 | [],_,_,h,_=>absurd h (Nat.not_lt_zero _)
 | x::xs,0,y,_,a=>by
  rw[List.set_cons_zero,X5,X5];exact List.Sublist.append a (List.Sublist.refl _)
 | x::xs,i+1,y,h,a=>by
  rw[List.set_cons_succ,X5,X5];exact List.Sublist.append (List.Sublist.refl _) (nC f xs i y (by simpa using h) a)
def zK(k:ah)(a:Int):Nat->ah
 | 0=>k
 | m+1=>jz (zK k a m) (a+m) 0
def wG(k:ah)(a:Int):∀m,(zK k a m).F.O=k.F.O/\(zK k a m).Calls=k.Calls/\(zK k a m).j=k.j
 | 0=>⟨rfl,rfl,rfl⟩
 | m+1=>wG k a m
def Qi{k:ah}(h:aH k=true){a:Int} : ∀{m:Nat},(∀j:Nat,j<m->(ar k.F.O ((a+j) / 16)).o≠0)->aH (zK k a m)=true
 | 0,_=>h
 | m+1,b=>wj (Qi h λj c=>b j ω) (by rw[(wG k a m).1];exact b m ω) ⟨ω,ω⟩
variable{n:Nat}{sp:List ay}
theorem GZ(j:bi h E){la:List aA}{o:List aC}{p:Int}(y:p+n<=h.J.F.O.K.length)(A:sp.Sublist h.H)(M:∀l∈la,∀q∈lpgs l l.a3.toNat,∃w∈h.M,q∈lpgs w w.a3.toNat)(N:0<=p)(B:∀q,q∈pgs sp la↔q∈pgs h.H h.M/\¬(p<=q/\q<p+n))(O:∀q,RH o q↔RH h.b q\/(p<=q/\q<p+n)) :
  Pg (dM h.J p n).F.O o sp la:=by
 have b:=(gK h.J p n).1;have d:=mC j.ker N n y;have f:∀q:Nat,(q:Int)∈pgs sp la->nth (dM h.J p n).F.O.K q=nth (tbl h).K q:=λq c=>by rw[d,C8 ((B q).1 c).2];rfl
 have a:∀q:Nat,(nth (dM h.J p n).F.O.K q).o≠0↔(nth (tbl h).K q).o≠0/\¬(p<=q/\(q:Int)<p+n):=λq=>by
  rw[d];by_cases e:p<=q/\(q:Int)<p+n
  ·rw[CA e];exact⟨λx=>absurd rfl x,λx=>absurd e x.2⟩
  rw[C8 e];exact⟨λx=>⟨x,e⟩,λx=>x.1⟩
 refine⟨λl g q c r J C k=>?_,λq c=>?_,λq c=>?_,λq c=>?_,λs g u D F K=>?_⟩
 ·have t:=(a r).1 C
  rw[b]at J;rw[f q (fG g c),d,C8 t.2]at k;obtain⟨w,G,H⟩:=M l g _ c;exact j.pg.one w G q H r J t.1 k
 ·rw[b];exact j.pg.bnd q ((B q).1 c).1
 ·rw[b]at c
  rw[a,B,j.pg.own q c]
 ·rw[b]at c
  rw[a,O,j.pg.fre q c]
  grind
 have i:∀s∈sp,0<=s.Q:=λs g=>(aL (j.L.sok s (A.subset g))).1
 have P:=f s.Q.toNat (by rw[Int.toNat_of_nonneg (i s g)];exact dG g);have Q:=f u.Q.toNat (by rw[Int.toNat_of_nonneg (i u D)];exact dG D);rw[P,Q]at K;exact j.pg.mesh s (A.subset g) u (A.subset D) F K
def trimL(l:aA)(size:Int):aA:=⟨l.Q,(size+15) / 16,size⟩
def dB(l:aA)(size:Int):Nat:=(l.a3 - (size+15) / 16).toNat
def bi.trimL{h:ac}{E:List Int}{i k:Nat}{size:Int}(t:bi h E)(T:i<h.R.length)(H:k<h.M.length)(Y:(nth h.R i).Addr=16*(nth h.M k).Q)(N:9<=size/\size<=(nth h.M k).a2) :
  ∃o,(dB (nth h.M k) size=0->o=h.b)/\(0<dB (nth h.M k) size->bY (gn h) h.b ⟨(nth h.M k).Q+(size+15) / 16,(dB (nth h.M k) size:Nat)⟩ = some o)/\
   bi {h with J:=dM h.J ((nth h.M k).Q+(size+15) / 16) (dB (nth h.M k) size),M:=h.M.set k (trimL (nth h.M k) size),R:=h.R.set i {nth h.R i with a2:=size},b:=o} E:=by
 have U:=t.L;have C:=U.lok _ (ax H);have hf:=aY C;unfold co at C;rw[C0]at C;obtain⟨b1,b2⟩:=Bp t H;have O:=U.dis;have G:=λj n=>U.one j k n H
 have y:=(ax H:nth h.M k∈h.M)
 have d:∀z∈h.M.set k (Ab.trimL (nth h.M k) size),z=Ab.trimL (nth h.M k) size\/∃j,j<h.M.length/\j≠k/\nth h.M j=z:=λz N=>fx N
 have p:Ab.trimL (nth h.M k) size∈h.M.set k (Ab.trimL (nth h.M k) size):=iu _ H;have u:∀j,j<h.M.length->j≠k->nth h.M j∈h.M.set k (Ab.trimL (nth h.M k) size):=λj n e=>jB _ n e
 have hpageM:(h.M.set k (Ab.trimL (nth h.M k) size)).map (·.Q)=h.M.map (·.Q):=nl H rfl;have w:(pgs h.H (h.M.set k (Ab.trimL (nth h.M k) size))).Sublist (pgs h.H h.M):=by
  unfold pgs;refine List.Sublist.append (List.Sublist.refl _) (nC _ _ _ _ H ?_);unfold lpgs;exact(List.range_sublist.2 (by simp only[Ab.trimL];omega)).map _
 obtain⟨l,V⟩ : ∃l,nth h.M k=l:=⟨_,rfl⟩
 rw[V]at C hf b1 b2 G y d p u hpageM w Y N |-;generalize hla:h.M.set k (Ab.trimL l size)=la at d p u hpageM w |-;have hn1:(1:Int)<=(size+15) / 16/\(size+15) / 16+(dB l size:Nat)=l.a3:=by unfold dB;omega
 have D:∀q,q∈lpgs l l.a3.toNat↔l.Q<=q/\q<l.Q+l.a3:=λq=>by
  rw[dt];constructor
  ·rintro⟨j,n,rfl⟩;omega
  rintro⟨Z,q2⟩;exact⟨(q - l.Q).toNat,ω,ω⟩
 have J:∀q,q∈lpgs (Ab.trimL l size) (Ab.trimL l size).a3.toNat↔l.Q<=q/\q<l.Q+(size+15) / 16:=λq=>by
  rw[dt];simp only[Ab.trimL];constructor
  ·rintro⟨j,n,rfl⟩;omega
  rintro⟨Z,q2⟩;exact⟨(q - l.Q).toNat,ω,ω⟩
 have hpe:l.Q+(size+15) / 16+(dB l size:Nat)=l.Q+l.a3:=ω
 have P:∀q,q∈pgs h.H la↔q∈pgs h.H h.M/\¬(l.Q+(size+15) / 16<=q/\q<l.Q+(size+15) / 16+(dB l size:Nat)):=λq=>by
  rw[pC,pC,hpe];constructor
  ·rintro(⟨s,W,rfl⟩|⟨z,c,B⟩)
   ·exact⟨.inl ⟨s,W,rfl⟩,λe=>O s W l y (s.Q - l.Q).toNat ω ω⟩
   rcases d z c with rfl|⟨j,n,hjk,rfl⟩
   ·have:=(J q).1 B
    exact⟨.inr ⟨l,y,(D q).2 ⟨ω,ω⟩⟩,ω⟩
   refine⟨.inr ⟨_,ax n,B⟩,λe=>?_⟩;obtain⟨m,hm,rfl⟩:=dt.1 B;exact hjk (G j n m ((nth h.M j).Q+(m:Int) - l.Q).toNat hm ω ω)
  rintro⟨⟨s,W,rfl⟩|⟨z,c,B⟩,hne⟩
  ·exact .inl ⟨s,W,rfl⟩
  obtain⟨j,n,rfl⟩:=bo c;by_cases e:j=k
  ·subst e
   rw[V]at B;have:=(D q).1 B;exact .inr ⟨_,p,(J q).2 ⟨ω,ω⟩⟩
  exact .inr ⟨_,u j n e,B⟩
 have K:∃o,(dB l size=0->o=h.b)/\(0<dB l size->bY (gn h) h.b ⟨l.Q+(size+15) / 16,(dB l size:Nat)⟩ = some o)/\bC (gn h) o=true/\∀q,RH o q↔RH h.b q\/(l.Q+(size+15) / 16<=q/\q<l.Q+(size+15) / 16+(dB l size:Nat)):=by
  by_cases e:dB l size=0
  ·refine⟨h.b,λ_=>rfl,λg=>absurd g ω,t.rng,λq=>⟨.inl,λg=>g.resolve_right ω⟩⟩
  obtain⟨o,o1,o2,o3⟩:=ux (r:=⟨l.Q+(size+15) / 16,(dB l size:Nat)⟩) t.rng ⟨by simp only;omega,by simp only;omega,by show l.Q+(size+15) / 16+(dB l size:Nat)<=(gn h:Int);have:((tbl h).K.length:Int)=(gn h:Int):=rfl;omega⟩ λq Z q2=>by
   simp only at Z q2;obtain⟨m,rfl⟩:=Z2 (show 0<=q by omega);have Q:m<(tbl h).K.length:=ω
   exact(t.pg.fre m Q).1 ((t.pg.own m Q).2 (fG y ((D _).2 ⟨ω,ω⟩)))
  exact⟨o,λg=>absurd g e,λ_=>o1,o2,o3⟩
 obtain⟨o,o0,o1,o2,o3⟩:=K;have R:=(gK h.J (l.Q+(size+15) / 16) (dB l size)).1;have M:∀z∈h.R.set i {nth h.R i with a2:=size},z = {nth h.R i with a2:=size}\/∃j,j<h.R.length/\j≠i/\nth h.R j=z:=λz N=>fx N
 have F:(h.R.set i {nth h.R i with a2:=size}).map (·.Addr)=h.R.map (·.Addr):=nl T rfl;have S:(h.R.set i {nth h.R i with a2:=size}).map (·.Id)=h.R.map (·.Id):=nl T rfl;have hli:=(ax T:nth h.R i∈h.R)
 generalize h.R.set i {nth h.R i with a2:=size} = ob at M F S |-;refine⟨o,o0,o1,{t with
   ker:=lI t.ker _ _
   rng:=by show bC (((dM h.J (l.Q+(size+15) / 16) (dB l size)).F.O.K.length:Nat):Int) o=true;rw[R];exact o2
   lay:=?_
   srl:=?_
   pg:=GZ t (by have:((tbl h).K.length:Int)=(h.J.F.O.K.length:Int):=rfl;omega) (List.Sublist.refl _) (λz c q B=>?_) ω P o3
   osr:=?_
   onu:=λz c=>?_
   oid:=by show(ob.map (·.Id)).Nodup;rw[S];exact t.oid
   oow:=λz c=>?_
   nd:=?_
   mem:=λb=>?_}⟩
 ·obtain⟨l1,l2,l3⟩:=dI t.lay
  unfold bA;simp only[I0,C0];refine⟨⟨l1,Z3.2 λz c=>?_⟩,l3.sublist w⟩;rcases d z c with rfl|⟨j,n,-,rfl⟩
  ·exact O0 ⟨N.1,by show size<=1000;omega,rfl,by show 0<=l.Q;omega,by show l.Q<=32 - (size+15) / 16;omega⟩
  exact U.lok _ (ax n)
 ·have A:(h.M.map (·.Q)).Pairwise (λa b=>a<b):=List.pairwise_map.2 t.srl
  rw[<-hpageM]at A;exact List.pairwise_map.1 A
 ·rcases d z c with rfl|⟨j,n,-,rfl⟩
  ·have:=(J q).1 B
   exact⟨l,y,(D q).2 ⟨ω,ω⟩⟩
  exact⟨_,ax n,B⟩
 ·have A:(h.R.map (·.Addr)).Pairwise (λa b=>a<b):=List.pairwise_map.2 t.osr
  rw[<-F]at A;exact List.pairwise_map.1 A
 ·rcases M z c with rfl|⟨j,n,-,rfl⟩
  ·exact t.onu (nth h.R i) hli
  exact t.onu _ (ax n)
 ·rcases M z c with rfl|⟨j,n,hji,rfl⟩
  ·exact .inr ⟨_,p,Y,rfl⟩
  rcases t.oow _ (ax n) with A|⟨l',hl',e1,X⟩
  ·exact .inl A
  obtain⟨m,hm,rfl⟩:=bo hl';by_cases e:m=k
  ·subst e
   rw[V]at e1;exact absurd (iz (f:=(·.Addr)) (ju t.osr) n T (e1.trans Y.symm)) hji
  exact .inr ⟨_,u m hm e,e1,X⟩
 ·have hh:holders {h with J:=dM h.J (l.Q+(size+15) / 16) (dB l size),M:=la,R:=ob,b:=o} = holders h:=by
   show((ob.map (·.Addr)++cy h)++h.a5.a1.map (·.Addr))++aU h.u=_;rw[F];rfl
  rw[hh];exact t.nd
 have hh:holders {h with J:=dM h.J (l.Q+(size+15) / 16) (dB l size),M:=la,R:=ob,b:=o} = holders h:=by
  show((ob.map (·.Addr)++cy h)++h.a5.a1.map (·.Addr))++aU h.u=_;rw[F];rfl
 rw[hh,t.mem b];show mj h.H h.M b↔mj h.H la b;unfold mj;constructor
 ·rintro(A|⟨z,c,e⟩)
  ·exact .inl A
  obtain⟨j,n,rfl⟩:=bo c;by_cases X:j=k
  ·subst X
   rw[V]at e;exact .inr ⟨_,p,e⟩
  exact .inr ⟨_,u j n X,e⟩
 rintro(A|⟨z,c,e⟩)
 ·exact .inl A
 rcases d z c with rfl|⟨j,n,-,rfl⟩
 ·exact .inr ⟨l,y,e⟩
 exact .inr ⟨_,ax n,e⟩
def qi(h:ac)(k:Nat)(size:Int):ah:=zK h.J (16*(nth h.M k).Q+size) (16*((size+15) / 16) - size).toNat
def xd(h:ac)(k:Nat)(size:Int):List aC:=if 0<dB (nth h.M k) size then(bY (gn h) h.b ⟨(nth h.M k).Q+(size+15) / 16,(dB (nth h.M k) size:Nat)⟩).getD h.b else h.b
def trimH(h:ac)(i k:Nat)(size:Int):ac:={h with J:=dM (qi h k size) ((nth h.M k).Q+(size+15) / 16) (dB (nth h.M k) size),M:=h.M.set k (trimL (nth h.M k) size),R:=h.R.set i {nth h.R i with a2:=size},b:=xd h k size}
def nJ(b:bi h E)(c:k<h.M.length)(g:16*(nth h.M k).Q<=a/\a<16*(nth h.M k).Q+16*(nth h.M k).a3):(ar h.J.F.O (a / 16)).o≠0:=by
 obtain⟨i,j⟩:=Bp b c;have l:=aY (b.L.lok _ (ax c));have d:(a / 16)∈pgs h.H h.M:=fG (ax c) (dt.2 ⟨(a / 16 - (nth h.M k).Q).toNat,ω,ω⟩);have e:=b.pg.bnd _ d;have f:=(b.pg.own (a / 16).toNat ω).2 (by rw[show(((a / 16).toNat:Nat):Int)=a / 16 by omega];exact d);unfold ar;rw[CA ⟨ω,e⟩];exact f
def Fh(b:bi h E)(c:k<h.M.length)(d:9<=size/\size<=(nth h.M k).a2):∀{m:Nat},m<=(16*((size+15) / 16) - size).toNat->aH (zK h.J (16*(nth h.M k).Q+size) m)=true:=fun {m} hm=>by
 have a:=b.L.lok _ (ax c);unfold co at a;rw[C0]at a;exact Qi b.ker λj e=>nJ b c ⟨ω,ω⟩
def bi.trimH{h:ac}{i k:Nat}{size:Int}(d:bi h [])(A:i<h.R.length)(f:k<h.M.length)(B:(nth h.R i).Addr=16*(nth h.M k).Q)(r:9<=size/\size<=(nth h.M k).a2):bi (trimH h i k size) []/\JK h (trimH h i k size):=by
 have t:=Fh d f r (C3 _);have l:=(wG h.J (16*(nth h.M k).Q+size) (16*((size+15) / 16) - size).toNat).1;have C:=d.cells t l;obtain⟨o,u,w,y⟩:=C.trimL (i:=i) (k:=k) (size:=size) A f B r;simp only at u w y;have n:gn {h with J:=zK h.J (16*(nth h.M k).Q+size) (16*((size+15) / 16) - size).toNat} = gn h:=by
  unfold gn;simp only[l]
 have D:xd h k size=o:=by
  unfold xd;split
  ·rename_i g;have:=w g;rw[n]at this;rw[this];rfl
  exact(u ω).symm
 have E:Ab.trimH h i k size = {h with J:=dM (qi h k size) ((nth h.M k).Q+(size+15) / 16) (dB (nth h.M k) size),M:=h.M.set k (Ab.trimL (nth h.M k) size),R:=h.R.set i {nth h.R i with a2:=size},b:=o}:=by unfold Ab.trimH;rw[D]
 refine⟨by rw[E];exact y,JK.less rfl rfl rfl λq j=>?_⟩;have a:=d.L.lok _ (ax f);unfold co at a;rw[C0]at a;obtain⟨F,G⟩:=Bp d f;have b:(qi h k size).F.O=h.J.F.O:=l;have c:=mC (k:=qi h k size) t (p:=(nth h.M k).Q+(size+15) / 16) ω (dB (nth h.M k) size) (by rw[b];have:((tbl h).K.length:Int)=(h.J.F.O.K.length:Int):=rfl;unfold dB;omega) q;change (nth (dM (qi h k size) ((nth h.M k).Q+(size+15) / 16) (dB (nth h.M k) size)).F.O.K q).o≠0 at j;show nth (dM (qi h k size) ((nth h.M k).Q+(size+15) / 16) (dB (nth h.M k) size)).F.O.K q=nth h.J.F.O.K q;rw[c]at j |-;split at j
 ·exact absurd rfl j
 rename_i e;rw[C8 e,b]
def Hc(h:1<=t/\t<=4):bT (dY t)=true:=by
 have f:∀n,n<=t->bz (dY t) n=0:=λn=>by
  induction n with
  | zero=>intro _;rfl
  | succ n g=>
   intro j;have a:nth (dY t).S n=[]:=dn ω;have b:nth (dY t).d n=[]:=dn ω;simp only[bz,g ω,a,b,List.length_nil]
   decide
 have e:(dY t).S.length=t:=W3 ..;refine eO.2 ⟨⟨ω,ω,by simp[dY]⟩,λi c=>?_,by rw[e,f t (C3 _)];omega⟩;rw[e]at c;have a:nth (dY t).S i=[]:=dn c;have b:nth (dY t).d i=[]:=dn c;rw[a,b];exact⟨λp d=>(by cases d),λp d=>(by cases d)⟩
def uo(t:Nat):aU (dY t)=[]:=by
 unfold aU;split
 ·simp[dY]
 rfl
def qS(k:ah)(t:Nat)(sd ck lim:Int):ac:=⟨k,[⟨0,(k.F.O.K.length:Nat)⟩],[],[],[],List.replicate t eR,dY t,⟨16,[]⟩,sd,ck,lim,1,false,⟨⟨0,0,[]⟩,0,0⟩⟩
def DI:bF eR=true:=by decide
def bi.fresh{k:ah}{lim sd ck:Int}(A:aH k=true)(B:∀q,q<k.F.O.K.length->(nth k.F.O.K q).o=0)(E:1<=t/\t<=4)(g:0<=lim/\lim<=1000)(h:0<=sd/\sd<=1073741823)(d:0<=ck/\ck<=1000000):bi (qS k t sd ck lim) []:=by
 obtain⟨G,H,J⟩:=bt.1 (aI.1 A).2.2.1;have hca:cy (qS k t sd ck lim)=[]:=by
  unfold cy;refine List.flatMap_eq_nil_iff.2 λc d=>?_
  rw[(List.mem_replicate.1 d).2]
  rfl
 have C:holders (qS k t sd ck lim)=[]:=by
  unfold holders;rw[hca];show(([]++[])++[])++aU (dY t)=[];rw[uo];rfl
 have i:∀a,¬mj (qS k t sd ck lim).H (qS k t sd ck lim).M a:=λa=>by
  rintro(⟨s,h,-⟩|⟨l,g,-⟩)
  ·cases h
  cases g
 exact {
   ker:=A
   rng:=f6.2 ⟨⟨List.pairwise_singleton ..,λy n=>by rw[O1.1 n];show(1:Int)<=(k.F.O.K.length:Nat);omega⟩,λy n=>by
       rw[O1.1 n];refine⟨V4 _,by show(1:Int)<=(k.F.O.K.length:Nat);omega,?_⟩;show(0:Int)+(k.F.O.K.length:Nat)<=(k.F.O.K.length:Nat);omega,by show(1:Int)<=(k.F.O.K.length:Nat);omega,by show((k.F.O.K.length:Nat):Int)<=32;omega⟩
   lay:=by show bA [] []=true;decide
   srs:=List.Pairwise.nil
   srl:=List.Pairwise.nil
   pg:=⟨λl g=>(by cases g),λp f=>(by cases f),λp f=>⟨λe=>absurd (B p f) e,λe=>by cases e⟩,λp f=>⟨λe=>absurd (B p f) e,λe=>absurd ⟨_,O1.2 rfl,by show(0:Int)<=p;omega,by
       show(p:Int)<0+(k.F.O.K.length:Nat);have F:p<k.F.O.K.length:=f;omega⟩ e⟩,λs h=>by cases h⟩
   mail:=Hc E
   nc:=by show(List.replicate t eR).length=(List.replicate t _).length;simp
   quar:=by show gm ⟨16,[]⟩ = true;decide
   snc:=λx r=>by cases r
   cach:=λc d=>by rw[(List.mem_replicate.1 d).2];exact DI
   nums:=by unfold dh;rw[C0];simp only[qS];omega
   osr:=List.Pairwise.nil
   onu:=λo u=>by cases u
   oid:=List.nodup_nil
   oow:=λo u=>by cases u
   hca:=λc d j D a b=>by
     rw[(List.mem_replicate.1 d).2]at D b;have w:j<4:=D;have:nth eR.X j=[]:=dn w;rw[this]at b;cases b
   hqu:=λx r=>by cases r
   hfl:=λa b=>by
     have:aU (dY t)=[]:=uo t;change a∈aU (dY t) at b;rw[this]at b;cases b
   hin:=λa b=>by cases b
   nd:=by rw[C];exact List.nodup_nil
   mem:=λa=>by rw[C];exact⟨λe=>(by cases e),λe=>absurd e (i a)⟩
   job:=λe=>by cases e
   noj:=λ_=>by show wM ⟨⟨0,0,[]⟩,0,0⟩ = true;decide}
def JI.no(a:h.q=false):JI h:=⟨λe=>(by rw[a]at e;cases e),λe=>(by rw[a]at e;cases e),λe=>(by rw[a]at e;cases e),λe=>(by rw[a]at e;cases e)⟩
def qb{p:Nat}{a:List Int}(d:1<=p/\p<=32)(e:1<=f/\f<=32)(b:a.length<=40/\∀x∈a,0<=x):aH (bV p f a)=true:=by
 obtain⟨-,g,h,i,c⟩:=aI.1 (BL d e);exact aI.2 ⟨λj k=>b.2 _ (ax k),g,h,i,c.1,c.2.1,b.1⟩
def Fj{p:Nat}{lim:Int}{a:List Int}(c:1<=p/\p<=32)(d:1<=f/\f<=32)(g:1<=t/\t<=4)(i:0<=lim/\lim<=1000)(j:a.length<=40/\∀x∈a,0<=x):bi (vD p f t lim a) []:=by
 have h:=bi.fresh (k:=bV p f a) (t:=t) (lim:=lim) (sd:=0) (ck:=0) (qb c d j) (λq l=>by
   have b:q<p:=by simpa[bV,fe] using l
   rw[show nth (bV p f a).F.O.K q = ⟨0,0⟩ from dn b]) g i ω ω
 have e:(bV p f a).F.O.K.length=p:=by simp[bV,fe]
 unfold qS at h;rw[e]at h;exact h
structure dK where
 b1:Int
 a0:Int
 N:Int
 At:Int
 Value:Int
deriving DecidableEq,Inhabited
def dK.enc(_:dH)(x:dK):List C:=[I x.b1,I x.a0,I x.N,I x.At,I x.Value]
def lG(id:Int)(o:aP):Bool:=decide (o.Id=id)
def uX(r:aJ)(id:Int):Int:=cA (lG id) r.R
def mq(r:aJ)(n:Int):aJ:=if 1<=n/\n<=1000 then {r with w:=r.w+1,R:=r.R++[⟨r.w,List.replicate n.toNat 0⟩]} else r
def pF(r:aJ)(id:Int):aJ:=if uX r id<0 then r else {r with R:=dele r.R (uX r id).toNat}
def gJ(r:aJ)(id at_ v:Int):aJ:=if 0<=uX r id/\(0<=at_/\at_<=(nth r.R (uX r id).toNat).W.length - 1)/\0<=v/\v<=999 then {r with R:=r.R.set (uX r id).toNat ⟨(nth r.R (uX r id).toNat).Id,(nth r.R (uX r id).toNat).W.set at_.toNat v⟩} else r
def j9(r:aJ)(id n:Int):aJ:=if 0<=uX r id/\1<=n/\n<=(nth r.R (uX r id).toNat).W.length then {r with R:=r.R.set (uX r id).toNat ⟨(nth r.R (uX r id).toNat).Id,(nth r.R (uX r id).toNat).W.take n.toNat⟩} else r
structure t8(r:aJ)(m:Nat):Prop where
 len:r.R.length<=m
 cel:∀o∈r.R,o.W.length<=1000
 nx:0<=r.w/\r.w<=m+1
variable{m:Nat}{r:aJ}
def t8.more(h:t8 r m)(a:m<=n):t8 r n:=⟨by have:=h.len;omega,h.cel,h.nx.1,by have:=h.nx.2;omega⟩
def t8.sml(h:t8 r m)(b:m<=1000):aJ.sml r:=⟨by have:=h.len;omega,λo a=>by have:=h.cel o a;show o.W.length<=1048576;omega⟩
def t8.alloc(h:t8 r m)(n:Int):t8 (mq r n) (m+1):=by
 unfold mq;split
 ·refine⟨by have:=h.len;simp only[O3,List.length_singleton];omega,λo a=>?_,by have:=h.nx.1;simp only;omega,by have:=h.nx.2;simp only;omega⟩
  rcases z3.1 a with a|a
  ·exact h.cel o a
  rw[O1.1 a];simp only[W3];omega
 exact h.more ω
def t8.free(h:t8 r m)(id:Int):t8 (pF r id) m:=by
 unfold pF;split
 ·exact h
 have a:=eE r.R (uX r id).toNat;exact⟨U4 a.length_le h.len,λo b=>h.cel o (a.subset b),h.nx⟩
def t8.set{x:aP}(h:t8 r m)(b:x.W.length<=1000):t8 {r with R:=r.R.set i x} m:=
 ⟨by simp only[U1];exact h.len,λo a=>by
   rcases V5 a with a|rfl
   · exact h.cel o a
   exact b,h.nx⟩
def gG[Inhabited α](p:α->Bool)(xs:List α)(h:0<=cA p xs):(cA p xs).toNat<xs.length/\p (nth xs (cA p xs).toNat)=true/\cA p xs=((cA p xs).toNat:Nat):=by
 rcases ur p xs with e|⟨n,a,e,b⟩
 ·omega
 rw[e,X2];exact⟨a,b,rfl⟩
def t8.store(h:t8 r m)(id a v:Int):t8 (gJ r id a v) m:=by
 unfold gJ;split
 ·rename_i e
  refine h.set ?_;simp only[U1];exact h.cel (nth r.R (uX r id).toNat) (ax (gG _ _ e.1).1)
 exact h
def t8.trim(h:t8 r m)(id n:Int):t8 (j9 r id n) m:=by
 unfold j9;split
 ·rename_i e
  refine h.set ?_;have:=h.cel (nth r.R (uX r id).toNat) (ax (gG _ _ e.1).1);simp only[V1];omega
 exact h
def Qh(id:Int)(o:bc):Bool:=decide (o.Id=id)
def su(h:ac)(id:Int):Int:=cA (Qh id) h.R
def mt(a:Int)(l:aA):Bool:=decide (l.Q*16=a)
def y2(h:ac)(a:Int):Int:=cA (mt a) h.M
def r9(h:ac)(a:dK):Prop:=0<=a.a0/\a.a0<=h.T.length - 1
instance (h:ac) (a:dK):Decidable (r9 h a):=by unfold r9;infer_instance
def rC(w:bB)(a:dK)(i:Nat):bB × Int:=
 if w.a.J.Calls=100000 then(w,6)
 else if r9 w.a a then(⟨(freeT w.a a.a0.toNat i).1,if(freeT w.a a.a0.toNat i).2=0 then pF w.c3 (nth w.a.R i).Id else w.c3⟩,(freeT w.a a.a0.toNat i).2)
 else(w,1)
def oU(w:bB)(a:dK)(i:Nat):bB × Int:=
 if ¬(0<=a.At/\a.At<=(nth w.a.R i).a2 - 1) then(w,90)
 else if(ar w.a.J.F.O (((nth w.a.R i).Addr+a.At) / 16)).o=1 then(w,2)
 else if ¬(0<=a.Value/\a.Value<=999) then(w,3)
 else(⟨{w.a with J:=jz w.a.J ((nth w.a.R i).Addr+a.At) a.Value},gJ w.c3 (nth w.a.R i).Id a.At a.Value⟩,0)
def lC(h:ac)(i:Nat)(n:Int):Prop:=0<=y2 h (nth h.R i).Addr/\9<=n/\n<=(nth h.M (y2 h (nth h.R i).Addr).toNat).a2
instance (h:ac) (i:Nat) (n:Int):Decidable (lC h i n):=by unfold lC;infer_instance
def r6(w:bB)(a:dK)(i:Nat):bB × Int:=
 if w.a.J.Calls≠100000/\lC w.a i a.Value then(⟨trimH w.a i (y2 w.a (nth w.a.R i).Addr).toNat a.Value,j9 w.c3 (nth w.a.R i).Id a.Value⟩,0) else(w,90)
def na(w:bB)(a:dK)(i:Nat):bB × Int:=if a.b1=2 then rC w a i else if a.b1=3 then oU w a i else r6 w a i
def jb(h:ac)(a:dK):ac × Int:=
 if a.b1=5 then(if r9 h a/\0<(nth h.u.S a.a0.toNat).length then({h with u:=gh h.u a.a0.toNat},0) else(h,90))
 else if ¬(h.J.Calls≠100000/\r9 h a) then(h,0)
 else if a.b1=6 then(collect h a.a0.toNat,((nth h.u.d a.a0.toNat).length:Nat))
 else((flushN a.a0.toNat h 4).1,((flushN a.a0.toNat h 4).2:Nat))
def pB(h:ac)(n:Int):ac × Int:=if h.J.Calls≠100000/\(0<=n/\n<=1000)/\h.b0+n<=1000000 then(tick h n,((ns h n).length:Nat)) else(h,0)
def vd(h:ac):Bool:=h.q&&decide (h.J.Calls<=99000)
def sg(h:ac):Nat->ac × Nat
 | 0=>(h,0)
 | i+1=>if vd (sg h i).1=true then(mStep (sg h i).1,(sg h i).2+1) else sg h i
def oY(h:ac):ac × Int:=if h.q=true then(h,90) else((started h).1,if(started h).2=true then 0 else 90)
def lm(w:bB)(a:dK):bB × Int:=
 if a.b1=1 then(⟨(fy w.a a.a0 a.N).1,if(fy w.a a.a0 a.N).2.2=0 then mq w.c3 a.N else w.c3⟩,(fy w.a a.a0 a.N).2.2)
 else if a.b1=2\/a.b1=3\/a.b1=4 then(if su w.a a.N<0 then(w,90) else na w a (su w.a a.N).toNat)
 else if a.b1=5\/a.b1=6\/a.b1=7 then(⟨(jb w.a a).1,w.c3⟩,(jb w.a a).2)
 else if a.b1=8 then(⟨(pB w.a a.N).1,w.c3⟩,(pB w.a a.N).2)
 else if a.b1=9 then(⟨(oY w.a).1,w.c3⟩,(oY w.a).2)
 else if a.b1=10/\0<=a.N/\a.N<=50 then(⟨(sg w.a a.N.toNat).1,w.c3⟩,((sg w.a a.N.toNat).2:Nat))
 else(w,90)
structure uU(w:bB)(m:Nat):Prop where
 inv:bi w.a []
 ji:JI w.a
 ref:t8 w.c3 m
variable{w:bB}
def uU.more(h:uU w m)(a:m<=n):uU w n:=⟨h.inv,h.ji,h.ref.more a⟩
def uU.jk(h:uU w m){g:ac}(a:bi g []/\JK w.a g)(b:t8 r m):uU ⟨g,r⟩ m:=⟨a.1,h.ji.keep a.1 a.2,b⟩
def qY(a:bi h E){o:bc}(p:o∈h.R){k:Int}(D:0<=k/\k<=o.a2 - 1):(ar h.J.F.O ((o.Addr+k) / 16)).o≠0/\0<=o.Addr/\o.Addr+k<512:=by
 rcases a.oow o p with⟨s,g,q,r⟩|⟨l,i,F,G⟩
 ·have b:=a.L.sok s g
  have t:=aL b;obtain⟨u,w,y⟩:=a.mapped g;have d:=cT t.2.2;obtain⟨H,J,A,-⟩:=q;have f:o.a2<=csz s.Z:=by
   have K:=wX (n:=o.a2) ω;rw[r];have:o.a2=1\/o.a2=2\/o.a2=3\/o.a2=4\/o.a2=5\/o.a2=6\/o.a2=7\/o.a2=8:=ω
   rcases this with e|e|e|e|e|e|e|e<;>rw[e]<;>decide
  have B:(o.Addr+k) / 16=s.Q:=by
   rcases d with e|e|e|e<;>rw[e]at A f<;>omega
  rw[B];refine⟨?_,ω,ω⟩;unfold ar;rw[CA ⟨u,w⟩];exact y
 obtain⟨j,C,rfl⟩:=bo i;have c:=a.L.lok _ i;unfold co at c;rw[C0]at c;exact⟨nJ a C ⟨ω,ω⟩,ω,ω⟩
def uU.obj(h:uU w m)(a:dK)(b:i<w.a.R.length):uU (na w a i).1 m:=by
 unfold na;split
 ·unfold rC
  split
  ·exact h
  split
  ·rename_i d
   unfold r9 at d;refine h.jk (h.inv.freeT b ω) ?_;split
   ·exact h.ref.free _
   exact h.ref
  exact h
 split
 ·unfold oU
  split
  ·exact h
  rename_i l;split
  ·exact h
  split
  ·exact h
  rename_i n;exact h.jk (h.inv.store (qY h.inv (ax b) ω).1 ω) (h.ref.store _ _ _)
 unfold r6;split
 ·rename_i e
  obtain⟨-,f,g⟩:=e;obtain⟨j,k,o⟩:=gG _ _ f;have c:=of_decide_eq_true k;exact h.jk (h.inv.trimH b j (c.symm.trans (Int.mul_comm _ _)) g) (h.ref.trim _ _)
 exact h
def uU.thread(h:uU w m)(a:dK):uU ⟨(jb w.a a).1,w.c3⟩ m:=by
 unfold jb;split
 ·split
  ·rename_i e
   obtain⟨b,i⟩:=e;unfold r9 at b;exact h.jk (g:={w.a with u:=gh w.a.u a.a0.toNat}) ⟨h.inv.deliv (by rw[<-h.inv.nc];omega) i,JK.eq rfl rfl rfl rfl⟩ h.ref
  exact h
 split
 ·exact h
 rename_i e;have e:=Classical.not_not.1 e;obtain⟨-,b⟩:=e;unfold r9 at b;split
 ·exact h.jk (g:=collect w.a a.a0.toNat) (h.inv.collect ω) h.ref
 have c:a.a0.toNat<w.a.T.length:=ω
 have d:=(iV h.inv c (C3 4)).1;have f:=JK.flushN h.inv c (C3 4);generalize flushN a.a0.toNat w.a 4=r at d f |-;exact h.jk (g:=r.1) ⟨d,f⟩ h.ref
def xO{h:ac}(a:bi h [])(b:JI h):∀n,bi (sg h n).1 []/\JI (sg h n).1
 | 0=>⟨a,b⟩
 | n+1=>by
  obtain⟨c,d⟩:=xO a b n;unfold sg;split
  ·rename_i e
   unfold vd at e;rw[I0]at e;exact c.mStep d e.1
  exact⟨c,d⟩
def uU.act(h:uU w m)(a:dK):uU (lm w a).1 (m+1):=by
 unfold lm;split
 ·have b:=Kq (t:=a.a0) (size:=a.N) h.inv
  refine⟨b.1,h.ji.keep b.1 b.2,?_⟩;show t8 (if _ then _ else _) (m+1);split
  ·exact h.ref.alloc _
  exact h.ref.more ω
 refine uU.more (m:=m) ?_ ω;split
 ·split
  ·exact h
  rename_i e;exact h.obj a (gG _ _ (by unfold su at e;omega)).1
 split
 ·exact h.thread a
 split
 ·unfold pB
  split
  ·rename_i e
   exact h.jk (h.inv.tick e.2.1.1 e.2.2) h.ref
  exact h
 split
 ·unfold oY
  split
  ·exact h
  rename_i e;have b:=Hn h.inv (by simpa using e);exact⟨b.1,b.2,h.ref⟩
 split
 ·have b:=xO h.inv h.ji a.N.toNat
  exact⟨b.1,b.2,h.ref⟩
 exact h
structure bM where
 a3:Nat
 V:Nat
 c5:Nat
 c1:Int
 j:List Int
deriving Inhabited
structure yu(c:bM):Prop where
 p:1<=c.a3/\c.a3<=32
 f:1<=c.V/\c.V<=32
 t:1<=c.c5/\c.c5<=4
 l:0<=c.c1/\c.c1<=1000
 r:c.j.length<=40/\∀x∈c.j,0<=x
def world0(c:bM):bB:=⟨vD c.a3 c.V c.c5 c.c1 c.j,{w:=1,R:=[]}⟩
def mc(c:bM)(acts:List dK):Nat->bB × List Int
 | 0=>(world0 c,[])
 | i+1=>((lm (mc c acts i).1 (nth acts i)).1,(mc c acts i).2++[(lm (mc c acts i).1 (nth acts i)).2])
def J3{c:bM}(h:yu c):uU (world0 c) 0:=
 ⟨Fj h.p h.f h.t h.l h.r,JI.no rfl,⟨C3 _,λo a=>(by cases a),by show(0:Int)<=1;omega,by show(1:Int)<=((0:Nat):Int)+1;omega⟩⟩
def nS{c:bM}(h:yu c)(acts:List dK):∀n,uU (mc c acts n).1 n
 | 0=>J3 h
 | n+1=>(nS h acts n).act _
def or64{z1 z2:Int}(h1:0<=z1/\z1<=65535)(a:0<=z2/\z2<=65535):IntKind.i64.wrap ((BitVec.ofInt IntKind.i64.bits z1 ||| BitVec.ofInt IntKind.i64.bits z2).toNat:Nat)=bor z1 z2:=by
 rw[BitVec.toNat_or,pc ω,pc ω];have b:=GT h1 a;unfold bor at b |-;exact fF ω ω
def sN{xs:List bc}(h:∀o∈xs,0<=o.a2/\o.a2<=1000):∀k:Nat,k<=xs.length->0<=tX xs k/\tX xs k<=1000*k
 | 0,_=>⟨V4 _,V4 _⟩
 | k+1,a=>by
  have b:=sN h k ω;have c:=h _ (ax (xs:=xs) (i:=k) ω);simp only[tX];omega
def Kz(b i:Int):bor b (2 ^ i.toNat)=i9 b i:=by
 unfold bor i9;have:((2 ^ i.toNat:Nat):Int)=(2:Int) ^ i.toNat:=Int.natCast_pow 2 i.toNat;rw[<-this,X2]
def mK(m:aM):∀(n i:Nat),i<n->((nth m.S i).length:Int)+(nth m.d i).length<=bz m n/\0<=bz m n
 | 0,i,h=>absurd h (Nat.not_lt_zero i)
 | n+1,i,h=>by
  have a:0<=bz m n:=by
   cases n with
   | zero=>exact V4 _
   | succ k=>exact(mK m (k+1) 0 ω).2
  simp only[bz];by_cases e:i=n
  ·subst e;omega
  have:=(mK m n i ω).1;omega
structure nM(m:aM):Prop where
 b4:1<=m.S.length/\m.S.length<=4
 i4:m.d.length=m.S.length
 bl:∀i,i<m.S.length->(nth m.S i).length<=30
 il:∀i,i<m.S.length->(nth m.d i).length<=30
def nM.of{m:aM}(h:bT m=true):nM m:=by
 obtain⟨⟨b,c,d⟩,-,e⟩:=eO.1 h;exact⟨⟨b,c⟩,d,λi a=>by have:=(mK m m.S.length i a).1;omega,λi a=>by have:=(mK m m.S.length i a).1;omega⟩
def nM.sml{m:aM}(h:nM m):aM.sml m:=by
 have c:=h.b4;have d:=h.i4;refine⟨⟨ω,λl a=>?_⟩,⟨ω,λl a=>?_⟩⟩
 ·obtain⟨i,b,rfl⟩:=bo a
  have:=h.bl i b;exact⟨ω,λ_ _=>trivial⟩
 obtain⟨i,b,rfl⟩:=bo a;have:=h.il i ω;show(nth m.d i).length<=1048576;omega
def Rx{m:aM}(a:f<m.S.length):m.S[f]? = some (nth m.S f):=au a
def A7(m:aM)(f:Nat)(p:cM):aM.enc .own (iI m f p)=[.s .own ((m.S.map (bL .own)).set f (bL .own (nth m.S f++[p]))),.s .own (m.d.map (aK .own))]:=by simp[aM.enc,iI,S5]
def JG{m:aM}(h:nM m)(c:f<m.S.length)(p:cM):aM.sml (iI m f p):=by
 have d:=h.b4;have b:=h.sml;refine⟨⟨by simp only[iI,U1];omega,λl a=>?_⟩,b.2⟩;rcases V5 a with a|rfl
 ·exact b.1.2 l a
 have:=h.bl f c;exact⟨by simp;omega,λ_ _=>trivial⟩
def Gz(m:aM)(f t:Nat)(a:(nth (nth m.S f) 0).To=t):aM.enc .own (gh m f)=[.s .own ((m.S.map (bL .own)).set f [.s .own (((nth m.S f).drop 1).map (cM.enc .U))]),.s .own ((m.d.map (aK .own)).set t (aK .own (nth m.d t++[(nth (nth m.S f) 0).Addr])))]:=by
 unfold aM.enc gh;simp only[S5,a,X2]
 rfl
def KO.set(rows:List (List C))(i:Nat){r r':List C}(h:Mm r r'):KO (.s .own (rows.set i r)) (.s .own (rows.set i r')):=by
 refine .own_ _ _ (by simp) (λj a b d f=>?_) (λj l a b c o d f n g=>?_)
 ·by_cases e:i=j
  ·subst e
   have k:i<rows.length:=by have:=(U2.1 d).1;simpa using this
   rw[V3 k]at d f;cases d;cases f;exact h.1
  rw[List.getElem?_set_ne e]at d f;rw[d]at f;cases f;rfl
 by_cases e:i=j
 ·subst e
  have k:i<rows.length:=by have:=(U2.1 d).1;simpa using this
  rw[V3 k]at d f;cases d;cases f;exact h.2 l c o n g
 rw[List.getElem?_set_ne e]at d f;rw[d]at f;cases f;rw[n]at g;cases g;exact .rfl_ _
def H9(now:Int):∀{l:List aO}{i:Nat},i<=l.length->(∀j,j<i->(nth l j).b2<now - 100)->(i<l.length->¬(nth l i).b2<now - 100)->qT now l=i
 | [],i,h,_,_=>by simp at h;subst h;rfl
 | x::xs,0,_,_,h=>by
  unfold qT;exact C8 (h (by simp))
 | x::xs,i+1,b,a,c=>by
  unfold qT;refine(CA (a 0 ω)).trans ?_;rw[H9 now (l:=xs) (i:=i) (by simp at b;omega) (λj d=>a (j+1) ω) (λe=>c (by simp;omega))]
def Pz(q:b9)(now:Int):List C:=b9.enc .own ⟨q.b7,q.a1.drop (qT now q.a1)⟩++dA .own (q.a1.take (qT now q.a1))
def F9(t:Nat)(h:ac)(az:List Int)(k:Nat)(a:k<az.length):recycs t h (az.take (k+1))=recyc t (recycs t h (az.take k)) (nth az k):=by
 unfold recycs;rw[t5,au a,Option.toList_some,List.foldl_append];rfl
def Ae(a:Int)(o:bc):Bool:=decide (o.Addr<=a/\a<o.Addr+o.a2)
def MY{p:α->Bool}{xs:List α}{x:α}(a:x∈xs)(b:p x=true):0<=cA p xs:=by
 have:=kN p xs;rw[show xs.any p=true from Y3.2 ⟨x,a,b⟩,C0]at this;exact this
def mi(l:aA)(n:Int):aC:=if(n+15) / 16<l.a3 then⟨l.Q+(n+15) / 16,l.a3 - (n+15) / 16⟩ else⟨0,0⟩
def MH(c:aE)(k:Nat):aE.enc .own (qC c k)=[.s .own ((c.X.map (aK .own)).set k (aK .own ((nth c.X k).take ((nth c.X k).length - 1))))]:=by simp[aE.enc,qC,S5]
def QN(xs:List Int)(n:Nat):(xs.take n).map (rI .U)=(xs.map (rI .U)).take n:=t4
def FI(k:ah)(p:Int)(f:Nat):ah.enc .own (qt k p f)=((ah.enc .own k).set 1 (.s .own ((k.F.V.k.map (rB .own)).set f (rB .own true)))).set 2 (.s .own ((k.F.O.K.map (bp.enc .own)).set p.toNat (bp.enc .own ⟨2,(f:Nat)⟩))):=by
 simp[ah.enc,qt,S5]
def vE{p:α->Bool}{xs:List α}{y:α}(h:kh p xs=i):jt p xs y=xs.take i++y::xs.drop i:=by unfold jt;rw[h]
def FE(a:i<h.H.length)(b:sD h c i=true)(d:∀j,j<i->sD h c j=false):tU h c=some i:=
 List.find?_range_eq_some.2 ⟨b,List.mem_range.2 a,λj e=>by rw[d j e];rfl⟩
def Er(a:∀j,j<h.H.length->sD h c j=false):tU h c=none:=
 List.find?_range_eq_none.2 λj b=>by rw[a j b];rfl
def sM(a:sD h c i=false)(b:∀j,j<i->sD h c j=false):∀j,j<i+1->sD h c j=false:=λj d=>by
 by_cases e:j=i
 ·rw[e];exact a
 exact b j ω
def Md{c:Nat}(b:bi h [])(l:c<=3)(e:h.J.Calls<=90000)(h1:¬(aB h.b 1).2.2=false)(f:¬(ek h.J (aB h.b 1).2.1).2=false):bi (tj h c) []/\ru h<(tj h c).H.length:=by
 have a:(aB h.b 1).2.2=true:=by simpa using h1
 obtain⟨g,i,j,n⟩:=lF b (V4 1) a;have s:=BX.of (p:=(aB h.b 1).2.1) b.ker ω ⟨g,by have:(aB h.b 1).2.1+1<=(h.J.F.O.K.length:Nat):=i;omega⟩ (j _ ω ω);have d:(ek h.J (aB h.b 1).2.1).2=true:=by simpa using f
 have k:BX h.J (aB h.b 1).2.1 ((ek h.J (aB h.b 1).2.1).1,true):=by rw[<-d];exact s
 exact⟨b.addS (c:=c) ⟨ω,ω⟩ a k,(Jt (Hb (aB h.b 1).2.1) h.H ⟨(aB h.b 1).2.1,c,0⟩).1⟩
def Hw(h:ac)(size:Int):ac × Int:=
 if(aB h.b (mh size:Nat)).2.2=false then(h,-1)
 else if(js h size).2=mh size then({h with J:=(js h size).1,b:=(aB h.b (mh size:Nat)).1,M:=jt (Qf (aB h.b (mh size:Nat)).2.1) h.M ⟨(aB h.b (mh size:Nat)).2.1,(mh size:Nat),size⟩},16*(aB h.b (mh size:Nat)).2.1)
 else({h with J:=dM (js h size).1 (aB h.b (mh size:Nat)).2.1 (js h size).2},-1)
def xC(k:ah)(p:Int)(i:Nat):bO k p (i+1)=if(bO k p i).2=i then((ek (bO k p i).1 (p+(i:Nat))).1,if(ek (bO k p i).1 (p+(i:Nat))).2=true then i+1 else i) else bO k p i:=rfl
def EI(k:ah)(p:Int):∀i,(bO k p i).2<=i
 | 0=>C3 _
 | i+1=>by
  have b:=EI k p i;rw[xC];by_cases e:(bO k p i).2=i
  ·rw[CA e]
   show(if _ then i+1 else i)<=i+1;by_cases a:(ek (bO k p i).1 (p+(i:Nat))).2=true
   ·rw[CA a];exact C3 _
   rw[C8 a];exact Nat.le_succ _
  rw[C8 e];omega
def qZ{k:ah}{p:Int}{i:Nat}(h:(bO k p i).2≠i):∀j,bO k p (i+j)=bO k p i/\(bO k p (i+j)).2<i+j
 | 0=>⟨rfl,by show(bO k p i).2<i;have:=EI k p i;omega⟩
 | j+1=>by
  have a:=qZ h j;have e:bO k p (i+(j+1))=bO k p (i+j):=by
   show bO k p (i+j+1)=_;rw[xC,C8 ω]
  exact⟨e.trans a.1,by rw[e];omega⟩
def E4{k:ah}(h:aH k=true)(b:jx k.j):ah.wf k:=by
 obtain⟨p,f,g,q,t⟩:=aI.1 h;obtain⟨u,w,y,A⟩:=bh.1 f;obtain⟨i,B,C⟩:=bt.1 g;refine⟨⟨⟨⟨ω,λr b=>?_⟩,⟨ω,λ_ _=>trivial⟩⟩,⟨ω,λe l=>?_⟩⟩,⟨ω,ω⟩,b⟩
 ·obtain⟨j,c,rfl⟩:=bo b
  obtain⟨D,n⟩:=Hi h c;exact⟨ω,λv o=>by have:=n v o;exact⟨ω,ω⟩⟩
 obtain⟨j,c,rfl⟩:=bo l;have a:=i j c;unfold kT at a;rw[C0]at a;by_cases d:(nth k.F.O.K j).o=0
 ·have:=a.2.2.1 d;exact⟨⟨ω,ω⟩,⟨ω,ω⟩⟩
 have:=a.2.2.2 d;exact⟨⟨ω,ω⟩,⟨ω,ω⟩⟩
def HZ{p:cB}(h:fo p=true):cB.wf p:=by
 have a:=λi b=>mB h (i:=i) b
 have e:p.W.length<=16:=oo h;unfold fo at h;simp only[I0,C0]at h;exact⟨⟨ω,ω⟩,⟨ω,ω⟩,⟨ω,λv c=>by
   obtain⟨j,d,rfl⟩:=bo c;have:=a j d;exact⟨ω,ω⟩⟩⟩
def bi.jobWf(a:bi h E):dy.wf h.y/\dy.sml h.y:=by
 cases b:h.q with
 | true=>
  obtain⟨c,f,g,i,j⟩:=fJ.1 (a.job b).1;have k:=oo c;exact⟨⟨HZ c,⟨ω,ω⟩,⟨ω,ω⟩⟩,by show h.y.Y.W.length<=1048576;omega⟩
 | false=>
  have:=a.noj b;unfold wM at this;rw[C0]at this;obtain⟨l,n,e,o,p⟩:=this;refine⟨⟨⟨⟨ω,ω⟩,⟨ω,ω⟩,⟨ω,λv d=>?_⟩⟩,⟨ω,ω⟩,⟨ω,ω⟩⟩,by show h.y.Y.W.length<=1048576;omega⟩;rw[S6 e]at d;cases d
def vO{n:Int}(h:0<=aV n):1<=n/\n<=8:=by
 unfold aV at h
 repeat' split at h
 all_goals omega
def iU.wf(b:bi h E)(d:iU h.H a c):nI a:=by
 have:=d.bd b;exact⟨ω,ω⟩
def bi.wf(d:bi h E)(M:jx h.J.j):ac.wf h:=by
 have q:=d.lens;have r:=d.L;have D:=d.nums;unfold dh at D;rw[C0]at D;obtain⟨X,N,Y⟩:=f6.1 d.rng;obtain⟨O,-,-,Z,q5,-⟩:=jC.1 d.quar;have w:=d.mail;have k:=d.hfl;unfold aU at k;rw[CA w]at k;unfold bT at w;simp only[I0,C0,cu,gu,Z3,nq,Pd]at w;obtain⟨⟨⟨m1,m2,m3⟩,P⟩,m5⟩:=w;have A:=q.free;have Q:=q.spans;have h3:=q.larges;have h4:=q.objs;have h5:=q.caches;have h6:=q.quar;have t:∀n:Nat,bz h.u n<=bz h.u (n+1):=λn=>by simp only[bz];omega
 have g:∀a b:Nat,a<=b->bz h.u a<=bz h.u b:=λa b u=>by
  induction u with
  | refl=>exact V4 _
  | step _ R=>exact Int.le_trans R (t _)
 have B:∀n:Nat,0<=bz h.u n:=λn=>g 0 n (W0 _)
 have o:∀i,i<h.u.S.length->(nth h.u.S i).length<=30/\(nth h.u.d i).length<=30:=λi f=>by
  have F:=g (i+1) h.u.S.length ω;have S:=B i;simp only[bz]at F;omega
 refine⟨E4 d.ker M,⟨ω,λx e=>?_⟩,⟨ω,λx e=>?_⟩,⟨ω,λx e=>?_⟩,⟨ω,λx e=>?_⟩,⟨ω,λx e=>?_⟩,⟨⟨ω,λl c=>?_⟩,⟨ω,λl c=>?_⟩⟩,⟨⟨ω,ω⟩,⟨ω,λx e=>?_⟩⟩,⟨ω,ω⟩,⟨ω,ω⟩,⟨ω,ω⟩,⟨ω,ω⟩,trivial,d.jobWf.1⟩
 ·have:=N x e;exact⟨⟨ω,ω⟩,⟨ω,ω⟩⟩
 ·have y:=r.sok x e
  have G:=dQ y;have T:=aL y;exact⟨⟨ω,ω⟩,⟨ω,ω⟩,⟨ω,ω⟩⟩
 ·have H:=aY (r.lok x e)
  have J:=cW (r.lok x e);exact⟨⟨ω,ω⟩,⟨ω,ω⟩,⟨ω,ω⟩⟩
 ·obtain⟨o1,o2,o3,o4⟩:=d.onu x e
  have u:0<=x.Addr/\x.Addr<512/\-1000<=x.a2/\x.a2<=1000:=by
   rcases d.oow x e with⟨s,y,A,Q⟩|⟨l,c,F,S⟩
   ·have T:=aL (r.sok s y)
    have:=vO (n:=x.a2) ω;exact⟨by have:=A.1;omega,by have:=A.2.1;omega,ω,ω⟩
   have H:=aY (r.lok l c);have J:=cW (r.lok l c);omega
  exact⟨⟨ω,ω⟩,⟨ω,ω⟩,⟨ω,ω⟩,⟨ω,ω⟩⟩
 ·obtain⟨c1,U⟩:=q.lists x e
  refine⟨ω,λl c=>⟨by have:=U l c;omega,λa C=>?_⟩⟩;obtain⟨j,V,rfl⟩:=bo c;exact iU.wf d (d.hca x e j V a C)
 ·obtain⟨i,f,rfl⟩:=bo c
  have G:=o i f;refine⟨ω,λp K=>?_⟩;have W:=(P i f).1 p K;exact⟨⟨ω,ω⟩,iU.wf d (k p.Addr (z3.2 (.inl (List.mem_flatMap.2 ⟨_,ax f,z4.2 ⟨p,K,rfl⟩⟩))))⟩
 ·obtain⟨i,f,rfl⟩:=bo c
  have G:=o i ω;exact⟨ω,λa C=>iU.wf d (k a (z3.2 (.inr (List.mem_flatten.2 ⟨_,ax f,C⟩))))⟩
 have H:=O x e;have J:=d.snc x e;exact⟨iU.wf d (d.hqu x e),⟨ω,ω⟩,⟨ω,ω⟩⟩
structure Tw(h:ac):Prop where
 ker:aH h.J=true
 wf:ac.wf h
 sml:ac.sml h
 lens:tY h
def bi.fit(a:bi h E)(b:jx h.J.j)(c:aM.sml h.u):Tw h:=⟨a.ker,a.wf b,a.lens.sml a.ker c a.jobWf.2,a.lens⟩
def Gv(b:bi h [])(c:h.q=true):aH (mStep h).J=true/\(mStep h).J.Calls<=h.J.Calls+1/\(mStep h).J.j=h.J.j/\(mStep h).u=h.u/\(Fr h=true->(mStep h).q=false)/\dy.wf (mStep h).y/\dy.sml (mStep h).y:=by
 have s:=JS.of b c;refine⟨s.ker,s.calls.2.1,s.calls.2.2,rfl,λa=>?_,?_⟩
 ·unfold Fr at a
  rw[C0]at a;show(if over _=true then false else h.q)=false;rw[CA (show over (gl h.J h.y).2=true from O0 (.inl a))]
 show dy.wf (if over _=true then _ else _)/\dy.sml (if over _=true then _ else _);split
 ·exact⟨⟨⟨⟨by decide,by decide⟩,⟨by decide,by decide⟩,⟨by decide,λv f=>by cases f⟩⟩,⟨by decide,by decide⟩,⟨by decide,by decide⟩⟩,by show(0:Nat)<=1048576;omega⟩
 have d:=(fJ.1 (b.job c).1).1;have g:=oo d;obtain⟨j,k⟩:=s.ph;obtain⟨l,i⟩:=s.nxt;have e:=s.plan;refine⟨⟨by rw[e];exact HZ d,⟨ω,ω⟩,⟨ω,by rw[e]at i;omega⟩⟩,by show((gl h.J h.y).2.Y.W).length<=1048576;rw[e];omega⟩
def yZ(h:ac):Nat->ac × Bool
 | 0=>(h,false)
 | i+1=>if(yZ h i).1.q=true then(mStep (yZ h i).1,Fr (yZ h i).1) else yZ h i
def fin(h:ac):ac × Bool:=yZ h 100
def uw(hi:bi h []):bi (started h).1 []/\(started h).1.J=h.J/\(started h).1.u=h.u:=by
 have r:=hi.nums;unfold dh at r;rw[C0]at r;have t:=(kV (bH h).length (show 0<=h.b5/\h.b5<=1073741823 by omega) ((bH h).length - 1)).2;have g:=qz (bH h) (show 0<=h.b5/\h.b5<=1073741823 by omega);have c:dh {h with b5:=(shuf (bH h).length h.b5).2} = true:=by
  unfold dh;rw[C0];unfold shuf;simp only;omega
 cases j:mG (bH h) h.b5 with
 | nil=>
  have f:Ab.started h=({h with b5:=(shuf (bH h).length h.b5).2},false):=by unfold Ab.started;rw[j]
  rw[f];exact⟨{hi with nums:=c},rfl,rfl⟩
 | cons q y=>
  obtain⟨C,D,k⟩:=g q (by rw[j];exact Z1 ..);have f:Ab.started h=({h with b5:=(shuf (bH h).length h.b5).2,q:=true,y:=JD (dC (nth (bH h) q.A.toNat) (nth (bH h) q.B.toNat))},true):=by unfold Ab.started;rw[j]
  rw[f];have d:∀s∈bH h,s∈h.H:=λs u=>pq h (C3 _) s (List.mem_of_mem_take u)
  have l:=d _ (ax (xs:=bH h) (i:=q.A.toNat) ω);have n:=d _ (ax (xs:=bH h) (i:=q.B.toNat) ω);generalize nth (bH h) q.A.toNat=a at k l |-;generalize nth (bH h) q.B.toNat=b at k n |-;obtain⟨w,E,F⟩:=tD k;have o:kq (JD (dC a b))=true:=fJ.2 ⟨w,by show(0:Int)<=0;omega,by show(0:Int)<=5;omega,by show(0:Int)<=0;omega,by show(0:Int)<=(((dC a b).W.length:Nat):Int);omega⟩;have p:(∃s∈h.H,s.Q=(dC a b).a8)/\∃s∈h.H,s.Q=(dC a b).a6:=by
   unfold dC;split
   ·exact⟨⟨b,n,rfl⟩,⟨a,l,rfl⟩⟩
   exact⟨⟨a,l,rfl⟩,⟨b,n,rfl⟩⟩
  exact⟨{hi with nums:=c,job:=λ_=>⟨o,p⟩,noj:=λe=>by cases e},rfl,rfl⟩
def bi.objSz(a:bi h E):∀o∈h.R,0<=o.a2/\o.a2<=1000:=λx c=>by
 rcases a.oow x c with⟨s,d,e,f⟩|⟨l,b,g,i⟩
 ·have j:=aL (a.L.sok s d)
  have:=vO (n:=x.a2) ω;omega
 have k:=cW (a.L.lok l b);omega
def KI(t:Int)(c:bi h [])(d:9<=size/\size<=1000):ou h t size=if(Hw h size).2<0 then((Hw h size).1,-1,4) else(addO (Hw h size).1 (Hw h size).2 size t,(Hw h size).2,0):=by
 unfold ou Hw;by_cases a:(aB h.b (mh size:Nat)).2.2=false
 ·rw[CA a,CA a]
  exact(CA (show(-1:Int)<0 by decide)).symm
 rw[C8 a,C8 a];obtain⟨e,-⟩:=lF c (show(1:Int)<=(mh size:Nat) by unfold mh;omega) (by simpa using a);by_cases b:(js h size).2=mh size
 ·rw[CA b,CA b]
  exact(C8 (show ¬16*(aB h.b (mh size:Nat)).2.1<0 by omega)).symm
 rw[C8 b,C8 b];exact(CA (show(-1:Int)<0 by decide)).symm
def lE(h:ac)(i k:Nat)(n:Int)(K:ah):ac:={h with J:=K,M:=h.M.set k (trimL (nth h.M k) n),R:=h.R.set i {nth h.R i with a2:=n}}
def JY(h:ac)(i k:Nat)(n:Int)(K:ah):(lE h i k n K).R.map (bc.enc .own)=(h.R.map (bc.enc .own)).set i (splice (bc.enc .own (nth h.R i)) 2 [I n]):=by
 simp[lE,S5,bc.enc,splice]
def FC(a:α)(k:Nat):List.replicate (k+1) a=List.replicate k a++[a]:=List.replicate_succ' ..
def Gu(n k:Nat):aS.enc .own ⟨List.replicate k (List.replicate 16 0),List.replicate n false⟩ = [.s .own (List.replicate k [.s .own (List.replicate 16 [I 0])]),.s .own (List.replicate n [B false])]:=by
 simp[aS.enc,aK,rI,rB,List.map_replicate]
def vY(n:Nat)(e:1<=n/\n<=32):zzA 465 false [.val none [I (n:Nat)]] (.tup [some 2,none]) (aS.enc .own (ew n)++[B true]):=by
 have c:=aF ((n:Nat):Int) 1 32;rw[O0 ω]at c;have a:=aD (b:=[B true]) (aS.enc_fr (ew n)) ⟨trivial,trivial⟩;rw[show aS.enc .own (ew n)=_ from Gu n n]at a |-;refine fO 25 [(7,4,[18,19,20,21])] Tryz.func465 rfl ?_ (.inr a)
 repeat'(first|refine gP ?_|(conv=>whnf);first|refine C9 ?_|refine C7 (c) ?_|refine Mk.mk n rfl rfl ω (D8 ω (by decide)) rfl ?_)
 (conv=>whnf)
 refine CD (ι:=Nat) (λk=>[(0,.G .one [I ((n:Nat))]),(2,.G .box [.z,.z]),(4,.G .box [.s .own (List.replicate k [.s .own (List.replicate 16 [I 0])]),.s .own (List.replicate n [B false])]),(5,.G .one [I ((k:Nat):Int)])]) (λk=>k<=n) (λk=>n - k) (0) ?_ (W0 _) λk g=>?_
 ·exact wB
 by_cases h:k<n
 ·repeat'(first|refine gE ?_|(conv=>whnf);first|refine C9 ?_|refine Mk.mk 16 rfl rfl (by decide) (by decide) rfl ?_|refine Ap.sn (λr d=>by rw[(List.mem_replicate.1 d).2];rfl) rfl (by simp;omega) (by decide) (FC _ k) ?_)
  ((conv=>whnf);refine CC (k+1) ω ω ?_;(exact wB))
 obtain rfl:k=n:=ω
 repeat'(first|refine gE ?_|(conv=>whnf);first|refine C9 ?_)
 rfl
def yq(n:Nat)(e:1<=n/\n<=32):zzA 466 false [.val none [I (n:Nat)]] (.tup [some 1,none]) (aN.enc .own (fe n)++[B true]):=by
 have c:=aF ((n:Nat):Int) 1 32;rw[O0 ω]at c;have a:=aD (b:=[B true]) (aN.enc_fr (fe n)) ⟨trivial,trivial⟩;have d:aN.enc .own (fe n)=[.s .own (List.replicate n [I 0,I 0])]:=by simp[aN.enc,fe,bp.enc,List.map_replicate]
 rw[d]at a |-;refine fO 11 [] Tryz.func466 rfl ?_ (.inr a)
 repeat'(first|refine gP ?_|(conv=>whnf);first|refine C9 ?_|refine C7 (c) ?_|refine Mk.mk n rfl rfl ω (D8 ω (by decide)) rfl ?_)
 rfl
def uZ(p f:Nat)(a:1<=p/\p<=32)(b:1<=f/\f<=32):zzA 348 false [.val none [I (p:Nat)],.val none [I (f:Nat)]] (.tup [some 3,none]) (aR.enc .own ⟨ew f,fe p⟩++[B true]):=by
 refine fO 30 [] Tryz.func348 rfl ?_ (.inr (aD (aR.enc_fr _) ⟨trivial,trivial⟩))
 repeat'(first|refine gP ?_|(conv=>whnf);first|refine C9 ?_|refine C7 (vY f b) ?_|refine C7 (yq p a) ?_)
 rfl
def P5(n:Nat):Mm [.s .own (List.replicate n [.z]),.s .own (List.replicate n [.z]),B true] (aM.enc .own (dY n)++[B true]):=by
 have e:aM.enc .own (dY n)++[B true]=[.s .own (List.replicate n [.s .own []]),.s .own (List.replicate n [.s .own []]),B true]:=by simp[aM.enc,dY,bL,aK,List.map_replicate]
 rw[e];exact .cons (.rep (.cons .z_ .nil)) (.cons (.rep (.cons .z_ .nil)) (.cons (.rfl_ _) .nil))
def Dv(n:Nat)(b:1<=n/\n<=4):zzA 200 false [.val none [I (n:Nat)]] (.tup [some 2,none]) (aM.enc .own (dY n)++[B true]):=by
 have a:=aF ((n:Nat):Int) 1 4;rw[O0 ω]at a;refine fO 13 [(3,4,[8,9,10,11])] Tryz.func200 rfl ?_ (.inr (aD (aM.enc_fr _) ⟨trivial,trivial⟩))
 repeat'((conv=>whnf);first|with_reducible (first|refine Lm ?_|refine Wm ω ?_|refine Bn ?_|refine jh.dk rfl ?_)|refine Bt ?_|refine Bu ?_|refine C9 ?_|refine C7 (a) ?_|refine Mk.mk n rfl rfl ω (D8 ω (by decide)) rfl ?_)
 exact P5 n
def Mx:Mm [.s .own (List.replicate 4 [.z])] (aE.enc .own eR):=.cons (.rep (.cons .z_ .nil)) .nil
def yS:zzA 202 false [] .agg (aE.enc .own eR):=by
 refine fO 3 [] Tryz.func202 rfl ?_ (.inr (aE.enc_fr _))
 repeat'((conv=>whnf);first|with_reducible (first|refine Lm ?_|refine Wm ω ?_|refine Bn ?_|refine jh.dk rfl ?_)|refine Bt ?_|refine Bu ?_|refine C9 ?_|refine Mk.mk 4 rfl rfl (by decide) (by decide) rfl ?_)
 exact Mx
def BI:zzA 201 false [.val none [I 16]] (.tup [some 2,none]) (b9.enc .own ⟨16,[]⟩++[B true]):=by
 refine fO 10 [] Tryz.func201 rfl ?_ (.inr (aD (b9.enc_fr _) ⟨trivial,trivial⟩))
 repeat'((conv=>whnf);first|with_reducible (first|refine Lm ?_|refine Wm ω ?_|refine Bn ?_|refine jh.wk rfl ?_)|refine Bt ?_|refine Bu ?_|refine C9 ?_|refine C7 (aF 16 0 500) ?_)
 exact⟨rfl,rfl,rfl,trivial⟩
def caps(h:ac)(k:Nat):ac:={h with T:=List.replicate k eR}
def JE(k:Nat):(List.replicate (k+1) eR).map (aE.enc .own)=(List.replicate k eR).map (aE.enc .own)++[aE.enc .own eR]:=by rw[FC,z5];rfl
def N2 : ∀r∈(List.replicate k eR).map (aE.enc .own),r.length=1:=aQ λ_=>rfl
def PN(x:List aP):fz (.s .own (x.map (aP.enc .own)))=.s .U (x.map (aP.enc .U)):=(List.cons.inj (List.cons.inj (aJ.enc_fz ⟨0,x⟩)).2).1
def df:∀a b:List C,dN (a++b)=dN a++dN b
 | [],_=>rfl
 | x::xs,b=>by show fz x::dN (xs++b)=fz x::(dN xs++dN b);rw[df xs b]
structure gx where
 i:Nat
 h:Int
deriving Inhabited
def w64(x:Int):Int:=IntKind.i64.wrap x
def Ro(h:Int):Int:=w64 (w64 (h*6364136223846793005)+1442695040888963407)
def QQ(a b:Int):Int:=w64 ((BitVec.ofInt IntKind.i64.bits a ^^^ BitVec.ofInt IntKind.i64.bits b).toNat:Nat)
def and255(a:Int):Int:=w64 ((BitVec.ofInt IntKind.i64.bits a &&& BitVec.ofInt IntKind.i64.bits 255).toNat:Nat)
def ND(h:Int)(n:Nat):Int:=h.fdiv (2 ^ (min n IntKind.i64.bits))
def zQ(h:Int):Int:=and255 (QQ (ND h 33) (ND h 45))
def AD(a:Int):0<=and255 a/\and255 a<=255:=by
 have b:(BitVec.ofInt IntKind.i64.bits a &&& BitVec.ofInt IntKind.i64.bits 255).toNat<=255:=by
  rw[BitVec.toNat_and];exact U4 Nat.and_le_right (by decide)
 unfold and255 w64;rw[fF ω ω];omega
def dx(zs:List Int)(c:gx):Int × gx:=if c.i<zs.length then(and255 (zQ (Ro c.h)+nth zs c.i),⟨c.i+1,Ro c.h⟩) else(zQ (Ro c.h),⟨c.i,Ro c.h⟩)
def rQ(zs:List Int)(c:gx):0<=(dx zs c).1/\(dx zs c).1<=255:=by
 unfold dx;split<;>exact AD _
variable{zs:List Int}
def iJ{c:gx}(h:c.i<=zs.length):(dx zs c).2.i<=zs.length:=by
 unfold dx;split
 ·simp only;omega
 exact h
def Ay(zs:List Int)(c:gx):Int × gx:=
 ((dx zs c).1*16777216+(dx zs (dx zs c).2).1*65536+(dx zs (dx zs (dx zs c).2).2).1*256+(dx zs (dx zs (dx zs (dx zs c).2).2).2).1,(dx zs (dx zs (dx zs (dx zs c).2).2).2).2)
def br(zs:List Int)(c:gx)(n:Int):Int × gx:=if n<=256 then((dx zs c).1 % n,(dx zs c).2) else((Ay zs c).1 % n,(Ay zs c).2)
def bK(zs:List Int)(c:gx){n:Int}(h:1<=n):0<=(br zs c n).1/\(br zs c n).1<n:=by
 unfold br;split<;>exact⟨Int.emod_nonneg _ ω,Int.emod_lt_of_pos _ ω⟩
def bR{c:gx}(h:c.i<=zs.length)(n:Int):(br zs c n).2.i<=zs.length:=by
 unfold br;split
 ·exact iJ h
 exact iJ (iJ (iJ (iJ h)))
def kU(zs:List Int)(c:gx)(l:List Int):Int × gx:=(nth l (br zs c (l.length:Nat)).1.toNat,(br zs c (l.length:Nat)).2)
def pd(zs:List Int)(c:gx){l:List Int}(h:1<=l.length):(kU zs c l).1∈l:=by
 have:=bK zs c (n:=(l.length:Nat)) ω;exact ax ω
def oD(zs:List Int):Nat->Nat->List Int->gx->List Int × gx
 | 0,_,out,c=>(out,(br zs c 4).2)
 | f+1,i,out,c=>if(i:Int)<(br zs c 4).1 then oD zs f (i+1) (out++[(br zs (br zs c 4).2 12).1]) (br zs (br zs c 4).2 12).2 else(out,(br zs c 4).2)
def NV(zs:List Int)(c:gx):List Int × gx:=oD zs 4 0 [] c
def H7(zs:List Int):∀(f i:Nat)(out:List Int)(c:gx),(∀x∈out,0<=x)->out.length+f<=4->c.i<=zs.length->(∀x∈(oD zs f i out c).1,0<=x)/\(oD zs f i out c).1.length<=4/\(oD zs f i out c).2.i<=zs.length
 | 0,_,out,c,b,e,d=>⟨b,by show out.length<=4;omega,bR d _⟩
 | f+1,i,out,c,b,e,d=>by
  unfold oD;split
  ·refine H7 zs f (i+1) _ _ (λx a=>?_) (by simp only[O3,List.length_singleton];omega) (bR (bR d _) _)
   rcases z3.1 a with a|a
   ·exact b x a
   rw[O1.1 a];exact(bK zs _ (by decide)).1
  exact⟨b,by show out.length<=4;omega,bR d _⟩
def yM(zs:List Int)(c:gx):Int × gx:=br zs c 7
def E5(zs:List Int)(c:gx):Int × gx:=br zs (yM zs c).2 3
def He(zs:List Int)(c:gx):Int × gx:=br zs (E5 zs c).2 100
def Be(zs:List Int)(c:gx):Int × gx:=br zs (He zs c).2 4
def Qq(zs:List Int)(c:gx):List Int × gx:=NV zs (Be zs c).2
def oy(zs:List Int)(c:gx):bM:=⟨(6+(yM zs c).1).toNat,(6+(yM zs c).1 - (Be zs c).1).toNat,(1+(E5 zs c).1).toNat,40+(He zs c).1,(Qq zs c).1⟩
def En{c:gx}(h:c.i<=zs.length):yu (oy zs c)/\(Qq zs c).2.i<=zs.length:=by
 have a:=bK zs c (n:=7) (by decide);have b:=bK zs (yM zs c).2 (n:=3) (by decide);have d:=bK zs (E5 zs c).2 (n:=100) (by decide);have e:=bK zs (He zs c).2 (n:=4) (by decide);change 0<=(yM zs c).1/\(yM zs c).1<7 at a;change 0<=(E5 zs c).1/\(E5 zs c).1<3 at b;change 0<=(He zs c).1/\(He zs c).1<100 at d;change 0<=(Be zs c).1/\(Be zs c).1<4 at e;obtain⟨f,k,g⟩:=H7 zs 4 0 [] (Be zs c).2 (λx j=>by cases j) (by simp) (bR (bR (bR (bR h _) _) _) _);refine⟨⟨?_,?_,?_,?_,?_⟩,g⟩
 ·show 1<=(6+(yM zs c).1).toNat/\(6+(yM zs c).1).toNat<=32;omega
 ·show 1<=(6+(yM zs c).1 - (Be zs c).1).toNat/\(6+(yM zs c).1 - (Be zs c).1).toNat<=32;omega
 ·show 1<=(1+(E5 zs c).1).toNat/\(1+(E5 zs c).1).toNat<=4;omega
 ·show 0<=40+(He zs c).1/\40+(He zs c).1<=1000;omega
 exact⟨by show(oD zs 4 0 [] (Be zs c).2).1.length<=40;omega,f⟩
def AE(zs:List Int)(c:gx):Int × gx:=br zs c 3
def FW(zs:List Int)(c:gx)(ids:Int):Int × gx:=br zs (AE zs c).2 ids
def lf(zs:List Int)(c:gx)(ids:Int):Int × gx:=br zs (FW zs c ids).2 20
def szs:List Int:=[1,1,2,2,3,4,4,5,8,9,20]
def nQ(zs:List Int)(c:gx)(ids:Int):dK × gx:=
 if(lf zs c ids).1<=6 then(⟨1,(AE zs c).1,(kU zs (lf zs c ids).2 szs).1,0,0⟩,(kU zs (lf zs c ids).2 szs).2)
 else if(lf zs c ids).1<=9 then(⟨2,(AE zs c).1,1+(FW zs c ids).1,0,0⟩,(lf zs c ids).2)
 else if(lf zs c ids).1<=12 then(⟨3,(AE zs c).1,1+(FW zs c ids).1,(br zs (lf zs c ids).2 4).1,1+(br zs (br zs (lf zs c ids).2 4).2 999).1⟩,(br zs (br zs (lf zs c ids).2 4).2 999).2)
 else if(lf zs c ids).1=13 then(⟨4,(AE zs c).1,1+(FW zs c ids).1,0,9+(br zs (lf zs c ids).2 10).1⟩,(br zs (lf zs c ids).2 10).2)
 else if(lf zs c ids).1=14 then(⟨(kU zs (lf zs c ids).2 [5,6]).1,(AE zs c).1,1+(FW zs c ids).1,0,0⟩,(kU zs (lf zs c ids).2 [5,6]).2)
 else if(lf zs c ids).1=15 then(⟨7,(AE zs c).1,1+(FW zs c ids).1,0,0⟩,(lf zs c ids).2)
 else if(lf zs c ids).1=16 then(⟨8,(AE zs c).1,(kU zs (lf zs c ids).2 [1,30,60,120]).1,0,0⟩,(kU zs (lf zs c ids).2 [1,30,60,120]).2)
 else if(lf zs c ids).1=17 then(⟨9,(AE zs c).1,1+(FW zs c ids).1,0,0⟩,(lf zs c ids).2)
 else(⟨10,(AE zs c).1,(kU zs (lf zs c ids).2 [1,2,3,10,30]).1,0,0⟩,(kU zs (lf zs c ids).2 [1,2,3,10,30]).2)
structure Rc(a:dK):Prop where
 k:1<=a.b1/\a.b1<=10
 t:0<=a.a0/\a.a0<=1000000
 n:0<=a.N/\a.N<=1000000
 p:0<=a.At/\a.At<=1000000
 v:0<=a.Value/\a.Value<=1000000
def Lg{c:gx}{ids:Int}(h:c.i<=zs.length)(b:1<=ids/\ids<=1000):Rc (nQ zs c ids).1/\(nQ zs c ids).2.i<=zs.length:=by
 have d:=bK zs c (n:=3) (by decide);have e:=bK zs (AE zs c).2 (n:=ids) b.1;change 0<=(AE zs c).1/\(AE zs c).1<3 at d;change 0<=(FW zs c ids).1/\(FW zs c ids).1<ids at e;have a:(lf zs c ids).2.i<=zs.length:=bR (bR (bR h _) _) _;have f:=pd zs (lf zs c ids).2 (l:=szs) (by decide);have g:=pd zs (lf zs c ids).2 (l:=[5,6]) (by decide);have j:=pd zs (lf zs c ids).2 (l:=[1,30,60,120]) (by decide);have k:=pd zs (lf zs c ids).2 (l:=[1,2,3,10,30]) (by decide);have o:=bK zs (lf zs c ids).2 (n:=4) (by decide);have p:=bK zs (br zs (lf zs c ids).2 4).2 (n:=999) (by decide);have q:=bK zs (lf zs c ids).2 (n:=10) (by decide);simp only[szs,List.mem_cons,List.not_mem_nil,or_false]at f g j k;unfold nQ
 repeat' split
 ·exact⟨⟨by simp only;omega,by simp only;omega,by simp only[szs];omega,by simp only;omega,by simp only;omega⟩,bR a _⟩
 ·exact⟨⟨by simp only;omega,by simp only;omega,by simp only;omega,by simp only;omega,by simp only;omega⟩,a⟩
 ·exact⟨⟨by simp only;omega,by simp only;omega,by simp only;omega,by simp only;omega,by simp only;omega⟩,bR (bR a _) _⟩
 ·exact⟨⟨by simp only;omega,by simp only;omega,by simp only;omega,by simp only;omega,by simp only;omega⟩,bR a _⟩
 ·exact⟨⟨by simp only;omega,by simp only;omega,by simp only;omega,by simp only;omega,by simp only;omega⟩,bR a _⟩
 ·exact⟨⟨by simp only;omega,by simp only;omega,by simp only;omega,by simp only;omega,by simp only;omega⟩,a⟩
 ·exact⟨⟨by simp only;omega,by simp only;omega,by simp only;omega,by simp only;omega,by simp only;omega⟩,bR a _⟩
 ·exact⟨⟨by simp only;omega,by simp only;omega,by simp only;omega,by simp only;omega,by simp only;omega⟩,a⟩
 exact⟨⟨by simp only;omega,by simp only;omega,by simp only;omega,by simp only;omega,by simp only;omega⟩,bR a _⟩
def HA(zs:List Int)(c:gx):Nat->List dK × gx
 | 0=>([],(br zs c 41).2)
 | i+1=>((HA zs c i).1++[(nQ zs (HA zs c i).2 (1+(i:Int) / 2)).1],(nQ zs (HA zs c i).2 (1+(i:Int) / 2)).2)
def Qd(zs:List Int)(c:gx):List dK × gx:=HA zs c (br zs c 41).1.toNat
def pI(zs:List Int):Nat->Int
 | 0=>w64 (98801+(zs.length:Nat))
 | i+1=>w64 ((BitVec.ofInt IntKind.i64.bits (w64 (w64 (w64 (pI zs i*131)+nth zs i)+7)) &&& BitVec.ofInt IntKind.i64.bits 1073741823).toNat:Nat)
def tn(zs:List Int):gx:=⟨0,pI zs (min zs.length 4000)⟩
def mI(zs:List Int):gx:=(Qq zs (tn zs)).2
def drawn(zs:List Int):bB:=(mc (oy zs (tn zs)) (Qd zs (mI zs)).1 (Qd zs (mI zs)).1.length).1
def rU(z:Int):List C:=[.v (.int .u8 z)]
def i6(zs:List Int)(c:gx):List C:=[.s .U (zs.map rU),I (c.i:Nat),I c.h]
def ko(zs:List Int):Prop:=zs.length<=1048576/\∀z∈zs,0<=z/\z<=255
def kG(zs:List Int)(c:gx)(e:ko zs)(w:c.i<=zs.length):zzB 180 false [.ptr (i6 zs c)] [.ptr (i6 zs (dx zs c).2)] .one [I (dx zs c).1]:=by
 have g:IntKind.i64.wrap (c.h*6364136223846793005)=w64 (c.h*6364136223846793005):=rfl;have b:IntKind.i64.wrap (w64 (c.h*6364136223846793005)+1442695040888963407)=Ro c.h:=rfl;have o:=e.1;generalize p:Ro c.h=H at b;have j:H.fdiv (2 ^ (min (33:Int).toNat IntKind.i64.bits))=ND H 33:=rfl;have k:H.fdiv (2 ^ (min (45:Int).toNat IntKind.i64.bits))=ND H 45:=rfl;have l:IntKind.i64.wrap (BitVec.ofInt IntKind.i64.bits (ND H 33) ^^^ BitVec.ofInt IntKind.i64.bits (ND H 45)).toNat=QQ (ND H 33) (ND H 45):=rfl;have d:IntKind.i64.wrap (BitVec.ofInt IntKind.i64.bits (QQ (ND H 33) (ND H 45)) &&& BitVec.ofInt IntKind.i64.bits 255).toNat=zQ H:=rfl;have r:0<=zQ H/\zQ H<=255:=AD _;unfold dx;rw[p];generalize zQ H=y at d r |-;refine fM 58 [] [(2,10,[13,14,15,16,17,18,19,20,21,22]),(3,9,[25,26,27,28,29,30,31,32,33]),(4,12,[35,36,37,38,39,40,41,42,43,44,45,46])] [(0,0)] Tryz.func180 rfl (λu q=>?_);by_cases a:c.i<zs.length
 ·rw[CA a]
  have n:=au a;have B:=e.2 _ (ax a);have t:IntKind.i64.wrap (BitVec.ofInt IntKind.i64.bits (y+nth zs c.i) &&& BitVec.ofInt IntKind.i64.bits 255).toNat=and255 (y+nth zs c.i):=rfl
  repeat'(first|refine gE ?_|(conv=>whnf);first|with_reducible (first|refine CH g ?_|refine CH b ?_|refine CH l ?_|refine CH d ?_|refine CH t ?_|refine CB (aa n) ?_|refine CM (by decide) ?_|refine CO j ?_|refine CO k ?_)|refine CE rfl (aa n) rfl ?_|refine C9 ?_)
  refine CK rfl rfl ?_;exact wB
 rw[C8 a]
 repeat'(first|refine gE ?_|(conv=>whnf);first|with_reducible (first|refine CH g ?_|refine CH b ?_|refine CH l ?_|refine CH d ?_|refine CM (by decide) ?_|refine CO j ?_|refine CO k ?_)|refine C9 ?_)
 refine CK rfl rfl ?_;exact wB
def bP(zs:List Int)(c:gx)(n:Int)(b:ko zs)(d:c.i<=zs.length)(p:1<=n):zzB 61 false [.ptr (i6 zs c),.val none [I n]] [.ptr (i6 zs (br zs c n).2),.val none [I n]] .one [I (br zs c n).1]:=by
 have j:=rQ zs c;have g:=kG zs c b d;unfold br;refine fM 37 [(180,[2])] [] [(0,0),(0,0)] Tryz.func61 rfl (λu q=>?_);by_cases h:n<=256
 ·rw[CA h]
  have a:(dx zs c).1.tmod n=(dx zs c).1 % n:=Int.tmod_eq_emod_of_nonneg j.1
  repeat'(first|refine gE ?_|(conv=>whnf);first|with_reducible (first|refine CO a ?_|refine Bf.D (λe=>?_) (λe=>?_))|refine CF (g) (.inl rfl) ?_|refine CM ω ?_)
  refine CK rfl rfl ?_;exact wB
 rw[C8 h];have r:=rQ zs (dx zs c).2;have t:=rQ zs (dx zs (dx zs c).2).2;have w:=rQ zs (dx zs (dx zs (dx zs c).2).2).2;have k:=kG zs (dx zs c).2 b (iJ d);have l:=kG zs (dx zs (dx zs c).2).2 b (iJ (iJ d));have o:=kG zs (dx zs (dx zs (dx zs c).2).2).2 b (iJ (iJ (iJ d)));have a:(Ay zs c).1.tmod n=(Ay zs c).1 % n:=Int.tmod_eq_emod_of_nonneg (by unfold Ay;simp only;omega);unfold Ay at a |-;simp only at a
 repeat'(first|refine gE ?_|(conv=>whnf);first|with_reducible (first|refine CO a ?_|refine Bf.D (λe=>?_) (λe=>?_))|refine CF (g) (.inl rfl) ?_|refine CF (k) (.inl rfl) ?_|refine CF (l) (.inl rfl) ?_|refine CF (o) (.inl rfl) ?_|refine CM ω ?_)
 refine CK rfl rfl ?_;exact wB
def KP(zs:List Int)(c:gx)(l:List Int)(b:ko zs)(d:c.i<=zs.length)(g:1<=l.length/\l.length<=1000):zzB 402 false [.ptr (i6 zs c),.val none (aK .U l)] [.ptr (i6 zs (kU zs c l).2),.val none (aK .U l)] .one [I (kU zs c l).1]:=by
 have e:=bP zs c (l.length:Nat) b d ω;have h:=bK zs c (n:=(l.length:Nat)) ω;have a:=au (xs:=l) (i:=(br zs c (l.length:Nat)).1.toNat) ω;unfold kU;refine fM 12 [(61,[2,0])] [] [(0,0),(0,0)] Tryz.func402 rfl (λu q=>?_)
 repeat'(first|refine gP ?_|(conv=>whnf);first|with_reducible refine CL ω (aa a) ?_|refine CF (e) (.inl rfl) ?_|refine CE rfl (aa a) rfl ?_)
 refine CK rfl rfl ?_;exact wC
def ix(zs:List Int)(c:gx)(l:List Int)(b:ko zs)(d:c.i<=zs.length)(g:1<=l.length/\l.length<=1000):zzB 402 false [.ptr (i6 zs c),.mut none (aK .own l)] [.ptr (i6 zs (kU zs c l).2),.mut none (aK .own l)] .one [I (kU zs c l).1]:=by
 have e:=bP zs c (l.length:Nat) b d ω;have h:=bK zs c (n:=(l.length:Nat)) ω;have a:=au (xs:=l) (i:=(br zs c (l.length:Nat)).1.toNat) ω;unfold kU;refine fM 12 [(61,[2,0])] [] [(0,0),(1,0)] Tryz.func402 rfl (λu q=>?_)
 repeat'(first|refine gP ?_|(conv=>whnf);first|with_reducible refine CL ω (aa a) ?_|refine CF (e) (.inl rfl) ?_|refine CE rfl (aa a) rfl ?_)
 refine CK rfl rfl ?_;exact wC
def JJ(zs:List Int):∀(f i:Nat)(out:List Int)(c:gx),(br zs c 4).1<=i->oD zs f i out c=(out,(br zs c 4).2)
 | 0,_,_,_,_=>rfl
 | f+1,i,out,c,h=>by unfold oD;rw[C8 ω]
def Pr(zs:List Int)(f i:Nat)(out:List Int)(c:gx)(h:(i:Int)<(br zs c 4).1):oD zs (f+1) i out c=oD zs f (i+1) (out++[(br zs (br zs c 4).2 12).1]) (br zs (br zs c 4).2 12).2:=by
 show(if _ then _ else _)=_;rw[CA h]
structure Rq where
 i:Nat
 out:List Int
 c:gx
def xl(zs:List Int)(c:gx)(e:ko zs)(j:c.i<=zs.length):zzB 258 false [.ptr (i6 zs c)] [.ptr (i6 zs (NV zs c).2)] .one (aK .own (NV zs c).1):=by
 refine fM 18 [(61,[2,0])] [] [(0,0)] Tryz.func258 rfl (λu q=>?_) (.inr (bQ _))
 repeat'(first|refine gP ?_|fail)
 (conv=>whnf)
 refine CD (ι:=Rq) (λx=>[(0,.G .box (i6 zs x.c)),(3,.G .one (aK .own x.out)),(4,.G .one [I ((x.i:Nat):Int)])]) (λx=>(x.i<=4/\x.out.length<=x.i/\x.c.i<=zs.length)/\oD zs (4 - x.i) x.i x.out x.c=NV zs c) (λx=>4 - x.i) (⟨0,[],c⟩) ?_ (⟨⟨W0 _,W0 _,j⟩,rfl⟩) λx k=>?_
 ·exact wC
 obtain⟨i,out,d⟩:=x;obtain⟨⟨l,o,b⟩,a⟩:=k;simp only at l o b a |-;have B:=bK zs d (n:=4) (by decide);have g:=bP zs d 4 e b (by decide);have h:=bR b 4;have p:=bP zs (br zs d 4).2 12 e h (by decide);have t:=bR h 12;by_cases w:(i:Int)<(br zs d 4).1
 ·rw[show 4 - i=(4 - (i+1))+1 by omega,Pr zs _ _ _ _ w]at a
  repeat'(first|refine gE ?_|(conv=>whnf);first|refine CF (g) (.inl rfl) ?_|refine CF (p) (.inl rfl) ?_|refine CQ dL (λr y=>by rw[O1.1 y];rfl) (by simp[bn,eP]) (by simp;omega) (by simp only[C1];exact D8 (by simp;omega) (by decide)) rfl ?_)
  ((conv=>whnf);refine CC ⟨i+1,out++[(br zs (br zs d 4).2 12).1],(br zs (br zs d 4).2 12).2⟩ ⟨⟨by simp only;omega,by simp only[O3,List.length_singleton];omega,t⟩,a⟩ (by simp only;omega) ?_)
  repeat'(first|exact trivial|rfl| exact fj _ |exact CG rfl (CG (X0 (C.s dH.own) (by simp[rI])) trivial)|refine CG ?_ ?_|(exact JN (by first|omega|(simp only;omega)|(simp;omega))))
 rw[JJ zs _ _ _ _ ω]at a;rw[<-a]
 repeat'(first|refine gE ?_|(conv=>whnf);first|refine CF (g) (.inl rfl) ?_)
 refine CK rfl rfl ?_;exact wC
def bM.enc(o:dH)(c:bM):List C:=[I (c.a3:Nat),I (c.V:Nat),I (c.c5:Nat),I c.c1,.s o (c.j.map (rI o))]
def bM.enc_fz(c:bM):dN (bM.enc .own c)=bM.enc .U c:=by simp[dN,bM.enc,rI,<-bX,C5]
def bM.enc_fr(c:bM):g9 (bM.enc .own c):=⟨trivial,trivial,trivial,trivial,⟨.inl λh=>(by cases h),aX _ _ λy _=>pU y⟩,trivial⟩
def xK(zs:List Int)(c:gx)(a:ko zs)(h:c.i<=zs.length):zzB 113 false [.ptr (i6 zs c)] [.ptr (i6 zs (Qq zs c).2)] .agg (bM.enc .own (oy zs c)):=by
 have j:=bR h 7;have k:=bR j 3;have l:=bR k 100;have y:=bR l 4;have b:=bP zs c 7 a h (by decide);have d:=bP zs (yM zs c).2 3 a j (by decide);have e:=bP zs (E5 zs c).2 100 a k (by decide);have g:=bP zs (He zs c).2 4 a l (by decide);have o:=xl zs (Be zs c).2 a y;have p:=bK zs c (n:=7) (by decide);have r:=bK zs (yM zs c).2 (n:=3) (by decide);have B:=bK zs (E5 zs c).2 (n:=100) (by decide);have t:=bK zs (He zs c).2 (n:=4) (by decide);have w:=bM.enc_fr (oy zs c);have C:bM.enc .own (oy zs c)=[I (6+(yM zs c).1),I (6+(yM zs c).1 - (Be zs c).1),I (1+(E5 zs c).1),I (40+(He zs c).1),.s .own ((Qq zs c).1.map (rI .own))]:=by
  have D:0<=(yM zs c).1/\(yM zs c).1<7:=p;have E:0<=(E5 zs c).1/\(E5 zs c).1<3:=r;have F:0<=(Be zs c).1/\(Be zs c).1<4:=t;unfold bM.enc oy;simp only;rw[Int.toNat_of_nonneg ω,Int.toNat_of_nonneg ω,Int.toNat_of_nonneg ω]
 rw[C]at w |-;change bf _ _ _ _ [.ptr (i6 zs (yM zs c).2),_] _ _ at b;change bf _ _ _ _ [.ptr (i6 zs (E5 zs c).2),_] _ _ at d;change bf _ _ _ _ [.ptr (i6 zs (He zs c).2),_] _ _ at e;change bf _ _ _ _ [.ptr (i6 zs (Be zs c).2),_] _ _ at g;change bf _ _ _ _ [.ptr (i6 zs (Qq zs c).2)] _ (aK .own (Qq zs c).1) at o;change bf _ _ _ _ _ _ [I (yM zs c).1]at b;change bf _ _ _ _ _ _ [I (E5 zs c).1]at d;change bf _ _ _ _ _ _ [I (He zs c).1]at e;change bf _ _ _ _ _ _ [I (Be zs c).1]at g;change 0<=(yM zs c).1/\(yM zs c).1<7 at p;change 0<=(E5 zs c).1/\(E5 zs c).1<3 at r;change 0<=(He zs c).1/\(He zs c).1<100 at B;change 0<=(Be zs c).1/\(Be zs c).1<4 at t;generalize Qq zs c=r5 at *;generalize Be zs c=r4 at *;generalize He zs c=r3 at *;generalize E5 zs c=r2 at *;generalize yM zs c=r1 at *;refine fM 24 [(61,[2,0]),(258,[2])] [(2,65536,[])] [(0,0)] Tryz.func113 rfl (λu q=>?_) (.inr w)
 repeat'(first|refine gP ?_|(conv=>whnf);first|refine CF (b) (.inl rfl) ?_|refine CF (d) (.inl rfl) ?_|refine CF (e) (.inl rfl) ?_|refine CF (g) (.inl rfl) ?_|refine CF (o) (.inl rfl) ?_|refine CG ?_ ?_)
 all_goals
  refine CK rfl rfl ?_;exact wC
def iH(o:dH)(l:List dK):List C:=[.s o (l.map (dK.enc o))]
def dK.enc_fr(x:dK):g9 (dK.enc .own x):=⟨trivial,trivial,trivial,trivial,trivial,trivial⟩
def zr(l:List dK):g9 (iH .own l):=⟨⟨.inl λh=>(by cases h),aX _ _ λy _=>dK.enc_fr y⟩,trivial⟩
def J6(l:List dK):dN (iH .own l)=iH .U l:=by simp[dN,iH,dK.enc,<-bX,C5]
def Ek(zs:List Int)(c:gx)(ids:Int)(b:ko zs)(p:c.i<=zs.length)(r:1<=ids/\ids<=1000):zzB 259 false [.ptr (i6 zs c),.val none [I ids]] [.ptr (i6 zs (nQ zs c ids).2),.val none [I ids]] .agg (dK.enc .own (nQ zs c ids).1):=by
 have w:=bR p 3;have y:=bR w ids;have d:(lf zs c ids).2.i<=zs.length:=bR y 20;have B:=bP zs c 3 b p (by decide);have C:=bP zs (AE zs c).2 ids b w r.1;have j:=bP zs (FW zs c ids).2 20 b y (by decide);have H:=bK zs c (n:=3) (by decide);have J:=bK zs (AE zs c).2 (n:=ids) r.1;have D:=bK zs (FW zs c ids).2 (n:=20) (by decide);have e:=ix zs (lf zs c ids).2 szs b d (by decide);have E:=ix zs (lf zs c ids).2 [5,6] b d (by decide);have F:=ix zs (lf zs c ids).2 [1,30,60,120] b d (by decide);have l:=ix zs (lf zs c ids).2 [1,2,3,10,30] b d (by decide);have g:=bP zs (lf zs c ids).2 4 b d (by decide);have h:=bP zs (br zs (lf zs c ids).2 4).2 999 b (bR d _) (by decide);have G:=bP zs (lf zs c ids).2 10 b d (by decide);have K:=bK zs (br zs (lf zs c ids).2 4).2 (n:=999) (by decide);have L:=bK zs (lf zs c ids).2 (n:=10) (by decide);change bf _ _ _ _ [.ptr (i6 zs (AE zs c).2),_] _ [I (AE zs c).1]at B;change bf _ _ _ _ [.ptr (i6 zs (FW zs c ids).2),_] _ [I (FW zs c ids).1]at C;change bf _ _ _ _ [.ptr (i6 zs (lf zs c ids).2),_] _ [I (lf zs c ids).1]at j;change 0<=(AE zs c).1/\(AE zs c).1<3 at H;change 0<=(FW zs c ids).1/\(FW zs c ids).1<ids at J;change 0<=(lf zs c ids).1/\(lf zs c ids).1<20 at D;have o:=dK.enc_fr (nQ zs c ids).1;unfold nQ at o |-;generalize lf zs c ids=k at *;generalize FW zs c ids=n at *;generalize AE zs c=t at *;obtain⟨a,M⟩:=k;dsimp only at d e E F l g h G K L D j o |-;refine fM 77 [(61,[2,0]),(402,[2,1])] [] [(0,0),(0,0)] Tryz.func259 rfl (λu q=>?_) (.inr o)
 repeat'(first|refine gP ?_|(conv=>whnf);first|refine CF (B) (.inl rfl) ?_|refine CF (C) (.inl rfl) ?_|refine CF (j) (.inl rfl) ?_)
 obtain rfl|rfl|rfl|rfl|rfl|rfl|rfl|rfl|rfl|rfl|rfl|rfl|rfl|rfl|rfl|rfl|rfl|rfl|rfl|rfl:=(show a=0\/a=1\/a=2\/a=3\/a=4\/a=5\/a=6\/a=7\/a=8\/a=9\/a=10\/a=11\/a=12\/a=13\/a=14\/a=15\/a=16\/a=17\/a=18\/a=19 by omega)
 ·rw[CA (show((0:Int))<=6 by decide)]
  repeat'(first|refine gP ?_|(conv=>whnf);first|refine CF (e) (.inl rfl) ?_)
  refine CK rfl rfl ?_;exact wC
 ·rw[CA (show((1:Int))<=6 by decide)]
  repeat'(first|refine gP ?_|(conv=>whnf);first|refine CF (e) (.inl rfl) ?_)
  refine CK rfl rfl ?_;exact wC
 ·rw[CA (show((2:Int))<=6 by decide)]
  repeat'(first|refine gP ?_|(conv=>whnf);first|refine CF (e) (.inl rfl) ?_)
  refine CK rfl rfl ?_;exact wC
 ·rw[CA (show((3:Int))<=6 by decide)]
  repeat'(first|refine gP ?_|(conv=>whnf);first|refine CF (e) (.inl rfl) ?_)
  refine CK rfl rfl ?_;exact wC
 ·rw[CA (show((4:Int))<=6 by decide)]
  repeat'(first|refine gP ?_|(conv=>whnf);first|refine CF (e) (.inl rfl) ?_)
  refine CK rfl rfl ?_;exact wC
 ·rw[CA (show((5:Int))<=6 by decide)]
  repeat'(first|refine gP ?_|(conv=>whnf);first|refine CF (e) (.inl rfl) ?_)
  refine CK rfl rfl ?_;exact wC
 ·rw[CA (show((6:Int))<=6 by decide)]
  repeat'(first|refine gP ?_|(conv=>whnf);first|refine CF (e) (.inl rfl) ?_)
  refine CK rfl rfl ?_;exact wC
 ·rw[C8 (show ¬((7:Int)<=6) by decide),CA (show((7:Int))<=9 by decide)]
  repeat'(first|refine gP ?_|fail)
  refine CK rfl rfl ?_;exact wC
 ·rw[C8 (show ¬((8:Int)<=6) by decide),CA (show((8:Int))<=9 by decide)]
  repeat'(first|refine gP ?_|fail)
  refine CK rfl rfl ?_;exact wC
 ·rw[C8 (show ¬((9:Int)<=6) by decide),CA (show((9:Int))<=9 by decide)]
  repeat'(first|refine gP ?_|fail)
  refine CK rfl rfl ?_;exact wC
 ·rw[C8 (show ¬((10:Int)<=6) by decide),C8 (show ¬((10:Int)<=9) by decide),CA (show((10:Int))<=12 by decide)]
  repeat'(first|refine gP ?_|(conv=>whnf);first|refine CF (g) (.inl rfl) ?_|refine CF (h) (.inl rfl) ?_)
  refine CK rfl rfl ?_;exact wC
 ·rw[C8 (show ¬((11:Int)<=6) by decide),C8 (show ¬((11:Int)<=9) by decide),CA (show((11:Int))<=12 by decide)]
  repeat'(first|refine gP ?_|(conv=>whnf);first|refine CF (g) (.inl rfl) ?_|refine CF (h) (.inl rfl) ?_)
  refine CK rfl rfl ?_;exact wC
 ·rw[C8 (show ¬((12:Int)<=6) by decide),C8 (show ¬((12:Int)<=9) by decide),CA (show((12:Int))<=12 by decide)]
  repeat'(first|refine gP ?_|(conv=>whnf);first|refine CF (g) (.inl rfl) ?_|refine CF (h) (.inl rfl) ?_)
  refine CK rfl rfl ?_;exact wC
 ·rw[C8 (show ¬((13:Int)<=6) by decide),C8 (show ¬((13:Int)<=9) by decide),C8 (show ¬((13:Int)<=12) by decide),CA (show((13:Int))=13 by decide)]
  repeat'(first|refine gP ?_|(conv=>whnf);first|refine CF (G) (.inl rfl) ?_)
  refine CK rfl rfl ?_;exact wC
 ·rw[C8 (show ¬((14:Int)<=6) by decide),C8 (show ¬((14:Int)<=9) by decide),C8 (show ¬((14:Int)<=12) by decide),C8 (show ¬((14:Int)=13) by decide),CA (show((14:Int))=14 by decide)]
  repeat'(first|refine gP ?_|(conv=>whnf);first|refine CF (E) (.inl rfl) ?_)
  refine CK rfl rfl ?_;exact wC
 ·rw[C8 (show ¬((15:Int)<=6) by decide),C8 (show ¬((15:Int)<=9) by decide),C8 (show ¬((15:Int)<=12) by decide),C8 (show ¬((15:Int)=13) by decide),C8 (show ¬((15:Int)=14) by decide),CA (show((15:Int))=15 by decide)]
  repeat'(first|refine gP ?_|fail)
  refine CK rfl rfl ?_;exact wC
 ·rw[C8 (show ¬((16:Int)<=6) by decide),C8 (show ¬((16:Int)<=9) by decide),C8 (show ¬((16:Int)<=12) by decide),C8 (show ¬((16:Int)=13) by decide),C8 (show ¬((16:Int)=14) by decide),C8 (show ¬((16:Int)=15) by decide),CA (show((16:Int))=16 by decide)]
  repeat'(first|refine gP ?_|(conv=>whnf);first|refine CF (F) (.inl rfl) ?_)
  refine CK rfl rfl ?_;exact wC
 ·rw[C8 (show ¬((17:Int)<=6) by decide),C8 (show ¬((17:Int)<=9) by decide),C8 (show ¬((17:Int)<=12) by decide),C8 (show ¬((17:Int)=13) by decide),C8 (show ¬((17:Int)=14) by decide),C8 (show ¬((17:Int)=15) by decide),C8 (show ¬((17:Int)=16) by decide),CA (show((17:Int))=17 by decide)]
  repeat'(first|refine gP ?_|fail)
  refine CK rfl rfl ?_;exact wC
 ·rw[C8 (show ¬((18:Int)<=6) by decide),C8 (show ¬((18:Int)<=9) by decide),C8 (show ¬((18:Int)<=12) by decide),C8 (show ¬((18:Int)=13) by decide),C8 (show ¬((18:Int)=14) by decide),C8 (show ¬((18:Int)=15) by decide),C8 (show ¬((18:Int)=16) by decide),C8 (show ¬((18:Int)=17) by decide)]
  repeat'(first|refine gP ?_|(conv=>whnf);first|refine CF (l) (.inl rfl) ?_)
  refine CK rfl rfl ?_;exact wC
 rw[C8 (show ¬((19:Int)<=6) by decide),C8 (show ¬((19:Int)<=9) by decide),C8 (show ¬((19:Int)<=12) by decide),C8 (show ¬((19:Int)=13) by decide),C8 (show ¬((19:Int)=14) by decide),C8 (show ¬((19:Int)=15) by decide),C8 (show ¬((19:Int)=16) by decide),C8 (show ¬((19:Int)=17) by decide)]
 repeat'(first|refine gP ?_|(conv=>whnf);first|refine CF (l) (.inl rfl) ?_)
 refine CK rfl rfl ?_;exact wC
def rfs(h:ac):List Int:=h.J.j
def AL(k:ah)(p:Int):(ek k p).1.j=k.j:=by unfold ek;split<;>rfl
def rG(k:ah)(p:Int):∀n,(bO k p n).1.j=k.j
 | 0=>rfl
 | n+1=>by
  unfold bO;split
  ·exact(AL _ _).trans (rG k p n)
  exact rG k p n
def MN(h:ac)(i:Nat):rfs (m9 h i).1=rfs h:=by unfold m9;split<;>rfl
def zk(h:ac)(t c:Nat):rfs (eJ h t c).1=rfs h:=by
 unfold eJ;split
 ·rfl
 split
 ·rfl
 split
 ·rfl
 split
 ·exact AL _ _
 exact(MN _ _).trans (AL _ _)
def Kb(h:ac)(t n:Int):rfs (fy h t n).1=rfs h:=by
 unfold fy;split
 ·rfl
 split
 ·rfl
 split
 ·rfl
 split
 ·rfl
 split
 ·split
  ·exact zk _ _ _
  exact zk _ _ _
 unfold ou;split
 ·rfl
 split
 ·exact rG _ _ _
 exact((pG _ _ _).2).trans (rG _ _ _)
def LK(h:ac)(t i:Nat):rfs (freeT h t i).1=rfs h:=by
 unfold freeT;split
 ·exact(pG _ _ _).2
 split
 ·rfl
 split
 ·exact(fT t _ _).2.2.2.2.2.2.2
 split<;>rfl
def zR(t:Nat)(h:ac):∀k,rfs (flushN t h k).1=rfs h
 | 0=>rfl
 | k+1=>((ip _ (spilt (flushN t h k).1 t k)).2.2.2.2.2.2.2).trans (zR t h k)
def Ge{h:ac}(a:bi h [])(b:JI h):∀n,rfs (sg h n).1=rfs h
 | 0=>rfl
 | n+1=>by
  obtain⟨c,d⟩:=xO a b n;unfold sg;split
  ·rename_i e
   unfold vd at e;rw[I0]at e;exact((Gv c e.1).2.2.1).trans (Ge a b n)
  exact Ge a b n
def Fi(h:uU w m)(a:dK):rfs (lm w a).1.a=rfs w.a:=by
 unfold lm;split
 ·exact Kb _ _ _
 split
 ·split
  ·rfl
  unfold na;split
  ·unfold rC
   split
   ·rfl
   split
   ·exact LK _ _ _
   rfl
  split
  ·unfold oU
   split
   ·rfl
   split
   ·rfl
   split<;>rfl
  unfold r6;split
  ·exact((pG _ _ _).2).trans (wG _ _ _).2.2
  rfl
 split
 ·unfold jb
  split
  ·split<;>rfl
  split
  ·rfl
  split
  ·exact(fT _ _ _).2.2.2.2.2.2.2
  exact zR _ _ _
 split
 ·unfold pB
  split
  ·exact(ip _ _).2.2.2.2.2.2.2
  rfl
 split
 ·unfold oY
  split
  ·rfl
  show rfs (started w.a).1=_;unfold rfs;rw[(uw h.inv).2.1]
 split
 ·exact Ge h.inv h.ji _
 rfl
def x5{c:bM}(h:yu c)(acts:List dK):∀n,rfs (mc c acts n).1.a=c.j
 | 0=>rfl
 | n+1=>(Fi (nS h acts n) _).trans (x5 h acts n)
def uU.fit(h:uU w m)(a:jx w.a.J.j):ac.sml w.a/\ac.wf w.a:=
 ⟨(h.inv.fit a (nM.of h.inv.mail).sml).sml,h.inv.wf a⟩
def LS(zs:List Int)(c:gx):jx (oy zs c).j:=by
 show jx (oD zs 4 0 [] (Be zs c).2).1;have key:∀(f i:Nat)(out:List Int)(c:gx),(∀x∈out,nI x)->∀x∈(oD zs f i out c).1,nI x:=by
  intro f
  induction f with
  | zero=>intro i out c h;exact h
  | succ f b=>
   intro i out c h;unfold oD;split
   ·refine b _ _ _ λx a=>?_
    rcases z3.1 a with a|a
    ·exact h x a
    rw[O1.1 a];have:=bK zs (br zs c 4).2 (n:=12) (by decide);exact⟨ω,ω⟩
   exact h
 exact⟨by
   have d:∀(f i:Nat)(out:List Int)(c:gx),out.length+f<=4->(oD zs f i out c).1.length<=4:=by
     intro f
     induction f with
     | zero=>intro i out c h;exact h
     | succ f b=>
       intro i out c h;unfold oD;split
       · exact b _ _ _ (by simp only[O3,List.length_singleton];omega)
       show out.length<=4;omega
   have:=d 4 0 [] (Be zs c).2 (C3 _);omega,key 4 0 [] _ (λx a=>by cases a)⟩
def Qm(z:List Int):List C:=[.s .U (z.map rU)]
def ui(zs:List Int)(b:ko zs):q7 Tryz.prog 60 true [.val none (Qm zs)] .box (i6 zs (tn zs)):=by
 have r:=b.1;have e:IntKind.i64.wrap (98801+(zs.length:Nat))=w64 (98801+(zs.length:Nat)):=rfl;have g:pI zs 0=98801+(zs.length:Nat):=by show w64 _=_;rw[<-e];exact fF ω ω
 have a:=X0 I g;refine R7 (n:=32) (t:=2) (mo:=[]) (tb:=[]) Tryz.func60 (by kernel_rfl) rfl (by kernel_rfl) (by rfl) rfl ?_
 repeat'(first|refine gP ?_|fail)
 (conv=>whnf)
 refine CD (ι:=Nat) (λi=>[(0,.G .one (Qm zs)),(3,.G .one [I (pI zs i)]),(4,.G .one [I ((i:Nat):Int)])]) (λi=>i<=min zs.length 4000) (λi=>min zs.length 4000 - i) (0) ?_ (W0 _) λi u=>?_
 ·repeat'(first|exact trivial|rfl |exact DW a|exact fj _|refine CG ?_ ?_|(exact JN (by first|omega|(simp only;omega)|(simp;omega))))
 have h:IntKind.i64.wrap (pI zs i*131)=w64 (pI zs i*131):=rfl;have j:IntKind.i64.wrap (w64 (pI zs i*131)+nth zs i)=w64 (w64 (pI zs i*131)+nth zs i):=rfl;have k:IntKind.i64.wrap (w64 (w64 (pI zs i*131)+nth zs i)+7)=w64 (w64 (w64 (pI zs i*131)+nth zs i)+7):=rfl;have l:IntKind.i64.wrap (BitVec.ofInt IntKind.i64.bits (w64 (w64 (w64 (pI zs i*131)+nth zs i)+7)) &&& BitVec.ofInt IntKind.i64.bits 1073741823).toNat=pI zs (i+1):=rfl;by_cases c:i<zs.length/\i<4000
 ·have d:=au c.1
  have w:=b.2 _ (ax c.1);generalize pI zs i=H at *;generalize o:pI zs (i+1)=H2 at *
  repeat'(first|refine gE ?_|(conv=>whnf);first|with_reducible (first|refine CB (aa d) ?_|refine CH h ?_|refine CH j ?_|refine CH k ?_|refine CH l ?_)|refine CE rfl (aa d) rfl ?_)
  ((conv=>whnf);refine CC (i+1) ω ω ?_)
  rw[o];exact wC
 obtain rfl:i=min zs.length 4000:=ω
 have p:tn zs = ⟨0,pI zs (min zs.length 4000)⟩:=rfl;rw[p];generalize pI zs (min zs.length 4000)=H at *
 repeat'(first|refine gE ?_|(conv=>whnf);first|with_reducible refine Bf.D (λq=>?_) (λq=>?_))
 all_goals rfl
set_option maxHeartbeats 2000000
set_option maxHeartbeats 2000000
set_option maxHeartbeats 2000000
set_option maxHeartbeats 2000000
set_option maxHeartbeats 2000000
set_option maxHeartbeats 2000000
def Q7(zs:List Int)(a:zs.length<=9223372036854775807):zzA 14 false [.val none (Qm zs)] .one [B (decide ((zs.length:Int) > 1048576))]:=by
 refine fO 6 [] Tryz.func14 rfl ?_
 repeat'(first|refine gP ?_|fail)
 rfl
def se(zs:List Int):Nat->List Int × gx
 | 0=>([],tn zs)
 | n+1=>((se zs n).1++[(br zs (se zs n).2 10000).1],(br zs (se zs n).2 10000).2)
def AX(zs:List Int):∀n,(se zs n).2.i<=zs.length/\(se zs n).1.length=n/\∀x∈(se zs n).1,0<=x/\x<10000
 | 0=>⟨W0 _,rfl,λx a=>by cases a⟩
 | n+1=>by
  obtain⟨b,c,d⟩:=AX zs n;refine⟨bR b _,by show((se zs n).1++[_]).length=_;rw[O3,c];rfl,λx a=>?_⟩;rcases z3.1 a with a|a
  ·exact d x a
  rw[O1.1 a];exact bK zs (se zs n).2 (n:=10000) (by decide)
def uO(zs:List Int)(a:ko zs):zzA 16 false [.val none (Qm zs)] .one (aK .own (se zs 12).1):=by
 have b:=ui zs a;refine fP 19 [(61,[2,0]),(3000003,[])] [] Tryz.func16 rfl ?_ (.inr (bQ _))
 repeat'(first|refine gP ?_|(conv=>whnf);first|refine Cl.g b (.inr rfl) ?_)
 (conv=>whnf)
 refine CD (ι:=Nat) (λi=>[(0,.G .one (Qm zs)),(3,.G .box (i6 zs (se zs i).2)),(4,.G .one (aK .own (se zs i).1)),(5,.G .one [I ((i:Nat):Int)])]) (λi=>i<=12) (λi=>12 - i) (0) ?_ (W0 _) λi j=>?_
 ·repeat'(first|exact trivial|rfl |exact DW c|exact fj _|refine CG ?_ ?_|(exact JN (by first|omega|(simp only;omega)|(simp;omega))))
 obtain⟨d,k,-⟩:=AX zs i;by_cases l:i<12
 ·have e:=bP zs (se zs i).2 10000 a d (by decide)
  repeat'(first|refine gE ?_|(conv=>whnf);first|refine CF (e) (.inl rfl) ?_|refine CQ dL (λr h=>by rw[O1.1 h];rfl) (by simp[bn,eP]) (by simp;omega) (by simp only[C1];exact D8 (by simp;omega) (by decide)) rfl ?_)
  ((conv=>whnf);refine CC (i+1) ω ω ?_)
  repeat'(first|exact trivial|rfl| exact fj _ |exact DW (X0 (C.s dH.own) (by simp[se,rI]))|refine CG ?_ ?_|(exact JN (by first|omega|(simp only;omega)|(simp;omega))))
 obtain rfl:i=12:=ω
 repeat'(first|refine gE ?_|fail)
 rfl
set_option maxHeartbeats 2000000
def iM(r:aJ)(c:aJ.sml r):zzA 403 false [.val (some 2) (aJ.enc .U r)] .agg (aJ.enc .own r):=by
 have e:r.R.length<=1048576:=c.1;refine fO 29 [(5,264,[16,17,18,19,20,21,22,26,0,1,2,3,4,5,6,7,1000,1001,8,1000,1001,9,10,11])] Tryz.func403 rfl ?_ (.inr (aJ.enc_fr _))
 repeat'(first|refine gP ?_|(conv=>whnf);first|refine C9 ?_)
 (conv=>whnf)
 refine CD (ι:=Nat) (λi=>[(2,.G .box [I 0,.z]),(3,.G .box [I r.w,.s .own ((r.R.take i).map (aP.enc .own))]),(10,.G .one ([.s .U (r.R.map (aP.enc .U))])),(11,.G .one [I (r.R.length)]),(12,.G .one [I ((i:Nat):Int)])]) (λi=>i<=r.R.length) (λi=>r.R.length - i) (0) ?_ (W0 _) λi g=>?_
 ·exact wC
 by_cases a:i<r.R.length
 ·have d:=au a
  have b:(nth r.R i).W.length<=1048576:=c.2 _ (ax a)
  repeat'(first|refine gE ?_|(conv=>whnf);first|with_reducible refine CB (aa d) ?_|refine C9 ?_|refine CE rfl (aa d) rfl ?_|refine C7 (dE (nth r.R i).W b) ?_|refine Ap.sn (aQ λ_=>rfl) rfl (by simp;omega) (by decide) (fk a) ?_|refine C9 ?_)
  ((conv=>whnf);refine CC (i+1) ω ω ?_;(exact wC))
 repeat'(first|refine gE ?_|(conv=>whnf);first|refine C9 ?_)
 obtain rfl:i=r.R.length:=ω
 rw[W4]
 rfl
def yl(w:bB)(h1:ac.sml w.a)(a:aJ.sml w.c3):zzA 261 false [.val (some 26) (bB.enc .U w)] .agg (bB.enc .own w):=by
 have b:=gF w.a h1;have c:=iM w.c3 a;refine fO 10 [(1,5,[3,4,5,6,7])] Tryz.func261 rfl ?_ (.inr (bB.enc_fr _))
 repeat'(first|refine gP ?_|(conv=>whnf);first|refine C9 ?_|refine C7 (b) ?_|refine C7 (c) ?_|refine C9 ?_)
 rfl
def ri(o:bc)(a:dK):zzA 263 false [.val (some 4) (bc.enc .U o),.ptr (dK.enc .U a)] .one [B (gy a.N o)]:=by
 refine fO 9 [] Tryz.func263 rfl ?_
 repeat'(first|refine gP ?_|(conv=>whnf);first|refine C9 ?_)
 exact X0 (λz=>[B z]) ((by unfold gy;rw[T4];simp))
def iP(sp:List ay)(ps:List Int)(b:Int):Nat->Int
 | 0=>b
 | j+1=>if(nth sp j).Q∈ps then bor (iP sp ps b j) (nth sp j).a7 else iP sp ps b j
def wU{sp:List ay}(h:∀s∈sp,bg s=true){ps:List Int}{b:Int}(a:0<=b/\b<=65535):∀j,j<=sp.length->0<=iP sp ps b j/\iP sp ps b j<=65535
 | 0,_=>a
 | j+1,d=>by
  have c:=wU h (ps:=ps) a j ω;simp only[iP];split
  ·exact GT c (p6 h ω)
  exact c
def pV(h:ac)(i:Nat)(n:eY h.H)(c:FJ h)(a:∀s∈h.H,bg s=true)(t:i<h.H.length):zzA 336 false [.val (some 24) (ac.enc .U h),.val none [I (i:Nat)]] .one [I (iP h.H (b6 h (nth h.H i).Q) (nth h.H i).a7 h.H.length)]:=by
 have C:=n.1;have u:=au t;have d:=p6 a t;have w:=aF ((i:Nat):Int) 0 ((h.H.length:Int) - 1);rw[O0 (show(0:Int)<=(i:Nat)/\((i:Nat):Int)<=(h.H.length:Int) - 1 by omega)]at w;have y:=jY h (nth h.H i).Q c;have o:=j7 h (nth h.H i).Q;have D:gn h<=1048576:=c.1;obtain⟨ps,p⟩ : ∃ps,b6 h (nth h.H i).Q=ps:=⟨_,rfl⟩
 obtain⟨b,q⟩ : ∃b,(nth h.H i).a7=b:=⟨_,rfl⟩
 rw[p]at y o |-;rw[q]at d |-;have E:iP h.H ps b 0=b:=rfl;refine fO 47 [(4,7,[22,23,24,25,26,27,28])] Tryz.func336 rfl ?_
 repeat'(first|refine gP ?_|(conv=>whnf);first|with_reducible refine CB (aa u) ?_|refine C7 (w) ?_|refine C7 (y) ?_|refine CE rfl (aa u) rfl ?_)
 (conv=>whnf)
 refine CD (ι:=Nat) (λj=>[(5,.G .one [I (iP h.H ps b j)]),(6,.G .one (aK .own ps)),(31,.G .one (cj .U h.H)),(32,.G .one [I ((h.H.length:Nat))]),(33,.G .one [I ((j:Nat):Int)])]) (λj=>j<=h.H.length) (λj=>h.H.length - j) (0) ?_ (W0 _) λj F=>?_
 ·exact wC
 by_cases B:j<h.H.length
 ·have k:=au B
  have r:=wU a (ps:=ps) d j F;have l:=qa ps (nth h.H j).Q ω;by_cases e:(nth h.H j).Q∈ps
  ·have g:iP h.H ps b (j+1)=bor (iP h.H ps b j) (nth h.H j).a7:=CA e
   rw[O0 e]at l
   repeat'(first|refine gE ?_|(conv=>whnf);first|with_reducible refine CB (aa k) ?_|refine CE rfl (aa k) rfl ?_|refine CH (or64 r (p6 a B)) ?_|refine CJ (l) ⟨⟨rfl,eg _⟩,⟨rfl,rfl⟩,trivial⟩ ?_)
   ((conv=>whnf);refine CC (j+1) ω ω ?_;(exact wC))
  have g:iP h.H ps b (j+1)=iP h.H ps b j:=C8 e;rw[U0 e]at l
  repeat'(first|refine gE ?_|(conv=>whnf);first|with_reducible refine CB (aa k) ?_|refine CE rfl (aa k) rfl ?_|refine CJ (l) ⟨⟨rfl,eg _⟩,⟨rfl,rfl⟩,trivial⟩ ?_)
  ((conv=>whnf);refine CC (j+1) ω ω ?_;(exact wC))
 obtain rfl:j=h.H.length:=ω
 repeat'(first|refine gE ?_|fail)
 rfl
def ME(a b:Int)(k:Nat):(bor a b).toNat.testBit k=true↔a.toNat.testBit k=true\/b.toNat.testBit k=true:=by
 unfold bor;rw[X2,Nat.testBit_or,T5]
def Js(sp:List ay)(p b:Int)(k:Nat):∀j,(vi sp p b j).toNat.testBit k=true↔b.toNat.testBit k=true\/∃i,i<j/\(nth sp i).Q=p/\(nth sp i).a7.toNat.testBit k=true
 | 0=>by simp[vi]
 | j+1=>by
  have g:=Js sp p b k j;simp only[vi];split
  ·rename_i e
   rw[ME,g];constructor
   ·rintro((h|⟨i,d,a,c⟩)|h)
    ·exact .inl h
    ·exact .inr ⟨i,ω,a,c⟩
    exact .inr ⟨j,ω,e,h⟩
   rintro(h|⟨i,d,a,c⟩)
   ·exact .inl (.inl h)
   by_cases f:i=j
   ·subst f;exact .inr c
   exact .inl (.inr ⟨i,ω,a,c⟩)
  rename_i e;rw[g];constructor
  ·rintro(h|⟨i,d,a,c⟩)
   ·exact .inl h
   exact .inr ⟨i,ω,a,c⟩
  rintro(h|⟨i,d,a,c⟩)
  ·exact .inl h
  by_cases f:i=j
  ·subst f;exact absurd a e
  exact .inr ⟨i,ω,a,c⟩
def DM(sp:List ay)(ps:List Int)(b:Int)(k:Nat):∀m,(my sp ps b m).toNat.testBit k=true↔b.toNat.testBit k=true\/∃u,u<m/\∃i,i<sp.length/\(nth sp i).Q=nth ps u/\(nth sp i).a7.toNat.testBit k=true
 | 0=>by simp[my]
 | m+1=>by
  have c:=DM sp ps b k m;simp only[my];rw[Js,c];constructor
  ·rintro((h|⟨u,d,a⟩)|h)
   ·exact .inl h
   ·exact .inr ⟨u,ω,a⟩
   exact .inr ⟨m,ω,h⟩
  rintro(h|⟨u,d,a⟩)
  ·exact .inl (.inl h)
  by_cases e:u=m
  ·subst e;exact .inr a
  exact .inl (.inr ⟨u,ω,a⟩)
def Eo(sp:List ay)(ps:List Int)(b:Int)(k:Nat):∀j,(iP sp ps b j).toNat.testBit k=true↔b.toNat.testBit k=true\/∃i,i<j/\(nth sp i).Q∈ps/\(nth sp i).a7.toNat.testBit k=true
 | 0=>by simp[iP]
 | j+1=>by
  have g:=Eo sp ps b k j;simp only[iP];split
  ·rename_i e
   rw[ME,g];constructor
   ·rintro((h|⟨i,d,a,c⟩)|h)
    ·exact .inl h
    ·exact .inr ⟨i,ω,a,c⟩
    exact .inr ⟨j,ω,e,h⟩
   rintro(h|⟨i,d,a,c⟩)
   ·exact .inl (.inl h)
   by_cases f:i=j
   ·subst f;exact .inr c
   exact .inl (.inr ⟨i,ω,a,c⟩)
  rename_i e;rw[g];constructor
  ·rintro(h|⟨i,d,a,c⟩)
   ·exact .inl h
   exact .inr ⟨i,ω,a,c⟩
  rintro(h|⟨i,d,a,c⟩)
  ·exact .inl h
  by_cases f:i=j
  ·subst f;exact absurd a e
  exact .inr ⟨i,ω,a,c⟩
def MR(h:∀s∈sp,bg s=true){ps:List Int}{b:Int}(f:0<=b/\b<=65535):iP sp ps b sp.length=my sp ps b ps.length:=by
 have a:=wU h (ps:=ps) f sp.length (C3 _);have c:=oq h (ps:=ps) f ps.length;have e:(iP sp ps b sp.length).toNat=(my sp ps b ps.length).toNat:=by
  apply Nat.eq_of_testBit_eq;intro k;rw[T4,Eo,DM];constructor
  ·rintro(h|⟨i,a,c,d⟩)
   ·exact .inl h
   obtain⟨u,g⟩:=List.getElem?_of_mem c;exact .inr ⟨u,(U2.1 g).1,i,a,(bD g).symm,d⟩
  rintro(h|⟨u,a,i,c,d,j⟩)
  ·exact .inl h
  exact .inr ⟨i,c,by rw[d];exact ax a,j⟩
 omega
def ul(a:∀s∈h.H,bg s=true)(b:i<h.H.length):iP h.H (b6 h (nth h.H i).Q) (nth h.H i).a7 h.H.length=fC h i:=MR a (p6 a b)
def wN(h:ac)(a:∀o∈h.R,0<=o.a2/\o.a2<=1000)(e:h.R.length<=1048576):zzA 18 false [.val (some 24) (ac.enc .U h)] .one [I (wH h)]:=by
 refine fO 19 [] Tryz.func18 rfl ?_
 repeat'(first|refine gP ?_|fail)
 (conv=>whnf)
 refine CD (ι:=Nat) (λk=>[(3,.G .one [I (tX h.R k)]),(7,.G .one (np .U h.R)),(8,.G .one [I (h.R.length)]),(9,.G .one [I ((k:Nat):Int)])]) (λk=>k<=h.R.length) (λk=>h.R.length - k) (0) ?_ (W0 _) λk d=>?_
 ·exact wC
 have g:=sN a k d;by_cases b:k<h.R.length
 ·have c:=au b
  have i:=a _ (ax b)
  repeat'(first|refine gE ?_|(conv=>whnf);first|refine CB (aa c) ?_|refine CE rfl (aa c) rfl ?_)
  ((conv=>whnf);refine CC (k+1) ω ω ?_;(exact wC))
 obtain rfl:k=h.R.length:=ω
 repeat'(first|refine gE ?_|fail)
 rfl
def ov(k b:Int)(e:b<=9223372036854775807):zzA 334 false [.val none [I (slots k)],.val none [I b]] .one (aK .own (qr k b)):=by
 have c:=pT k b;have n:0<=slots k/\slots k<=16:=by unfold slots;repeat' split<;>omega
 unfold qr;cases g:Lr k b<;>rw[g]at c
 ·rw[C8 (by simp)]
  refine fO 26 [] Tryz.func334 rfl ?_ (.inr (bQ _))
  repeat'((conv=>whnf);first|with_reducible (first|refine Lm ?_|refine Wm ω ?_|refine Bn ?_|refine jh.wk rfl ?_)|refine Bt ?_|refine Bu ?_|refine C7 (c) ?_)
  all_goals exact⟨rfl,trivial⟩
 rw[CA rfl];refine fO 26 [] Tryz.func334 rfl ?_ (.inr (bQ _))
 repeat'(first|refine gP ?_|(conv=>whnf);first|refine C7 (c) ?_)
 (conv=>whnf)
 refine CD (ι:=Nat) (λj=>[(0,.G .one [I (slots k)]),(1,.G .one [I (b)]),(5,.G .one (aK .own (nX b j))),(6,.G .one [I ((j:Nat):Int)])]) (λj=>j<=(slots k).toNat) (λj=>(slots k).toNat - j) (0) ?_ (W0 _) λj o=>?_
 ·exact wC
 have h:=th b j;by_cases p:j<(slots k).toNat
 ·have d:=gv b (j:Nat) e
  have a:nX b (j+1)=if aW b (j:Nat)=true then nX b j else nX b j++[((j:Nat):Int)]:=rfl
  cases i:aW b (j:Nat)<;>rw[i]at d a
  ·rw[C8 (by simp)]at a
   repeat'(first|refine gE ?_|(conv=>whnf);first|refine C7 (d) ?_|refine CQ dL (λr l=>by rw[O1.1 l];rfl) (by simp[bn,eP]) (by simp;omega) (by simp only[C1];exact D8 (by simp;omega) (by decide)) rfl ?_)
   ((conv=>whnf);refine CC (j+1) ω ω ?_)
   rw[a]
   repeat'(first|exact trivial|rfl| exact fj _ |exact CG rfl (CG (X0 (C.s dH.own) (by simp[rI])) trivial)|refine CG ?_ ?_|(exact JN (by first|omega|(simp only;omega)|(simp;omega))))
  rw[CA rfl]at a
  repeat'(first|refine gE ?_|(conv=>whnf);first|refine C7 (d) ?_)
  ((conv=>whnf);refine CC (j+1) ω ω ?_)
  rw[a];exact wC
 obtain rfl:j=(slots k).toNat:=ω
 repeat'(first|refine gE ?_|fail)
 rfl
def yU(b i:Int)(d:0<=b/\b<=65535)(a:0<=i/\i<=15):zzA 338 false [.val none [I b],.val none [I i]] .one [I (i9 b i)]:=by
 have c:=pp b i;rw[O0 ω]at c;have e:=(or64 (z1:=b) (z2:=2 ^ i.toNat) d (by have:=shl64 a;omega)).trans (Kz b i);refine fO 14 [] Tryz.func338 rfl ?_
 repeat'(first|refine gP ?_|(conv=>whnf);first|refine C7 (c) ?_|refine CM ω ?_|refine CH (shl64 a).1 ?_|refine CH e ?_)
 rfl
def Av(f:aS)(i:Nat):aS.enc .own ⟨f.W,f.k.set i true⟩ = [.s .own (f.W.map (aK .own)),.s .own ((f.k.map (rB .own)).set i (rB .own true))]:=by
 simp[aS.enc,S5]
def u9(f:aS):aS × Int × Bool:=
 if cA (λu=>!u) f.k<0 then(f,-1,false) else(⟨f.W,f.k.set (cA (λu=>!u) f.k).toNat true⟩,cA (λu=>!u) f.k,true)
def xz(f:aS)(l:cH f=true)(b:aS.sml f):zzA 460 false [.val (some 2) (aS.enc .U f)] (.tup [some 2,none,none]) (aS.enc .own (u9 f).1++[I (u9 f).2.1,B (u9 f).2.2]):=by
 have n:=n7 f b;have h:=lV f b;rw[l]at h;have p:f.k.length<=1048576:=b.2;refine fO 30 [] Tryz.func460 rfl ?_ (.inr (aD (aS.enc_fr _) ⟨trivial,trivial,trivial⟩))
 repeat'(first|refine gP ?_|(conv=>whnf);first|refine C7 (n) ?_|refine C7 (h) ?_)
 (conv=>whnf)
 refine CD (ι:=Nat) (λi=>[(2,.G .box [.z,.z]),(5,.G .box (aS.enc .own f)),(13,.G .one (Hm .U f.k)),(14,.G .one [I (f.k.length)]),(15,.G .one [I ((i:Nat):Int)])]) (λi=>i<=f.k.length/\∀(j:Nat)(z:Bool),j<i->f.k[j]? = some z->(!z)=false) (λi=>f.k.length - i) (0) ?_ (⟨W0 _,λj z q=>ω⟩) λi k=>?_
 ·exact wC
 obtain⟨k,c⟩:=k;by_cases o:i<f.k.length
 ·have a:=au o
  cases e:nth f.k i<;>rw[e]at a
  ·have d:cA (λu=>!u) f.k=(i:Nat):=ep a rfl c
   have g:u9 f=((⟨f.W,f.k.set i true⟩ : aS),((i:Nat):Int),true):=by unfold u9;rw[d,C8 ω];rfl
   rw[g];simp only;rw[Av]
   repeat'(first|refine gE ?_|(conv=>whnf);first|with_reducible refine CB (aa a) ?_|refine CN rfl rfl (aa a) rfl (I1 rfl) rfl ?_)
   rfl
  repeat'(first|refine gE ?_|(conv=>whnf);first|with_reducible refine CB (aa a) ?_)
  ((conv=>whnf);refine CC (i+1) ⟨ω,iG a rfl c⟩ ω ?_;(exact wC))
 have d:cA (λu=>!u) f.k = -1:=gN ω c;have g:u9 f=(f,-1,false):=by unfold u9;rw[d];rfl
 rw[g]
 repeat'(first|refine gE ?_|fail)
 rfl
def dw.fzAt{w:World}{S F:af}{v:Value}(h:dw w S F (.s o rows) v)(ho:o≠.U){r:List C}(D:rows[k]? = some r) :
  ∃V:af,(∀b q,V b q->F b q)/\dw w (λb q=>S b q\/V b q) (λb q=>F b q/\¬V b q) (.s o (rows.set k (dN r))) v:=by
 cases h with
 | nil=>simp at D
 | U=>exact absurd rfl ho
 | own _ _ g K n O _ u f P Q M E G X hu N Y Z=>
  have A:k<n:=by have:=(U2.1 D).1;omega
  have hq:∀j,j<K->(k*K+j) / K=k:=λj a=>by
   rw[Nat.mul_comm,Nat.mul_add_div ω,Nat.div_eq_of_lt a,Nat.add_zero]
  refine⟨λb q=>∃j,j<K/\f (k*K+j) b q,λb q ⟨j,a,l⟩=>(N _ (d9 A a) b q l).1,?_⟩;refine .own _ o g K n O _ u (λq=>if q / K=k then NO else f q) P (by simpa using Q) (λr' R=>?_) E G (λq d=>⟨⟨(X q d).1,λ⟨j,a,l⟩=>(N _ (d9 A a) _ _ l).2 ⟨rfl,d⟩⟩,(X q d).2⟩) hu (λq d b y l=>?_) (λq T h1 h2 h3 b y H J=>?_) (λi j r' c L a=>?_)
  ·rcases V5 R with h|rfl
   ·exact M _ h
   rw[bX,C1];exact M _ (C2 D)
  ·replace l:(if q / K=k then NO else f q) b y:=l
   split at l
   ·exact l.elim
   rename_i B;refine⟨⟨(N q d b y l).1,λ⟨j,a,U'⟩=>Y q (k*K+j) d (d9 A a) (λe=>B (by rw[e];exact hq j a)) b y l U'⟩,(N q d b y l).2⟩
  ·replace H:(if q / K=k then NO else f q) b y:=H
   replace J:(if T / K=k then NO else f T) b y:=J;split at H
   ·exact H.elim
   split at J
   ·exact J.elim
   exact Y q T h1 h2 h3 b y H J
  by_cases e:i=k
  ·subst e
   have W:(rows.set i (dN r))[i]? = some (dN r):=by
    rw[V3 ω]
   rw[W]at L;obtain rfl:=Option.some.inj L;rw[bX,I3]at a;cases p:r[j]? with
   | none=>rw[p]at a;cases a
   | some c'=>
    rw[p]at a;simp only[X4,Z0]at a;subst a;have t:=(qo Q M D p).2;show dw w _ (if(i*K+j) / K=i then NO else f (i*K+j)) _ _;rw[CA (hq j t)];exact(Z i j r c' D p).freeze.mono (λb o h=>h.elim .inl λh=>.inr ⟨j,t,h⟩) (λ_ _ h=>h)
  rw[List.getElem?_set_ne ω]at L;have t:=(qo Q M L a).2;have B:¬(i*K+j) / K=k:=by
   rw[Nat.mul_comm,Nat.mul_add_div ω,Nat.div_eq_of_lt t,Nat.add_zero];exact e
  show dw w _ (if(i*K+j) / K=k then NO else f (i*K+j)) _ _;rw[C8 B];exact(Z i j r' c L a).mono (λ_ _ h=>.inl h) (λ_ _ h=>h)
def cC.fzAt{w:World}{S F:af}{cs:List C}{u:Nat->Value}(h:cC w S F cs u)(B:cs[off]? = some (.s o rows))(G:o≠.U){r:List C}(H:rows[k]? = some r) :
  ∃V:af,(∀b q,V b q->F b q)/\cC w (λb q=>S b q\/V b q) (λb q=>F b q/\¬V b q) (cs.set off (.s o (rows.set k (dN r)))) u:=by
 obtain⟨f,D,y,t⟩:=h;have i:=(U2.1 B).1;obtain⟨V,E,J⟩:=(D off _ B).fzAt G H;refine⟨V,λb q A=>y off i b q (E b q A),λj=>if j=off then(λb q=>f off b q/\¬V b q) else f j,λj c g=>?_,λj g b q d=>?_,λj p g l n b q d a=>?_⟩
 ·by_cases e:j=off
  ·subst e
   rw[V3 i]at g;obtain rfl:=Option.some.inj g;simpa using J
  rw[List.getElem?_set_ne ω]at g;show dw w _ (if j=off then _ else f j) _ _;rw[C8 e];exact(D j c g).mono (λ_ _ h=>.inl h) (λ_ _ h=>h)
 ·rw[U1]at g
  replace d:(if j=off then(λb q=>f off b q/\¬V b q) else f j) b q:=d;split at d
  ·exact⟨y off i b q d.1,d.2⟩
  rename_i e;exact⟨y j g b q d,λA=>t j off g i e b q d (E b q A)⟩
 rw[U1]at g l;replace d:(if j=off then(λb q=>f off b q/\¬V b q) else f j) b q:=d;replace a:(if p=off then(λb q=>f off b q/\¬V b q) else f p) b q:=a;split at d
 ·rename_i e
  rw[C8 ω]at a;exact t j p g l n b q (e ▸ d.1) a
 split at a
 ·rename_i e
  exact t j p g l n b q d (e ▸ a.1)
 exact t j p g l n b q d a
def am.fzAt{sh:Bool}{A:List RA}{k:Kd}(h:am P f sh A k rcs)(g:rcs[off]? = some (.s o rows))(i:o≠.U){r:List C}(l:rows[j]? = some r) :
  am P f sh A k (rcs.set off (.s o (rows.set j (dN r)))):=by
 obtain⟨n,p⟩:=h;refine⟨n,λw S t u y=>(p w S t u y).mono λe w1 B=>?_⟩;obtain⟨v,D,E,X,S1,d,F,G,H,J⟩:=B;obtain⟨V,K,L⟩:=J.fzAt g i l;refine⟨v,D,E,_,_,λb q c=>d b q c.1,λb q c=>?_,λb q c a=>?_,by rw[U1];exact H,L⟩
 ·rcases c with c|c
  ·exact F b q c
  exact .inr (d b q (K b q c))
 rcases a with a|a
 ·exact G b q c.1 a
 exact c.2 a
def bf.noS{A B:List MA}{k:Kd}(h:bf P f true A B k rcs)(d:∀(w:World)(S:af)(V:Nat->af)(vs:List Value),KN w S V A vs->KN w NO V A vs):bf P f false A B k rcs:=by
 obtain⟨g,j⟩:=h;refine⟨g,λw S V vs L l c n=>(j w NO V vs (λ_ _ h=>h.elim) (λi b o a=>⟨(l i b o a).1,λh=>h.elim⟩) c (d w S V vs n)).mono λe w1 p=>?_⟩;obtain⟨v,q,r,X,t,S1,u,y,D,E,F,G,H,J,K,a10⟩:=p;exact⟨v,q,r,X,t,S1,u,y,λb o a=>(D b o a).elim (λh=>h.2.elim) .inr,E,F,G,H,J,K,a10.mono λb o a=>a.elim (λh=>h.elim) .inr⟩
def Te(c:aE)(k:Nat):List C:=if 0<(nth c.X k).length then [.s .own ((c.X.map (aK .own)).set k (aK .U ((nth c.X k).take ((nth c.X k).length - 1)))),I (nth (nth c.X k) ((nth c.X k).length - 1)),B true] else aE.enc .own c++[I (-1),B false]
def vK(c:aE)(k:Nat)(r:bF c=true)(P:k<=3):zzB 186 false [.mut (some 1) (aE.enc .own c),.val none [I (k:Nat)]] [.mut (some 1) (aE.enc .own c),.val none [I (k:Nat)]] (.tup [some 1,none,none]) (Te c k):=by
 obtain⟨Q,t⟩:=dZ r;have d:aE.sml c:=⟨ω,λl C=>by have:=t l C;show l.length<=1048576;omega⟩
 have e:=qG c k d;rw[r,O0 ω]at e;have a:=pm (c:=c) (k:=k) ω;have D:=t _ (ax (xs:=c.X) (i:=k) ω);refine bf.noS ?_ λw S V E F=>?_
 case refine_2=>
  match E,F with
  | [v,R],⟨⟨G,u,H,J⟩,⟨K,L,M,N⟩,_⟩=>
   exact⟨⟨G,u,H,J.fresh (aE.enc_fr c)⟩,⟨K,L,M,N.fresh ⟨trivial,trivial⟩⟩,trivial⟩
 unfold Te;by_cases y:0<(nth c.X k).length
 ·rw[CA y]
  have g:zzA 182 false [.val (some 1) (aE.enc .U c)] .agg [.s .own ((c.X.map (aK .own)).set k (aK .U (nth c.X k)))]:=by
   have h:=(fZ c d).fzAt (off:=0) (o:=.own) (rows:=c.X.map (aK .own)) rfl (by simp) (j:=k) (aa a);rw[eg]at h;exact h
  have n:((c.X.map (aK .own)).set k (aK .U (nth c.X k)))[k]? = some (aK .U (nth c.X k)):=V3 (by rw[C1];omega);have B:=au (xs:=nth c.X k) (i:=(nth c.X k).length - 1) ω;have b:(nth c.X k)[(((nth c.X k).length:Int) - 1).toNat]? = some (nth (nth c.X k) ((nth c.X k).length - 1)):=by rw[show(((nth c.X k).length:Int) - 1).toNat=(nth c.X k).length - 1 by omega];exact B
  have p:((((nth c.X k).length:Nat):Int) - 1)=(((nth c.X k).length - 1:Nat):Int):=ω
  have O:((c.X.map (aK .own)).set k (aK .U (nth c.X k))).set k (aK .U ((nth c.X k).take ((nth c.X k).length - 1)))=(c.X.map (aK .own)).set k (aK .U ((nth c.X k).take ((nth c.X k).length - 1))):=List.set_set ..;rw[<-O];refine fM 54 [] [(6,10,[41,42,43,44,45,46,47,48,49,50])] [(2,0),(0,0)] Tryz.func186 rfl (λu q=>?_) (.inl rfl)
  repeat'(first|refine gB ?_|(conv=>whnf);first|with_reducible refine CB (aa a) ?_|refine CE rfl (aa a) rfl ?_|refine CE rfl n rfl ?_|refine CJ (e) ⟨⟨rfl,CW c⟩,⟨rfl,rfl⟩,trivial⟩ ?_|refine CJ (g) ⟨⟨rfl,CW c⟩,trivial⟩ ?_|refine CL ω (aa b) ?_|refine CB (aa B) ?_|refine CB n ?_|refine Rw.two rfl (aa a) rfl rfl (aa b) rfl ?_|refine CS ((nth c.X k).length - 1) p (by rw[C1];omega) (aQ λ_=>rfl) (QN _ _) ?_|refine C9 ?_|refine CN rfl rfl n rfl (I1 rfl) rfl ?_)
  refine CK rfl rfl ?_;exact wC
 rw[C8 y];have g:=fZ c d;refine fM 54 [] [(6,10,[41,42,43,44,45,46,47,48,49,50])] [(2,0),(0,0)] Tryz.func186 rfl (λu q=>?_) (.inl rfl)
 repeat'(first|refine gB ?_|(conv=>whnf);first|with_reducible refine CB (aa a) ?_|refine CE rfl (aa a) rfl ?_|refine CJ (e) ⟨⟨rfl,CW c⟩,⟨rfl,rfl⟩,trivial⟩ ?_|refine CJ (g) ⟨⟨rfl,CW c⟩,trivial⟩ ?_)
 refine CK rfl rfl ?_;exact wC
set_option maxRecDepth 100000
def Ex:∀w,(zeroValue 325).run Tryz.prog w=.ok (.agg #[.int .i64 0,.slice none 0 0]) w:=λ_=>by kernel_rfl
def yY:tH Tryz.prog 503 2:=by
 refine⟨⟨_,Tryz.func503,by kernel_rfl,by kernel_rfl⟩,λw g n c i news r y o B C b=>?_⟩;obtain⟨A,X,a⟩:=rp o y r B;have a:Hid (∀t u,news[t]? = some u->w.drew.cell? (A.add t)=some u):=a;have T:Hid (news.length=(n - (i+1))*2):=o;have Y:Hid (∀u∈news,u.oneCell'=true):=C;have Z:Hid (∀t,t<news.length->(w.drew.cell? ⟨g,0+i*2+t,none⟩).isSome=true/\w.drew.frozen? ⟨g,0+i*2+t,none⟩ = false):=λt ht=>by
  rw[Z5];exact b (i*2+t) ω
 obtain⟨p,d⟩ : ∃p,p=w.drew.setCells g (0+i*2) news:=⟨_,rfl⟩
 have K:∀q,q<n*2->(p.cell? ⟨g,q,none⟩).isSome=true/\p.frozen? ⟨g,q,none⟩ = false:=λq U=>by
  have D:∀j,j<news.length->∃z,cel w.drew g (0+i*2+j)=some z:=λj L=>by
   have:=(b (0+i*2+j) ω).1;exact Option.isSome_iff_exists.1 this
  refine⟨?_,by rw[d];exact(X0 Prod.fst (bG g _ news w.drew g q)).trans (b q U).2⟩;rw[d];by_cases h:0+i*2<=q/\q<0+i*2+news.length
  ·have:=bk D (O2 (show q - (0+i*2)<news.length by omega))
   rw[show 0+i*2+(q - (0+i*2))=q by omega]at this;show(cel _ g q).isSome=true;rw[this];rfl
  show(cel _ g q).isSome=true;rw[aT (λx=>h x.2)];exact(b q U).1
 obtain⟨M,E,F,G⟩:=sf (P:=Tryz.prog) p 53 325 2 (.agg #[.int .i64 0,.slice none 0 0]) Tryz.underlying53 Ex rfl (by intro v V;simp[Value.cells]at V;rcases V with rfl|rfl<;>rfl) g ((i+(n - (i+1)))*2) (n - (i+(n - (i+1)))) ω (by decide) (λj L=>(K _ ω).1) (λj L=>(K _ ω).2);have k:Hid (M.length=(n - (i+(n - (i+1))))*2):=E;have H:Hid (∀v∈M,v.oneCell'=true):=F;have W:Hid (p=w.drew.setCells g (0+i*2) news):=d;have hic:i<=c:=ω
 have N:i+1<=c:=ω
 have O:¬i=i+1:=ω
 have Q:i+1<=n:=r;have l:n - 1=i+(n - (i+1)):=ω
 clear d K b B C o E F;rw[l];generalize L:i+1=j at X a T G k N O Q l |-;obtain⟨J,R,S⟩ : ∃J,Tryz.prog.info? 325=some J/\J.size=2:=by
  have h:=(lA 325 _ rfl).1;cases e : Tryz.prog.info? 325 with
  | none=>rw[e]at h;cases h
  | some x=>rw[e]at h;simp only[X4,Z0,Prod.mk.injEq]at h;exact⟨x,rfl,h.2.1⟩
 have mixed : Tryz.prog.follows .mixedOrders=true:=by kernel_rfl
 go_enter Tryz.func503,Tryz.ntmps503
 go_wp2_with fail
 go_region_law_o (refine step_append_room rfl (.tmp 22) (.tmp 25) 53 rfl 325 J 2 Tryz.underlying53 R S g 0 i c (by simp[Act.eval,Act.put]) A (n - j) (c - j) news (by simp[Act.eval,Act.put]) T.out a.out Y.out ω Z.out ?_;rw[<-W.out])
 go_wp2
 go_ret
 refine⟨rfl,M,by have:=k.out;omega,H.out,?_⟩;rw[W.out,Z5]
def yz(xs:List aP)(i:Nat)(a:i<xs.length):zzB 503 false [.mut none [.s .own (xs.map (aP.enc .own))],.val none [I (i:Nat)],.val none [I ((i+1:Nat):Int)]] [.mut none [.x],.val none [I (i:Nat)],.val none [I ((i+1:Nat):Int)]] .one [oE ((dele xs i).map (aP.enc .own))]:=by
 have h:=xV yY (rows:=xs.map (aP.enc .own)) (i:=i) (by rw[C1];exact a) (aQ λ_=>rfl) (aX _ _ λx _=>aP.enc_fr x)
 rwa [show dele (xs.map (aP.enc .own)) i=(dele xs i).map (aP.enc .own) by simp[dele,t4,v4]]at h
def tV(xs:List aP)(pr:aP->Bool)(g:xs.length<=9223372036854775807):zzA 565 false [.val none ([.s .U (xs.map (aP.enc .U))]),.fn (lv Tryz.prog (nB (some 2) (aP.enc .U) pr xs))] .one [I (cA pr xs)]:=by
 refine fO 19 [] Tryz.func565 rfl ?_
 repeat'(first|refine gP ?_|(conv=>whnf);first|refine C9 ?_)
 (conv=>whnf)
 refine CD (ι:=Nat) (λi=>[(0,.G .one ([.s .U (xs.map (aP.enc .U))])),(1,.fv (lv Tryz.prog (nB (some 2) (aP.enc .U) pr xs))),(7,.G .one [I xs.length]),(8,.G .one [I (i:Nat)])]) (λi=>i<=xs.length/\∀(j:Nat)(z:aP),j<i->xs[j]? = some z->pr z=false) (λi=>xs.length - i) 0 ?_ ⟨W0 _,λj z h=>ω⟩ λi d=>?_
 ·exact wB
 obtain⟨d,b⟩:=d;by_cases c:i<xs.length
 ·obtain⟨y,a⟩ : ∃y,xs[i]? = some y:=⟨_,O2 c⟩
  repeat'(first|refine gE ?_|(conv=>whnf);first|with_reducible refine CB (aa a) ?_|refine C9 ?_|refine Fv.mk (k:=.one) (rcs:=[B (pr y)]) ⟨y,C2 a,rfl,rfl,rfl⟩ ?_|refine Bf.P (λe=>?_) (λe=>?_))
  ·exact X0 (λz=>[I z]) (ep a ‹_› b).symm
  (conv=>whnf)
  refine CC (i+1) ⟨ω,iG a (by assumption) b⟩ ω ?_;exact wB
 repeat'(first|refine gE ?_|(conv=>whnf);first|refine C9 ?_)
 exact X0 (λz=>[I z]) (gN ω b).symm
def uD(o:aP)(id:Int):zzA 566 false [.val (some 2) (aP.enc .U o),.ptr [I id]] .one [B (lG id o)]:=by
 refine fO 8 [] Tryz.func566 rfl ?_
 repeat'(first|refine gP ?_|(conv=>whnf);first|refine C9 ?_)
 exact X0 (λz=>[B z]) (by unfold lG;rw[T4];simp)
def lP(r:aJ)(id:Int)(b:r.R.length<=1048576):zzA 502 false [.val (some 2) (aJ.enc .U r),.val none [I id]] .one [I (uX r id)]:=by
 refine fO 9 [] Tryz.func502 rfl ?_
 repeat'(first|refine gP ?_|(conv=>whnf);first|refine C9 ?_|refine Cq.mk (nB (some 2) (aP.enc .U) (lG id) r.R) (uD default id).has (λL k rcs a=>?_) ?_|refine C7 (tV r.R (lG id) ω) ?_)
 ·obtain⟨y,-,rfl,rfl,rfl⟩:=a
  exact uD y id
 rfl
def DK:zzA 260 false [] .agg (aJ.enc .own ⟨1,[]⟩):=by
 refine fO 2 [] Tryz.func260 rfl ?_ (.inr (aJ.enc_fr _))
 repeat'((conv=>whnf);first|with_reducible (first|refine Lm ?_|refine Wm ω ?_|refine Bn ?_|refine jh.wk rfl ?_)|refine Bt ?_|refine Bu ?_|refine C9 ?_)
 exact⟨rfl,rfl,trivial⟩
def PD(l:List aP):(l.map (aP.enc .own)).map (·.map fz)=l.map (aP.enc .U):=by
 rw[List.map_map];exact List.map_congr_left λx _=>(bX _).symm.trans (aP.enc_fz x)
def zj(r:aJ)(n:Int)(m:Nat)(a:t8 r m)(g:m<=1000)(b:1<=n/\n<=1000):zzA 262 true [.val (some 2) (aJ.enc .U r),.val none [I n]] (.tup [some 2,none]) (aJ.enc .U (mq r n)++[I r.w]):=by
 have h:=a.sml g;have c:=a.len;have i:=a.nx;have j:=iM r h;have d:=aF n 1 1000;rw[O0 b]at d;have key:zzA 262 true [.val (some 2) (aJ.enc .U r),.val none [I n]] (.tup [some 2,none]) (aJ.enc .own (mq r n)++[I r.w]):=by
  unfold mq;rw[CA b];have k:aJ.enc .own {r with w:=r.w+1,R:=r.R++[⟨r.w,List.replicate n.toNat 0⟩]} = [I (r.w+1),.s .own (r.R.map (aP.enc .own)++[[I r.w,.s .own (List.replicate n.toNat [I 0])]])]:=by
   simp[aJ.enc,aP.enc,rI]
  rw[k];refine fO 30 [(4,263,[13,14,15,16,17,18,22,0,1,2,3,4,5,6,1000,1001,7,1000,1001,8,9,10]),(6,259,[27,28,29,0,1,2,3,1001,1002,4])] Tryz.func262 rfl ?_ (.inl rfl)
  repeat'(first|refine gP ?_|(conv=>whnf);first|refine C9 ?_|refine C7 (j) ?_|refine C7 (d) ?_|refine Mk.mk n.toNat ω ω ω (D8 ω (by decide)) rfl ?_|refine C9 ?_|refine Ap.sn (aQ λ_=>rfl) rfl (by simp;omega) (by decide) rfl ?_)
  (conv=>whnf)
  rfl
 have e:=key.fzR;rw[df,aJ.enc_fz]at e;exact e
def Q4(l:List aP):fz (oE (l.map (aP.enc .own)))=.s .U (l.map (aP.enc .U)):=by rw[Fg];exact PN l
def De(r:aJ)(id:Int)(m:Nat)(g:t8 r m)(o:m<=1000):zzA 404 true [.val (some 2) (aJ.enc .U r),.val none [I id]] (.tup [some 2,none]) (aJ.enc .U (pF r id)++[B (!decide (uX r id<0))]):=by
 have h:=g.sml o;have i:=g.len;have k:=iM r h;have b:=lP r id h.1;by_cases e:uX r id<0
 ·have key:zzA 404 true [.val (some 2) (aJ.enc .U r),.val none [I id]] (.tup [some 2,none]) (aJ.enc .own r++[B false]):=by
   refine fP 24 [(503,[1,0,0])] [] Tryz.func404 rfl ?_ (.inl rfl)
   repeat'(first|refine gE ?_|(conv=>whnf);first|refine C9 ?_|refine C7 (k) ?_|refine C7 (b) ?_)
   rfl
  have a:=key.fzR;rw[df,aJ.enc_fz]at a;unfold pF;rw[CA e,O0 e];exact a
 obtain⟨p,q,t⟩:=gG (lG id) r.R (by unfold uX at e;omega);obtain⟨j,c⟩:=Z2 (show 0<=uX r id by omega);have d:j<r.R.length:=by unfold uX at c;omega
 have l:=yz r.R j d;have key:zzA 404 true [.val (some 2) (aJ.enc .U r),.val none [I id]] (.tup [some 2,none]) ([I r.w,oE ((dele r.R j).map (aP.enc .own))]++[B true]):=by
  rw[c]at b;rcases ox (rows:=(dele r.R j).map (aP.enc .own)) with n|⟨-,n⟩
  all_goals
   rw[n]at l |-;refine fP 24 [(503,[1,0,0])] [] Tryz.func404 rfl ?_ (.inl rfl)
   repeat'(first|refine gE ?_|(conv=>whnf);first|refine C9 ?_|refine C7 (k) ?_|refine C7 (b) ?_|refine CF (l) (.inl rfl) ?_)
   rfl
 have a:=key.fzR;unfold pF;rw[C8 e,U0 e,c];change am _ _ _ _ _ [fz (I _),fz (oE _),fz (B true)]at a;rw[Q4]at a;exact a
def y9(r:aJ)(id a v:Int)(m:Nat)(q:t8 r m)(D:m<=1000)(t:0<=v/\v<=999):∃b:Bool,zzA 406 true [.val (some 2) (aJ.enc .U r),.val none [I id],.val none [I a],.val none [I v]] (.tup [some 2,none]) (aJ.enc .U (gJ r id a v)++[B b]):=by
 have o:=q.sml D;have u:=q.len;have p:=iM r o;have k:=lP r id o.1;by_cases l:0<=uX r id;rotate_left
 ·rw[show gJ r id a v=r by unfold gJ;rw[C8 (λx=>l x.1)]]
  refine⟨false,?_⟩;have key:zzA 406 true [.val (some 2) (aJ.enc .U r),.val none [I id],.val none [I a],.val none [I v]] (.tup [some 2,none]) (aJ.enc .own r++[B false]):=by
   refine fO 48 [] Tryz.func406 rfl ?_ (.inl rfl)
   repeat'(first|refine gE ?_|(conv=>whnf);first|refine C9 ?_|refine C7 (p) ?_|refine C7 (k) ?_)
   rfl
  have c:=key.fzR;rw[df,aJ.enc_fz]at c;exact c
 obtain⟨H,J,K⟩:=gG (lG id) r.R l;obtain⟨j,e⟩:=Z2 l;have g:j<r.R.length:=by unfold uX at e;omega
 have d:=au g;have E:(nth r.R j).W.length<=1048576:=o.2 _ (ax g);rw[e]at k;have n:=aF a 0 (((nth r.R j).W.length:Nat) - 1:Int);by_cases h:0<=a/\a<=((nth r.R j).W.length:Nat) - 1;rotate_left
 ·rw[show gJ r id a v=r by unfold gJ;rw[C8 (λx=>h (by have:=x.2.1;rw[e]at this;exact this))]]
  rw[U0 h]at n;refine⟨false,?_⟩;have key:zzA 406 true [.val (some 2) (aJ.enc .U r),.val none [I id],.val none [I a],.val none [I v]] (.tup [some 2,none]) (aJ.enc .own r++[B false]):=by
   refine fO 48 [] Tryz.func406 rfl ?_ (.inl rfl)
   repeat'(first|refine gE ?_|(conv=>whnf);first|with_reducible refine CB (aa d) ?_|refine C9 ?_|refine C7 (p) ?_|refine C7 (k) ?_|refine C7 (n) ?_|refine CE rfl (aa d) rfl ?_)
   rfl
  have c:=key.fzR;rw[df,aJ.enc_fz]at c;exact c
 obtain⟨b,w⟩:=Z2 h.1;have F:gJ r id a v = {r with R:=r.R.set j ⟨(nth r.R j).Id,(nth r.R j).W.set b v⟩}:=by
  unfold gJ;rw[CA ⟨l,by rw[e];exact h,t⟩,e,w];rfl
 rw[O0 h]at n;rw[F];subst w;have y:=au (xs:=(nth r.R j).W) (i:=b) ω;have C:=aF v 0 999;rw[O0 t]at C;refine⟨true,?_⟩;have key:zzA 406 true [.val (some 2) (aJ.enc .U r),.val none [I id],.val none [I (b:Nat)],.val none [I v]] (.tup [some 2,none]) (aJ.enc .own {r with R:=r.R.set j ⟨(nth r.R j).Id,(nth r.R j).W.set b v⟩}++[B true]):=by
  have G:aJ.enc .own {r with R:=r.R.set j ⟨(nth r.R j).Id,(nth r.R j).W.set b v⟩} = [I r.w,.s .own ((r.R.map (aP.enc .own)).set j [I (nth r.R j).Id,.s .own (((nth r.R j).W.map (rI .own)).set b [I v])])]:=by
   simp[aJ.enc,aP.enc,rI,S5]
  rw[G];refine fO 48 [] Tryz.func406 rfl ?_ (.inl rfl)
  repeat'(first|refine gE ?_|(conv=>whnf);first|with_reducible (first|refine CB (aa d) ?_|refine CB (aa y) ?_|refine CL ω (aa d) ?_)|refine C9 ?_|refine C7 (p) ?_|refine C7 (k) ?_|refine C7 (n) ?_|refine C7 (C) ?_|refine CE rfl (aa d) rfl ?_|refine Pu.two rfl rfl (aa d) rfl rfl rfl (aa y) rfl (C3 _) rfl ?_)
  rfl
 have c:=key.fzR;rw[df,aJ.enc_fz]at c;exact c
def AF(r:aJ)(id n:Int)(m:Nat)(w:t8 r m)(E:m<=1000):∃b:Bool,zzA 408 true [.val (some 2) (aJ.enc .U r),.val none [I id],.val none [I n]] (.tup [some 2,none]) (aJ.enc .U (j9 r id n)++[B b]):=by
 have q:=w.sml E;have y:=w.len;have t:=iM r q;have g:=lP r id q.1;by_cases i:0<=uX r id;rotate_left
 ·rw[show j9 r id n=r by unfold j9;rw[C8 (λx=>i x.1)]]
  refine⟨false,?_⟩;have key:zzA 408 true [.val (some 2) (aJ.enc .U r),.val none [I id],.val none [I n]] (.tup [some 2,none]) (aJ.enc .own r++[B false]):=by
   refine fO 44 [(5,11,[30,31,32,33,34,35,36,37,38,39,40])] Tryz.func408 rfl ?_ (.inl rfl)
   repeat'(first|refine gE ?_|(conv=>whnf);first|refine C9 ?_|refine C7 (t) ?_|refine C7 (g) ?_)
   rfl
  have a:=key.fzR;rw[df,aJ.enc_fz]at a;exact a
 obtain⟨K,L,M⟩:=gG (lG id) r.R i;obtain⟨j,c⟩:=Z2 i;have d:j<r.R.length:=by unfold uX at c;omega
 have e:=au d;have F:(nth r.R j).W.length<=1048576:=q.2 _ (ax d);rw[c]at g;have k:=aF n 1 (((nth r.R j).W.length:Nat):Int);by_cases l:1<=n/\n<=((nth r.R j).W.length:Nat);rotate_left
 ·rw[show j9 r id n=r by unfold j9;rw[C8 (λx=>l (by have:=x.2;rw[c]at this;exact this))]]
  rw[U0 l]at k;refine⟨false,?_⟩;have key:zzA 408 true [.val (some 2) (aJ.enc .U r),.val none [I id],.val none [I n]] (.tup [some 2,none]) (aJ.enc .own r++[B false]):=by
   refine fO 44 [(5,11,[30,31,32,33,34,35,36,37,38,39,40])] Tryz.func408 rfl ?_ (.inl rfl)
   repeat'(first|refine gE ?_|(conv=>whnf);first|with_reducible refine CB (aa e) ?_|refine C9 ?_|refine C7 (t) ?_|refine C7 (g) ?_|refine C7 (k) ?_|refine CE rfl (aa e) rfl ?_)
   rfl
  have a:=key.fzR;rw[df,aJ.enc_fz]at a;exact a
 obtain⟨b,D⟩:=Z2 (show 0<=n by omega);have G:j9 r id n = {r with R:=r.R.set j ⟨(nth r.R j).Id,(nth r.R j).W.take b⟩}:=by
  unfold j9;rw[CA ⟨i,by rw[c];exact l⟩,c,D];rfl
 rw[O0 l]at k;rw[G];subst D;have u:zzA 403 false [.val (some 2) (aJ.enc .U r)] .agg [I r.w,.s .own ((r.R.map (aP.enc .own)).set j (aP.enc .U (nth r.R j)))]:=by
  have h:=t.fzAt (off:=1) (o:=.own) (rows:=r.R.map (aP.enc .own)) rfl (by simp) (j:=j) (aa e);rw[aP.enc_fz]at h;exact h
 have p:((r.R.map (aP.enc .own)).set j (aP.enc .U (nth r.R j)))[j]? = some (aP.enc .U (nth r.R j)):=V3 (by rw[C1];omega);refine⟨true,?_⟩;have key:zzA 408 true [.val (some 2) (aJ.enc .U r),.val none [I id],.val none [I (b:Nat)]] (.tup [some 2,none]) ([I r.w,.s .own (((r.R.map (aP.enc .own)).set j (aP.enc .U (nth r.R j))).set j [I (nth r.R j).Id,.s .U (((nth r.R j).W.take b).map (rI .U))])]++[B true]):=by
  refine fO 44 [(5,11,[30,31,32,33,34,35,36,37,38,39,40])] Tryz.func408 rfl ?_ (.inl rfl)
  repeat'(first|refine gE ?_|(conv=>whnf);first|with_reducible (first|refine CB (aa e) ?_|refine CL ω p ?_)|refine C9 ?_|refine C7 (u) ?_|refine C7 (g) ?_|refine C7 (k) ?_|refine CE rfl (aa e) rfl ?_|refine CE rfl p rfl ?_|refine CB p ?_|refine CS b rfl (by rw[C1];omega) (aQ λ_=>rfl) t4 ?_|refine C9 ?_|refine CN rfl rfl p rfl (I1 rfl) rfl ?_)
  rfl
 have a:=key.fzR;rw[List.set_set]at a;change am _ _ _ _ _ [fz (I _),fz (.s .own _),fz (B true)]at a;rw[JT,S5,PD]at a;have H:aP.enc .U ⟨(nth r.R j).Id,(nth r.R j).W.take b⟩ = [I (nth r.R j).Id,C.s .U (((nth r.R j).W.take b).map (rI .U))].map fz:=by
  show [I _,C.s .U (((nth r.R j).W.take b).map (rI .U))]=[fz (I _),fz (.s .U _)];rw[JT,List.map_map];rfl
 have J:aJ.enc .U {r with R:=r.R.set j ⟨(nth r.R j).Id,(nth r.R j).W.take b⟩} = [I r.w,.s .U ((r.R.map (aP.enc .U)).set j ([I (nth r.R j).Id,.s .U (((nth r.R j).W.take b).map (rI .U))].map fz))]:=by
  rw[<-H,<-S5];rfl
 rw[J];exact a
def Bv(p f:Nat)(a:List Int)(b:1<=p/\p<=32)(c:1<=f/\f<=32)(d:a.length<=40/\∀x∈a,0<=x):zzA 199 false [.val none [I (p:Nat)],.val none [I (f:Nat)],.val none (aK .U a)] (.tup [some 5,none]) (ah.enc .own (bV p f a)++[B true]):=by
 have e:=qb b c d;have h:=d.1;have g:=lU (bV p f a) (bW e);rw[e]at g;have i:=dE a ω;refine fO 30 [(2,260,[17,18,19,10,0,1,2,4,3,1004,5])] Tryz.func199 rfl ?_ (.inr (aD (CT _) ⟨trivial,trivial⟩))
 repeat'(first|refine gP ?_|(conv=>whnf);first|refine C9 ?_|refine C7 (uZ p f b c) ?_|refine C7 (i) ?_|refine CJ (g) ⟨⟨rfl,ah.enc_fz (bV p f a)⟩,trivial⟩ ?_)
 rfl
def Gd(p f t:Nat)(lim:Int)(a:List Int)(c:1<=p/\p<=32)(d:1<=f/\f<=32)(e:1<=t/\t<=4)(g:0<=lim/\lim<=1000)(h:a.length<=40/\∀x∈a,0<=x):zzA 70 false [.val none [I (p:Nat)],.val none [I (f:Nat)],.val none [I (t:Nat)],.val none [I lim],.val none (aK .U a)] (.tup [some 24,none]) (ac.enc .own (vD p f t lim a)++[B true]):=by
 have b:=aF lim 0 1000;rw[O0 g]at b;refine fO 68 [(10,4,[61,62,63,64])] Tryz.func70 rfl ?_ (.inr (aD (ac.enc_fr _) ⟨trivial,trivial⟩))
 repeat'(first|refine gP ?_|(conv=>whnf);first|refine C9 ?_|refine C7 (Bv p f a c d h) ?_|refine C7 (Dv t e) ?_|refine C7 (b) ?_|refine C7 (BI) ?_)
 (conv=>whnf)
 refine CD (ι:=Nat) (λk=>[(2,.G .one [I ((t:Nat))]),(10,.G .box [.z,.z,.z,I 0,.z,.z,.z,.z,.z,.z,.z,.z,I 0,.z,I 0,I 0,I 0,I 0,B false,I 0,I 0,.z,I 0,I 0]),(18,.G .box (ac.enc .own (caps (vD p f t lim a) k))),(19,.G .one [I ((k:Nat):Int)])]) (λk=>k<=t) (λk=>t - k) (0) ?_ (W0 _) λk i=>?_
 ·exact wB
 by_cases j:k<t
 ·repeat'(first|refine gE ?_|(conv=>whnf);first|refine C9 ?_|refine C7 (yS) ?_|refine Ap.sn N2 rfl (by rw[C1];show(List.replicate _ eR).length+1<=_;rw[W3];omega) (by decide) (JE k) ?_)
  ((conv=>whnf);refine CC (k+1) ω ω ?_;(exact wB))
 obtain rfl:k=t:=ω
 repeat'(first|refine gE ?_|(conv=>whnf);first|refine C9 ?_)
 rfl
def pN(c:bM)(h:yu c):zzA 115 false [.val (some 5) (bM.enc .U c)] (.tup [some 26,none]) (bB.enc .own (world0 c)++[B true]):=by
 have a:=Gd c.a3 c.V c.c5 c.c1 c.j h.p h.f h.t h.l h.r;refine fO 26 [(4,2,[23,24])] Tryz.func115 rfl ?_ (.inr (aD (bB.enc_fr _) ⟨trivial,trivial⟩))
 repeat'(first|refine gP ?_|(conv=>whnf);first|refine C9 ?_|refine C7 (a) ?_|refine C7 (DK) ?_)
 rfl
def NA(a:Int)(l:aA):Bool:=decide (l.Q*16=a)
def l9(l:aA)(a:Int)(b:0<=l.Q/\l.Q<=32):zzA 101 false [.val (some 3) (aA.enc .U l),.ptr [I a]] .one [B (NA a l)]:=by
 refine fO 9 [] Tryz.func101 rfl ?_
 repeat'(first|refine gP ?_|fail)
 exact X0 (λz=>[B z]) ((by unfold NA;rw[T4];simp))
def wo(h:ac)(b:ac.sml h)(a:h.R≠[]):zzA 62 false [.val (some 24) (ac.enc .U h)] .agg (cE h (oS h) (oL h) (.s .own (h.R.map (bc.enc .own)))):=by
 have c:=di h b
 rwa [show cN h=cE h (oS h) (oL h) (.s .own (h.R.map (bc.enc .own))) by unfold cN oO;rw[n9 λe=>a (List.map_eq_nil_iff.1 e)]]at c
def Dl(h:ac)(t a:Int)(b:ac.sml h)(d:jL h=true)(e:h.J.Calls=100000):zzA 33 false [.val (some 24) (ac.enc .U h),.val none [I t],.val none [I a]] (.tup [some 24,none]) (cN h++[I 6]):=by
 have c:=cw h b;rw[du,d]at c;refine fP 163 [(99,[1,0,0]),(102,[1,0,0]),(103,[2,0]),(105,[2,0,0]),(109,[2,0,0])] [(20,12,[85,86,87,88,89,90,91,92,93,94,95,96]),(24,4,[111,112,113,114])] Tryz.func33 rfl ?_ (.inr (aD (bS _) ⟨trivial,trivial⟩))
 repeat'(first|refine gB ?_|(conv=>whnf);first|refine C7 (c) ?_|refine C7 (di h b) ?_)
 rfl
def yE(h:ac)(o:bc)(t:Nat)(S:ac.sml h)(e1:jL h=true)(hc:h.J.Calls≠100000)(X:o∈h.R)(ht:o.a0=t):zzA 33 false [.val (some 24) (ac.enc .U h),.val none [I (t:Nat)],.val none [I o.Addr]] (.tup [some 24,none]) (cN (freeOb h t (ny h o.Addr)).1++[I (freeOb h t (ny h o.Addr)).2]):=by
 have b:=bi.of e1;have T:=cw h S;rw[du,e1]at T;obtain⟨p,G,H⟩:=b.objAt X;have q:=xP b X;have hon:=b.onu o X;have a:=b.lens;have hno:=a.objs;have hnl:=a.larges;have hlc:=a.caches;have J:t<h.T.length:=ω
 have U:=aF (t:Nat) 0 (h.T.length - 1:Int);rw[O0 ω]at U;have K:=qJ h o.Addr ω;rw[H]at K;have V:=wo h S (eX p);generalize ny h o.Addr=i at p G K;subst G;have Y:=au p;have Z:=kE (nth h.R i).a2;have C:=wb h.R i p;have hks:=bW b.ker;have c6:=cJ h.J.F.O ((nth h.R i).Addr / 16) hks.1.2;have M:cN h=cE h (oS h) (oL h) (.s .own (h.R.map (bc.enc .own))):=by unfold cN oO;rw[n9 λe=>eX p (List.map_eq_nil_iff.1 e)]
 unfold freeOb;by_cases d:aV (nth h.R i).a2<0
 ·rw[CA d]
  obtain⟨l,hl,h1,-⟩:=(eC b (ax p)).1 d;obtain⟨r,ea,-,hfi⟩:=vF hl h1;have E:=jW h.M (NA (nth h.R i).Addr) ω;rw[show cA (NA (nth h.R i).Addr) h.M=(vf h (nth h.R i).Addr:Nat) by unfold cA NA;rw[hfi]]at E;generalize vf h (nth h.R i).Addr=g at r ea E;have hf:=aY (b.L.lok _ (ax r));have hxl:=au r;have N:=rg h.M g r;have F:=iy {h with R:=dele h.R i,M:=dele h.M g} ⟨(nth h.M g).Q,(nth h.M g).a3⟩ (nth h.M g).a3.toNat b.ker hc (by show h.b.length<=_;have:=a.free;omega) ⟨by show(nth h.M g).a3=_;omega,by show 0<=(nth h.M g).Q;omega,by show(nth h.M g).Q<=_;omega,ω⟩;have hg:cN {h with R:=dele h.R i,M:=dele h.M g} = cE h (oS h) (oE ((dele h.M g).map (aA.enc .own))) (oE ((dele h.R i).map (bc.enc .own))):=rfl;have u:oL h=.s .own (h.M.map (aA.enc .own)):=by unfold oL;rw[n9 λe=>eX r (List.map_eq_nil_iff.1 e)]
  rw[u]at V;rw[hg]at F;have hpg:∀y∈h.M,0<=y.Q/\y.Q<=32:=λy w=>by have:=aY (b.L.lok y w);omega
  rcases ox (rows:=(dele h.R i).map (bc.enc .own)) with e|⟨-,e⟩<;>rcases ox (rows:=(dele h.M g).map (aA.enc .own)) with e'|⟨-,e'⟩
  all_goals
   rw[e]at C F;rw[e']at N F;refine fP 163 [(99,[1,0,0]),(102,[1,0,0]),(103,[2,0]),(105,[2,0,0]),(109,[2,0,0])] [(20,12,[85,86,87,88,89,90,91,92,93,94,95,96]),(24,4,[111,112,113,114])] Tryz.func33 rfl ?_ (.inr (aD (bS _) ⟨trivial,trivial⟩))
   repeat'(first|refine gB ?_|(conv=>whnf);first|with_reducible refine Bf.D (λO=>?_) (λO=>?_)|refine C7 (U) ?_|refine C7 (T) ?_|refine C7 (K) ?_|refine C7 (V) ?_|refine C7 (Z) ?_|refine CB (aa Y) ?_|refine CB (aa hxl) ?_|refine Cq.mk (nB (some 3) (aA.enc .U) (NA (nth h.R i).Addr) h.M) (l9 ⟨0,0,0⟩ (nth h.R i).Addr ⟨by decide,by decide⟩).has (λL k rcs hQ=>?_) ?_|refine C7 (E) ?_|refine CF (C) (.inl rfl) ?_|refine CF (N) (.inl rfl) ?_|refine CF (F) (.inl rfl) ?_)
   ·obtain⟨y,w,rfl,rfl,rfl⟩:=hQ
    exact l9 y _ (hpg y w)
   rfl
 rw[C8 d];obtain⟨s1,s2,s3,s4⟩:=RO.of b (ax p) d;have hcz:=M8 s1;by_cases W:(ar (tbl h) ((nth h.R i).Addr / 16)).o=1
 ·rw[CA W]
  unfold tbl at W;have B:=bS h;simp only;rw[M]at B |-;rcases ox (rows:=(dele h.R i).map (bc.enc .own)) with e|⟨-,e⟩
  all_goals
   rw[e]at C;refine fP 163 [(99,[1,0,0]),(102,[1,0,0]),(103,[2,0]),(105,[2,0,0]),(109,[2,0,0])] [(20,12,[85,86,87,88,89,90,91,92,93,94,95,96]),(24,4,[111,112,113,114])] Tryz.func33 rfl ?_ (.inr (aD B ⟨trivial,trivial⟩))
   repeat'(first|refine gB ?_|(conv=>whnf);first|with_reducible refine Bf.D (λO=>?_) (λO=>?_)|refine CM (by decide) ?_|refine CH (wQ q) ?_|refine C7 (U) ?_|refine C7 (T) ?_|refine C7 (K) ?_|refine C7 (V) ?_|refine C7 (Z) ?_|refine CB (aa Y) ?_|refine CF (C) (.inl rfl) ?_|refine C7 (c6) ?_)
   rfl
 rw[C8 W];unfold tbl at W;have B:jV h.J (nth h.R i).Addr<h.J.F.V.W.length:=by unfold jV;omega
 have j:=b.inQuar p d;have P:=cV (aV (nth h.R i).a2);rw[show csz (aV (nth h.R i).a2)=((csz (aV (nth h.R i).a2)).toNat:Nat) by omega]at P;have n:=b.nums;unfold dh at n;rw[C0]at n;have Q:=(b.dropO p (iU.any (c:=aV (nth h.R i).a2) (by obtain⟨⟨s,S,k1,k2⟩,-⟩:=(eC b (ax p)).2 d;exact⟨s,S,k1,.inr k2⟩))).nd;rw[List.cons_append,List.nil_append]at Q;have E:=BV h.a5 (lZ h (nth h.R i)) (by have:=a.quar;omega) b.quar ⟨s1.1,s1.2,q.1,n.2.2.1⟩ (λy w=>b.snc y w) (λy w e=>(List.nodup_cons.1 Q).1 (by rw[show(nth h.R i).Addr=y.Addr from e.symm];unfold holders;simp only[z3];exact .inl (.inr (z4.2 ⟨y,w,rfl⟩))));unfold QI at E;have u:(BZ h.a5 (lZ h (nth h.R i))).length<=513:=by have:=a.quar;unfold BZ;rw[V1,O3];simp only[List.length_singleton];omega
 have hfq:ML h t i=recycs t (inQuar h i) ((BZ h.a5 (lZ h (nth h.R i))).map (·.Addr)):=rfl;have hqc:(inQuar h i).J.Calls≠100000:=hc;rw[hfq];rcases ox (rows:=(dele h.R i).map (bc.enc .own)) with e|⟨-,e⟩
 all_goals
  have hoo:oO (inQuar h i)=_:=e;rw[e]at C;have N:=jZ h (oS h) (oL h) (oE ((dele h.R i).map (bc.enc .own))) (nth h.R i).Addr (csz (aV (nth h.R i).a2)).toNat b.ker q s2 ω s4;rw[e]at N;refine fP 163 [(99,[1,0,0]),(102,[1,0,0]),(103,[2,0]),(105,[2,0,0]),(109,[2,0,0])] [(20,12,[85,86,87,88,89,90,91,92,93,94,95,96]),(24,4,[111,112,113,114])] Tryz.func33 rfl ?_ (.inr (aD (bS _) ⟨trivial,trivial⟩))
  repeat'(first|refine gB ?_|(conv=>whnf);first|with_reducible refine Bf.D (λO=>?_) (λO=>?_)|refine CM (by decide) ?_|refine CH (wQ q) ?_|refine C7 (U) ?_|refine C7 (T) ?_|refine C7 (K) ?_|refine C7 (V) ?_|refine C7 (Z) ?_|refine CB (aa Y) ?_|refine CF (C) (.inl rfl) ?_|refine C7 (c6) ?_|refine C7 (P) ?_|refine CF (N) (.inl rfl) ?_|refine C7 (E) ?_)
  generalize BZ h.a5 (lZ h (nth h.R i))=out at j u
  (conv=>whnf)
  refine CD (ι:=Nat) (λk=>[(1,.G .one [I ((t:Nat):Int)]),(6,.G .box rM),(8,.G .box (cN (recycs t (inQuar h i) ((out.take k).map (·.Addr))))),(16,.G .one (dA .own out)),(151,.c0 16 0 [] none),(152,.G .one [I (out.length)]),(153,.G .one [I ((k:Nat):Int)])]) (λk=>k<=out.length) (λk=>out.length - k) (0) ?_ (W0 _) λk hk=>?_
  ·repeat'(first|exact trivial|rfl |exact DW hoo|exact fj _|refine CG ?_ ?_|(exact JN (by first|omega|(simp only;omega)|(simp;omega))))
  by_cases r:k<out.length
  ·have R:=au r
   have hsp:out.map (·.Addr)=(out.take k).map (·.Addr)++(nth out k).Addr::(out.drop (k+1)).map (·.Addr):=by
    conv=>lhs;rw[<-List.take_append_drop k out,gR r]
    simp
   have hik:bi (recycs t (inQuar h i) ((out.take k).map (·.Addr))) ((nth out k).Addr::(out.drop (k+1)).map (·.Addr)):=bi.recycs (by rw[<-hsp];exact j) J;have F:=sr _ _ t _ hik (by rw[(fT t _ _).1];exact J) (by rw[(fT t _ _).2.2.1];exact hqc)
   repeat'(first|refine gE ?_|(conv=>whnf);first|refine CB (aa R) ?_|refine CE rfl (aa R) rfl ?_|refine CF (F) (.inl rfl) ?_)
   ((conv=>whnf);refine CC (k+1) ω ω ?_)
   rw[E2 t _ out k r];exact wC
  obtain rfl:k=out.length:=ω
  rw[W4]
  repeat'(first|refine gE ?_|fail)
  rfl
def ir(m:aM)(k:Int)(a:aM.sml m):zzA 255 false [.val (some 2) (aM.enc .U m),.val none [I k]] .one [B (decide (0<=k/\k<=m.S.length - 1)&&bT m)]:=by
 have b:=lH m a;have g:m.S.length<=1048576:=a.1.1;have c:=aF k 0 (m.S.length - 1:Int);cases e:bT m<;>rw[e]at b<;>cases d:decide (0<=k/\k<=(m.S.length:Int) - 1)<;>rw[d]at c
 all_goals
  refine fO 15 [] Tryz.func255 rfl ?_
  repeat'(first|refine gP ?_|(conv=>whnf);first|refine C9 ?_|refine C7 (b) ?_|refine C7 (c) ?_)
  rfl
def KA(m:aM)(f:Nat)(p:cM)(k:bT m=true)(d:f<m.S.length):zzA 107 false [.val (some 2) (aM.enc .U m),.val none [I (f:Nat)],.val (some 2) (cM.enc .U p)] (.tup [some 2,none]) (aM.enc .own (if bT (iI m f p)=true then iI m f p else m)++[B (bT (iI m f p))]):=by
 have c:=nM.of k;have l:=c.sml;have q:=c.b4;have g:=ir m f l;rw[k,O0 ω]at g;have n:=gC m l;have h:=JG c d p;have i:=lH (iI m f p) h;have a:=Rx d;have o:=c.bl f d;have j:=aM.enc_fz (iI m f p);have b:=aM.enc_fr (iI m f p);rw[A7]at j b;cases e:bT (iI m f p)<;>rw[e]at i
 ·rw[C8 (by simp)]
  refine fO 35 [(4,267,[17,18,19,20,21,22,23,24,25,26,28,0,1,2,3,4,5,6,7,8,9,10,1000,1001,1002,11,12])] Tryz.func107 rfl ?_ (.inr (aD (aM.enc_fr _) ⟨trivial,trivial⟩))
  repeat'(first|refine gP ?_|(conv=>whnf);first|with_reducible refine CB (aa a) ?_|refine C9 ?_|refine CB (eH a) ?_|refine CE rfl (eH a) rfl ?_|refine C7 (g) ?_|refine C7 (n) ?_|refine Lq.one rfl rfl (aa a) rfl (I1 rfl) rfl rfl ?_|refine CE rfl (aa a) rfl ?_|refine CN rfl rfl (eH a) rfl (I1 rfl) (show [C.s dH.own ((m.S.map (bL .own)).set f (bL .own (nth m.S f++[p]))),C.s .own (m.d.map (aK .own))]=_ from by simp only[List.set_cons_zero,List.set_set,X2];rfl) ?_|refine Ap.sm (aQ λ_=>rfl) rfl (by simp;omega) (by decide) (fY _ _ _) ?_|refine CJ (i) ⟨⟨rfl,j⟩,trivial⟩ ?_)
  rfl
 rw[CA rfl,A7];refine fO 35 [(4,267,[17,18,19,20,21,22,23,24,25,26,28,0,1,2,3,4,5,6,7,8,9,10,1000,1001,1002,11,12])] Tryz.func107 rfl ?_ (.inr (aD b ⟨trivial,trivial⟩))
 repeat'(first|refine gP ?_|(conv=>whnf);first|with_reducible refine CB (aa a) ?_|refine C9 ?_|refine CB (eH a) ?_|refine CE rfl (eH a) rfl ?_|refine C7 (g) ?_|refine C7 (n) ?_|refine Lq.one rfl rfl (aa a) rfl (I1 rfl) rfl rfl ?_|refine CE rfl (aa a) rfl ?_|refine CN rfl rfl (eH a) rfl (I1 rfl) (show [C.s dH.own ((m.S.map (bL .own)).set f (bL .own (nth m.S f++[p]))),C.s .own (m.d.map (aK .own))]=_ from by simp only[List.set_cons_zero,List.set_set,X2];rfl) ?_|refine Ap.sm (aQ λ_=>rfl) rfl (by simp;omega) (by decide) (fY _ _ _) ?_|refine CJ (i) ⟨⟨rfl,j⟩,trivial⟩ ?_)
 rfl
def BS(h:ac)(o:bc)(t:Nat)(S:ac.sml h)(N:jL h=true)(hc:h.J.Calls≠100000)(F:o∈h.R)(T:t<h.T.length):zzA 33 false [.val (some 24) (ac.enc .U h),.val none [I (t:Nat)],.val none [I o.Addr]] (.tup [some 24,none]) (cN (freeT h t (ny h o.Addr)).1++[I (freeT h t (ny h o.Addr)).2]):=by
 by_cases U:o.a0=t
 ·have hh:=yE h o t S N hc F U
  rwa [<-zm (by obtain⟨-,d,-⟩:=(bi.of N).objAt F;rw[d];exact U)]at hh
 have b:=bi.of N;have G:=cw h S;rw[du,N]at G;obtain⟨r,d,H⟩:=b.objAt F;have j:=xP b F;have hon:=b.onu o F;have a:=b.lens;have hno:=a.objs;have hnl:=a.larges;have hlc:=a.caches;have J:=aF (t:Nat) 0 (h.T.length - 1:Int);rw[O0 ω]at J;have C:=qJ h o.Addr ω;rw[H]at C;have K:=wo h S (eX r);generalize ny h o.Addr=i at r d C;subst d;have O:=au r;have P:=kE (nth h.R i).a2;have u:=wb h.R i r;have V:=bW b.ker;have W:=cJ h.J.F.O ((nth h.R i).Addr / 16) V.1.2;have p:cN h=cE h (oS h) (oL h) (.s .own (h.R.map (bc.enc .own))):=by unfold cN oO;rw[n9 λe=>eX r (List.map_eq_nil_iff.1 e)]
 unfold freeT;by_cases n:aV (nth h.R i).a2<0
 ·rw[CA n]
  obtain⟨l,hl,h1,-⟩:=(eC b (ax r)).1 n;obtain⟨M,ea,-,X⟩:=vF hl h1;have Y:=jW h.M (NA (nth h.R i).Addr) ω;rw[show cA (NA (nth h.R i).Addr) h.M=(vf h (nth h.R i).Addr:Nat) by unfold cA NA;rw[X]]at Y;generalize vf h (nth h.R i).Addr=g at M ea Y;have hf:=aY (b.L.lok _ (ax M));have Z:=au M;have E:=rg h.M g M;have Q:=iy {h with R:=dele h.R i,M:=dele h.M g} ⟨(nth h.M g).Q,(nth h.M g).a3⟩ (nth h.M g).a3.toNat b.ker hc (by show h.b.length<=_;have:=a.free;omega) ⟨by show(nth h.M g).a3=_;omega,by show 0<=(nth h.M g).Q;omega,by show(nth h.M g).Q<=_;omega,ω⟩;have hg:cN {h with R:=dele h.R i,M:=dele h.M g} = cE h (oS h) (oE ((dele h.M g).map (aA.enc .own))) (oE ((dele h.R i).map (bc.enc .own))):=rfl;have hol:oL h=.s .own (h.M.map (aA.enc .own)):=by unfold oL;rw[n9 λe=>eX M (List.map_eq_nil_iff.1 e)]
  rw[hol]at K;rw[hg]at Q;have hpg:∀y∈h.M,0<=y.Q/\y.Q<=32:=λy hy=>by have:=aY (b.L.lok y hy);omega
  rcases ox (rows:=(dele h.R i).map (bc.enc .own)) with e|⟨-,e⟩<;>rcases ox (rows:=(dele h.M g).map (aA.enc .own)) with e'|⟨-,e'⟩
  all_goals
   rw[e]at u Q;rw[e']at E Q;refine fP 163 [(99,[1,0,0]),(102,[1,0,0]),(103,[2,0]),(105,[2,0,0]),(109,[2,0,0])] [(20,12,[85,86,87,88,89,90,91,92,93,94,95,96]),(24,4,[111,112,113,114])] Tryz.func33 rfl ?_ (.inr (aD (bS _) ⟨trivial,trivial⟩))
   repeat'(first|refine gB ?_|(conv=>whnf);first|with_reducible refine Bf.D (λw=>?_) (λw=>?_)|refine C9 ?_|refine C7 (J) ?_|refine C7 (G) ?_|refine C7 (C) ?_|refine C7 (K) ?_|refine C7 (P) ?_|refine CB (aa O) ?_|refine CB (aa Z) ?_|refine Cq.mk (nB (some 3) (aA.enc .U) (NA (nth h.R i).Addr) h.M) (l9 ⟨0,0,0⟩ (nth h.R i).Addr ⟨by decide,by decide⟩).has (λL k rcs hQ=>?_) ?_|refine C7 (Y) ?_|refine CF (u) (.inl rfl) ?_|refine CF (E) (.inl rfl) ?_|refine CF (Q) (.inl rfl) ?_)
   ·obtain⟨y,hy,rfl,rfl,rfl⟩:=hQ
    exact l9 y _ (hpg y hy)
   rfl
 rw[C8 n];obtain⟨s1,s2,s3,s4⟩:=RO.of b (ax r) n;have hcz:=M8 s1;by_cases R:(ar (tbl h) ((nth h.R i).Addr / 16)).o=1
 ·rw[CA R]
  unfold tbl at R;have c:=bS h;simp only;rw[p]at c |-;rcases ox (rows:=(dele h.R i).map (bc.enc .own)) with e|⟨-,e⟩
  all_goals
   rw[e]at u;refine fP 163 [(99,[1,0,0]),(102,[1,0,0]),(103,[2,0]),(105,[2,0,0]),(109,[2,0,0])] [(20,12,[85,86,87,88,89,90,91,92,93,94,95,96]),(24,4,[111,112,113,114])] Tryz.func33 rfl ?_ (.inr (aD c ⟨trivial,trivial⟩))
   repeat'(first|refine gB ?_|(conv=>whnf);first|with_reducible refine Bf.D (λw=>?_) (λw=>?_)|refine C9 ?_|refine CM (by decide) ?_|refine CH (wQ j) ?_|refine C7 (J) ?_|refine C7 (G) ?_|refine C7 (C) ?_|refine C7 (K) ?_|refine C7 (P) ?_|refine CB (aa O) ?_|refine CF (u) (.inl rfl) ?_|refine C7 (W) ?_)
   rfl
 rw[C8 R,C8 U];unfold tbl at R;have c:=bS h;have q:=bS (Fk h t i);have B:=cV (aV (nth h.R i).a2);rw[show csz (aV (nth h.R i).a2)=((csz (aV (nth h.R i).a2)).toNat:Nat) by omega]at B;have cS:=KA h.u t ⟨(nth h.R i).a0,(nth h.R i).Addr⟩ b.mail (by rw[<-b.nc];exact T);rcases ox (rows:=(dele h.R i).map (bc.enc .own)) with e|⟨-,e⟩
 all_goals
  have hoo:oO (Fk h t i)=_:=e;rw[e]at u;have E:=jZ h (oS h) (oL h) (oE ((dele h.R i).map (bc.enc .own))) (nth h.R i).Addr (csz (aV (nth h.R i).a2)).toNat b.ker j s2 ω s4;rw[e]at E;cases em:bT (iI h.u t ⟨(nth h.R i).a0,(nth h.R i).Addr⟩)<;>rw[em]at cS
  ·rw[C8 (by simp)]at cS |-
   simp only;rw[p]at c |-;refine fP 163 [(99,[1,0,0]),(102,[1,0,0]),(103,[2,0]),(105,[2,0,0]),(109,[2,0,0])] [(20,12,[85,86,87,88,89,90,91,92,93,94,95,96]),(24,4,[111,112,113,114])] Tryz.func33 rfl ?_ (.inr (aD c ⟨trivial,trivial⟩))
   repeat'(first|refine gB ?_|(conv=>whnf);first|with_reducible refine Bf.D (λw=>?_) (λw=>?_)|refine C9 ?_|refine CM (by decide) ?_|refine CH (wQ j) ?_|refine C7 (J) ?_|refine C7 (G) ?_|refine C7 (C) ?_|refine C7 (K) ?_|refine C7 (P) ?_|refine CB (aa O) ?_|refine CF (u) (.inl rfl) ?_|refine C7 (W) ?_|refine C7 (B) ?_|refine CF (E) (.inl rfl) ?_|refine C7 (cS) ?_|refine C9 ?_)
   rfl
  rw[CA rfl]at cS |-;simp only;have he:cN (Fk h t i)=cE (Fk h t i) (oS h) (oL h) (oE ((dele h.R i).map (bc.enc .own))):=rfl;rw[he,e]at q |-;refine fP 163 [(99,[1,0,0]),(102,[1,0,0]),(103,[2,0]),(105,[2,0,0]),(109,[2,0,0])] [(20,12,[85,86,87,88,89,90,91,92,93,94,95,96]),(24,4,[111,112,113,114])] Tryz.func33 rfl ?_ (.inr (aD q ⟨trivial,trivial⟩))
  repeat'(first|refine gB ?_|(conv=>whnf);first|with_reducible refine Bf.D (λw=>?_) (λw=>?_)|refine C9 ?_|refine CM (by decide) ?_|refine CH (wQ j) ?_|refine C7 (J) ?_|refine C7 (G) ?_|refine C7 (C) ?_|refine C7 (K) ?_|refine C7 (P) ?_|refine CB (aa O) ?_|refine CF (u) (.inl rfl) ?_|refine C7 (W) ?_|refine C7 (B) ?_|refine CF (E) (.inl rfl) ?_|refine C7 (cS) ?_|refine C9 ?_)
  rfl
def PE{r r':List C}(h:dN r=dN r'):fz (.s .own (rows.set j r))=fz (.s .own (rows.set j r')):=by
 simp only[JT,S5];rw[<-bX,<-bX,h]
def iW(b:Bool):zzA 266 false [.val none [B b]] .one [I (if b=true then 0 else 90)]:=by
 cases b
 all_goals
  refine fO 4 [] Tryz.func266 rfl ?_
  repeat'(first|refine gP ?_|(conv=>whnf);first|refine C9 ?_)
  rfl
def Eh(m:aM)(f:Int)(a:bT m=true)(e:¬(0<=f/\f<=m.S.length - 1)):zzA 409 true [.val (some 2) (aM.enc .U m),.val none [I f]] (.tup [some 2,none]) (aM.enc .U m++[B false]):=by
 have g:=nM.of a;have b:=g.sml;have c:=ir m f b;rw[a,U0 e]at c;have h:=gC m b;have key:zzA 409 true [.val (some 2) (aM.enc .U m),.val none [I f]] (.tup [some 2,none]) (aM.enc .own m++[B false]):=by
  refine fO 57 [(5,9,[31,32,33,34,35,36,37,38,39]),(6,270,[41,42,43,44,45,46,47,48,49,50,51,52,53,55,0,1,2,3,4,5,6,7,8,9,10,11,12,13,1000,1001,1002,1003,14,15])] Tryz.func409 rfl ?_ (.inl rfl)
  repeat'(first|refine gP ?_|(conv=>whnf);first|refine C9 ?_|refine C7 (c) ?_|refine C7 (h) ?_)
  rfl
 have d:=key.fzR;rw[df,aM.enc_fz]at d;exact d
def D6(m:aM)(f:Nat)(i:bT m=true)(k:f<m.S.length):zzA 409 true [.val (some 2) (aM.enc .U m),.val none [I (f:Nat)]] (.tup [some 2,none]) (aM.enc .U (if 0<(nth m.S f).length then gh m f else m)++[B (decide (0<(nth m.S f).length))]):=by
 have d:=nM.of i;have F:=d.sml;have N:=d.b4;have J:=d.i4;have l:=ir m f F;rw[i,O0 ω]at l;have G:=gC m F;have a:=Rx k;have K:=d.bl f k;by_cases e:0<(nth m.S f).length
 ·rw[CA e,O0 e]
  have g:=((eO.1 i).2.1 f k).1 _ (ax e);obtain⟨t,n⟩:=Z2 g.1;have q:t<m.d.length:=ω
  have u:=au e;have b:=au q;have L:=d.il t ω;have w:=aM.enc_fz (gh m f);rw[Gz m f t n]at w;generalize O:nth (nth m.S f) 0=p at *;obtain⟨P,H⟩:=p;simp only at n g w;subst n;have M:zzA 183 false [.val (some 2) (aM.enc .U m)] .agg [.s .own ((m.S.map (bL .own)).set f (bL .U (nth m.S f))),.s .own (m.d.map (aK .own))]:=by
   have h:=G.fzAt (off:=0) (o:=.own) (rows:=m.S.map (bL .own)) rfl (by simp) (j:=f) (aa a);rw[kW]at h;exact h
  have y:((m.S.map (bL .own)).set f (bL .U (nth m.S f)))[f]? = some (bL .U (nth m.S f)):=V3 (by rw[C1];omega);have key:zzA 409 true [.val (some 2) (aM.enc .U m),.val none [I (f:Nat)]] (.tup [some 2,none]) ([.s .own ((m.S.map (bL .own)).set f [.s .U (((nth m.S f).drop 1).map (cM.enc .U))]),.s .own ((m.d.map (aK .own)).set t (aK .own (nth m.d t++[H])))]++[B true]):=by
   refine fO 57 [(5,9,[31,32,33,34,35,36,37,38,39]),(6,270,[41,42,43,44,45,46,47,48,49,50,51,52,53,55,0,1,2,3,4,5,6,7,8,9,10,11,12,13,1000,1001,1002,1003,14,15])] Tryz.func409 rfl ?_ (.inl rfl)
   repeat'(first|refine gB ?_|(conv=>whnf);first|with_reducible (first|refine CB (aa a) ?_|refine CB (aa b) ?_|refine Bf.E (λD=>?_) (λD=>?_))|refine C9 ?_|refine CL (by decide) (aa u) ?_|refine CB y ?_|refine CB (eH b) ?_|refine CE rfl y rfl ?_|refine CE rfl (eH b) rfl ?_|refine C7 (l) ?_|refine C7 (M) ?_|refine CE rfl (aa a) rfl ?_|refine CE rfl (aa b) rfl ?_|refine Rw.two rfl (aa a) rfl rfl (aa u) rfl ?_|refine CE rfl (aa u) rfl ?_|refine Lq.one rfl rfl (aa b) rfl (I1 rfl) rfl rfl ?_|refine Sl.suf 1 rfl (by rw[C1];omega) (aQ λ_=>rfl) v4 ?_|refine CN rfl rfl y rfl (I1 rfl) (show [C.s dH.own ((m.S.map (bL .own)).set f [.s .U (((nth m.S f).drop 1).map (cM.enc .U))]),C.s .own (m.d.map (aK .own))]=_ from by simp only[List.set_cons_zero,List.set_set,X2];rfl) ?_|refine CN rfl rfl (eH b) rfl (I1 rfl) (show [C.s dH.own ((m.S.map (bL .own)).set f [.s .U (((nth m.S f).drop 1).map (cM.enc .U))]),C.s .own ((m.d.map (aK .own)).set t (aK .own (nth m.d t++[H])))]=_ from by simp only[List.set_cons_zero,List.set_cons_succ,List.set_set,X2];rfl) ?_|refine Ap.sm (aQ λ_=>rfl) rfl (by simp;omega) (by decide) (fY _ _ _) ?_|refine C9 ?_)
   rfl
  have c:=key.fzR;change am _ _ _ _ _ [fz (.s .own _),fz (.s .own _),fz (B true)]at c;rw[PE (r:=[.s .U (((nth m.S f).drop 1).map (cM.enc .U))]) (r':=[.s .own (((nth m.S f).drop 1).map (cM.enc .U))]) rfl]at c;rw[<-w];exact c
 rw[C8 e,U0 e];have key:zzA 409 true [.val (some 2) (aM.enc .U m),.val none [I (f:Nat)]] (.tup [some 2,none]) (aM.enc .own m++[B false]):=by
  refine fO 57 [(5,9,[31,32,33,34,35,36,37,38,39]),(6,270,[41,42,43,44,45,46,47,48,49,50,51,52,53,55,0,1,2,3,4,5,6,7,8,9,10,11,12,13,1000,1001,1002,1003,14,15])] Tryz.func409 rfl ?_ (.inl rfl)
  repeat'(first|refine gB ?_|(conv=>whnf);first|with_reducible (first|refine CB (aa a) ?_|refine Bf.E (λD=>?_) (λD=>?_))|refine C9 ?_|refine C7 (l) ?_|refine C7 (G) ?_|refine CE rfl (aa a) rfl ?_)
  rfl
 have c:=key.fzR;rw[df,aM.enc_fz]at c;exact c
def tP(h:ac)(t:Int)(i:ac.sml h)(d:bi h []):zzA 265 true [.val (some 24) (ac.enc .U h),.val none [I t]] (.tup [some 24,none]) (ac.enc .U (if(0<=t/\t<=h.T.length - 1)/\0<(nth h.u.S t.toNat).length then {h with u:=gh h.u t.toNat} else h)++[B (decide ((0<=t/\t<=h.T.length - 1)/\0<(nth h.u.S t.toNat).length))]):=by
 have j:=d.nc;have e:=(gF h i).fzR;rw[ac.enc_fz]at e;have g:=cw h i;rw[du,d.to]at g;by_cases c:0<=t/\t<=h.T.length - 1
 ·obtain⟨k,rfl⟩:=Z2 c.1
  simp only[X2];have a:=D6 h.u k d.mail ω;by_cases b:0<(nth h.u.S k).length
  ·rw[CA ⟨c,b⟩,O0 ⟨c,b⟩]
   rw[CA b,O0 b]at a;refine fO 29 [] Tryz.func265 rfl ?_ (.inl rfl)
   repeat'(first|refine gP ?_|(conv=>whnf);first|refine C9 ?_|refine C7 (e) ?_|refine C7 (g) ?_|refine Cl.sh a rfl ?_|refine C7 (a) ?_)
   rfl
  rw[C8 (λx=>b x.2),U0 (λx=>b x.2)];rw[C8 b,U0 b]at a;refine fO 29 [] Tryz.func265 rfl ?_ (.inl rfl)
  repeat'(first|refine gP ?_|(conv=>whnf);first|refine C9 ?_|refine C7 (e) ?_|refine C7 (g) ?_|refine Cl.sh a rfl ?_|refine C7 (a) ?_)
  rfl
 rw[C8 (λx=>c x.1),U0 (λx=>c x.1)];have a:=Eh h.u t d.mail ω;refine fO 29 [] Tryz.func265 rfl ?_ (.inl rfl)
 repeat'(first|refine gP ?_|(conv=>whnf);first|refine C9 ?_|refine C7 (e) ?_|refine C7 (g) ?_|refine Cl.sh a rfl ?_|refine C7 (a) ?_)
 rfl
def Dh(m:aM)(t:Nat)(d:bT m=true)(h:t<m.S.length):zzA 410 false [.val (some 2) (aM.enc .U m),.val none [I (t:Nat)]] (.tup [some 2,none]) (aM.enc .own (lB m t)++aK .own (nth m.d t)):=by
 have b:=nM.of d;have e:=b.sml;have p:=b.b4;have j:=b.i4;have g:=ir m t e;rw[d,O0 ω]at g;have k:=gC m e;have c:=au (xs:=m.d) (i:=t) ω;have l:=b.il t h;have n:=dE (nth m.d t) ω;have a:=aD (aM.enc_fr (lB m t)) (bQ (nth m.d t));have o:aM.enc .own (lB m t)=[.s .own (m.S.map (bL .own)),.s .own ((m.d.map (aK .own)).set t [.s .own []])]:=by simp[aM.enc,lB,S5];rfl
 rw[o]at a |-;refine fO 25 [(5,7,[18,19,20,21,22,23,24])] Tryz.func410 rfl ?_ (.inr a)
 repeat'((conv=>whnf);first|with_reducible (first|refine Lm ?_|refine Wm ω ?_|refine CB (aa c) ?_|refine Bn ?_|refine jh.dk rfl ?_)|refine Bt ?_|refine Bu ?_|refine C9 ?_|refine C7 (g) ?_|refine C7 (k) ?_|refine C7 (n) ?_|refine CE rfl (aa c) rfl ?_|refine CN rfl rfl (aa c) rfl (I1 rfl) rfl ?_|refine C9 ?_)
 exact .cons (.rfl_ _) (.cons (KO.set _ _ (.cons .z_ .nil)) (.cons (.rfl_ _) .nil))
def me(h:ac)(t:Int)(l:ac.sml h)(a:bi h []):zzA 267 false [.val (some 24) (ac.enc .U h),.val none [I t]] (.tup [some 24,none]) (cN (if h.J.Calls≠100000/\0<=t/\t<=h.T.length - 1 then collect h t.toNat else h)++[I (if h.J.Calls≠100000/\0<=t/\t<=h.T.length - 1 then((nth h.u.d t.toNat).length:Nat) else 0)]):=by
 have r:=a.nc;have u:=(eO.1 a.mail).1.2.2;have n:=di h l;have b:=mH h t l;rw[a.to]at b;by_cases e:h.J.Calls≠100000/\0<=t/\t<=h.T.length - 1;rotate_left
 ·rw[C8 e,C8 e]
  rw[show(decide (0<=t/\t<=h.T.length - 1)&&decide (h.J.Calls≠100000)&&true)=false by
    rw[Bool.and_true,<-Z4,I0,C0,C0];exact λx=>e ⟨x.2,x.1⟩]at b
  refine fP 40 [(109,[2,0,0])] [] Tryz.func267 rfl ?_ (.inr (aD (bS _) ⟨trivial,trivial⟩))
  repeat'(first|refine gP ?_|(conv=>whnf);first|refine C9 ?_|refine C7 (n) ?_|refine C7 (b) ?_)
  rfl
 rw[CA e,CA e];obtain⟨o,p⟩:=e;rw[show(decide (0<=t/\t<=h.T.length - 1)&&decide (h.J.Calls≠100000)&&true)=true by
   rw[Bool.and_true,I0,C0,C0];exact⟨p,o⟩]at b
 obtain⟨T,rfl⟩:=Z2 p.1;simp only[X2];have q:=Dh h.u T a.mail ω;have d:=(nM.of a.mail).il T ω;have g:=a.coll (t:=T) ω;rw[List.append_nil]at g;unfold collect;generalize nth h.u.d T=out at q g d |-;refine fP 40 [(109,[2,0,0])] [] Tryz.func267 rfl ?_ (.inr (aD (bS _) ⟨trivial,trivial⟩))
 repeat'(first|refine gP ?_|(conv=>whnf);first|refine C9 ?_|refine C7 (n) ?_|refine C7 (b) ?_|refine C7 (q) ?_)
 (conv=>whnf)
 refine CD (ι:=Nat) (λk=>[(1,.G .one [I ((T:Nat):Int)]),(4,.G .box rM),(6,.G .box (cN (recycs T {h with u:=lB h.u T} (out.take k)))),(8,.G .one (aK .own out)),(27,.c0 8 0 [] none),(28,.G .one [I (out.length)]),(29,.G .one [I ((k:Nat):Int)])]) (λk=>k<=out.length) (λk=>out.length - k) (0) ?_ (W0 _) λk y=>?_
 ·exact wC
 by_cases i:k<out.length
 ·have c:=au i
  have j:bi (recycs T {h with u:=lB h.u T} (out.take k)) (nth out k::out.drop (k+1)):=by
   refine bi.recycs ?_ (by show T<h.T.length;omega);rw[<-gR i,List.take_append_drop];exact g
  have w:=sr _ _ T _ j (by rw[(fT T _ _).1];show T<h.T.length;omega) (by rw[(fT T _ _).2.2.1];exact o)
  repeat'(first|refine gE ?_|(conv=>whnf);first|refine C9 ?_|refine CB (aa c) ?_|refine CE rfl (aa c) rfl ?_|refine CF (w) (.inl rfl) ?_)
  ((conv=>whnf);refine CC (k+1) ω ω ?_)
  rw[F9 _ _ _ _ i];exact wC
 obtain rfl:k=out.length:=ω
 rw[W4]
 repeat'(first|refine gE ?_|(conv=>whnf);first|refine C9 ?_)
 rfl
def mod1(k:ah)(q:Nat):Prop:=(nth k.F.O.K q).o=1
def K1(k a:ah):Prop:=∀q,mod1 a q->mod1 k q
structure S1(h g:ac):Prop where
 k:K1 h.J g.J
 m:g.q=h.q
 j:g.y=h.y
def F7(h:ac)(a:Int):Int:=cA (Ae a) h.R
def PK(e:0<=F7 h a):(F7 h a).toNat<h.R.length/\(nth h.R (F7 h a).toNat).Addr<=a/\a<(nth h.R (F7 h a).toNat).Addr+(nth h.R (F7 h a).toNat).a2:=by
 obtain⟨b,c,-⟩:=gG (Ae a) h.R e;exact⟨b,of_decide_eq_true c⟩
def uq(o:bc)(a:Int)(c:0<=o.a2/\o.a2<=1000/\0<=o.Addr/\o.Addr<=1000):zzA 587 false [.val (some 4) (bc.enc .U o),.ptr [I a]] .one [B (Ae a o)]:=by
 have b:=aF a o.Addr (o.Addr+o.a2 - 1);refine fO 14 [] Tryz.func587 rfl ?_
 repeat'(first|refine gP ?_|(conv=>whnf);first|refine C9 ?_|refine C7 (b) ?_)
 exact X0 (λz=>[B z]) ((by unfold Ae;exact decide_eq_decide.2 ω))
def yN(h:ac)(a:Int)(e:h.R.length<=1048576)(b:∀o∈h.R,0<=o.a2/\o.a2<=1000/\0<=o.Addr/\o.Addr<=1000):zzA 567 false [.val (some 24) (ac.enc .U h),.val none [I a]] .one [I (F7 h a)]:=by
 refine fO 9 [] Tryz.func567 rfl ?_
 repeat'(first|refine gP ?_|(conv=>whnf);first|refine C9 ?_|refine Cq.mk (nB (some 4) (bc.enc .U) (Ae a) h.R) (uq ⟨0,0,0,0⟩ a (by decide)).has (λL k rcs c=>?_) ?_|refine C7 (jy h.R (Ae a) ω) ?_)
 ·obtain⟨y,d,rfl,rfl,rfl⟩:=c
  exact uq y a (b y d)
 rfl
def pZ(h:ac)(a:Int)(e:ac.sml h)(b:bi h []):zzA 504 false [.val (some 24) (ac.enc .U h),.val none [I a]] .one [I (F7 h a)]:=by
 have c:=cw h e;rw[du,b.to]at c;have g:=b.lens.objs;have i:=yN h a ω (λo d=>by
   have j:=b.objSz o d;have k:=xP b d;omega)
 refine fO 11 [] Tryz.func504 rfl ?_
 repeat'(first|refine gP ?_|(conv=>whnf);first|refine C9 ?_|refine C7 (c) ?_|refine C7 (i) ?_)
 rfl
def HJ(b:bi h [])(e:0<=F7 h a):(ar (tbl h) (a / 16)).o≠0/\0<=a/\a<512:=by
 obtain⟨c,d,f⟩:=PK e;have:=qY b (ax c) (k:=a - (nth h.R (F7 h a).toNat).Addr) ω;rw[show(nth h.R (F7 h a).toNat).Addr+(a - (nth h.R (F7 h a).toNat).Addr)=a by omega]at this;exact⟨this.1,ω,ω⟩
def BT(h:ac)(a v:Int):ac × Int:=if F7 h a<0 then(h,1) else if(ar (tbl h) (a / 16)).o=1 then(h,2) else({h with J:=jz h.J a v},0)
def wx(h:ac)(a v:Int)(l:ac.sml h)(c:bi h [])(o:0<=v/\v<=999):zzA 405 false [.val (some 24) (ac.enc .U h),.val none [I a],.val none [I v]] (.tup [some 24,none]) (cN (BT h a v).1++[I (BT h a v).2]):=by
 have i:=di h l;have j:=pZ h a l c;unfold BT;by_cases e:F7 h a<0
 ·rw[CA e]
  refine fO 38 [] Tryz.func405 rfl ?_ (.inr (aD (bS _) ⟨trivial,trivial⟩))
  repeat'(first|refine gE ?_|(conv=>whnf);first|with_reducible refine Bf.D (λb=>?_) (λb=>?_)|refine C9 ?_|refine C7 (i) ?_|refine C7 (j) ?_)
  rfl
 rw[C8 e];obtain⟨n,p⟩:=HJ c (show 0<=F7 h a by omega);have k:=bW c.ker;obtain⟨-,-,-,q,u⟩:=bZ c.ker n;have r:=(bh.1 (aI.1 c.ker).2.1).2.2.1;have d:=wL h.J.F a v (iT c.ker) k.1 p o (λ_=>⟨q,ω,c.lens.row _ (ax ω)⟩);unfold kb at d;rw[C8 (show ¬(ar h.J.F.O (a / 16)).o=0 from n)]at d;by_cases g:(ar h.J.F.O (a / 16)).o=1
 ·rw[CA g]at d
  rw[CA (show(ar (tbl h) (a / 16)).o=1 from g)];refine fO 38 [] Tryz.func405 rfl ?_ (.inr (aD (bS _) ⟨trivial,trivial⟩))
  repeat'(first|refine gB ?_|(conv=>whnf);first|with_reducible (first|refine Bf.D (λb=>?_) (λb=>?_)|refine Bf.E (λb=>?_) (λb=>?_))|refine C9 ?_|refine C7 (i) ?_|refine C7 (j) ?_|refine C7 (d) ?_)
  rfl
 rw[C8 g]at d;rw[C8 (show ¬(ar (tbl h) (a / 16)).o=1 from g)];have t:cN {h with J:=jz h.J a v} = (cN h).set 0 (.s .own ((jz h.J a v).F.V.W.map (aK .own))):=rfl;refine fO 38 [] Tryz.func405 rfl ?_ (.inr (aD (bS _) ⟨trivial,trivial⟩))
 repeat'(first|refine gB ?_|(conv=>whnf);first|with_reducible (first|refine Bf.D (λb=>?_) (λb=>?_)|refine Bf.E (λb=>?_) (λb=>?_))|refine C9 ?_|refine C7 (i) ?_|refine C7 (j) ?_|refine C7 (d) ?_)
 rfl
end Go.Proofs.YtiopgblagimpmaaGreat.Ab
