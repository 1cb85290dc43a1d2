/- Allocation: the data, and a heap stays whole. No condition. -/
import Derived.Test.YtiopgblagimpmaaGreatKic
import Derived.Test.YtiopgblagimpmaaGreatKif
import Derived.Test.YtiopgblagimpmaaGreatKie
import Derived.Test.YtiopgblagimpmaaGreatKid
set_option linter.unusedVariables false
set_option linter.defProp false
set_option linter.unusedSimpArgs false
set_option linter.constructorNameAsVariable false
namespace Go.Proofs.YtiopgblagimpmaaGreat.Ab
def JV{k:Int} : ∀{l s s2 c:List Int}(n:Nat),(∀x∈s2,x∈s)->rQ k s l=some c->∃d,rQ k s2 (l.take n)=some d/\∀x∈d,x∈c
 | [],s,s2,c,n,h,e=>by
  simp only[rQ,Z0,List.take_nil]at e |-;subst e;exact⟨s2,rfl,h⟩
 | a::l,s,s2,c,0,h,e=>⟨s2,rfl,λx b=>(oX (λ_ y=>y) e).1 x (h x b)⟩
 | a::l,s,s2,c,n+1,h,e=>by
  simp only[List.take_succ_cons,rQ]at e |-;split at e
  ·rename_i g
   rw[CC (show good k s2 a from⟨g.1,g.2.1,g.2.2.1,λx=>g.2.2.2 (h a x)⟩)];exact JV (l:=l) (s:=s++[a]) (s2:=s2++[a]) n (λx b=>by
     rcases C3.1 b with b|b
     · exact C3.2 (.inl (h x b))
     exact C3.2 (.inr b)) e
  cases e
def EJ:∀{a:List (List Int)}{k:Nat}{s s2:List Int}(i n:Nat),(∀x∈s2,x∈s)->(gy k s a).isSome=true->(gy k s2 (a.set i ((nth a i).take n))).isSome=true
 | [],_,_,_,_,_,_,_=>rfl
 | l::a,k,s,s2,i,n,h,e=>by
  simp only[gy,fp]at e;split at e
  ·rename_i g
   cases b:rQ k s l with
   | none=>rw[b]at e;cases e
   | some j=>
    rw[b]at e;cases i with
    | zero=>
     obtain⟨c,d,f⟩:=JV n h b;simp only[List.set_cons_zero,gy,fp];rw[CC ⟨by have:=g.1;simp only[nth,List.getD_cons_zero,V1];omega,g.2⟩];show((rQ (k:Nat) s2 (l.take n)).bind λj=>gy (k+1) j a).isSome=true;rw[d];exact uE f e
    | succ i=>
     obtain⟨o,c,d,f⟩:=oX h b;simp only[List.set_cons_succ,gy,fp];rw[CC g,d];exact EJ i n f e
  cases e
def JU{c:aE}(h:b6 c=true)(k:Nat):b6 (qm c k)=true:=by
 unfold b6 at h |-;simp only[I0,C0]at h |-;exact⟨by simp only[qm,U1];exact h.1,EJ k _ (λ_ h=>h) h.2⟩
def lD(b:Int):Nat->List Int
 | 0=>[]
 | j+1=>if aZ b (j:Nat)=true then lD b j else lD b j++[((j:Nat):Int)]
def ug{b:Int} : ∀{n:Nat}{z:Int},z∈lD b n->0<=z/\z<n/\aZ b z=false
 | 0,_,h=>by cases h
 | n+1,z,h=>by
  unfold lD at h;split at h
  ·have:=ug h;exact⟨this.1,ω,this.2.2⟩
  rename_i e;rcases C3.1 h with h|h
  ·have:=ug h;exact⟨this.1,ω,this.2.2⟩
  rw[O1.1 h];exact⟨ω,ω,by simpa using e⟩
def pU(b:Int):∀n,(lD b n).length<=n
 | 0=>I3 _
 | n+1=>by have:=pU b n;unfold lD;split<;>simp<;>omega
def n7(k b:Int):List Int:=if KH k b=true then lD b (slots k).toNat else []
def gC(h:ac)(i:Nat):List Int:=n7 (nth h.J i).d (dE h i)
variable{k:Int}
def rA{b z:Int}(h:z∈n7 k b):0<=z/\z<slots k/\aZ b z=false:=by
 unfold n7 at h;split at h
 ·have:=ug h;exact⟨this.1,ω,this.2.2⟩
 cases h
def xZ(k b:Int):(n7 k b).length<=16:=by
 unfold n7;split
 ·rename_i h
  unfold KH at h;rw[C0]at h;have:=(gi (k:=k) ⟨h.1,h.2.1⟩).2.2.1;have:=pU b (slots k).toNat;omega
 exact W0 _
def mD(h:ac)(i:Nat):Int:=nth (gC h i) (JC h.b3 ((gC h i).length:Nat)).toNat
def slotT(h:ac)(i:Nat):ac:={h with b3:=yW h.b3,J:=h.J.set i (qo (nth h.J i) (mD h i))}
def pE(h:ac)(i:Nat):Int:=16*(nth h.J i).Q+mD h i*csz (nth h.J i).d
variable{i:Nat}{h:ac}
def u7(a:0<(gC h i).length):mD h i∈gC h i:=by
 have:=qZ h.b3 (n:=((gC h i).length:Nat)) ω;exact ar ω
def bc.slotT{h:ac}{E:List Int}{i:Nat}(a:bc h E)(b:i<h.J.length)(e:0<(gC h i).length):bc (slotT h i) (pE h i::E)/\je (slotT h i).J (pE h i) (nth h.J i).d:=by
 obtain⟨c,d,f⟩:=rA (u7 e);exact⟨a.take b ⟨c,d⟩ f (DN _),(je.setS a.L b ⟨c,d⟩ _ _).2 (.inr ⟨rfl,.inr rfl⟩)⟩
def nq(h:ac)(c:Int)(i:Nat):Bool:=decide ((nth h.J i).d=c)&&(!f6 h (nth h.J i).Q&&decide (0<(gC h i).length))
def od(h:ac)(c:Int):Option Nat:=(List.range h.J.length).find? (nq h c)
def lM(h:ac)(c:Int):ac:=addS h (newK h.G (ax h.j 1).2.1).1 (ax h.j 1).1 (ax h.j 1).2.1 c
def lK(h:ac):Nat:=iQ (Br (ax h.j 1).2.1) h.J
def iY(h:ac)(i:Nat):ac × Int:=if(gC h i).length=0 then(h,-1) else(slotT h i,pE h i)
def smallA(h:ac)(t c:Nat):ac × Int:=
 if 0<(nth (nth h.S t).a c).length then({h with S:=h.S.set t (qm (nth h.S t) c)},nth (nth (nth h.S t).a c) ((nth (nth h.S t).a c).length - 1))
 else match od h c with
 | some i=>(slotT h i,pE h i)
 | none=>if(ax h.j 1).2.2=false then(h,-1)
  else if(newK h.G (ax h.j 1).2.1).2=false then({h with G:=(newK h.G (ax h.j 1).2.1).1},-1)
  else iY (lM h c) (lK h)
variable{α:Type}
def D2[Inhabited α](p:α->Bool)(xs:List α)(y:α):iQ p xs<(ja p xs y).length/\nth (ja p xs y) (iQ p xs)=y:=by
 have b:=Ql p xs;have a:(xs.take (iQ p xs)).length=iQ p xs:=by rw[V1];omega
 refine⟨by rw[(kP p xs y).length_eq,List.length_cons];omega,bn ?_⟩;unfold ja;rw[W4 ω,a,Nat.sub_self]
 rfl
def bc.tEq{h:ac}{E:List Int}(a:bc h E){k:am}(c:aF k=true)(b:tEq (tbl h) k.F.R):bc {h with G:=k} E/\JK h {h with G:=k}:=
 ⟨a.step (j:=h.Y) (m:=h.u) c b.1 (a.pg.tEq b) a.job a.noj,⟨rfl,rfl,λs d _=>⟨s,d,rfl,λ_ z=>z⟩,λq e=>.inl ⟨(b.2 q).1.1 e,(b.2 q).2⟩⟩⟩
structure Tr(h:ac)(c:Int)(r:ac × Int):Prop where
 no:r.2<0->bc r.1 []
 yes:0<=r.2->bc r.1 [r.2]/\je r.1.J r.2 c
 jk:JK h r.1
 nx:r.1.b=h.b
 cl:r.1.S.length=h.S.length
variable{a c:Int}{E:List Int}
def je.nn(b:bc h E)(d:je h.J a c):0<=a:=(je.bd b d).1
def Tr.slot{h':ac}(g:bc h' [])(j:i<h'.J.length)(k:0<(gC h' i).length)(l:(nth h'.J i).d=c)(n:JK h h')(a:f6 h' (nth h'.J i).Q=false)(h1:h'.b=h.b)(o:h'.S.length=h.S.length):Tr h c (slotT h' i,pE h' i):=by
 obtain⟨d,f⟩:=g.slotT j k;have b:=je.nn d f;exact⟨λe=>absurd b (by simp only at e;omega),λ_=>⟨d,by rw[<-l];exact f⟩,n.trans (JK.take a),h1,o⟩
variable{t:Nat}
def mE{c:Nat}(a:bc h [])(q:t<h.S.length)(P:c<=3)(B:h.G.Calls<=90000):Tr h c (smallA h t c):=by
 have f:=a.cach _ (ar q);have C:=lX f;unfold smallA;split
 ·rename_i D
  obtain⟨d,b⟩:=a.pop q ω D (JU f c);have l:=je.nn a b;exact⟨λe=>absurd l (by simp only at e;omega),λ_=>⟨d,b⟩,JK.eq rfl rfl rfl rfl,rfl,U1 ..⟩
 split
 ·rename_i i r
  have g:=List.find?_some r;have E:=List.mem_range.1 (List.mem_of_find?_eq_some r);unfold nq at g;simp only[I0,C0,Bool.not_eq_true']at g;exact Tr.slot a E g.2.2 g.1 (JK.refl h) g.2.1 rfl rfl
 split
 ·exact⟨λ_=>a,λe=>absurd e (by show ¬(0:Int)<=-1;decide),JK.refl h,rfl,rfl⟩
 rename_i F;have j:(ax h.j 1).2.2=true:=by simpa using F
 obtain⟨G,H,J,u⟩:=ip a (v5 1) j;have s:=vM.of (p:=(ax h.j 1).2.1) a.ker ω ⟨G,by have:(ax h.j 1).2.1+1<=(h.G.F.R.K.length:Nat):=H;omega⟩ (J _ ω ω);split
 ·rename_i n
  rw[s.no n];obtain⟨d,b⟩:=a.tEq (mS a.ker ω) (tEq.refl _);exact⟨λ_=>d,λe=>absurd e (by show ¬(0:Int)<=-1;decide),b,rfl,rfl⟩
 rename_i n;have o:(newK h.G (ax h.j 1).2.1).2=true:=by simpa using n
 have w:vM h.G (ax h.j 1).2.1 ((newK h.G (ax h.j 1).2.1).1,true):=by rw[<-o];exact s
 have d:=a.addS (c:=c) ⟨ω,ω⟩ j w;have b:JK h (lM h c):=JK.addS w;obtain⟨K,A⟩:=D2 (Br (ax h.j 1).2.1) h.J ⟨(ax h.j 1).2.1,c,0⟩;unfold iY;split
 ·exact⟨λ_=>d,λe=>absurd e (by show ¬(0:Int)<=-1;decide),b,rfl,rfl⟩
 refine Tr.slot (h':=lM h c) (i:=lK h) d K ω (by show(nth (ja (Br (ax h.j 1).2.1) h.J ⟨(ax h.j 1).2.1,c,0⟩) (lK h)).d=_;unfold lK;rw[A]) b ?_ rfl rfl;show f6 (lM h c) (nth (ja (Br (ax h.j 1).2.1) h.J ⟨(ax h.j 1).2.1,c,0⟩) (lK h)).Q=false;unfold lK;rw[A,b.pg];rw[<-U5];intro k;unfold f6 at k;simp only[I0,O6,C0]at k;obtain⟨-,⟨y,L,M⟩,⟨z,N,O⟩⟩:=a.job k.1;rcases k.2 with e|e
 ·exact u _ (v5 _) ω (by rw[e,<-M];exact d6 L)
 exact u _ (v5 _) ω (by rw[e,<-O];exact d6 N)
def fW(size:Int):Nat:=((size+15) / 16).toNat
def dB(h:ac)(size:Int):am × Nat:=newsK h.G (ax h.j (fW size:Nat)).2.1 (fW size)
def largeA(h:ac)(t size:Int):ac × Int × Int:=
 if(ax h.j (fW size:Nat)).2.2=false then(h,-1,4)
 else if(dB h size).2=fW size then(addL h (dB h size).1 (ax h.j (fW size:Nat)).1 (ax h.j (fW size:Nat)).2.1 (fW size:Nat) size t,16*(ax h.j (fW size:Nat)).2.1,0)
 else({h with G:=unmN (dB h size).1 (ax h.j (fW size:Nat)).2.1 (dB h size).2},-1,4)
def rF(xs:List bt):Nat->Int
 | 0=>0
 | i+1=>rF xs i+(nth xs i).q
def gH(h:ac):Int:=rF h.O h.O.length
def allocH(h:ac)(t size:Int):ac × Int × Int:=
 if 1000000<=h.b\/90000<h.G.Calls then(h,-1,5)
 else if ¬(0<=t/\t<=h.S.length - 1) then(h,-1,1)
 else if ¬(1<=size/\size<=1000) then(h,-1,2)
 else if h.c0<gH h+size then(h,-1,3)
 else if 0<=aL size then(if(smallA h t.toNat (aL size).toNat).2<0 then((smallA h t.toNat (aL size).toNat).1,-1,4) else(addO (smallA h t.toNat (aL size).toNat).1 (smallA h t.toNat (aL size).toNat).2 size t,(smallA h t.toNat (aL size).toNat).2,0))
 else largeA h t size
variable{size:Int}
def AN{t:Int}(a:bc h [])(g:9<=size/\size<=1000)(i:h.b<1000000)(j:h.G.Calls<=90000)(k:0<=t/\t<=h.S.length - 1):bc (largeA h t size).1 []/\JK h (largeA h t size).1:=by
 have l:(fW size:Int)=(size+15) / 16:=by unfold fW;omega
 unfold largeA;split
 ·exact⟨a,JK.refl h⟩
 rename_i o;have b:(ax h.j (fW size:Nat)).2.2=true:=by simpa using o
 obtain⟨c,d,e,w⟩:=ip a (show(1:Int)<=(fW size:Nat) by omega) b;have s:=jh.of (p:=(ax h.j (fW size:Nat)).2.1) (n:=fW size) a.ker ω ⟨c,d⟩ e (fW size) (I3 _);split
 ·rename_i q
  have f:jh h.G (ax h.j (fW size:Nat)).2.1 (fW size) ((dB h size).1,fW size):=by
   have:((dB h size).1,fW size)=dB h size:=by rw[<-q]
   rw[this];exact s
  exact⟨a.addL g l b f i k,JK.addL f⟩
 obtain⟨r,u⟩:=s.undo a.ker ⟨c,d⟩ e;exact a.tEq r u
def AJ{t:Int}(a:bc h []):bc (allocH h t size).1 []/\JK h (allocH h t size).1:=by
 unfold allocH;split
 ·exact⟨a,JK.refl h⟩
 rename_i d;rw[not_or]at d;split
 ·exact⟨a,JK.refl h⟩
 rename_i n;split
 ·exact⟨a,JK.refl h⟩
 rename_i o;split
 ·exact⟨a,JK.refl h⟩
 split
 ·rename_i b
  have f:aL size<=3:=by unfold aL;repeat' split<;>omega
  have s:=mE (t:=t.toNat) (c:=(aL size).toNat) a ω ω ω;generalize smallA h t.toNat (aL size).toNat=r at s;split
  ·rename_i e;exact⟨s.no e,s.jk⟩
  rename_i e;obtain⟨g,i⟩:=s.yes ω;refine⟨g.addO (.inl ?_) (by rw[s.nx];omega) (by rw[s.cl];omega),s.jk.trans (JK.eq rfl rfl rfl rfl)⟩;obtain⟨z,j,k,p⟩:=i;exact⟨z,j,k,by show z.d=aL size;omega⟩
 rename_i b;have l:9<=size:=by
  unfold aL at b
  repeat' split at b<;>omega
 exact AN a ⟨l,ω⟩ ω ω ω
def kL{β:Type}[Inhabited α]{f:α->β}{xs:List α}{y:α}(a:i<xs.length)(e:f y=f (nth xs i)):(xs.set i y).map f=xs.map f:=by
 rw[I6];refine List.ext_getElem (by simp) λj b c=>?_
 rw[List.getElem_set];split
 ·rename_i g;subst g
  rw[List.getElem_map,e,bn (O2 a)]
 rfl
def ow{α β:Type}[Inhabited α](f:α->List β):∀(xs:List α)(i:Nat)(y:α),i<xs.length->(f y).Sublist (f (nth xs i))->((xs.set i y).flatMap f).Sublist (xs.flatMap f)
 | [],_,_,h,_=>absurd h (Nat.not_lt_zero _)
 | x::xs,0,y,_,a=>by
  rw[List.set_cons_zero,X6,X6];exact List.Sublist.append a (List.Sublist.refl _)
 | x::xs,i+1,y,h,a=>by
  rw[List.set_cons_succ,X6,X6];exact List.Sublist.append (List.Sublist.refl _) (ow f xs i y (by simpa using h) a)
def zK(k:am)(a:Int):Nat->am
 | 0=>k
 | m+1=>dC (zK k a m) (a+m) 0
def nz(k:am)(a:Int):∀m,(zK k a m).F.R=k.F.R/\(zK k a m).Calls=k.Calls/\(zK k a m).a0=k.a0
 | 0=>⟨rfl,rfl,rfl⟩
 | m+1=>nz k a m
def Nv{k:am}(h:aF k=true){a:Int} : ∀{m:Nat},(∀j:Nat,j<m->(af k.F.R ((a+j) / 16)).e≠0)->aF (zK k a m)=true
 | 0,_=>h
 | m+1,b=>xU (Nv h λj c=>b j ω) (by rw[(nz k a m).1];exact b m ω) ⟨ω,ω⟩
variable{n:Nat}
theorem HD(j:bc h E){sp:List aA}{la:List aD}{o:List aB}{p:Int}(y:p+n<=h.G.F.R.K.length)(A:sp.Sublist h.J)(M:∀l∈la,∀q∈lpgs l l.a2.toNat,∃w∈h.M,q∈lpgs w w.a2.toNat)(N:0<=p)(B:∀q,q∈pgs sp la↔q∈pgs h.J h.M/\¬(p<=q/\q<p+n))(O:∀q,RH o q↔RH h.j q\/(p<=q/\q<p+n)) :
  Pg (unmN h.G p n).F.R o sp la:=by
 have b:=(eO h.G p n).1;have d:=mG j.ker N n y;have f:∀q:Nat,(q:Int)∈pgs sp la->nth (unmN h.G p n).F.R.K q=nth (tbl h).K q:=λq c=>by rw[d,C9 ((B q).1 c).2];rfl
 have a:∀q:Nat,(nth (unmN h.G p n).F.R.K q).e≠0↔(nth (tbl h).K q).e≠0/\¬(p<=q/\(q:Int)<p+n):=λq=>by
  rw[d];by_cases e:p<=q/\(q:Int)<p+n
  ·rw[CC e];exact⟨λx=>absurd rfl x,λx=>absurd e x.2⟩
  rw[C9 e];exact⟨λx=>⟨x,e⟩,λx=>x.1⟩
 refine⟨λl g q c r J C k=>?_,λq c=>?_,λq c=>?_,λq c=>?_,λs g u D F K=>?_⟩
 ·have t:=(a r).1 C
  rw[b]at J;rw[f q (gd g c),d,C9 t.2]at k;obtain⟨w,G,H⟩:=M l g _ c;exact j.pg.one w G q H r J t.1 k
 ·rw[b];exact j.pg.bnd q ((B q).1 c).1
 ·rw[b]at c
  rw[a,B,j.pg.own q c]
 ·rw[b]at c
  rw[a,O,j.pg.fre q c]
  grind
 have i:∀s∈sp,0<=s.Q:=λs g=>(aI (j.L.sok s (A.subset g))).1
 have P:=f s.Q.toNat (by rw[Int.toNat_of_nonneg (i s g)];exact d6 g);have Q:=f u.Q.toNat (by rw[Int.toNat_of_nonneg (i u D)];exact d6 D);rw[P,Q]at K;exact j.pg.mesh s (A.subset g) u (A.subset D) F K
def trimL(l:aD)(size:Int):aD:=⟨l.Q,(size+15) / 16,size⟩
def d4(l:aD)(size:Int):Nat:=(l.a2 - (size+15) / 16).toNat
def bc.trimL{h:ac}{E:List Int}{i k:Nat}{size:Int}(t:bc h E)(T:i<h.O.length)(H:k<h.M.length)(Y:(nth h.O i).Addr=16*(nth h.M k).Q)(N:9<=size/\size<=(nth h.M k).q) :
  ∃o,(d4 (nth h.M k) size=0->o=h.j)/\(0<d4 (nth h.M k) size->dH (eX h) h.j ⟨(nth h.M k).Q+(size+15) / 16,(d4 (nth h.M k) size:Nat)⟩ = some o)/\
   bc {h with G:=unmN h.G ((nth h.M k).Q+(size+15) / 16) (d4 (nth h.M k) size),M:=h.M.set k (trimL (nth h.M k) size),O:=h.O.set i {nth h.O i with q:=size},j:=o} E:=by
 have U:=t.L;have C:=U.lok _ (ar H);have hf:=aS C;unfold bN at C;rw[C0]at C;obtain⟨b1,b2⟩:=tZ t H;have O:=U.dis;have G:=λj n=>U.one j k n H
 have y:=(ar H:nth h.M k∈h.M)
 have d:∀z∈h.M.set k (Ab.trimL (nth h.M k) size),z=Ab.trimL (nth h.M k) size\/∃j,j<h.M.length/\j≠k/\nth h.M j=z:=λz N=>dZ N
 have p:Ab.trimL (nth h.M k) size∈h.M.set k (Ab.trimL (nth h.M k) size):=iL _ H;have u:∀j,j<h.M.length->j≠k->nth h.M j∈h.M.set k (Ab.trimL (nth h.M k) size):=λj n e=>jT _ n e
 have hpageM:(h.M.set k (Ab.trimL (nth h.M k) size)).map (·.Q)=h.M.map (·.Q):=kL H rfl;have w:(pgs h.J (h.M.set k (Ab.trimL (nth h.M k) size))).Sublist (pgs h.J h.M):=by
  unfold pgs;refine List.Sublist.append (List.Sublist.refl _) (ow _ _ _ _ H ?_);unfold lpgs;exact(List.range_sublist.2 (by simp only[Ab.trimL];omega)).map _
 obtain⟨l,V⟩ : ∃l,nth h.M k=l:=⟨_,rfl⟩
 rw[V]at C hf b1 b2 G y d p u hpageM w Y N |-;generalize hla:h.M.set k (Ab.trimL l size)=la at d p u hpageM w |-;have hn1:(1:Int)<=(size+15) / 16/\(size+15) / 16+(d4 l size:Nat)=l.a2:=by unfold d4;omega
 have D:∀q,q∈lpgs l l.a2.toNat↔l.Q<=q/\q<l.Q+l.a2:=λq=>by
  rw[dx];constructor
  ·rintro⟨j,n,rfl⟩;omega
  rintro⟨Z,q2⟩;exact⟨(q - l.Q).toNat,ω,ω⟩
 have J:∀q,q∈lpgs (Ab.trimL l size) (Ab.trimL l size).a2.toNat↔l.Q<=q/\q<l.Q+(size+15) / 16:=λq=>by
  rw[dx];simp only[Ab.trimL];constructor
  ·rintro⟨j,n,rfl⟩;omega
  rintro⟨Z,q2⟩;exact⟨(q - l.Q).toNat,ω,ω⟩
 have hpe:l.Q+(size+15) / 16+(d4 l size:Nat)=l.Q+l.a2:=ω
 have P:∀q,q∈pgs h.J la↔q∈pgs h.J h.M/\¬(l.Q+(size+15) / 16<=q/\q<l.Q+(size+15) / 16+(d4 l size:Nat)):=λq=>by
  rw[pT,pT,hpe];constructor
  ·rintro(⟨s,W,rfl⟩|⟨z,c,B⟩)
   ·exact⟨.inl ⟨s,W,rfl⟩,λe=>O s W l y (s.Q - l.Q).toNat ω ω⟩
   rcases d z c with rfl|⟨j,n,hjk,rfl⟩
   ·have:=(J q).1 B
    exact⟨.inr ⟨l,y,(D q).2 ⟨ω,ω⟩⟩,ω⟩
   refine⟨.inr ⟨_,ar n,B⟩,λe=>?_⟩;obtain⟨m,hm,rfl⟩:=dx.1 B;exact hjk (G j n m ((nth h.M j).Q+(m:Int) - l.Q).toNat hm ω ω)
  rintro⟨⟨s,W,rfl⟩|⟨z,c,B⟩,hne⟩
  ·exact .inl ⟨s,W,rfl⟩
  obtain⟨j,n,rfl⟩:=aP c;by_cases e:j=k
  ·subst e
   rw[V]at B;have:=(D q).1 B;exact .inr ⟨_,p,(J q).2 ⟨ω,ω⟩⟩
  exact .inr ⟨_,u j n e,B⟩
 have K:∃o,(d4 l size=0->o=h.j)/\(0<d4 l size->dH (eX h) h.j ⟨l.Q+(size+15) / 16,(d4 l size:Nat)⟩ = some o)/\bC (eX h) o=true/\∀q,RH o q↔RH h.j q\/(l.Q+(size+15) / 16<=q/\q<l.Q+(size+15) / 16+(d4 l size:Nat)):=by
  by_cases e:d4 l size=0
  ·refine⟨h.j,λ_=>rfl,λg=>absurd g ω,t.rng,λq=>⟨.inl,λg=>g.resolve_right ω⟩⟩
  obtain⟨o,o1,o2,o3⟩:=uY (r:=⟨l.Q+(size+15) / 16,(d4 l size:Nat)⟩) t.rng ⟨by simp only;omega,by simp only;omega,by show l.Q+(size+15) / 16+(d4 l size:Nat)<=(eX h:Int);have:((tbl h).K.length:Int)=(eX h:Int):=rfl;omega⟩ λq Z q2=>by
   simp only at Z q2;obtain⟨m,rfl⟩:=z3 (show 0<=q by omega);have Q:m<(tbl h).K.length:=ω
   exact(t.pg.fre m Q).1 ((t.pg.own m Q).2 (gd y ((D _).2 ⟨ω,ω⟩)))
  exact⟨o,λg=>absurd g e,λ_=>o1,o2,o3⟩
 obtain⟨o,o0,o1,o2,o3⟩:=K;have R:=(eO h.G (l.Q+(size+15) / 16) (d4 l size)).1;have M:∀z∈h.O.set i {nth h.O i with q:=size},z = {nth h.O i with q:=size}\/∃j,j<h.O.length/\j≠i/\nth h.O j=z:=λz N=>dZ N
 have F:(h.O.set i {nth h.O i with q:=size}).map (·.Addr)=h.O.map (·.Addr):=kL T rfl;have S:(h.O.set i {nth h.O i with q:=size}).map (·.Id)=h.O.map (·.Id):=kL T rfl;have hli:=(ar T:nth h.O i∈h.O)
 generalize h.O.set i {nth h.O i with q:=size} = ob at M F S |-;refine⟨o,o0,o1,{t with
   ker:=gM t.ker _ _
   rng:=by show bC (((unmN h.G (l.Q+(size+15) / 16) (d4 l size)).F.R.K.length:Nat):Int) o=true;rw[R];exact o2
   lay:=?_
   srl:=?_
   pg:=HD t (by have:((tbl h).K.length:Int)=(h.G.F.R.K.length:Int):=rfl;omega) (List.Sublist.refl _) (λz c q B=>?_) ω P o3
   osr:=?_
   onu:=λz c=>?_
   oid:=by show(ob.map (·.Id)).Nodup;rw[S];exact t.oid
   oow:=λz c=>?_
   nd:=?_
   mem:=λb=>?_}⟩
 ·obtain⟨l1,l2,l3⟩:=ee t.lay
  unfold bq;simp only[I0,C0];refine⟨⟨l1,v4.2 λz c=>?_⟩,l3.sublist w⟩;rcases d z c with rfl|⟨j,n,-,rfl⟩
  ·exact O0 ⟨N.1,by show size<=1000;omega,rfl,by show 0<=l.Q;omega,by show l.Q<=32 - (size+15) / 16;omega⟩
  exact U.lok _ (ar n)
 ·have A:(h.M.map (·.Q)).Pairwise (λa b=>a<b):=List.pairwise_map.2 t.srl
  rw[<-hpageM]at A;exact List.pairwise_map.1 A
 ·rcases d z c with rfl|⟨j,n,-,rfl⟩
  ·have:=(J q).1 B
   exact⟨l,y,(D q).2 ⟨ω,ω⟩⟩
  exact⟨_,ar n,B⟩
 ·have A:(h.O.map (·.Addr)).Pairwise (λa b=>a<b):=List.pairwise_map.2 t.osr
  rw[<-F]at A;exact List.pairwise_map.1 A
 ·rcases M z c with rfl|⟨j,n,-,rfl⟩
  ·exact t.onu (nth h.O i) hli
  exact t.onu _ (ar n)
 ·rcases M z c with rfl|⟨j,n,hji,rfl⟩
  ·exact .inr ⟨_,p,Y,rfl⟩
  rcases t.oow _ (ar n) with A|⟨l',hl',e1,X⟩
  ·exact .inl A
  obtain⟨m,hm,rfl⟩:=aP hl';by_cases e:m=k
  ·subst e
   rw[V]at e1;exact absurd (cM (f:=(·.Addr)) (de t.osr) n T (e1.trans Y.symm)) hji
  exact .inr ⟨_,u m hm e,e1,X⟩
 ·have hh:holders {h with G:=unmN h.G (l.Q+(size+15) / 16) (d4 l size),M:=la,O:=ob,j:=o} = holders h:=by
   show((ob.map (·.Addr)++cC h)++h.a7.a6.map (·.Addr))++aQ h.w=_;rw[F];rfl
  rw[hh];exact t.nd
 have hh:holders {h with G:=unmN h.G (l.Q+(size+15) / 16) (d4 l size),M:=la,O:=ob,j:=o} = holders h:=by
  show((ob.map (·.Addr)++cC h)++h.a7.a6.map (·.Addr))++aQ h.w=_;rw[F];rfl
 rw[hh,t.mem b];show mM h.J h.M b↔mM h.J la b;unfold mM;constructor
 ·rintro(A|⟨z,c,e⟩)
  ·exact .inl A
  obtain⟨j,n,rfl⟩:=aP c;by_cases X:j=k
  ·subst X
   rw[V]at e;exact .inr ⟨_,p,e⟩
  exact .inr ⟨_,u j n X,e⟩
 rintro(A|⟨z,c,e⟩)
 ·exact .inl A
 rcases d z c with rfl|⟨j,n,-,rfl⟩
 ·exact .inr ⟨l,y,e⟩
 exact .inr ⟨_,ar n,e⟩
def kx(h:ac)(k:Nat)(size:Int):am:=zK h.G (16*(nth h.M k).Q+size) (16*((size+15) / 16) - size).toNat
def HX(h:ac)(k:Nat)(size:Int):List aB:=if 0<d4 (nth h.M k) size then(dH (eX h) h.j ⟨(nth h.M k).Q+(size+15) / 16,(d4 (nth h.M k) size:Nat)⟩).getD h.j else h.j
def trimH(h:ac)(i k:Nat)(size:Int):ac:={h with G:=unmN (kx h k size) ((nth h.M k).Q+(size+15) / 16) (d4 (nth h.M k) size),M:=h.M.set k (trimL (nth h.M k) size),O:=h.O.set i {nth h.O i with q:=size},j:=HX h k size}
def jO(b:bc h E){k:Nat}(c:k<h.M.length)(g:16*(nth h.M k).Q<=a/\a<16*(nth h.M k).Q+16*(nth h.M k).a2):(af h.G.F.R (a / 16)).e≠0:=by
 obtain⟨i,j⟩:=tZ b c;have l:=aS (b.L.lok _ (ar c));have d:(a / 16)∈pgs h.J h.M:=gd (ar c) (dx.2 ⟨(a / 16 - (nth h.M k).Q).toNat,ω,ω⟩);have e:=b.pg.bnd _ d;have f:=(b.pg.own (a / 16).toNat ω).2 (by rw[show(((a / 16).toNat:Nat):Int)=a / 16 by omega];exact d);unfold af;rw[CC ⟨ω,e⟩];exact f
def wq(b:bc h E){k:Nat}(c:k<h.M.length)(d:9<=size/\size<=(nth h.M k).q):∀{m:Nat},m<=(16*((size+15) / 16) - size).toNat->aF (zK h.G (16*(nth h.M k).Q+size) m)=true:=fun {m} hm=>by
 have a:=b.L.lok _ (ar c);unfold bN at a;rw[C0]at a;exact Nv b.ker λj e=>jO b c ⟨ω,ω⟩
def bc.trimH{h:ac}{i k:Nat}{size:Int}(d:bc h [])(A:i<h.O.length)(f:k<h.M.length)(B:(nth h.O i).Addr=16*(nth h.M k).Q)(r:9<=size/\size<=(nth h.M k).q):bc (trimH h i k size) []/\JK h (trimH h i k size):=by
 have t:=wq d f r (I3 _);have l:=(nz h.G (16*(nth h.M k).Q+size) (16*((size+15) / 16) - size).toNat).1;have C:=d.cells t l;obtain⟨o,u,w,y⟩:=C.trimL (i:=i) (k:=k) (size:=size) A f B r;simp only at u w y;have n:eX {h with G:=zK h.G (16*(nth h.M k).Q+size) (16*((size+15) / 16) - size).toNat} = eX h:=by
  unfold eX;simp only[l]
 have D:HX h k size=o:=by
  unfold HX;split
  ·rename_i g;have:=w g;rw[n]at this;rw[this];rfl
  exact(u ω).symm
 have E:Ab.trimH h i k size = {h with G:=unmN (kx h k size) ((nth h.M k).Q+(size+15) / 16) (d4 (nth h.M k) size),M:=h.M.set k (Ab.trimL (nth h.M k) size),O:=h.O.set i {nth h.O i with q:=size},j:=o}:=by unfold Ab.trimH;rw[D]
 refine⟨by rw[E];exact y,JK.less rfl rfl rfl λq j=>?_⟩;have a:=d.L.lok _ (ar f);unfold bN at a;rw[C0]at a;obtain⟨F,G⟩:=tZ d f;have b:(kx h k size).F.R=h.G.F.R:=l;have c:=mG (k:=kx h k size) t (p:=(nth h.M k).Q+(size+15) / 16) ω (d4 (nth h.M k) size) (by rw[b];have:((tbl h).K.length:Int)=(h.G.F.R.K.length:Int):=rfl;unfold d4;omega) q;change (nth (unmN (kx h k size) ((nth h.M k).Q+(size+15) / 16) (d4 (nth h.M k) size)).F.R.K q).e≠0 at j;show nth (unmN (kx h k size) ((nth h.M k).Q+(size+15) / 16) (d4 (nth h.M k) size)).F.R.K q=nth h.G.F.R.K q;rw[c]at j |-;split at j
 ·exact absurd rfl j
 rename_i e;rw[C9 e,b]
def G2(h:1<=t/\t<=4):bQ (ew t)=true:=by
 have f:∀n,n<=t->bA (ew t) n=0:=λn=>by
  induction n with
  | zero=>intro _;rfl
  | succ n g=>
   intro j;have a:nth (ew t).U n=[]:=d3 ω;have b:nth (ew t).y n=[]:=d3 ω;simp only[bA,g ω,a,b,List.length_nil]
   decide
 have e:(ew t).U.length=t:=Y3 ..;refine d7.2 ⟨⟨ω,ω,by simp[ew]⟩,λi c=>?_,by rw[e,f t (I3 _)];omega⟩;rw[e]at c;have a:nth (ew t).U i=[]:=d3 c;have b:nth (ew t).y i=[]:=d3 c;rw[a,b];exact⟨λp d=>(by cases d),λp d=>(by cases d)⟩
def vA(t:Nat):aQ (ew t)=[]:=by
 unfold aQ;split
 ·simp[ew]
 rfl
def rz(k:am)(t:Nat)(sd ck lim:Int):ac:=⟨k,[⟨0,(k.F.R.K.length:Nat)⟩],[],[],[],List.replicate t fB,ew t,⟨16,[]⟩,sd,ck,lim,1,false,⟨⟨0,0,[]⟩,0,0⟩⟩
def Gs:b6 fB=true:=by decide
def bc.fresh{k:am}{lim sd ck:Int}(A:aF k=true)(B:∀q,q<k.F.R.K.length->(nth k.F.R.K q).e=0)(E:1<=t/\t<=4)(g:0<=lim/\lim<=1000)(h:0<=sd/\sd<=1073741823)(d:0<=ck/\ck<=1000000):bc (rz k t sd ck lim) []:=by
 obtain⟨G,H,J⟩:=bu.1 (aG.1 A).2.2.1;have hca:cC (rz k t sd ck lim)=[]:=by
  unfold cC;refine List.flatMap_eq_nil_iff.2 λc d=>?_
  rw[(List.mem_replicate.1 d).2]
  rfl
 have C:holders (rz k t sd ck lim)=[]:=by
  unfold holders;rw[hca];show(([]++[])++[])++aQ (ew t)=[];rw[vA];rfl
 have i:∀a,¬mM (rz k t sd ck lim).J (rz k t sd ck lim).M a:=λa=>by
  rintro(⟨s,h,-⟩|⟨l,g,-⟩)
  ·cases h
  cases g
 exact {
   ker:=A
   rng:=fT.2 ⟨⟨List.pairwise_singleton ..,λy n=>by rw[O1.1 n];show(1:Int)<=(k.F.R.K.length:Nat);omega⟩,λy n=>by
       rw[O1.1 n];refine⟨v5 _,by show(1:Int)<=(k.F.R.K.length:Nat);omega,?_⟩;show(0:Int)+(k.F.R.K.length:Nat)<=(k.F.R.K.length:Nat);omega,by show(1:Int)<=(k.F.R.K.length:Nat);omega,by show((k.F.R.K.length:Nat):Int)<=32;omega⟩
   lay:=by show bq [] []=true;decide
   srs:=List.Pairwise.nil
   srl:=List.Pairwise.nil
   pg:=⟨λl g=>(by cases g),λp f=>(by cases f),λp f=>⟨λe=>absurd (B p f) e,λe=>by cases e⟩,λp f=>⟨λe=>absurd (B p f) e,λe=>absurd ⟨_,O1.2 rfl,by show(0:Int)<=p;omega,by
       show(p:Int)<0+(k.F.R.K.length:Nat);have F:p<k.F.R.K.length:=f;omega⟩ e⟩,λs h=>by cases h⟩
   mail:=G2 E
   nc:=by show(List.replicate t fB).length=(List.replicate t _).length;simp
   quar:=by show gk ⟨16,[]⟩ = true;decide
   snc:=λx r=>by cases r
   cach:=λc d=>by rw[(List.mem_replicate.1 d).2];exact Gs
   nums:=by unfold cu;rw[C0];simp only[rz];omega
   osr:=List.Pairwise.nil
   onu:=λo u=>by cases u
   oid:=List.nodup_nil
   oow:=λo u=>by cases u
   hca:=λc d j D a b=>by
     rw[(List.mem_replicate.1 d).2]at D b;have w:j<4:=D;have:nth fB.a j=[]:=d3 w;rw[this]at b;cases b
   hqu:=λx r=>by cases r
   hfl:=λa b=>by
     have:aQ (ew t)=[]:=vA t;change a∈aQ (ew t) at b;rw[this]at b;cases b
   hin:=λa b=>by cases b
   nd:=by rw[C];exact List.nodup_nil
   mem:=λa=>by rw[C];exact⟨λe=>(by cases e),λe=>absurd e (i a)⟩
   job:=λe=>by cases e
   noj:=λ_=>by show sM ⟨⟨0,0,[]⟩,0,0⟩ = true;decide}
def JI.no(a:h.u=false):JI h:=⟨λe=>(by rw[a]at e;cases e),λe=>(by rw[a]at e;cases e),λe=>(by rw[a]at e;cases e),λe=>(by rw[a]at e;cases e)⟩
variable{f:Nat}
def qw{p:Nat}{a:List Int}(d:1<=p/\p<=32)(e:1<=f/\f<=32)(b:a.length<=40/\∀x∈a,0<=x):aF (bY p f a)=true:=by
 obtain⟨-,g,h,i,c⟩:=aG.1 (B8 d e);exact aG.2 ⟨λj k=>b.2 _ (ar k),g,h,i,c.1,c.2.1,b.1⟩
def Fi{p:Nat}{lim:Int}{a:List Int}(c:1<=p/\p<=32)(d:1<=f/\f<=32)(g:1<=t/\t<=4)(i:0<=lim/\lim<=1000)(j:a.length<=40/\∀x∈a,0<=x):bc (newHeap p f t lim a) []:=by
 have h:=bc.fresh (k:=bY p f a) (t:=t) (lim:=lim) (sd:=0) (ck:=0) (qw c d j) (λq l=>by
   have b:q<p:=by simpa[bY,fG] using l
   rw[show nth (bY p f a).F.R.K q = ⟨0,0⟩ from d3 b]) g i ω ω
 have e:(bY p f a).F.R.K.length=p:=by simp[bY,fG]
 unfold rz at h;rw[e]at h;exact h
structure eG where
 b5:Int
 a4:Int
 N:Int
 At:Int
 Value:Int
deriving DecidableEq,Inhabited
def eG.enc(_:dQ)(x:eG):List C:=[I x.b5,I x.a4,I x.N,I x.At,I x.Value]
def n6(id:Int)(o:bD):Bool:=decide (o.Id=id)
def oI(r:aC)(id:Int):Int:=cW (n6 id) r.O
def iE(r:aC)(n:Int):aC:=if 1<=n/\n<=1000 then {r with b:=r.b+1,O:=r.O++[⟨r.b,List.replicate n.toNat 0⟩]} else r
def jD(r:aC)(id:Int):aC:=if oI r id<0 then r else {r with O:=dele r.O (oI r id).toNat}
def eC(r:aC)(id at_ v:Int):aC:=if 0<=oI r id/\(0<=at_/\at_<=(nth r.O (oI r id).toNat).T.length - 1)/\0<=v/\v<=999 then {r with O:=r.O.set (oI r id).toNat ⟨(nth r.O (oI r id).toNat).Id,(nth r.O (oI r id).toNat).T.set at_.toNat v⟩} else r
def f8(r:aC)(id n:Int):aC:=if 0<=oI r id/\1<=n/\n<=(nth r.O (oI r id).toNat).T.length then {r with O:=r.O.set (oI r id).toNat ⟨(nth r.O (oI r id).toNat).Id,(nth r.O (oI r id).toNat).T.take n.toNat⟩} else r
structure sC(r:aC)(m:Nat):Prop where
 len:r.O.length<=m
 cel:∀o∈r.O,o.T.length<=1000
 nx:0<=r.b/\r.b<=m+1
variable{m:Nat}{r:aC}
def sC.more(h:sC r m)(a:m<=n):sC r n:=⟨by have:=h.len;omega,h.cel,h.nx.1,by have:=h.nx.2;omega⟩
def sC.sml(h:sC r m)(b:m<=1000):aC.sml r:=⟨by have:=h.len;omega,λo a=>by have:=h.cel o a;show o.T.length<=1048576;omega⟩
def sC.alloc(h:sC r m)(n:Int):sC (iE r n) (m+1):=by
 unfold iE;split
 ·refine⟨by have:=h.len;simp only[U3,List.length_singleton];omega,λo a=>?_,by have:=h.nx.1;simp only;omega,by have:=h.nx.2;simp only;omega⟩
  rcases C3.1 a with a|a
  ·exact h.cel o a
  rw[O1.1 a];simp only[Y3];omega
 exact h.more ω
def sC.free(h:sC r m)(id:Int):sC (jD r id) m:=by
 unfold jD;split
 ·exact h
 have a:=eP r.O (oI r id).toNat;exact⟨Z4 a.length_le h.len,λo b=>h.cel o (a.subset b),h.nx⟩
def sC.set{x:bD}(h:sC r m)(b:x.T.length<=1000):sC {r with O:=r.O.set i x} m:=
 ⟨by simp only[U1];exact h.len,λo a=>by
   rcases V6 a with a|rfl
   · exact h.cel o a
   exact b,h.nx⟩
def fC[Inhabited α](p:α->Bool)(xs:List α)(h:0<=cW p xs):(cW p xs).toNat<xs.length/\p (nth xs (cW p xs).toNat)=true/\cW p xs=((cW p xs).toNat:Nat):=by
 rcases oU p xs with e|⟨n,a,e,b⟩
 ·omega
 rw[e,Z2];exact⟨a,b,rfl⟩
def sC.store(h:sC r m)(id a v:Int):sC (eC r id a v) m:=by
 unfold eC;split
 ·rename_i e
  refine h.set ?_;simp only[U1];exact h.cel (nth r.O (oI r id).toNat) (ar (fC _ _ e.1).1)
 exact h
def sC.trim(h:sC r m)(id n:Int):sC (f8 r id n) m:=by
 unfold f8;split
 ·rename_i e
  refine h.set ?_;have:=h.cel (nth r.O (oI r id).toNat) (ar (fC _ _ e.1).1);simp only[V1];omega
 exact h
def MY(id:Int)(o:bt):Bool:=decide (o.Id=id)
def q9(h:ac)(id:Int):Int:=cW (MY id) h.O
def J9(a:Int)(l:aD):Bool:=decide (l.Q*16=a)
def z8(h:ac)(a:Int):Int:=cW (J9 a) h.M
def nP(h:ac)(a:eG):Prop:=0<=a.a4/\a.a4<=h.S.length - 1
instance (h:ac) (a:eG):Decidable (nP h a):=by unfold nP;infer_instance
def qh(w:bp)(a:eG)(i:Nat):bp × Int:=
 if w.Z.G.Calls=100000 then(w,6)
 else if nP w.Z a then(⟨(freeT w.Z a.a4.toNat i).1,if(freeT w.Z a.a4.toNat i).2=0 then jD w.b2 (nth w.Z.O i).Id else w.b2⟩,(freeT w.Z a.a4.toNat i).2)
 else(w,1)
def mT(w:bp)(a:eG)(i:Nat):bp × Int:=
 if ¬(0<=a.At/\a.At<=(nth w.Z.O i).q - 1) then(w,90)
 else if(af w.Z.G.F.R (((nth w.Z.O i).Addr+a.At) / 16)).e=1 then(w,2)
 else if ¬(0<=a.Value/\a.Value<=999) then(w,3)
 else(⟨{w.Z with G:=dC w.Z.G ((nth w.Z.O i).Addr+a.At) a.Value},eC w.b2 (nth w.Z.O i).Id a.At a.Value⟩,0)
def ma(h:ac)(i:Nat)(n:Int):Prop:=0<=z8 h (nth h.O i).Addr/\9<=n/\n<=(nth h.M (z8 h (nth h.O i).Addr).toNat).q
instance (h:ac) (i:Nat) (n:Int):Decidable (ma h i n):=by unfold ma;infer_instance
def qg(w:bp)(a:eG)(i:Nat):bp × Int:=
 if w.Z.G.Calls≠100000/\ma w.Z i a.Value then(⟨trimH w.Z i (z8 w.Z (nth w.Z.O i).Addr).toNat a.Value,f8 w.b2 (nth w.Z.O i).Id a.Value⟩,0) else(w,90)
def ml(w:bp)(a:eG)(i:Nat):bp × Int:=if a.b5=2 then qh w a i else if a.b5=3 then mT w a i else qg w a i
def fH(h:ac)(a:eG):ac × Int:=
 if a.b5=5 then(if nP h a/\0<(nth h.w.U a.a4.toNat).length then({h with w:=fS h.w a.a4.toNat},0) else(h,90))
 else if ¬(h.G.Calls≠100000/\nP h a) then(h,0)
 else if a.b5=6 then(collect h a.a4.toNat,((nth h.w.y a.a4.toNat).length:Nat))
 else((flushN a.a4.toNat h 4).1,((flushN a.a4.toNat h 4).2:Nat))
def nI(h:ac)(n:Int):ac × Int:=if h.G.Calls≠100000/\(0<=n/\n<=1000)/\h.b1+n<=1000000 then(tick h n,((nG h n).length:Nat)) else(h,0)
def te(h:ac):Bool:=h.u&&decide (h.G.Calls<=99000)
def stN(h:ac):Nat->ac × Nat
 | 0=>(h,0)
 | i+1=>if te (stN h i).1=true then(mStep (stN h i).1,(stN h i).2+1) else stN h i
def nl(h:ac):ac × Int:=if h.u=true then(h,90) else((started h).1,if(started h).2=true then 0 else 90)
def lR(w:bp)(a:eG):bp × Int:=
 if a.b5=1 then(⟨(allocH w.Z a.a4 a.N).1,if(allocH w.Z a.a4 a.N).2.2=0 then iE w.b2 a.N else w.b2⟩,(allocH w.Z a.a4 a.N).2.2)
 else if a.b5=2\/a.b5=3\/a.b5=4 then(if q9 w.Z a.N<0 then(w,90) else ml w a (q9 w.Z a.N).toNat)
 else if a.b5=5\/a.b5=6\/a.b5=7 then(⟨(fH w.Z a).1,w.b2⟩,(fH w.Z a).2)
 else if a.b5=8 then(⟨(nI w.Z a.N).1,w.b2⟩,(nI w.Z a.N).2)
 else if a.b5=9 then(⟨(nl w.Z).1,w.b2⟩,(nl w.Z).2)
 else if a.b5=10/\0<=a.N/\a.N<=50 then(⟨(stN w.Z a.N.toNat).1,w.b2⟩,((stN w.Z a.N.toNat).2:Nat))
 else(w,90)
structure rP(w:bp)(m:Nat):Prop where
 inv:bc w.Z []
 ji:JI w.Z
 ref:sC w.b2 m
variable{w:bp}
def rP.more(h:rP w m)(a:m<=n):rP w n:=⟨h.inv,h.ji,h.ref.more a⟩
def rP.jk(h:rP w m){g:ac}(a:bc g []/\JK w.Z g)(b:sC r m):rP ⟨g,r⟩ m:=⟨a.1,h.ji.keep a.1 a.2,b⟩
def cN(a:bc h E){o:bt}(p:o∈h.O)(D:0<=k/\k<=o.q - 1):(af h.G.F.R ((o.Addr+k) / 16)).e≠0/\0<=o.Addr/\o.Addr+k<512:=by
 rcases a.oow o p with⟨s,g,q,r⟩|⟨l,i,F,G⟩
 ·have b:=a.L.sok s g
  have t:=aI b;obtain⟨u,w,y⟩:=a.mapped g;have d:=bZ t.2.2;obtain⟨H,J,A,-⟩:=q;have f:o.q<=csz s.d:=by
   have K:=jr (n:=o.q) ω;rw[r];have:o.q=1\/o.q=2\/o.q=3\/o.q=4\/o.q=5\/o.q=6\/o.q=7\/o.q=8:=ω
   rcases this with e|e|e|e|e|e|e|e<;>rw[e]<;>decide
  have B:(o.Addr+k) / 16=s.Q:=by
   rcases d with e|e|e|e<;>rw[e]at A f<;>omega
  rw[B];refine⟨?_,ω,ω⟩;unfold af;rw[CC ⟨u,w⟩];exact y
 obtain⟨j,C,rfl⟩:=aP i;have c:=a.L.lok _ i;unfold bN at c;rw[C0]at c;exact⟨jO a C ⟨ω,ω⟩,ω,ω⟩
def rP.obj(h:rP w m)(a:eG)(b:i<w.Z.O.length):rP (ml w a i).1 m:=by
 unfold ml;split
 ·unfold qh
  split
  ·exact h
  split
  ·rename_i d
   unfold nP at d;refine h.jk (h.inv.freeT b ω) ?_;split
   ·exact h.ref.free _
   exact h.ref
  exact h
 split
 ·unfold mT
  split
  ·exact h
  rename_i l;split
  ·exact h
  split
  ·exact h
  rename_i n;exact h.jk (h.inv.store (cN h.inv (ar b) ω).1 ω) (h.ref.store _ _ _)
 unfold qg;split
 ·rename_i e
  obtain⟨-,f,g⟩:=e;obtain⟨j,k,o⟩:=fC _ _ f;have c:=of_decide_eq_true k;exact h.jk (h.inv.trimH b j (c.symm.trans (Int.mul_comm _ _)) g) (h.ref.trim _ _)
 exact h
def rP.thread(h:rP w m)(a:eG):rP ⟨(fH w.Z a).1,w.b2⟩ m:=by
 unfold fH;split
 ·split
  ·rename_i e
   obtain⟨b,i⟩:=e;unfold nP at b;exact h.jk (g:={w.Z with w:=fS w.Z.w a.a4.toNat}) ⟨h.inv.deliv (by rw[<-h.inv.nc];omega) i,JK.eq rfl rfl rfl rfl⟩ h.ref
  exact h
 split
 ·exact h
 rename_i e;have e:=Classical.not_not.1 e;obtain⟨-,b⟩:=e;unfold nP at b;split
 ·exact h.jk (g:=collect w.Z a.a4.toNat) (h.inv.collect ω) h.ref
 have c:a.a4.toNat<w.Z.S.length:=ω
 have d:=(jy h.inv c (I3 4)).1;have f:=JK.flushN h.inv c (I3 4);generalize flushN a.a4.toNat w.Z 4=r at d f |-;exact h.jk (g:=r.1) ⟨d,f⟩ h.ref
def tD{h:ac}(a:bc h [])(b:JI h):∀n,bc (stN h n).1 []/\JI (stN h n).1
 | 0=>⟨a,b⟩
 | n+1=>by
  obtain⟨c,d⟩:=tD a b n;unfold stN;split
  ·rename_i e
   unfold te at e;rw[I0]at e;exact c.mStep d e.1
  exact⟨c,d⟩
def rP.act(h:rP w m)(a:eG):rP (lR w a).1 (m+1):=by
 unfold lR;split
 ·have b:=AJ (t:=a.a4) (size:=a.N) h.inv
  refine⟨b.1,h.ji.keep b.1 b.2,?_⟩;show sC (if _ then _ else _) (m+1);split
  ·exact h.ref.alloc _
  exact h.ref.more ω
 refine rP.more (m:=m) ?_ ω;split
 ·split
  ·exact h
  rename_i e;exact h.obj a (fC _ _ (by unfold q9 at e;omega)).1
 split
 ·exact h.thread a
 split
 ·unfold nI
  split
  ·rename_i e
   exact h.jk (h.inv.tick e.2.1.1 e.2.2) h.ref
  exact h
 split
 ·unfold nl
  split
  ·exact h
  rename_i e;have b:=Gy h.inv (by simpa using e);exact⟨b.1,b.2,h.ref⟩
 split
 ·have b:=tD h.inv h.ji a.N.toNat
  exact⟨b.1,b.2,h.ref⟩
 exact h
structure cG where
 a2:Nat
 W:Nat
 c6:Nat
 c0:Int
 a0:List Int
deriving Inhabited
structure FU(c:cG):Prop where
 p:1<=c.a2/\c.a2<=32
 f:1<=c.W/\c.W<=32
 t:1<=c.c6/\c.c6<=4
 l:0<=c.c0/\c.c0<=1000
 r:c.a0.length<=40/\∀x∈c.a0,0<=x
def world0(c:cG):bp:=⟨newHeap c.a2 c.W c.c6 c.c0 c.a0,{b:=1,O:=[]}⟩
def yL(c:cG)(acts:List eG):Nat->bp × List Int
 | 0=>(world0 c,[])
 | i+1=>((lR (yL c acts i).1 (nth acts i)).1,(yL c acts i).2++[(lR (yL c acts i).1 (nth acts i)).2])
def K9{c:cG}(h:FU c):rP (world0 c) 0:=
 ⟨Fi h.p h.f h.t h.l h.r,JI.no rfl,⟨I3 _,λo a=>(by cases a),by show(0:Int)<=1;omega,by show(1:Int)<=((0:Nat):Int)+1;omega⟩⟩
def ui{c:cG}(h:FU c)(acts:List eG):∀n,rP (yL c acts n).1 n
 | 0=>K9 h
 | n+1=>(ui h acts n).act _
open Go.RowKit
set_option maxRecDepth 20000
set_option maxHeartbeats 4000000
def or64{z1 z2:Int}(h1:0<=z1/\z1<=65535)(a:0<=z2/\z2<=65535):IntKind.i64.wrap ((BitVec.ofInt IntKind.i64.bits z1 ||| BitVec.ofInt IntKind.i64.bits z2).toNat:Nat)=bor z1 z2:=by
 rw[BitVec.toNat_or,pO ω,pO ω];have b:=Gw h1 a;unfold bor at b |-;exact fQ ω ω
def zD(h:ac)(i:Nat)(n:d9 h.J)(d:xF h)(a:∀s∈h.J,bh s=true)(y:i<h.J.length):zzA 479 false [.val (some 24) (ac.enc .V h),.val none [I (i:Nat)]] .one [I (dE h i)]:=by
 have F:=n.1;have G:=au y;have g:=lW a y;have B:=aJ ((i:Nat):Int) 0 ((h.J.length:Int) - 1);rw[O0 (show(0:Int)<=(i:Nat)/\((i:Nat):Int)<=(h.J.length:Int) - 1 by omega)]at B;have C:=ik h (nth h.J i).Q d;have o:=gg h (nth h.J i).Q;have H:eX h<=1048576:=d.1;have c:dE h i=ig h.J (aU h (nth h.J i).Q) (nth h.J i).a9 (aU h (nth h.J i).Q).length:=rfl;obtain⟨ps,q⟩ : ∃ps,aU h (nth h.J i).Q=ps:=⟨_,rfl⟩
 obtain⟨b,r⟩ : ∃b,(nth h.J i).a9=b:=⟨_,rfl⟩
 rw[q]at C o c;rw[r]at c g;rw[c];have J:ig h.J ps b 0=b:=rfl;refine fO 63 [(4,7,[22,23,24,25,26,27,28]),(11,10,[43,44,45,46,47,48,49,50,51,52])] Tryz.func479 rfl ?_
 repeat'(first|refine gP ?_|(conv=>whnf);first|with_reducible refine CD (aa G) ?_|refine C8 (B) ?_|refine C8 (C) ?_)
 (conv=>whnf)
 refine CJ (ι:=Nat) (λu=>[(2,.H .box (ac.enc .V h)),(5,.H .one [I (ig h.J ps b u)]),(6,.H .one (aH .own ps)),(7,.H .one [I ((u:Nat):Int)])]) (λu=>u<=ps.length) (λu=>ps.length - u) (0) ?_ (W0 _) λu M=>?_
 ·exact wB
 by_cases K:u<ps.length
 ·have l:=au K
  have t:=ll a (ps:=ps) g u
  repeat'(first|refine gE ?_|fail)
  (conv=>whnf)
  refine CJ (ι:=Nat) (λj=>[(2,.H .box (ac.enc .V h)),(5,.H .one [I (oM h.J (nth ps u) (ig h.J ps b u) j)]),(6,.H .one (aH .own ps)),(7,.H .one [I ((u:Nat):Int)]),(8,.H .one [I ((j:Nat):Int)])]) (λj=>j<=h.J.length) (λj=>h.J.length - j) (0) ?_ (W0 _) λj L=>?_
  ·exact wB
  by_cases D:j<h.J.length
  ·have E:=au D
   have w:=wd a (p:=nth ps u) t j L;by_cases e:(nth h.J j).Q=nth ps u
   ·have k:oM h.J (nth ps u) (ig h.J ps b u) (j+1)=bor (oM h.J (nth ps u) (ig h.J ps b u) j) (nth h.J j).a9:=CC e
    repeat'(first|refine gB ?_|(conv=>whnf);first|with_reducible (first|refine CD (aa l) ?_|refine CD (aa E) ?_)|refine CH rfl (aa l) rfl ?_|refine CM (or64 w (lW a D)) ?_)
    ((conv=>whnf);refine CE (j+1) ω ω ?_;(exact wB))
   have k:oM h.J (nth ps u) (ig h.J ps b u) (j+1)=oM h.J (nth ps u) (ig h.J ps b u) j:=C9 e
   repeat'(first|refine gB ?_|(conv=>whnf);first|with_reducible (first|refine CD (aa l) ?_|refine CD (aa E) ?_)|refine CH rfl (aa l) rfl ?_)
   ((conv=>whnf);refine CE (j+1) ω ω ?_;(exact wB))
  obtain rfl:j=h.J.length:=ω
  repeat'(first|refine gE ?_|fail)
  ((conv=>whnf);refine CE (u+1) ω ω ?_;(exact wB))
 obtain rfl:u=ps.length:=ω
 repeat'(first|refine gE ?_|fail)
 rfl
def kO{xs:List bt}(h:∀o∈xs,0<=o.q/\o.q<=1000):∀k:Nat,k<=xs.length->0<=rF xs k/\rF xs k<=1000*k
 | 0,_=>⟨v5 _,v5 _⟩
 | k+1,a=>by
  have b:=kO h k ω;have c:=h _ (ar (xs:=xs) (i:=k) ω);simp only[rF];omega
def pp(h:ac)(a:∀o∈h.O,0<=o.q/\o.q<=1000)(e:h.O.length<=1048576):zzA 19 false [.val (some 24) (ac.enc .V h)] .one [I (gH h)]:=by
 refine fO 21 [] Tryz.func19 rfl ?_
 repeat'(first|refine gP ?_|fail)
 (conv=>whnf)
 refine CJ (ι:=Nat) (λk=>[(1,.H .box (ac.enc .V h)),(3,.H .one [I (rF h.O k)]),(4,.H .one [I ((k:Nat):Int)])]) (λk=>k<=h.O.length) (λk=>h.O.length - k) (0) ?_ (W0 _) λk c=>?_
 ·exact wB
 have g:=kO a k c;by_cases b:k<h.O.length
 ·have d:=au b
  have i:=a _ (ar b)
  repeat'(first|refine gE ?_|(conv=>whnf);first|refine CD (aa d) ?_)
  ((conv=>whnf);refine CE (k+1) ω ω ?_;(exact wB))
 obtain rfl:k=h.O.length:=ω
 repeat'(first|refine gE ?_|fail)
 rfl
def xI(k b:Int)(h:b<=9223372036854775807):zzA 478 false [.val none [I (slots k)],.val none [I b]] .one (aH .own (n7 k b)):=by
 have c:=qM k b;have p:0<=slots k/\slots k<=16:=by unfold slots;repeat' split<;>omega
 unfold n7;cases e:KH k b<;>rw[e]at c
 ·rw[C9 (by simp)]
  refine fO 27 [] Tryz.func478 rfl ?_ (.inr (bP _))
  repeat'(first|refine gP ?_|fail)
  (conv=>whnf)
  refine CJ (ι:=Nat) (λj=>[(0,.H .one [I (slots k)]),(1,.H .one [I (b)]),(5,.H .one (aH .own [])),(6,.H .one [I ((j:Nat):Int)])]) (λj=>j=0) (λj=>1 - j) (0) ?_ (rfl) λj g=>?_
  ·exact wB
  subst g
  repeat'(first|refine gE ?_|(conv=>whnf);first|with_reducible refine Bf.D (λi=>?_) (λi=>?_)|refine C8 (c) ?_)
  all_goals rfl
 rw[CC rfl];refine fO 27 [] Tryz.func478 rfl ?_ (.inr (bP _))
 repeat'(first|refine gP ?_|fail)
 (conv=>whnf)
 refine CJ (ι:=Nat) (λj=>[(0,.H .one [I (slots k)]),(1,.H .one [I (b)]),(5,.H .one (aH .own (lD b j))),(6,.H .one [I ((j:Nat):Int)])]) (λj=>j<=(slots k).toNat) (λj=>(slots k).toNat - j) (0) ?_ (W0 _) λj g=>?_
 ·exact wB
 have l:=pU b j;by_cases q:j<(slots k).toNat
 ·have d:=iP b (j:Nat) h
  have a:lD b (j+1)=if aZ b (j:Nat)=true then lD b j else lD b j++[((j:Nat):Int)]:=rfl
  cases n:aZ b (j:Nat)<;>rw[n]at d a
  ·rw[C9 (by simp)]at a
   repeat'(first|refine gE ?_|(conv=>whnf);first|refine C8 (c) ?_|refine C8 (d) ?_|refine CU cI (λr o=>by rw[O1.1 o];rfl) (by simp[bi,eg]) (by simp;omega) (by simp only[C1];exact yJ (by simp;omega) (by decide)) rfl ?_)
   ((conv=>whnf);refine CE (j+1) ω ω ?_)
   rw[a]
   repeat'(first|exact trivial|rfl|exact CL rfl (CL (X0 (C.s dQ.own) (by simp[rI])) trivial)|refine CL ?_ ?_|(exact AS (by first|omega|(simp only;omega)|(simp;omega))))
  rw[CC rfl]at a
  repeat'(first|refine gE ?_|(conv=>whnf);first|refine C8 (c) ?_|refine C8 (d) ?_)
  ((conv=>whnf);refine CE (j+1) ω ω ?_)
  rw[a];exact wB
 obtain rfl:j=(slots k).toNat:=ω
 repeat'(first|refine gE ?_|fail)
 rfl
def zU(b i:Int):bor b (2 ^ i.toNat)=gl b i:=by
 unfold bor gl;have:((2 ^ i.toNat:Nat):Int)=(2:Int) ^ i.toNat:=Int.natCast_pow 2 i.toNat;rw[<-this,Z2]
def zz(b i:Int)(d:0<=b/\b<=65535)(a:0<=i/\i<=15):zzA 481 false [.val none [I b],.val none [I i]] .one [I (gl b i)]:=by
 have c:=qd b i;rw[O0 ω]at c;have e:IntKind.u64.wrap i=i:=by unfold IntKind.wrap;simp[IntKind.signed,IntKind.bits];omega
 have h:=(shl64 a).2;have g:=(or64 (z1:=b) (z2:=2 ^ i.toNat) d ω).trans (zU b i);refine fO 15 [] Tryz.func481 rfl ?_
 repeat'(first|refine gP ?_|(conv=>whnf);first|refine C8 (c) ?_|refine CO ω ?_|refine CM e ?_|refine CM (shl64 a).1 ?_|refine CM g ?_)
 rfl
def NE{s:aA}(b:bh s=true)(d:0<=k/\k<slots s.d):0<=k*csz s.d/\k*csz s.d<=15:=by
 have a:=aI b;have c:=gi a.2.2;rcases bZ a.2.2 with e|e|e|e<;>rw[e]at c |-<;>omega
def zu(s:aA)(k:Int)(a:bh s=true)(d:0<=k/\k<slots s.d):zzA 482 false [.val (some 3) (aA.enc .V s),.val none [I k]] .one [I (16*s.Q+k*csz s.d)]:=by
 have e:=aI a;have i:=NE a d;have j:=gi e.2.2;have b:=gx s;rw[a]at b;have g:=om s.d;have c:=aJ k 0 (slots s.d - 1);rw[O0 ω]at c;have h:=ef s.d;refine fO 26 [(3,8,[17,18,19,20,21,22,23,24])] Tryz.func482 rfl ?_
 repeat'(first|refine gP ?_|(conv=>whnf);first|refine C8 (b) ?_|refine C8 (g) ?_|refine C8 (c) ?_|refine C8 (h) ?_|refine CB ?_)
 exact X0 (λz=>[I z]) ω
def DA(f:aX)(g:f.a5.length<=1048576):zzA 483 false [.val (some 2) (aX.enc .V f)] .one [I (cW (λu=>!u) f.a5)]:=by
 refine fO 18 [] Tryz.func483 rfl ?_
 repeat'(first|refine gP ?_|fail)
 (conv=>whnf)
 refine CJ (ι:=Nat) (λi=>[(1,.H .box (aX.enc .V f)),(3,.H .one [I ((i:Nat):Int)])]) (λi=>i<=f.a5.length/\∀(j:Nat)(z:Bool),j<i->f.a5[j]? = some z->(!z)=false) (λi=>f.a5.length - i) (0) ?_ (⟨W0 _,λj z h=>ω⟩) λi c=>?_
 ·exact wB
 obtain⟨c,b⟩:=c;by_cases d:i<f.a5.length
 ·have a:=au d
  cases e:nth f.a5 i<;>rw[e]at a
  ·repeat'(first|refine gE ?_|(conv=>whnf);first|with_reducible refine CD (aa a) ?_)
   exact X0 (λz=>[I z]) (dN a rfl b).symm
  repeat'(first|refine gE ?_|(conv=>whnf);first|with_reducible refine CD (aa a) ?_)
  ((conv=>whnf);refine CE (i+1) ⟨ω,dX a rfl b⟩ ω ?_;(exact wB))
 repeat'(first|refine gE ?_|fail)
 exact X0 (λz=>[I z]) (gc ω b).symm
def nv(m:aN):∀(n i:Nat),i<n->((nth m.U i).length:Int)+(nth m.y i).length<=bA m n/\0<=bA m n
 | 0,i,h=>absurd h (Nat.not_lt_zero i)
 | n+1,i,h=>by
  have a:0<=bA m n:=by
   cases n with
   | zero=>exact v5 _
   | succ k=>exact(nv m (k+1) 0 ω).2
  simp only[bA];by_cases e:i=n
  ·subst e;omega
  have:=(nv m n i ω).1;omega
structure lN(m:aN):Prop where
 b4:1<=m.U.length/\m.U.length<=4
 i4:m.y.length=m.U.length
 bl:∀i,i<m.U.length->(nth m.U i).length<=30
 il:∀i,i<m.U.length->(nth m.y i).length<=30
def lN.of{m:aN}(h:bQ m=true):lN m:=by
 obtain⟨⟨b,c,d⟩,-,e⟩:=d7.1 h;exact⟨⟨b,c⟩,d,λi a=>by have:=(nv m m.U.length i a).1;omega,λi a=>by have:=(nv m m.U.length i a).1;omega⟩
def lN.sml{m:aN}(h:lN m):aN.sml m:=by
 have c:=h.b4;have d:=h.i4;refine⟨⟨ω,λl a=>?_⟩,⟨ω,λl a=>?_⟩⟩
 ·obtain⟨i,b,rfl⟩:=aP a
  have:=h.bl i b;exact⟨ω,λ_ _=>trivial⟩
 obtain⟨i,b,rfl⟩:=aP a;have:=h.il i ω;show(nth m.y i).length<=1048576;omega
def sf(m:aN)(k:Int)(a:aN.sml m):zzA 520 false [.val (some 2) (aN.enc .V m),.val none [I k]] .one [B (bQ m&&decide (0<=k/\k<=m.U.length - 1))]:=by
 have b:=lY m a;have c:m.U.length<=1048576:=a.1.1;cases e:bQ m<;>rw[e]at b
 all_goals
  refine fO 15 [] Tryz.func520 rfl ?_
  repeat'(first|refine gP ?_|(conv=>whnf);first|refine CB ?_|refine C8 (b) ?_|refine C8 (aJ k 0 (m.U.length - 1:Int)) ?_)
  all_goals rfl
def T6{m:aN}(a:f<m.U.length):m.U[f]? = some (nth m.U f):=au a
def Lg(m:aN)(f:Nat)(p:dw):aN.enc .own (ij m f p)=[.s .own ((m.U.map (cF .own)).set f (cF .own (nth m.U f++[p]))),.s .own (m.y.map (aH .own))]:=by simp[aN.enc,ij,I6]
def Lu{m:aN}(h:lN m)(c:f<m.U.length)(p:dw):aN.sml (ij m f p):=by
 have d:=h.b4;have b:=h.sml;refine⟨⟨by simp only[ij,U1];omega,λl a=>?_⟩,b.2⟩;rcases V6 a with a|rfl
 ·exact b.1.2 l a
 have:=h.bl f c;exact⟨by simp;omega,λ_ _=>trivial⟩
def Kz(m:aN)(f:Nat)(p:dw)(j:bQ m=true)(g:f<m.U.length):zzA 512 false [.val (some 2) (aN.enc .V m),.val none [I (f:Nat)],.val (some 2) (dw.enc .V p)] (.tup [some 2,none]) (aN.enc .own (if bQ (ij m f p)=true then ij m f p else m)++[B (bQ (ij m f p))]):=by
 have c:=lN.of j;have k:=c.sml;have q:=c.b4;have h:=sf m f k;rw[j,O0 ω]at h;have l:=fU m k;have b:=Lu c g p;have i:=lY (ij m f p) b;have n:=fU (ij m f p) b;have a:=T6 g;have o:=c.bl f g;have d:=aN.enc_fz (ij m f p);rw[Lg]at d;cases e:bQ (ij m f p)<;>rw[e]at i
 ·rw[C9 (by simp)]
  refine fO 35 [(4,267,[16,17,18,19,20,21,22,23,24,25,27,0,1,2,3,4,5,6,7,8,9,10,1000,1001,1002,11,12])] Tryz.func512 rfl ?_ (.inr (aW (aN.enc_fr _) ⟨trivial,trivial⟩))
  repeat'(first|refine gP ?_|(conv=>whnf);first|with_reducible refine CD (aa a) ?_|refine CB ?_|refine CD (eN a) ?_|refine CH rfl (eN a) rfl ?_|refine C8 (h) ?_|refine C8 (l) ?_|refine Lq.one rfl rfl (aa a) rfl (I1 rfl) rfl rfl ?_|refine CH rfl (aa a) rfl ?_|refine CP rfl rfl (eN a) rfl (I1 rfl) (show [C.s dQ.own ((m.U.map (cF .own)).set f (cF .own (nth m.U f++[p]))),C.s .own (m.y.map (aH .own))]=_ from by simp only[List.set_cons_zero,List.set_set,Z2];rfl) ?_|refine Ap.sm (aV λ_=>rfl) rfl (by simp;omega) (by decide) (iT _ _ _) ?_|refine CF (i) ⟨⟨rfl,d⟩,trivial⟩ ?_)
  rfl
 rw[CC rfl];refine fO 35 [(4,267,[16,17,18,19,20,21,22,23,24,25,27,0,1,2,3,4,5,6,7,8,9,10,1000,1001,1002,11,12])] Tryz.func512 rfl ?_ (.inr (aW (aN.enc_fr _) ⟨trivial,trivial⟩))
 repeat'(first|refine gP ?_|(conv=>whnf);first|with_reducible refine CD (aa a) ?_|refine CB ?_|refine CD (eN a) ?_|refine CH rfl (eN a) rfl ?_|refine C8 (h) ?_|refine C8 (l) ?_|refine Lq.one rfl rfl (aa a) rfl (I1 rfl) rfl rfl ?_|refine CH rfl (aa a) rfl ?_|refine CP rfl rfl (eN a) rfl (I1 rfl) (show [C.s dQ.own ((m.U.map (cF .own)).set f (cF .own (nth m.U f++[p]))),C.s .own (m.y.map (aH .own))]=_ from by simp only[List.set_cons_zero,List.set_set,Z2];rfl) ?_|refine Ap.sm (aV λ_=>rfl) rfl (by simp;omega) (by decide) (iT _ _ _) ?_|refine CF (i) ⟨⟨rfl,d⟩,trivial⟩ ?_|refine CF (n) ⟨⟨rfl,d⟩,trivial⟩ ?_)
 rfl
def Hg(m:aN)(f:Int)(a:bQ m=true)(d:¬(0<=f/\f<=m.U.length - 1)):zzA 422 false [.val (some 2) (aN.enc .V m),.val none [I f]] (.tup [some 2,none]) (aN.enc .own m++[B false]):=by
 have e:=lN.of a;have b:=e.sml;have c:=sf m f b;rw[a,U0 d]at c;have g:=fU m b;refine fO 60 [(5,267,[31,32,33,34,35,36,37,38,39,40,42,0,1,2,3,4,5,6,7,8,9,10,1000,1001,1002,11,12]),(6,270,[43,44,45,46,47,48,49,50,51,52,53,54,55,57,0,1,2,3,4,5,6,7,8,9,10,11,12,13,1000,1001,1002,1003,14,15])] Tryz.func422 rfl ?_ (.inr (aW (aN.enc_fr _) ⟨trivial,trivial⟩))
 repeat'(first|refine gP ?_|(conv=>whnf);first|refine CB ?_|refine C8 (c) ?_|refine C8 (g) ?_)
 rfl
def GV(m:aN)(f t:Nat)(a:(nth (nth m.U f) 0).To=t):aN.enc .own (fS m f)=[.s .own ((m.U.map (cF .own)).set f [.s .own (((nth m.U f).drop 1).map (dw.enc .V))]),.s .own ((m.y.map (aH .own)).set t (aH .own (nth m.y t++[(nth (nth m.U f) 0).Addr])))]:=by
 unfold aN.enc fS;simp only[I6,a,Z2]
 rfl
def Gd(m:aN)(f:Nat)(h:bQ m=true)(i:f<m.U.length):zzA 422 false [.val (some 2) (aN.enc .V m),.val none [I (f:Nat)]] (.tup [some 2,none]) (aN.enc .own (if 0<(nth m.U f).length then fS m f else m)++[B (decide (0<(nth m.U f).length))]):=by
 have d:=lN.of h;have u:=d.sml;have K:=d.b4;have D:=d.i4;have j:=sf m f u;rw[h,O0 ω]at j;have w:=fU m u;have a:=T6 i;have F:=d.bl f i;by_cases e:0<(nth m.U f).length
 ·rw[CC e,O0 e]
  have g:=((d7.1 h).2.1 f i).1 _ (ar e);obtain⟨t,k⟩:=z3 g.1;have l:t<m.y.length:=ω
  have y:=au e;have c:=au l;have G:=d.il t ω;have n:=(lN.of (Ey h i e)).sml;have H:=fU (fS m f) n;have o:=aN.enc_fz (fS m f);rw[GV m f t k]at o;have q:=aW (b:=[B true]) (aN.enc_fr (fS m f)) ⟨trivial,trivial⟩;generalize L:nth (nth m.U f) 0=p at *;obtain⟨M,J⟩:=p;simp only at k g o;subst k;refine fO 60 [(5,267,[31,32,33,34,35,36,37,38,39,40,42,0,1,2,3,4,5,6,7,8,9,10,1000,1001,1002,11,12]),(6,270,[43,44,45,46,47,48,49,50,51,52,53,54,55,57,0,1,2,3,4,5,6,7,8,9,10,11,12,13,1000,1001,1002,1003,14,15])] Tryz.func422 rfl ?_ (.inr q)
  repeat'(first|refine gB ?_|(conv=>whnf);first|with_reducible (first|refine CD (aa a) ?_|refine CD (aa c) ?_|refine Bf.E (λr=>?_) (λr=>?_))|refine CB ?_|refine CN (by decide) (aa y) ?_|refine CD (eN a) ?_|refine CD (eN c) ?_|refine CH rfl (eN a) rfl ?_|refine CH rfl (eN c) rfl ?_|refine C8 (j) ?_|refine C8 (w) ?_|refine CH rfl (aa a) rfl ?_|refine CH rfl (aa c) rfl ?_|refine CH rfl (aa y) rfl ?_|refine Lq.one rfl rfl (aa c) rfl (I1 rfl) rfl rfl ?_|refine Sl.suf 1 rfl (by rw[C1];omega) (aV λ_=>rfl) I4 ?_|refine CX (λ_=>rfl) (λ_=>rfl) (by rw[V3];omega) (by decide) ?_|refine CR (λ_=>rfl) (λ_=>rfl) (by rw[V3];omega) (by decide) ?_|refine CP rfl rfl (aa a) rfl (I1 rfl) rfl ?_|refine CP rfl rfl (eN c) rfl (I1 rfl) (show [C.s dQ.own ((m.U.map (cF .own)).set f [.s .own (((nth m.U f).drop 1).map (dw.enc .V))]),C.s .own ((m.y.map (aH .own)).set t (aH .own (nth m.y t++[J])))]=_ from by simp only[List.set_cons_zero,List.set_cons_succ,List.set_set,Z2];rfl) ?_|refine Ap.sm (aV λ_=>rfl) rfl (by simp;omega) (by decide) (iT _ _ _) ?_|refine CB ?_|refine CF (H) ⟨⟨rfl,o⟩,trivial⟩ ?_)
  rfl
 rw[C9 e,U0 e];refine fO 60 [(5,267,[31,32,33,34,35,36,37,38,39,40,42,0,1,2,3,4,5,6,7,8,9,10,1000,1001,1002,11,12]),(6,270,[43,44,45,46,47,48,49,50,51,52,53,54,55,57,0,1,2,3,4,5,6,7,8,9,10,11,12,13,1000,1001,1002,1003,14,15])] Tryz.func422 rfl ?_ (.inr (aW (aN.enc_fr _) ⟨trivial,trivial⟩))
 repeat'(first|refine gB ?_|(conv=>whnf);first|with_reducible (first|refine CD (aa a) ?_|refine Bf.E (λr=>?_) (λr=>?_))|refine CB ?_|refine C8 (j) ?_|refine C8 (w) ?_|refine CH rfl (aa a) rfl ?_)
 rfl
def LJ.set(rows:List (List C))(i:Nat){r n:List C}(h:Mj r n):LJ (.s .own (rows.set i r)) (.s .own (rows.set i n)):=by
 refine .own_ _ _ (by simp) (λj a b d f=>?_) (λj l a b c p d f o g=>?_)
 ·by_cases e:i=j
  ·subst e
   have k:i<rows.length:=by have:=(U2.1 d).1;simpa using this
   rw[X3 k]at d f;cases d;cases f;exact h.1
  rw[List.getElem?_set_ne e]at d f;rw[d]at f;cases f;rfl
 by_cases e:i=j
 ·subst e
  have k:i<rows.length:=by have:=(U2.1 d).1;simpa using this
  rw[X3 k]at d f;cases d;cases f;exact h.2 l c p o g
 rw[List.getElem?_set_ne e]at d f;rw[d]at f;cases f;rw[o]at g;cases g;exact .rfl_ _
def BB(m:aN)(t:Nat)(d:bQ m=true)(h:t<m.U.length):zzA 521 false [.val (some 2) (aN.enc .V m),.val none [I (t:Nat)]] (.tup [some 2,none]) (aN.enc .own (lh m t)++aH .own (nth m.y t)):=by
 have b:=lN.of d;have e:=b.sml;have o:=b.b4;have j:=b.i4;have g:=sf m t e;rw[d,O0 ω]at g;have k:=fU m e;have c:=au (xs:=m.y) (i:=t) ω;have l:=b.il t h;have a:=aW (aN.enc_fr (lh m t)) (bP (nth m.y t));have n:aN.enc .own (lh m t)=[.s .own (m.U.map (cF .own)),.s .own ((m.y.map (aH .own)).set t [.s .own []])]:=by simp[aN.enc,lh,I6];rfl
 rw[n]at a |-;refine fO 28 [(5,263,[20,21,22,23,24,25,26,0,1,2,3,4,5,6,7,1000,8,9])] Tryz.func521 rfl ?_ (.inr a)
 repeat'((conv=>whnf);first|with_reducible (first|refine Lm ?_|refine Wm ω ?_|refine CD (aa c) ?_|refine Bn ?_|refine jX.dk rfl ?_)|refine Bt ?_|refine Bu ?_|refine CB ?_|refine C8 (g) ?_|refine C8 (k) ?_|refine CH rfl (aa c) rfl ?_|refine CP rfl rfl (aa c) rfl (I1 rfl) rfl ?_|refine CX (λ_=>rfl) (λ_=>rfl) ω (by decide) ?_|refine CR (λ_=>rfl) (λ_=>rfl) ω (by decide) ?_|refine CB ?_)
 exact .cons (.rfl_ _) (.cons (LJ.set _ _ (.cons .z_ .nil)) (.cons (.rfl_ _) .nil))
def Jy(now:Int):∀{l:List aT}{i:Nat},i<=l.length->(∀j,j<i->(nth l j).b7<now - 100)->(i<l.length->¬(nth l i).b7<now - 100)->rX now l=i
 | [],i,h,_,_=>by simp at h;subst h;rfl
 | x::xs,0,_,_,h=>by
  unfold rX;exact C9 (h (by simp))
 | x::xs,i+1,b,a,c=>by
  unfold rX;refine(CC (a 0 ω)).trans ?_;rw[Jy now (l:=xs) (i:=i) (by simp at b;omega) (λj d=>a (j+1) ω) (λe=>c (by simp;omega))]
def PX(q:bM)(now:Int):List C:=bM.enc .own ⟨q.c1,q.a6.drop (rX now q.a6)⟩++cX .own (q.a6.take (rX now q.a6))
def vR(q:bM)(now:Int)(g:gk q=true)(G:q.a6.length<=4096)(u:0<=now/\now<=1000000):zzA 425 false [.val (some 2) (bM.enc .V q),.val none [I now],.val none [I 100]] (.tup [some 2,none]) (PX q now):=by
 have w:bM.sml q:=⟨ω,λ_ _=>trivial⟩
 have n:=pd q w;rw[g]at n;have o:=aJ now 0 1000000;rw[O0 u]at o;have p:=aJ 100 0 1000000;rw[O0 (by decide)]at p;have h:=(jK.1 g).1;have a:hC (PX q now):=aW (bM.enc_fr _) (vr _);have y:∀i,i<q.a6.length->0<=(nth q.a6 i).b7:=λi b=>(h _ (ar b)).2.2.2
 unfold PX at a |-;generalize B:rX now q.a6=k at a |-;refine fO 59 [(6,270,[44,45,46,47,48,49,50,51,53,54,55,56,57,58,0,1,2,3,4,5,6,7,9,10,11,12,13,14,8,1009,1010,1011,1012,1013,1014,15,16])] Tryz.func425 rfl ?_ (.inr a)
 repeat'(first|refine gP ?_|(conv=>whnf);first|refine CB ?_|refine C8 (n) ?_|refine C8 (o) ?_|refine C8 (p) ?_)
 (conv=>whnf)
 refine CJ (ι:=Nat) (λi=>[(1,.H .one [I (now)]),(2,.H .one [I (100)]),(3,.H .box (bM.enc .V q)),(6,.H .box [I 0,.z]),(8,.H .one [I ((i:Nat):Int)])]) (λi=>i<=q.a6.length/\∀j,j<i->(nth q.a6 j).b7<now - 100) (λi=>q.a6.length - i) (0) ?_ (⟨W0 _,λj C=>ω⟩) λi b=>?_
 ·exact wC
 obtain⟨b,r⟩:=b;by_cases l:i<q.a6.length/\(nth q.a6 i).b7<now - 100
 ·have c:=au l.1
  repeat'(first|refine gE ?_|(conv=>whnf);first|with_reducible refine CD (aa c) ?_|refine CB ?_|refine CH rfl (aa c) rfl ?_)
  ((conv=>whnf);refine CE (i+1) ⟨ω,λj C=>by by_cases e:j=i;(subst e;exact l.2);exact r j ω⟩ ω ?_;(exact wC))
 have d:=Jy now (i:=i) b r (λE F=>l ⟨E,F⟩);rw[B]at d;subst d;by_cases t:k<q.a6.length
 ·have c:=au t
  have:=y k t
  repeat'(first|refine gE ?_|(conv=>whnf);first|with_reducible (first|refine CD (aa c) ?_|refine Bf.D (λg=>?_) (λg=>?_))|refine CB ?_|refine CH rfl (aa c) rfl ?_|refine CY k rfl (by rw[C1];omega) (aV λ_=>rfl) C4 ?_|refine Sl.suf k rfl (by rw[C1];omega) (aV λ_=>rfl) I4 ?_|refine CX (λ_=>rfl) (λ_=>rfl) (by rw[V1];omega) (by decide) ?_|refine CX (λ_=>rfl) (λ_=>rfl) (by rw[V3];omega) (by decide) ?_|refine CR (λ_=>rfl) (λ_=>rfl) (by rw[V3];omega) (by decide) ?_|refine CB ?_)
  rfl
 repeat'(first|refine gE ?_|(conv=>whnf);first|refine CB ?_|refine CY k rfl (by rw[C1];omega) (aV λ_=>rfl) C4 ?_|refine Sl.suf k rfl (by rw[C1];omega) (aV λ_=>rfl) I4 ?_|refine CX (λ_=>rfl) (λ_=>rfl) (by rw[V1];omega) (by decide) ?_|refine CX (λ_=>rfl) (λ_=>rfl) (by rw[V3];omega) (by decide) ?_|refine CR (λ_=>rfl) (λ_=>rfl) (by rw[V3];omega) (by decide) ?_|refine CB ?_)
 rfl
def DO(h:ac)(n:Int)(g:bc h [])(r:0<=n/\n<=1000)(p:h.b1+n<=1000000):zzB 278 false [.ptr (bB h),.val none [I n]] [.ptr (bB (tick h n)),.val none [I n]] .one [I ((nG h n).length:Nat)]:=by
 have a:=g.nums;unfold cu at a;rw[C0]at a;have t:=g.lens.quar;have i:=vR h.a7 (h.b1+n) g.quar ω ⟨ω,p⟩;have j:=g.aged r.1 p;unfold PX at i;unfold tick nG aged at *;have l:(h.a7.a6.take (rX (h.b1+n) h.a7.a6)).length<=4096:=by rw[V1];omega
 rw[C1];generalize h.a7.a6.take (rX (h.b1+n) h.a7.a6)=out at i j l |-;generalize h.a7.a6.drop (rX (h.b1+n) h.a7.a6)=rest at i j |-;refine fM 48 [(426,[2,0])] [(2,269,[18,19,20,21,22,23,24,25,26,17,27,28,5,0,1,2,3,4,5,6,7,8,9,10,11,12,13,1011,14])] [(0,0),(0,0)] Tryz.func278 rfl (λu q=>?_)
 repeat'(first|refine gP ?_|(conv=>whnf);first|refine CB ?_|refine CF (i) ⟨⟨rfl,bM.enc_fz h.a7⟩,⟨rfl,rfl⟩,⟨rfl,rfl⟩,trivial⟩ ?_|refine CB ?_)
 (conv=>whnf)
 refine CJ (ι:=Nat) (λk=>[(0,.H .box (bB (freeAs {h with b1:=h.b1+n,a7:=⟨h.a7.c1,rest⟩} ((out.map (·.Addr)).take k)))),(6,.H .one (cX .own out)),(7,.H .one [I ((k:Nat):Int)])]) (λk=>k<=out.length) (λk=>out.length - k) (0) ?_ (W0 _) λk y=>?_
 ·exact wC
 by_cases o:k<out.length
 ·have b:=au o
  have c:k<(out.map (·.Addr)).length:=by rw[C1];exact o
  have d:nth (out.map (·.Addr)) k=(nth out k).Addr:=bn (by rw[O3,au o];rfl);have e:bc (freeAs {h with b1:=h.b1+n,a7:=⟨h.a7.c1,rest⟩} ((out.map (·.Addr)).take k)) (nth (out.map (·.Addr)) k::(out.map (·.Addr)).drop (k+1)):=by
   refine bc.freeAs ?_;rw[<-iS c,List.take_append_drop];rw[List.append_nil]at j;exact j
  rw[d]at e;have w:=oq _ _ _ e
  repeat'(first|refine gE ?_|(conv=>whnf);first|refine CB ?_|refine CD (aa b) ?_|refine CH rfl (aa b) rfl ?_|refine CK (w) (.inl rfl) ?_)
  ((conv=>whnf);refine CE (k+1) ω ω ?_)
  rw[vu _ _ _ c,d];exact wC
 obtain rfl:k=out.length:=ω
 rw[I7 (by rw[C1];omega)]
 repeat'(first|refine gE ?_|(conv=>whnf);first|refine CB ?_)
 refine CG rfl rfl ?_;exact wC
def Gn(t:Nat)(h:ac)(az:List Int)(k:Nat)(a:k<az.length):recycs t h (az.take (k+1))=recyc t (recycs t h (az.take k)) (nth az k):=by
 unfold recycs;rw[V5,au a,Option.toList_some,List.foldl_append];rfl
def vQ(h:ac)(t:Nat)(a:bc h [])(i:t<h.S.length):zzB 423 false [.ptr (bB h),.val none [I (t:Nat)]] [.ptr (bB (collect h t)),.val none [I (t:Nat)]] .one [I ((nth h.w.y t).length:Nat)]:=by
 have l:=a.nc;have n:=(d7.1 a.mail).1.2.2;have j:=BB h.w t a.mail ω;have c:=(lN.of a.mail).il t ω;have d:=a.coll (t:=t) ω;rw[List.append_nil]at d;unfold collect;generalize nth h.w.y t=out at j d c |-;refine fM 36 [(515,[2,0,0])] [] [(0,0),(0,0)] Tryz.func423 rfl (λu q=>?_)
 repeat'(first|refine gP ?_|(conv=>whnf);first|refine CB ?_|refine CF (j) ⟨⟨rfl,aN.enc_fz h.w⟩,⟨rfl,rfl⟩,trivial⟩ ?_)
 (conv=>whnf)
 refine CJ (ι:=Nat) (λk=>[(0,.H .box (bB (recycs t {h with w:=lh h.w t} (out.take k)))),(1,.H .one [I ((t:Nat):Int)]),(6,.H .one (aH .own out)),(7,.H .one [I ((k:Nat):Int)])]) (λk=>k<=out.length) (λk=>out.length - k) (0) ?_ (W0 _) λk p=>?_
 ·exact wC
 by_cases e:k<out.length
 ·have b:=au e
  have g:bc (recycs t {h with w:=lh h.w t} (out.take k)) (nth out k::out.drop (k+1)):=by
   refine bc.recycs ?_ i;rw[<-iS e,List.take_append_drop];exact d
  have o:=o9 _ _ t _ g (by rw[(fe t _ _).1];exact i)
  repeat'(first|refine gE ?_|(conv=>whnf);first|refine CB ?_|refine CD (aa b) ?_|refine CH rfl (aa b) rfl ?_|refine CK (o) (.inl rfl) ?_)
  ((conv=>whnf);refine CE (k+1) ω ω ?_)
  rw[Gn _ _ _ _ e];exact wC
 obtain rfl:k=out.length:=ω
 rw[C5]
 repeat'(first|refine gE ?_|(conv=>whnf);first|refine CB ?_)
 refine CG rfl rfl ?_;exact wC
def Pf(a:Int)(o:bt):Bool:=decide (o.Addr<=a/\a<o.Addr+o.q)
def Hr(h:ac)(E:List Int)(a:Int)(d:bc h E):zzB 517 false [.ptr (bB h),.val none [I a]] [.ptr (bB h),.val none [I a]] .one [I (cW (Pf a) h.O)]:=by
 have r:=d.lens.objs;refine fM 47 [] [(4,29,[15,16,17,18,19,20,21,22,23,24,25,26,27,28,29,30,31,32,33,34,35,36,37,38,39,40,41,42,43])] [(0,0),(0,0)] Tryz.func517 rfl (λu q=>?_)
 repeat'(first|refine gP ?_|(conv=>whnf);first|refine CB ?_)
 (conv=>whnf)
 refine CJ (ι:=Nat) (λi=>[(0,.H .box (bB h)),(1,.H .one [I (a)]),(5,.H .one [I ((i:Nat):Int)])]) (λi=>i<=h.O.length/\∀(j:Nat)(z:bt),j<i->h.O[j]? = some z->Pf a z=false) (λi=>h.O.length - i) (0) ?_ (⟨W0 _,λj z C=>ω⟩) λi d=>?_
 ·exact wC
 obtain⟨t,c⟩:=d;by_cases e:i<h.O.length
 ·have b:=au e
  have w:=tQ ‹bc h E› (ar e);have y:0<=(nth h.O i).q/\(nth h.O i).q<=1000:=by
   rcases bc.oow ‹bc h E› _ (ar e) with⟨s,B,F,G⟩|⟨l,g,k,o⟩
   ·have H:=aI ((bc.L ‹bc h E›).sok s B)
    have:=jr (n:=(nth h.O i).q) ω;omega
   have J:=cT ((bc.L ‹bc h E›).lok l g);omega
  by_cases k:(nth h.O i).Addr<=a
  ·by_cases o:a<(nth h.O i).Addr+(nth h.O i).q
   ·repeat'(first|refine gE ?_|(conv=>whnf);first|with_reducible refine CD (aa b) ?_|refine CB ?_|refine CH rfl (aa b) rfl ?_|refine CB ?_)
    refine CG rfl (X0 (λz=>[I z]) (dN b (O0 ⟨k,o⟩) c).symm) ?_;exact wC
   repeat'(first|refine gE ?_|(conv=>whnf);first|with_reducible (first|refine CD (aa b) ?_|refine Bf.D (λp=>?_) (λp=>?_))|refine CB ?_|refine CH rfl (aa b) rfl ?_|refine CB ?_)
   ((conv=>whnf);refine CE (i+1) ⟨ω,dX b (U0 λx=>o x.2) c⟩ ω ?_;(exact wC))
  repeat'(first|refine gE ?_|(conv=>whnf);first|with_reducible (first|refine CD (aa b) ?_|refine Bf.D (λp=>?_) (λp=>?_))|refine CB ?_|refine CH rfl (aa b) rfl ?_|refine CB ?_)
  ((conv=>whnf);refine CE (i+1) ⟨ω,dX b (U0 λx=>k x.1) c⟩ ω ?_;(exact wC))
 repeat'(first|refine gE ?_|(conv=>whnf);first|refine CB ?_)
 refine CG rfl (X0 (λz=>[I z]) (gc ω c).symm) ?_;exact wC
def Jz(h:ac)(a v:Int):bB {h with G:=dC h.G a v} = (bB h).set 0 (.s .own ((h.G.F.W.T.map (aH .own)).set (af h.G.F.R (a / 16)).o.toNat ((aH .own (nth h.G.F.W.T (cU h.G a))).set 0 (.s .own (((nth h.G.F.W.T (cU h.G a)).map (rI .own)).set (a % 16).toNat (splice (rI .own (nth (nth h.G.F.W.T (cU h.G a)) (a % 16).toNat)) 0 [I v])))))):=by
 simp[bB,dC,setCell,I6,aH,splice,cU,rI]
def E1{p:α->Bool}{xs:List α}{x:α}(a:x∈xs)(b:p x=true):0<=cW p xs:=by
 have:=mK p xs;rw[show xs.any p=true from t4.2 ⟨x,a,b⟩,C0]at this;exact this
def yS(h:ac)(i:Nat)(j v:Int)(e:bc h [])(C:i<h.O.length)(D:0<=j/\j<=(nth h.O i).q - 1):zzB 418 false [.ptr (bB h),.val none [I ((nth h.O i).Addr+j)],.val none [I v]]
  [.ptr (bB (if(af h.G.F.R (((nth h.O i).Addr+j) / 16)).e=1\/¬(0<=v/\v<=999) then h else {h with G:=dC h.G ((nth h.O i).Addr+j) v})),.val none [I ((nth h.O i).Addr+j)],.val none [I v]] .one [I (if(af h.G.F.R (((nth h.O i).Addr+j) / 16)).e=1 then 2 else if ¬(0<=v/\v<=999) then 3 else 0)]:=by
 obtain⟨E,J,K⟩:=cN e (ar C) D;have F:0<=cW (Pf ((nth h.O i).Addr+j)) h.O:=E1 (ar C) (O0 ω);have p:=Hr h [] ((nth h.O i).Addr+j) e;have r:=bE e.ker;have t:=di h.G.F.R (((nth h.O i).Addr+j) / 16) r.1.2;have n:=aJ v 0 999;generalize L:(nth h.O i).Addr+j=a at *;have b:0<=a/\a<512:=ω
 obtain⟨-,-,-,G,M⟩:=bW e.ker E;have H:=(bf.1 (aG.1 e.ker).2.1).2.2.1;have k:cU h.G a<h.G.F.W.T.length:=by unfold cU;omega
 have d:h.G.F.W.T[(af h.G.F.R (a / 16)).o.toNat]? = some (nth h.G.F.W.T (cU h.G a)):=au k;have w:=e.lens.row _ (ar k);have l:=au (xs:=nth h.G.F.W.T (cU h.G a)) (i:=(a % 16).toNat) (by rw[w];omega);have B:a.tmod 16=a % 16:=fh b.1;refine fM 42 [(517,[2,0])] [(8,14,[27,28,29,30,31,32,33,34,35,36,37,38,39,40])] [(0,0),(0,0),(0,0)] Tryz.func418 rfl (λu q=>?_);by_cases o:(af h.G.F.R (a / 16)).e=1
 ·rw[CC (Or.inl o),CC o]
  repeat'(first|refine gB ?_|(conv=>whnf);first|refine CB ?_|refine CK (p) (.inl rfl) ?_|refine CF (t) ⟨⟨rfl,Cb _⟩,⟨rfl,rfl⟩,trivial⟩ ?_|refine CO (by decide) ?_|refine CM (qU b) ?_)
  refine CG rfl rfl ?_;exact wC
 rw[C9 (c:=_=(1:Int)) o];by_cases g:0<=v/\v<=999
 ·rw[O0 g]at n
  rw[C9 (c:=¬(0<=v/\v<=999)) (z4 g),C9 (c:=_\/¬(0<=v/\v<=999)) (λy=>y.elim o λy=>y g)]
  repeat'(first|refine gB ?_|(conv=>whnf);first|refine CB ?_|refine CK (p) (.inl rfl) ?_|refine CF (t) ⟨⟨rfl,Cb _⟩,⟨rfl,rfl⟩,trivial⟩ ?_|refine C8 (n) ?_|refine CO (by decide) ?_|refine CM (qU b) ?_|refine CS B ?_|refine CN G (aa d) ?_|refine CH rfl (aa d) rfl ?_|refine CN ω (aa l) ?_|refine Pu.two rfl rfl (aa d) rfl rfl rfl (aa l) rfl (I3 _) (Jz h a v) ?_|refine CB ?_)
  refine CG rfl rfl ?_;exact wC
 rw[U0 g]at n;rw[CC (Or.inr g),CC g]
 repeat'(first|refine gB ?_|(conv=>whnf);first|refine CB ?_|refine CK (p) (.inl rfl) ?_|refine CF (t) ⟨⟨rfl,Cb _⟩,⟨rfl,rfl⟩,trivial⟩ ?_|refine C8 (n) ?_|refine CO (by decide) ?_|refine CM (qU b) ?_)
 refine CG rfl rfl ?_;exact wC
def yh(l:aD)(n:Int):aB:=if(n+15) / 16<l.a2 then⟨l.Q+(n+15) / 16,l.a2 - (n+15) / 16⟩ else⟨0,0⟩
def yf(l:aD)(n:Int)(d:bN l=true):zzA 518 false [.val (some 3) (aD.enc .V l),.val none [I n]] (.tup [some 3,some 2,none]) (if 9<=n/\n<=l.q then aD.enc .own (trimL l n)++aB.enc .own (yh l n)++[B true] else aD.enc .own l++[I 0,I 0]++[B false]):=by
 have b:=n9 l;rw[d]at b;have a:=aJ n 9 l.q;have g:=d;unfold bN at g;rw[C0]at g;by_cases e:9<=n/\n<=l.q
 ·rw[O0 e]at a
  rw[CC e];have c:=m7 n;rw[show eR n=(n+15) / 16 by unfold eR;rw[CC ω]]at c;unfold yh;by_cases h:(n+15) / 16<l.a2
  ·rw[CC h]
   refine fO 43 [(7,261,[37,38,39,40,42,0,1,2,3,5,4,1005,6,1005,7,8])] Tryz.func518 rfl ?_ (.inr ⟨trivial,trivial,trivial,trivial,trivial,trivial,trivial⟩)
   repeat'(first|refine gE ?_|(conv=>whnf);first|refine CB ?_|refine C8 (b) ?_|refine C8 (a) ?_|refine C8 (c) ?_|refine CB ?_)
   rfl
  rw[C9 h];refine fO 43 [(7,261,[37,38,39,40,42,0,1,2,3,5,4,1005,6,1005,7,8])] Tryz.func518 rfl ?_ (.inr ⟨trivial,trivial,trivial,trivial,trivial,trivial,trivial⟩)
  repeat'(first|refine gE ?_|(conv=>whnf);first|refine CB ?_|refine C8 (b) ?_|refine C8 (a) ?_|refine C8 (c) ?_|refine CB ?_)
  rfl
 rw[U0 e]at a;rw[C9 e];refine fO 43 [(7,261,[37,38,39,40,42,0,1,2,3,5,4,1005,6,1005,7,8])] Tryz.func518 rfl ?_ (.inr ⟨trivial,trivial,trivial,trivial,trivial,trivial,trivial⟩)
 repeat'(first|refine gP ?_|(conv=>whnf);first|refine CB ?_|refine C8 (b) ?_|refine C8 (a) ?_|refine CB ?_)
 rfl
def D8(h:ac)(t a:Int)(c:h.S.length<=4)(d:¬(0<=t/\t<=h.S.length - 1)):zzB 416 false [.ptr (bB h),.val none [I t],.val none [I a]] [.ptr (bB h),.val none [I t],.val none [I a]] .one [I 1]:=by
 have b:=aJ t 0 (h.S.length - 1:Int);rw[U0 d]at b;refine fM 148 [(511,[2,0]),(513,[2,0]),(515,[2,0,0]),(510,[2,0])] [(15,269,[68,69,70,71,72,73,74,75,77,67,78,79,11,0,1,2,3,4,5,6,7,13,8,1000,1001,1002,1003,1004,1013,9,10,11,12,14,1012,15]),(22,15,[92,93,94,95,96,97,98,99,100,101,102,103,104,105,106]),(25,271,[116,117,118,119,120,121,122,123,124,125,127,115,128,129,14,0,1,2,3,4,5,6,7,8,9,15,10,1000,1001,1002,1003,1015,11,12,13,14,16,1014,17])] [(0,0),(0,0),(0,0)] Tryz.func416 rfl (λu q=>?_)
 repeat'(first|refine gP ?_|(conv=>whnf);first|refine CB ?_|refine C8 (b) ?_)
 refine CG rfl rfl ?_;exact wC
def ER(h:ac)(i t:Nat)(a:bc h [])(j:i<h.O.length)(U:t<h.S.length)(K:(nth h.O i).a4≠t):zzB 416 false [.ptr (bB h),.val none [I (t:Nat)],.val none [I (nth h.O i).Addr]] [.ptr (bB (freeT h t i).1),.val none [I (t:Nat)],.val none [I (nth h.O i).Addr]] .one [I (freeT h t i).2]:=by
 have F:=ar j;obtain⟨-,L,d⟩:=a.objAt F;have N:qA h (nth h.O i).Addr=i:=by
  have V:=(a.objAt F).1;exact cM (f:=(·.Addr)) (de a.osr) V j (by rw[L])
 rw[N]at d;have b:=tQ a F;have W:=a.onu _ F;have n:=a.lens;have X:=n.objs;have Y:=a.nc;have Z:=lN.of a.mail;have hb4:=Z.b4;have o:=aJ (t:Nat) 0 (h.S.length - 1:Int);rw[O0 ω]at o;have p:=rN h (nth h.O i).Addr ω;rw[d]at p;have e:=au j;have G:=kM (nth h.O i).q;have O:=bE a.ker;have P:=di h.G.F.R ((nth h.O i).Addr / 16) O.1.2;unfold freeT;by_cases H:aL (nth h.O i).q<0
 ·rw[CC H]
  have c3:=qO h i a j H;refine fM 148 [(511,[2,0]),(513,[2,0]),(515,[2,0,0]),(510,[2,0])] [(15,269,[68,69,70,71,72,73,74,75,77,67,78,79,11,0,1,2,3,4,5,6,7,13,8,1000,1001,1002,1003,1004,1013,9,10,11,12,14,1012,15]),(22,15,[92,93,94,95,96,97,98,99,100,101,102,103,104,105,106]),(25,271,[116,117,118,119,120,121,122,123,124,125,127,115,128,129,14,0,1,2,3,4,5,6,7,8,9,15,10,1000,1001,1002,1003,1015,11,12,13,14,16,1014,17])] [(0,0),(0,0),(0,0)] Tryz.func416 rfl (λu q=>?_)
  repeat'(first|refine gE ?_|(conv=>whnf);first|with_reducible refine Bf.D (λc=>?_) (λc=>?_)|refine CB ?_|refine C8 (o) ?_|refine CF (p) ⟨⟨rfl,bI h⟩,⟨rfl,rfl⟩,trivial⟩ ?_|refine CD (aa e) ?_|refine CH rfl (aa e) rfl ?_|refine C8 (G) ?_|refine CK (c3) (.inl rfl) ?_)
  refine CG rfl rfl ?_;exact wC
 rw[C9 H];obtain⟨s1,s2,s3,s4⟩:=TA.of a (ar j) H;by_cases J:(af (tbl h) ((nth h.O i).Addr / 16)).e=1
 ·rw[CC J]
  unfold tbl at J;refine fM 148 [(511,[2,0]),(513,[2,0]),(515,[2,0,0]),(510,[2,0])] [(15,269,[68,69,70,71,72,73,74,75,77,67,78,79,11,0,1,2,3,4,5,6,7,13,8,1000,1001,1002,1003,1004,1013,9,10,11,12,14,1012,15]),(22,15,[92,93,94,95,96,97,98,99,100,101,102,103,104,105,106]),(25,271,[116,117,118,119,120,121,122,123,124,125,127,115,128,129,14,0,1,2,3,4,5,6,7,8,9,15,10,1000,1001,1002,1003,1015,11,12,13,14,16,1014,17])] [(0,0),(0,0),(0,0)] Tryz.func416 rfl (λu q=>?_)
  repeat'(first|refine gB ?_|(conv=>whnf);first|with_reducible refine Bf.D (λc=>?_) (λc=>?_)|refine CB ?_|refine CO (by decide) ?_|refine CM (qU b) ?_|refine C8 (o) ?_|refine CF (p) ⟨⟨rfl,bI h⟩,⟨rfl,rfl⟩,trivial⟩ ?_|refine CD (aa e) ?_|refine CH rfl (aa e) rfl ?_|refine C8 (G) ?_|refine CF (P) ⟨⟨rfl,Cb _⟩,⟨rfl,rfl⟩,trivial⟩ ?_)
  refine CG rfl rfl ?_;exact wC
 rw[C9 J,C9 K];unfold tbl at J;have r:=Kz h.w t ⟨(nth h.O i).a4,(nth h.O i).Addr⟩ a.mail ω;by_cases l:bQ (ij h.w t ⟨(nth h.O i).a4,(nth h.O i).Addr⟩)=true;rotate_left
 ·rw[C9 l]
  rw[C9 l,show bQ (ij h.w t ⟨(nth h.O i).a4,(nth h.O i).Addr⟩)=false by simpa using l]at r;refine fM 148 [(511,[2,0]),(513,[2,0]),(515,[2,0,0]),(510,[2,0])] [(15,269,[68,69,70,71,72,73,74,75,77,67,78,79,11,0,1,2,3,4,5,6,7,13,8,1000,1001,1002,1003,1004,1013,9,10,11,12,14,1012,15]),(22,15,[92,93,94,95,96,97,98,99,100,101,102,103,104,105,106]),(25,271,[116,117,118,119,120,121,122,123,124,125,127,115,128,129,14,0,1,2,3,4,5,6,7,8,9,15,10,1000,1001,1002,1003,1015,11,12,13,14,16,1014,17])] [(0,0),(0,0),(0,0)] Tryz.func416 rfl (λu q=>?_)
  repeat'(first|refine gB ?_|(conv=>whnf);first|with_reducible refine Bf.D (λc=>?_) (λc=>?_)|refine CB ?_|refine CO (by decide) ?_|refine CM (qU b) ?_|refine C8 (o) ?_|refine CF (p) ⟨⟨rfl,bI h⟩,⟨rfl,rfl⟩,trivial⟩ ?_|refine CD (aa e) ?_|refine CH rfl (aa e) rfl ?_|refine C8 (G) ?_|refine CF (P) ⟨⟨rfl,Cb _⟩,⟨rfl,rfl⟩,trivial⟩ ?_|refine CF (r) ⟨⟨rfl,aN.enc_fz h.w⟩,⟨rfl,rfl⟩,⟨rfl,rfl⟩,trivial⟩ ?_|refine CB ?_)
  refine CG rfl rfl ?_;exact wC
 rw[CC l];rw[CC l,l]at r;have w:cU h.G (nth h.O i).Addr<h.G.F.W.T.length:=by unfold cU;omega
 have hcz:=NU s1;have B:=ef (aL (nth h.O i).q);unfold MN;generalize ij h.w t ⟨(nth h.O i).a4,(nth h.O i).Addr⟩ = M at r;refine fM 148 [(511,[2,0]),(513,[2,0]),(515,[2,0,0]),(510,[2,0])] [(15,269,[68,69,70,71,72,73,74,75,77,67,78,79,11,0,1,2,3,4,5,6,7,13,8,1000,1001,1002,1003,1004,1013,9,10,11,12,14,1012,15]),(22,15,[92,93,94,95,96,97,98,99,100,101,102,103,104,105,106]),(25,271,[116,117,118,119,120,121,122,123,124,125,127,115,128,129,14,0,1,2,3,4,5,6,7,8,9,15,10,1000,1001,1002,1003,1015,11,12,13,14,16,1014,17])] [(0,0),(0,0),(0,0)] Tryz.func416 rfl (λu q=>?_)
 repeat'(first|refine gB ?_|(conv=>whnf);first|with_reducible refine Bf.D (λc=>?_) (λc=>?_)|refine CB ?_|refine CO (by decide) ?_|refine CM (qU b) ?_|refine C8 (o) ?_|refine CF (p) ⟨⟨rfl,bI h⟩,⟨rfl,rfl⟩,trivial⟩ ?_|refine CD (aa e) ?_|refine CH rfl (aa e) rfl ?_|refine C8 (G) ?_|refine CF (P) ⟨⟨rfl,Cb _⟩,⟨rfl,rfl⟩,trivial⟩ ?_|refine CF (r) ⟨⟨rfl,aN.enc_fz h.w⟩,⟨rfl,rfl⟩,⟨rfl,rfl⟩,trivial⟩ ?_|refine CB ?_)
 have Q:({{h with w:=M} with G:=fk h.G (nth h.O i).Addr 0} : ac) = {h with w:=M}:=JN {h with w:=M} _ w;have R:=X0 (λy:ac=>C.s .own (y.G.F.W.T.map (aH .own))) Q
 (conv=>whnf)
 refine CJ (ι:=Nat) (λk=>[(0,.H .box (bB {{h with w:=M} with G:=fk h.G (nth h.O i).Addr k})),(1,.H .one [I ((t:Nat):Int)]),(2,.H .one [I ((nth h.O i).Addr)]),(7,.H .one [I ((i:Nat):Int)]),(8,.H .box (bt.enc .own (nth h.O i))),(9,.H .one [I (aL (nth h.O i).q)]),(10,.H .box (bk.enc .own (af h.G.F.R ((nth h.O i).Addr / 16)))),(13,.H .one [I ((k:Nat):Int)])]) (λk=>k<=(csz (aL (nth h.O i).q)).toNat) (λk=>(csz (aL (nth h.O i).q)).toNat - k) (0) ?_ (W0 _) λk hk=>?_
 ·repeat'(first|exact trivial|rfl |exact nY R|exact dI _|refine CL ?_ ?_|(exact AS (by first|omega|(simp only;omega)|(simp;omega))))
 have T:IntKind.i64.wrap 0=0:=rfl;have S:(nth h.O i).Addr.tmod 16=(nth h.O i).Addr % 16:=fh b.1;have g:(fk h.G (nth h.O i).Addr k).F.W.T[(af h.G.F.R ((nth h.O i).Addr / 16)).o.toNat]? = some (lr (nth h.G.F.W.T (cU h.G (nth h.O i).Addr)) ((nth h.O i).Addr % 16).toNat k):=X3 w;by_cases lk:k<(csz (aL (nth h.O i).q)).toNat
 ·have E:=au (xs:=lr (nth h.G.F.W.T (cU h.G (nth h.O i).Addr)) ((nth h.O i).Addr % 16).toNat k) (i:=((nth h.O i).Addr % 16+k).toNat) (by rw[mU,s4];omega)
  repeat'(first|refine gE ?_|(conv=>whnf);first|refine CB ?_|refine CO (by decide) ?_|refine CS S ?_|refine C8 (B) ?_|refine CN s2.1 (aa g) ?_|refine CH rfl (aa g) rfl ?_|refine CN ω (aa E) ?_|refine Pu.two rfl rfl (aa g) rfl rfl rfl (aa E) rfl (I3 _) (Ge {h with w:=M} _ k _ b.1) ?_)
  ((conv=>whnf);refine CE (k+1) ω ω ?_;(exact wC))
 obtain rfl:k=(csz (aL (nth h.O i).q)).toNat:=ω
 have c6:=oe {{h with w:=M} with G:=fk h.G (nth h.O i).Addr (csz (aL (nth h.O i).q)).toNat} i j (by show h.O.length<=_;omega)
 repeat'(first|refine gB ?_|(conv=>whnf);first|with_reducible refine Bf.D (λc=>?_) (λc=>?_)|refine CB ?_|refine C8 (B) ?_|refine CK (c6) (.inl rfl) ?_)
 refine CG rfl rfl ?_;exact wC
def Qk(h:ac)(i:Nat)(t:Int)(a:bc h [])(d:i<h.O.length):zzB 416 false [.ptr (bB h),.val none [I t],.val none [I (nth h.O i).Addr]] [.ptr (bB (if 0<=t/\t<=h.S.length - 1 then(freeT h t.toNat i).1 else h)),.val none [I t],.val none [I (nth h.O i).Addr]] .one [I (if 0<=t/\t<=h.S.length - 1 then(freeT h t.toNat i).2 else 1)]:=by
 have c:h.S.length<=4:=by have:=(d7.1 a.mail).1.2.1;have:=a.nc;omega
 by_cases b:0<=t/\t<=h.S.length - 1
 ·rw[CC b,CC b]
  obtain⟨n,rfl⟩:=z3 b.1;simp only[Z2];by_cases e:(nth h.O i).a4=n
  ·have:=Hc h (nth h.O i) n a (ar d) e c
   have g:qA h (nth h.O i).Addr=i:=by
    obtain⟨k,j,-⟩:=a.objAt (ar d);exact cM (f:=(·.Addr)) (de a.osr) k d (by rw[j])
   rw[g,<-AC e]at this;exact this
  exact ER h i n a d ω e
 rw[C9 b,C9 b];exact D8 h t _ c b
def Em(c:aE)(k:Nat):aE.enc .own (qm c k)=[.s .own ((c.a.map (aH .own)).set k (aH .own ((nth c.a k).take ((nth c.a k).length - 1))))]:=by simp[aE.enc,qm,I6]
def MX(xs:List Int)(n:Nat):(xs.take n).map (rI .V)=(xs.map (rI .V)).take n:=C4
def Tq(c:aE)(k:Nat):List C:=if 0<(nth c.a k).length then aE.enc .own (qm c k)++[I (nth (nth c.a k) ((nth c.a k).length - 1)),B true] else aE.enc .own c++[I (-1),B false]
def Rx(c:aE)(k:Nat):hC (Tq c k):=by
 unfold Tq;split
 ·exact aW (aE.enc_fr _) ⟨trivial,trivial,trivial⟩
 exact aW (aE.enc_fr _) ⟨trivial,trivial,trivial⟩
def wK(c:aE)(k:Nat)(h:b6 c=true)(u:k<=3):zzA 366 false [.val (some 1) (aE.enc .V c),.val none [I (k:Nat)]] (.tup [some 1,none,none]) (Tq c k):=by
 obtain⟨w,j⟩:=eH h;have n:aE.sml c:=⟨ω,λl r=>by have:=j l r;show l.length<=1048576;omega⟩
 have d:=yA c k n;rw[h,O0 ω]at d;have o:=iV c n;have b:=qj (c:=c) (k:=k) ω;have t:=j _ (ar (xs:=c.a) (i:=k) ω);have a:=Rx c k;unfold Tq at a |-;by_cases p:0<(nth c.a k).length
 ·rw[CC p]at a |-
  have q:=au (xs:=nth c.a k) (i:=(nth c.a k).length - 1) ω;have e:(nth c.a k)[(((nth c.a k).length:Int) - 1).toNat]? = some (nth (nth c.a k) ((nth c.a k).length - 1)):=by rw[show(((nth c.a k).length:Int) - 1).toNat=(nth c.a k).length - 1 by omega];exact q
  have g:((((nth c.a k).length:Nat):Int) - 1)=(((nth c.a k).length - 1:Nat):Int):=ω
  rw[Em]at a |-;refine fO 54 [(5,268,[32,33,34,35,36,37,38,39,40,41,42,44,0,1,2,3,4,5,6,7,8,9,10,11,1000,1001,1002,12,13]),(6,265,[45,46,47,48,49,50,51,52,53,0,1,2,3,4,5,6,7,8,9,1001,1002,1003,1004,1005,1006,1007,1008,10,11])] Tryz.func366 rfl ?_ (.inr a)
  repeat'(first|refine gB ?_|(conv=>whnf);first|with_reducible refine CD (aa b) ?_|refine CB ?_|refine CH rfl (aa b) rfl ?_|refine C8 (d) ?_|refine C8 (o) ?_|refine CN ω (aa e) ?_|refine CD (aa q) ?_|refine CY ((nth c.a k).length - 1) g (by rw[C1];omega) (aV λ_=>rfl) (MX _ _) ?_|refine CB ?_|refine CX (λ_=>rfl) (λ_=>rfl) (by rw[V1];omega) (by decide) ?_|refine CR (λ_=>rfl) (λ_=>rfl) (by rw[V1];omega) (by decide) ?_|refine CP rfl rfl (aa b) rfl (I1 rfl) rfl ?_)
  rfl
 rw[C9 p]at a |-;refine fO 54 [(5,268,[32,33,34,35,36,37,38,39,40,41,42,44,0,1,2,3,4,5,6,7,8,9,10,11,1000,1001,1002,12,13]),(6,265,[45,46,47,48,49,50,51,52,53,0,1,2,3,4,5,6,7,8,9,1001,1002,1003,1004,1005,1006,1007,1008,10,11])] Tryz.func366 rfl ?_ (.inr a)
 repeat'(first|refine gB ?_|(conv=>whnf);first|with_reducible refine CD (aa b) ?_|refine CB ?_|refine CH rfl (aa b) rfl ?_|refine C8 (d) ?_|refine C8 (o) ?_)
 rfl
def Tx(xs:List aB)(n:Int):List C:=bv .own (ax xs n).1++[I (ax xs n).2.1,B (ax xs n).2.2]
def Rm(xs:List aB)(n:Int):hC (Tx xs n):=aW (i6 _) ⟨trivial,trivial,trivial⟩
def oN(pages:Int)(xs:List aB)(n:Int)(w:0<=pages/\pages<=1048576)(l:bC pages xs=true)(J:1<=n/\n<=1000)(K:xs.length<=4096):zzA 371 false [.val none [I pages],.val none (bv .V xs),.val none [I n]] (.tup [none,none,none]) (Tx xs n):=by
 have o:=m9 pages xs w ⟨ω,λ_ _=>trivial⟩;rw[l]at o;have p:=(wg l).2;refine fO 98 [(8,21,[31,32,33,34,35,36,37,38,39,40,41,42,43,44,45,46,47,48,49,50,51]),(14,265,[71,72,73,74,76,77,78,79,81,0,1,2,3,5,6,7,8,10,4,1005,1006,1007,1008,1010,9,1010,11,1010,12,13])] Tryz.func371 rfl ?_ (.inr (Rm xs n))
 repeat'(first|refine gE ?_|(conv=>whnf);first|refine CB ?_|refine C8 (o) ?_|refine CR (λ_=>rfl) (λ_=>rfl) ω (by decide) ?_)
 (conv=>whnf)
 refine CJ (ι:=Nat) (λi=>[(1,.H .one (bv .V xs)),(2,.H .one [I (n)]),(9,.H .one (bv .own xs)),(10,.H .one [I (fI xs n i)]),(11,.H .one [I ((i:Nat):Int)])]) (λi=>i<=xs.length) (λi=>xs.length - i) (0) ?_ (W0 _) λi y=>?_
 ·exact wC
 have h:=rW xs n i y;by_cases q:i<xs.length
 ·have j:=au q
  have E:=p _ (ar q);have a:fI xs n (i+1)=if n<=(nth xs i).a8/\(fI xs n i<0\/(nth xs i).a8<(nth xs (fI xs n i).toNat).a8) then((i:Nat):Int) else fI xs n i:=rfl
  by_cases r:n<=(nth xs i).a8
  ·by_cases F:fI xs n i<0
   ·rw[CC ⟨r,.inl F⟩]at a
    repeat'(first|refine gE ?_|(conv=>whnf);first|with_reducible (first|refine CD (aa j) ?_|refine Bf.D (λc=>?_) (λc=>?_))|refine CB ?_)
    ((conv=>whnf);refine CE (i+1) ω ω ?_)
    rw[a];exact wC
   have d:=au (xs:=xs) (i:=(fI xs n i).toNat) ω;by_cases G:(nth xs i).a8<(nth xs (fI xs n i).toNat).a8
   ·rw[CC ⟨r,.inr G⟩]at a
    repeat'(first|refine gE ?_|(conv=>whnf);first|with_reducible (first|refine CD (aa j) ?_|refine CN ω (aa d) ?_|refine Bf.D (λc=>?_) (λc=>?_))|refine CB ?_)
    ((conv=>whnf);refine CE (i+1) ω ω ?_)
    rw[a];exact wC
   rw[C9 ω]at a
   repeat'(first|refine gE ?_|(conv=>whnf);first|with_reducible (first|refine CD (aa j) ?_|refine CN ω (aa d) ?_|refine Bf.D (λc=>?_) (λc=>?_))|refine CB ?_)
   ((conv=>whnf);refine CE (i+1) ω ω ?_)
   rw[a];exact wC
  rw[C9 ω]at a
  repeat'(first|refine gE ?_|(conv=>whnf);first|with_reducible (first|refine CD (aa j) ?_|refine Bf.D (λc=>?_) (λc=>?_))|refine CB ?_)
  ((conv=>whnf);refine CE (i+1) ω ω ?_)
  rw[a];exact wC
 obtain rfl:i=xs.length:=ω
 change fg xs n = -1\/_ at h;unfold Tx ax;rw[show fI xs n xs.length=fg xs n from rfl];by_cases e:fg xs n<0
 ·rw[CC e]
  rw[show fg xs n = -1 from h.resolve_right λg=>by have L:0<=fg xs n:=g.1;omega]
  repeat'(first|refine gE ?_|(conv=>whnf);first|with_reducible refine Bf.D (λc=>?_) (λc=>?_)|refine CB ?_)
  rfl
 rw[C9 e];obtain⟨H,t,M⟩:=h.resolve_left ω;change 0<=fg xs n at H;change fg xs n<xs.length at t;obtain⟨b,k⟩:=z3 (show 0<=fg xs n by omega);rw[k]at t |-;simp only[Z2];have d:=au (xs:=xs) (i:=b) ω;have E:=p _ (ar (xs:=xs) (i:=b) ω);by_cases u:(nth xs b).a8=n
 ·rw[CC u]
  repeat'(first|refine gB ?_|(conv=>whnf);first|with_reducible (first|refine CD (aa d) ?_|refine Bf.D (λc=>?_) (λc=>?_))|refine CB ?_|refine CY b rfl (by rw[C1];omega) (aV λ_=>rfl) C4 ?_|refine Sl.suf (b+1) rfl (by rw[C1];omega) (aV λ_=>rfl) I4 ?_|refine CX (λ_=>rfl) (λ_=>rfl) (by rw[V1];omega) (by decide) ?_|refine Ap.dele (λ_=>rfl) (λ_=>rfl) ω (by decide) ?_|refine CR (λ_=>rfl) (λ_=>rfl) (by rw[V1];omega) (by decide) ?_|refine CB ?_)
  rfl
 rw[C9 u]
 repeat'(first|refine gB ?_|(conv=>whnf);first|with_reducible (first|refine CD (aa d) ?_|refine Bf.D (λc=>?_) (λc=>?_))|refine CB ?_|refine CP rfl rfl (aa d) rfl (I1 rfl) rfl ?_)
 exact X0 (λz=>z++[I (nth xs b).At,B true]) (show [C.s dQ.own _]=_ from by simp[bv,I6];rfl)
def xY(k:am)(p:Int)(f:Nat):am.enc .own (rp k p f)=((am.enc .own k).set 1 (.s .own ((k.F.W.a5.map (rB .own)).set f (rB .own true)))).set 2 (.s .own ((k.F.R.K.map (bk.enc .own)).set p.toNat (bk.enc .own ⟨2,(f:Nat)⟩))):=by
 simp[am.enc,rp,I6]
def Fr(k:am)(p:Int)(c:aF k=true)(y:k.Calls≠100000)(o:0<=p/\p<k.F.R.K.length)(C:(nth k.F.R.K p.toNat).e=0):zzB 373 false [.ptr (am.enc .own k),.val none [I p]] [.ptr (am.enc .own (newK k p).1),.val none [I p]] .one [B (newK k p).2]:=by
 have E:=bE c;have F:=bf.1 (aG.1 c).2.1;have G:=(bu.1 (aG.1 c).2.2.1).2.2;have H:(cg k).F.R.K.length<=32:=G;have a:=DA k.F.W ω;have d:=nr k c y;have g:=eJ (cg k) p E.1.2;have l:af (cg k).F.R p=nth k.F.R.K p.toNat:=by unfold af;exact CC o
 rw[l,C]at g;have h:=aJ p 0 ((k.F.R.K.length:Int) - 1);rw[O0 ω]at h;have r:=au (xs:=k.F.R.K) (i:=p.toNat) ω;change ay _ _ _ _ _ [I (o7 k)]at a;unfold newK;cases e:refd k<;>rw[e]at d
 ·by_cases j:o7 k<0
  ·rw[CC (.inr j)]
   refine fM 56 [(484,[2])] [] [(0,0),(0,0)] Tryz.func373 rfl (λu q=>?_)
   repeat'(first|refine gB ?_|(conv=>whnf);first|with_reducible refine Bf.D (λb=>?_) (λb=>?_)|refine CF (a) ⟨⟨rfl,aX.enc_fz _⟩,trivial⟩ ?_|refine CK (d) (.inl rfl) ?_|refine C8 (h) ?_|refine CF (g) ⟨CQ (cg k),⟨rfl,rfl⟩,trivial⟩ ?_)
   refine CG rfl ?_ ?_
   ·rfl
   exact wC
  rw[C9 (by simp[j])];obtain⟨n,t⟩:=F6 j;obtain⟨f,J⟩:=z3 (show 0<=o7 k by omega);rw[J]at a n t j |-;simp only[Z2]at n t |-;have w:=au (xs:=k.F.W.a5) (i:=f) n;rw[xY];refine fM 56 [(484,[2])] [] [(0,0),(0,0)] Tryz.func373 rfl (λu q=>?_)
  repeat'(first|refine gB ?_|(conv=>whnf);first|with_reducible refine Bf.D (λb=>?_) (λb=>?_)|refine CF (a) ⟨⟨rfl,aX.enc_fz _⟩,trivial⟩ ?_|refine CK (d) (.inl rfl) ?_|refine C8 (h) ?_|refine CF (g) ⟨CQ (cg k),⟨rfl,rfl⟩,trivial⟩ ?_|refine CD (aa w) ?_|refine CN o.1 (aa r) ?_|refine CP rfl rfl (aa w) rfl (I1 rfl) rfl ?_|refine CP rfl rfl (aa r) rfl (I1 rfl) rfl ?_)
  refine CG rfl ?_ ?_
  ·rfl
  exact wC
 rw[CC (.inl rfl)];refine fM 56 [(484,[2])] [] [(0,0),(0,0)] Tryz.func373 rfl (λu q=>?_)
 repeat'(first|refine gB ?_|(conv=>whnf);first|with_reducible refine Bf.D (λb=>?_) (λb=>?_)|refine CF (a) ⟨⟨rfl,aX.enc_fz _⟩,trivial⟩ ?_|refine CK (d) (.inl rfl) ?_|refine C8 (h) ?_|refine CF (g) ⟨CQ (cg k),⟨rfl,rfl⟩,trivial⟩ ?_)
 refine CG rfl ?_ ?_
 ·rfl
 exact wC
def Te(h:ac):List C:=(bB h).drop 5
def FI(h:ac)(p:Int)(a:aF h.G=true)(b:h.G.Calls≠100000)(c:0<=p/\p<h.G.F.R.K.length)(d:(nth h.G.F.R.K p.toNat).e=0):zzB 373 false [.ptr (bB h),.val none [I p]] [.ptr (bB {h with G:=(newK h.G p).1}),.val none [I p]] .one [B (newK h.G p).2]:=
 (Fr h.G p a b c d).frame (r:=Te h) rfl
def Ki(h:ac)(i:Nat):bB (slotT h i)=((bB h).set 14 (I (yW h.b3))).set 6 (.s .own ((h.J.map (aA.enc .own)).set i [I (nth h.J i).Q,I (nth h.J i).d,I (gl (nth h.J i).a9 (mD h i))])):=by
 simp[bB,slotT,qo,I6,aA.enc]
def sA(h:ac)(E:List Int)(i:Nat)(c:bc h E)(k:i<h.J.length):zzB 368 false [.ptr (bB h),.val none [I (i:Nat)]] [.ptr (bB (iY h i).1),.val none [I (i:Nat)]] .one [I (iY h i).2]:=by
 have F:=c.lens;have G:=F.spans;have d:=au k;have b:=c.L.sok _ (ar k);have e:=dK b;have a:=c.nums;unfold cu at a;rw[C0]at a;have t:=(bu.1 (aG.1 c.ker).2.2.1).2.2;have l:=ll c.L.sok (ps:=aU h (nth h.J i).Q) e (aU h (nth h.J i).Q).length;change 0<=dE h i/\dE h i<=65535 at l;have w:=om (nth h.J i).d;have y:=zD h i ⟨ω,λ_ _=>trivial⟩ ⟨by show h.G.F.R.K.length<=_;omega,λ_ _=>trivial⟩ c.L.sok k;have o:=xI (nth h.J i).d (dE h i) ω;change ay _ _ _ _ _ (aH .own (gC h i)) at o;have p:=xZ (nth h.J i).d (dE h i);change (gC h i).length<=16 at p;unfold iY;by_cases B:(gC h i).length=0
 ·rw[CC B]
  refine fM 68 [] [(2,7,[16,17,18,19,20,21,22]),(7,12,[42,43,44,45,46,47,48,49,50,51,52,53]),(8,11,[56,57,58,59,60,61,62,63,64,65,66])] [(0,0),(0,0)] Tryz.func368 rfl (λu q=>?_)
  repeat'(first|refine gB ?_|(conv=>whnf);first|refine CD (aa d) ?_|refine CH rfl (aa d) rfl ?_|refine C8 (w) ?_|refine CF (y) ⟨⟨rfl,bI h⟩,⟨rfl,rfl⟩,trivial⟩ ?_|refine C8 (o) ?_|refine CB ?_)
  refine CG rfl rfl ?_;exact wC
 rw[C9 B];have H:=u7 (h:=h) (i:=i) ω;obtain⟨C,D,O⟩:=rA H;have J:=(gi (aI b).2.2).2.2.1;have r:=qZ h.b3 (n:=((gC h i).length:Nat)) ω;have K:=vj h.b3 ((gC h i).length:Nat) ω ω;have M:=zz (nth h.J i).a9 (mD h i) e ω;have N:=zu (qo (nth h.J i) (mD h i)) (mD h i) (Dd b ⟨C,D⟩) ⟨C,D⟩;have g:(gC h i)[(JC h.b3 ((gC h i).length:Nat)).toNat]? = some (mD h i):=au ω;have j:((h.J.map (aA.enc .own)).set i [I (nth h.J i).Q,I (nth h.J i).d,I (gl (nth h.J i).a9 (mD h i))])[i]? = some [I (nth h.J i).Q,I (nth h.J i).d,I (gl (nth h.J i).a9 (mD h i))]:=kI k;unfold pE;rw[Ki];refine fM 68 [] [(2,7,[16,17,18,19,20,21,22]),(7,12,[42,43,44,45,46,47,48,49,50,51,52,53]),(8,11,[56,57,58,59,60,61,62,63,64,65,66])] [(0,0),(0,0)] Tryz.func368 rfl (λu q=>?_)
 repeat'(first|refine gB ?_|(conv=>whnf);first|refine CD (aa d) ?_|refine CD j ?_|refine CH rfl (aa g) rfl ?_|refine CH rfl (aa d) rfl ?_|refine CH rfl j rfl ?_|refine C8 (w) ?_|refine CF (y) ⟨⟨rfl,bI h⟩,⟨rfl,rfl⟩,trivial⟩ ?_|refine C8 (o) ?_|refine C8 (K) ?_|refine C8 (M) ?_|refine C8 (N) ?_|refine CN r.1 (aa g) ?_|refine CB ?_|refine CP rfl rfl (aa d) rfl (I1 rfl) rfl ?_)
 refine CG rfl ?_ ?_
 ·rfl
 exact wC
def Ap.ins{e:α->List C}{xs:List α}{y:α}{r:List C}{sz by_:Nat}{K:List (List C)->Prop}(a:r=e y)(b:∀y,(e y).length=sz)(c:∀y,bi (e y)=true)(h:xs.length<=1048576)(d:by_<=1000)(f:K ((xs.take i++y::xs.drop i).map e)):Ap true ((xs.take i).map e++[r]) ((xs.drop i).map e) sz by_ K:=by
 subst a;have g:(xs.take i).length+1+(xs.drop i).length<=3145728:=by rw[V1,V3];omega
 refine CU (λr a=>?_) (aV b) (λ_ r a=>by obtain⟨y,-,rfl⟩:=O4.1 a;exact c y) (by simp only[U3,C1,List.length_singleton];omega) (by simp only[U3,C1,List.length_singleton];exact Z4 (Nat.mul_le_mul g d) (by decide)) ?_ f
 ·rcases C3.1 a with a|a
  ·exact aV b r a
  rw[O1.1 a];exact b y
 rw[X5,Z5,W5];rfl
def mg{p:α->Bool}{xs:List α}{y:α}(h:iQ p xs=i):ja p xs y=xs.take i++y::xs.drop i:=by unfold ja;rw[h]
def Jt(h:ac)(c:Int):ac × Int:=
 if(ax h.j 1).2.2=false then(h,-1)
 else if(newK h.G (ax h.j 1).2.1).2=false then({h with G:=(newK h.G (ax h.j 1).2.1).1},-1)
 else(lM h c,(lK h:Nat))
def B4(h:ac)(E:List Int)(c:Nat)(g:bc h E)(J:h.G.Calls<=90000):zzB 369 false [.ptr (bB h),.val none [I (c:Nat)]] [.ptr (bB (Jt h c).1),.val none [I (c:Nat)]] .one [I (Jt h c).2]:=by
 have B:=g.lens;have K:=B.spans;have L:eX h<=32:=B.ents;have C:=gZ h;have l:=oN (eX h:Nat) h.j 1 ⟨ω,ω⟩ g.rng (by decide) (by have:=B.free;omega);unfold Tx at l;have d:=ip g (v5 1);unfold Jt lM lK;generalize ax h.j 1=r at l d |-;obtain⟨o,p,ok⟩:=r;simp only at l d |-;cases ok with
 | false=>
  rw[CC rfl];refine fM 79 [(373,[2,0]),(2000010,[0,6])] [(1,267,[11,12,13,14,15,16,17,10,18,19,20,0,1,2,3,4,5,6,7,8,9,10,11,1009,1010,12,1010,13])] [(0,0),(0,0)] Tryz.func369 rfl (λu q=>?_)
  repeat'(first|refine gP ?_|(conv=>whnf);first|refine CB ?_|refine CF (C) ⟨bI h,trivial⟩ ?_|refine CF (l) ⟨⟨rfl,rfl⟩,⟨rfl,ed h.j⟩,⟨rfl,rfl⟩,trivial⟩ ?_|refine CB ?_)
  refine CG rfl rfl ?_;exact wC
 | true=>
  rw[C9 (by simp)];obtain⟨M,N,O,V⟩:=d rfl;have F:0<=p/\p<h.G.F.R.K.length:=⟨M,by have:p+1<=((tbl h).K.length:Nat):=N;unfold tbl at this;omega⟩
  have t:=FI h p g.ker ω F (O p.toNat ω ω);generalize newK h.G p=w at t |-;obtain⟨k,b⟩:=w;simp only at t |-;cases b with
  | false=>
   rw[CC rfl];refine fM 79 [(373,[2,0]),(2000010,[0,6])] [(1,267,[11,12,13,14,15,16,17,10,18,19,20,0,1,2,3,4,5,6,7,8,9,10,11,1009,1010,12,1010,13])] [(0,0),(0,0)] Tryz.func369 rfl (λu q=>?_)
   repeat'(first|refine gP ?_|(conv=>whnf);first|refine CB ?_|refine CF (C) ⟨bI h,trivial⟩ ?_|refine CF (l) ⟨⟨rfl,rfl⟩,⟨rfl,ed h.j⟩,⟨rfl,rfl⟩,trivial⟩ ?_|refine CK (t) (.inl rfl) ?_|refine CB ?_)
   refine CG rfl rfl ?_;exact wC
  | true=>
   rw[C9 (by simp)];refine fM 79 [(373,[2,0]),(2000010,[0,6])] [(1,267,[11,12,13,14,15,16,17,10,18,19,20,0,1,2,3,4,5,6,7,8,9,10,11,1009,1010,12,1010,13])] [(0,0),(0,0)] Tryz.func369 rfl (λu q=>?_)
   repeat'(first|refine gP ?_|(conv=>whnf);first|refine CB ?_|refine CF (C) ⟨bI h,trivial⟩ ?_|refine CF (l) ⟨⟨rfl,rfl⟩,⟨rfl,ed h.j⟩,⟨rfl,rfl⟩,trivial⟩ ?_|refine CK (t) (.inl rfl) ?_|refine CB ?_)
   (conv=>whnf)
   refine CJ (ι:=Nat) (λi=>[(0,.H .box (bB {h with G:=k,j:=o})),(1,.H .one [I ((c:Nat):Int)]),(6,.H .one [I (p)]),(8,.H .one [I ((i:Nat):Int)])]) (λi=>i<=h.J.length/\∀(j:Nat)(z:aA),j<i->h.J[j]? = some z->Br p z=false) (λi=>h.J.length - i) (0) ?_ (⟨W0 _,λj z W=>ω⟩) λi g=>?_
   ·exact wC
   obtain⟨P,G⟩:=g;have Q:({h with G:=k,j:=o} : ac).J.length=h.J.length:=rfl;by_cases R:i<h.J.length/\(nth h.J i).Q<p
   ·have n:=au R.1
    repeat'(first|refine gE ?_|(conv=>whnf);first|with_reducible refine CD (aa n) ?_|refine CB ?_|refine CH rfl (aa n) rfl ?_)
    ((conv=>whnf);refine CE (i+1) ⟨ω,dX n (U0 ω) G⟩ ω ?_;(exact wC))
   have a:iQ (Br p) h.J=i:=lT ω G λz H=>by
    have S:=(U2.1 H).1;have:z=nth h.J i:=(bn H).symm;subst this;exact O0 ω
   have n:i<h.J.length->h.J[i]? = some (nth h.J i):=λT=>au T
   rw[show addS h k o p (c:Nat) = {h with G:=k,j:=o,J:=h.J.take i++⟨p,(c:Nat),0⟩::h.J.drop i} by unfold addS;rw[mg a],a]
   repeat'(first|refine gE ?_|(conv=>whnf);first|with_reducible (first|refine CD (aa (n ω)) ?_|refine Bf.D (λU=>?_) (λU=>?_))|refine CB ?_|refine CH rfl (aa (n ω)) rfl ?_|refine Hy.mk rfl (EW h.J) rfl ?_|refine CY i rfl (by rw[C1];omega) (aV λ_=>rfl) C4 ?_|refine Sl.suf i rfl (by rw[C1];omega) (aV λ_=>rfl) I4 ?_|refine CR (λ_=>rfl) (λ_=>rfl) (by rw[V1];omega) (by decide) ?_|refine Ap.sn (aV λ_=>rfl) rfl (by rw[C1,V1];omega) (by decide) rfl ?_|refine Ap.ins (e:=aA.enc .V) (y:=⟨p,(c:Nat),0⟩) rfl (λ_=>rfl) (λ_=>rfl) ω (by decide) ?_)
   all_goals
    refine CG rfl rfl ?_;exact wC
def uP(a:i<h.J.length)(b:nq h c i=true)(d:∀j,j<i->nq h c j=false):od h c=some i:=
 List.find?_range_eq_some.2 ⟨b,List.mem_range.2 a,λj e=>by rw[d j e];rfl⟩
def uQ(a:∀j,j<h.J.length->nq h c j=false):od h c=none:=
 List.find?_range_eq_none.2 λj b=>by rw[a j b];rfl
def kS(a:nq h c i=false)(b:∀j,j<i->nq h c j=false):∀j,j<i+1->nq h c j=false:=λj d=>by
 by_cases e:j=i
 ·rw[e];exact a
 exact b j ω
def Kj(h:ac)(t:Nat)(c:aE):bB {h with S:=h.S.set t c} = (bB h).set 9 (.s .own ((h.S.map (aE.enc .own)).set t (aE.enc .own c))):=by
 simp[bB,I6]
def F9{c:Nat}(b:bc h [])(l:c<=3)(e:h.G.Calls<=90000)(h1:¬(ax h.j 1).2.2=false)(f:¬(newK h.G (ax h.j 1).2.1).2=false):bc (lM h c) []/\lK h<(lM h c).J.length:=by
 have a:(ax h.j 1).2.2=true:=by simpa using h1
 obtain⟨g,i,j,n⟩:=ip b (v5 1) a;have s:=vM.of (p:=(ax h.j 1).2.1) b.ker ω ⟨g,by have:(ax h.j 1).2.1+1<=(h.G.F.R.K.length:Nat):=i;omega⟩ (j _ ω ω);have d:(newK h.G (ax h.j 1).2.1).2=true:=by simpa using f
 have k:vM h.G (ax h.j 1).2.1 ((newK h.G (ax h.j 1).2.1).1,true):=by rw[<-d];exact s
 exact⟨b.addS (c:=c) ⟨ω,ω⟩ a k,(D2 (Br (ax h.j 1).2.1) h.J ⟨(ax h.j 1).2.1,c,0⟩).1⟩
def yY(h:ac)(t c:Nat)(o:bc h [])(M:t<h.S.length)(N:c<=3)(p:h.G.Calls<=90000):zzB 221 false [.ptr (bB h),.val none [I (t:Nat)],.val none [I (c:Nat)]] [.ptr (bB (smallA h t c).1),.val none [I (t:Nat)],.val none [I (c:Nat)]] .one [I (smallA h t c).2]:=by
 have E:=o.cach _ (ar M);have e:=au M;have r:=wK (nth h.S t) c E N;have Q:=o.lens.spans;have B:=o;unfold Tq at r;by_cases F:0<(nth (nth h.S t).a c).length
 ·unfold smallA
  rw[CC F]at r |-;simp only;rw[Kj];refine fM 80 [(368,[2,0]),(369,[2,0])] [(3,6,[27,28,29,30,31,32])] [(0,0),(0,0),(0,0)] Tryz.func221 rfl (λu q=>?_)
  repeat'(first|refine gP ?_|(conv=>whnf);first|with_reducible refine CD (aa e) ?_|refine CH rfl (aa e) rfl ?_|refine CF (r) ⟨⟨rfl,Ce _⟩,⟨rfl,rfl⟩,trivial⟩ ?_|refine CB ?_|refine CP rfl rfl (aa e) rfl (I1 rfl) rfl ?_)
  refine CG rfl rfl ?_;exact wC
 rw[C9 F]at r;have d:smallA h t c=match od h c with
  | some i=>(slotT h i,pE h i)
  | none=>if(ax h.j 1).2.2=false then(h,-1)
   else if(newK h.G (ax h.j 1).2.1).2=false then({h with G:=(newK h.G (ax h.j 1).2.1).1},-1)
   else iY (lM h c) (lK h):=by unfold smallA;exact C9 F
 refine fM 80 [(368,[2,0]),(369,[2,0])] [(3,6,[27,28,29,30,31,32])] [(0,0),(0,0),(0,0)] Tryz.func221 rfl (λu q=>?_)
 repeat'(first|refine gP ?_|(conv=>whnf);first|with_reducible refine CD (aa e) ?_|refine CH rfl (aa e) rfl ?_|refine CF (r) ⟨⟨rfl,Ce _⟩,⟨rfl,rfl⟩,trivial⟩ ?_|refine CB ?_)
 (conv=>whnf)
 refine CJ (ι:=Nat) (λi=>[(0,.H .box (bB h)),(1,.H .one [I ((t:Nat):Int)]),(2,.H .one [I ((c:Nat):Int)]),(10,.H .one [I ((i:Nat):Int)])]) (λi=>i<=h.J.length/\∀j,j<i->nq h c j=false) (λi=>h.J.length - i) (0) ?_ (⟨W0 _,λj W=>ω⟩) λi o=>?_
 ·exact wC
 obtain⟨R,w⟩:=o;by_cases C:i<h.J.length
 ·have l:=au C
  by_cases O:(nth h.J i).d=c
  ·have y:=uX h (nth h.J i).Q
   cases D:f6 h (nth h.J i).Q with
   | true=>
    rw[D]at y
    repeat'(first|refine gB ?_|(conv=>whnf);first|with_reducible refine CD (aa l) ?_|refine CH rfl (aa l) rfl ?_|refine CF (y) ⟨bI h,⟨rfl,rfl⟩,trivial⟩ ?_)
    ((conv=>whnf);refine CE (i+1) ⟨ω,kS (by unfold nq;rw[D];simp) w⟩ ω ?_;(exact wC))
   | false=>
    rw[D]at y;have n:=sA h [] i B C;unfold iY at n;by_cases P:(gC h i).length=0
    ·rw[CC P]at n
     repeat'(first|refine gB ?_|(conv=>whnf);first|with_reducible refine CD (aa l) ?_|refine CH rfl (aa l) rfl ?_|refine CF (y) ⟨bI h,⟨rfl,rfl⟩,trivial⟩ ?_|refine CK (n) (.inl rfl) ?_)
     ((conv=>whnf);refine CE (i+1) ⟨ω,kS (by unfold nq;rw[U0 (by omega:¬0<(gC h i).length)];simp) w⟩ ω ?_;(exact wC))
    rw[C9 P]at n;have G:od h c=some i:=uP C (by unfold nq;rw[O0 O,D,O0 ω];rfl) w;rw[G]at d;simp only at d;obtain⟨S,T⟩:=B.slotT C (by omega:0<(gC h i).length);have H:=je.nn S T;rw[d];generalize slotT h i=g at n |-;generalize pE h i=a at n H |-
    repeat'(first|refine gB ?_|(conv=>whnf);first|with_reducible refine CD (aa l) ?_|refine CH rfl (aa l) rfl ?_|refine CF (y) ⟨bI h,⟨rfl,rfl⟩,trivial⟩ ?_|refine CK (n) (.inl rfl) ?_)
    refine CG rfl rfl ?_;exact wC
  repeat'(first|refine gB ?_|(conv=>whnf);first|with_reducible refine CD (aa l) ?_|refine CH rfl (aa l) rfl ?_)
  ((conv=>whnf);refine CE (i+1) ⟨ω,kS (by unfold nq;rw[U0 O];rfl) w⟩ ω ?_;(exact wC))
 obtain rfl:i=h.J.length:=ω
 have G:od h c=none:=uQ w;rw[G]at d;simp only at d;have k:=B4 h [] c B p;rw[d];unfold Jt at k;by_cases J:(ax h.j 1).2.2=false
 ·rw[CC J]at k |-
  repeat'(first|refine gE ?_|(conv=>whnf);first|refine CK (k) (.inl rfl) ?_)
  refine CG rfl rfl ?_;exact wC
 rw[C9 J]at k |-;by_cases K:(newK h.G (ax h.j 1).2.1).2=false
 ·rw[CC K]at k |-
  repeat'(first|refine gE ?_|(conv=>whnf);first|refine CK (k) (.inl rfl) ?_)
  refine CG rfl rfl ?_;exact wC
 rw[C9 K]at k |-;obtain⟨U,V⟩:=F9 B N p J K;have L:=sA (lM h c) [] (lK h) U V;generalize lM h c=g at k L |-;generalize lK h=b at k L |-
 repeat'(first|refine gE ?_|(conv=>whnf);first|refine CK (k) (.inl rfl) ?_|refine CK (L) (.inl rfl) ?_)
 refine CG rfl rfl ?_;exact wC
def zq(h:ac)(size:Int):ac × Int:=
 if(ax h.j (fW size:Nat)).2.2=false then(h,-1)
 else if(dB h size).2=fW size then({h with G:=(dB h size).1,j:=(ax h.j (fW size:Nat)).1,M:=ja (P2 (ax h.j (fW size:Nat)).2.1) h.M ⟨(ax h.j (fW size:Nat)).2.1,(fW size:Nat),size⟩},16*(ax h.j (fW size:Nat)).2.1)
 else({h with G:=unmN (dB h size).1 (ax h.j (fW size:Nat)).2.1 (dB h size).2},-1)
def w7(k:am)(p:Int)(i:Nat):newsK k p (i+1)=if(newsK k p i).2=i then((newK (newsK k p i).1 (p+(i:Nat))).1,if(newK (newsK k p i).1 (p+(i:Nat))).2=true then i+1 else i) else newsK k p i:=rfl
def Fp(k:am)(p:Int):∀i,(newsK k p i).2<=i
 | 0=>I3 _
 | i+1=>by
  have b:=Fp k p i;rw[w7];by_cases e:(newsK k p i).2=i
  ·rw[CC e]
   show(if _ then i+1 else i)<=i+1;by_cases a:(newK (newsK k p i).1 (p+(i:Nat))).2=true
   ·rw[CC a];exact I3 _
   rw[C9 a];exact Nat.le_succ _
  rw[C9 e];omega
def jl{k:am}{p:Int}{i:Nat}(h:(newsK k p i).2≠i):∀j,newsK k p (i+j)=newsK k p i/\(newsK k p (i+j)).2<i+j
 | 0=>⟨rfl,by show(newsK k p i).2<i;have:=Fp k p i;omega⟩
 | j+1=>by
  have a:=jl h j;have e:newsK k p (i+(j+1))=newsK k p (i+j):=by
   show newsK k p (i+j+1)=_;rw[w7,C9 ω]
  exact⟨e.trans a.1,by rw[e];omega⟩
def yV(h:ac)(size:Int)(l:bc h [])(C:9<=size/\size<=1000)(V:h.G.Calls<=90000):zzB 222 false [.ptr (bB h),.val none [I size]] [.ptr (bB (zq h size).1),.val none [I size]] .one [I (zq h size).2]:=by
 have E:=l.lens;have W:=E.larges;have Q:=l;have F:eX h<=32:=E.ents;have G:eR size=((fW size:Nat):Int):=by unfold eR fW;split<;>omega
 have hN:1<=fW size/\fW size<=63:=by unfold fW;omega
 have H:=m7 size;rw[G]at H;have R:=gZ h;have t:=oN (eX h:Nat) h.j (fW size:Nat) ⟨ω,ω⟩ l.rng ⟨ω,ω⟩ (by have:=E.free;omega);unfold Tx at t;have b:=ip l (show(1:Int)<=(fW size:Nat) by omega);unfold zq dB;generalize fW size=N at *;generalize ax h.j (N:Nat)=r at t b |-;obtain⟨J,p,ok⟩:=r;simp only at t b |-;refine fM 105 [(373,[2,0]),(374,[2,0]),(2000018,[0,7])] [(2,268,[16,17,18,19,20,21,22,23,15,24,25,26,0,1,2,3,4,5,6,7,8,9,10,11,12,1010,1011,13,1011,14])] [(0,0),(0,0)] Tryz.func222 rfl (λu q=>?_);cases ok with
 | false=>
  rw[CC rfl]
  repeat'(first|refine gP ?_|(conv=>whnf);first|refine CB ?_|refine C8 (H) ?_|refine CF (R) ⟨bI h,trivial⟩ ?_|refine CF (t) ⟨⟨rfl,rfl⟩,⟨rfl,ed h.j⟩,⟨rfl,rfl⟩,trivial⟩ ?_|refine CB ?_)
  refine CG rfl rfl ?_;exact wC
 | true=>
  rw[C9 (by simp)];obtain⟨S,K,B,u4⟩:=b rfl;change p+(N:Nat)<=(h.G.F.R.K.length:Nat) at K;change ∀q:Nat,p<=q->(q:Int)<p+(N:Nat)->(nth h.G.F.R.K q).e=0 at B
  have X:h.G.F.R.K.length<=32:=F
  repeat'(first|refine gP ?_|(conv=>whnf);first|refine CB ?_|refine C8 (H) ?_|refine CF (R) ⟨bI h,trivial⟩ ?_|refine CF (t) ⟨⟨rfl,rfl⟩,⟨rfl,ed h.j⟩,⟨rfl,rfl⟩,trivial⟩ ?_|refine CB ?_)
  (conv=>whnf)
  refine CJ (ι:=Nat) (λi=>[(0,.H .box (bB {h with G:=(newsK h.G p i).1})),(1,.H .one [I (size)]),(5,.H .one [I ((N:Nat):Int)]),(6,.H .one (bv .own J)),(7,.H .one [I (p)]),(9,.H .one [I ((i:Nat):Int)])]) (λi=>i<=N/\(newsK h.G p i).2=i) (λi=>N - i) (0) ?_ (⟨W0 _,rfl⟩) λi l=>?_
  ·exact wC
  obtain⟨L,M⟩:=l;have s:=jh.of (p:=p) (n:=N) Q.ker ω ⟨S,K⟩ B i L;have Y:=s.calls;have Z:=s.len;by_cases li:i<N
  ·have O:(nth (newsK h.G p i).1.F.R.K (p+(i:Nat)).toNat).e=0:=by
    rw[s.out _ (by rw[M];omega)];exact B _ ω ω
   have c:=FI {h with G:=(newsK h.G p i).1} (p+(i:Nat)) s.ker (by show(newsK h.G p i).1.Calls≠100000;omega) ⟨ω,by show p+(i:Nat)<((newsK h.G p i).1.F.R.K.length:Nat);omega⟩ O;have a:newsK h.G p (i+1)=((newK (newsK h.G p i).1 (p+(i:Nat))).1,if(newK (newsK h.G p i).1 (p+(i:Nat))).2=true then i+1 else i):=by
    show(if(newsK h.G p i).2=i then _ else _)=_;rw[CC M]
   simp only at c;cases e:(newK (newsK h.G p i).1 (p+(i:Nat))).2 with
   | true=>
    rw[e]at c a;rw[CC rfl]at a;have P:(newK (newsK h.G p i).1 (p+(i:Nat))).1=(newsK h.G p (i+1)).1:=by rw[a]
    rw[P]at c
    repeat'(first|refine gE ?_|(conv=>whnf);first|refine CB ?_|refine CK (c) (.inl rfl) ?_)
    ((conv=>whnf);refine CE (i+1) ⟨ω,by rw[a]⟩ ω ?_;(exact wC))
   | false=>
    rw[e]at c a;rw[C9 (by simp)]at a;have d:=jl (k:=h.G) (p:=p) (i:=i+1) (by rw[a];simp only;omega) (N - (i+1));rw[show i+1+(N - (i+1))=N by omega]at d;rw[d.1]at d;have T:=jh.of (p:=p) (n:=N) Q.ker ω ⟨S,K⟩ B (i+1) ω;rw[C9 (by have:=jl (k:=h.G) (p:=p) (i:=i+1) (by rw[a];simp only;omega) (N - (i+1));rw[show i+1+(N - (i+1))=N by omega]at this;omega)];rw[show newsK h.G p N=newsK h.G p (i+1) by have:=jl (k:=h.G) (p:=p) (i:=i+1) (by rw[a];simp only;omega) (N - (i+1));rw[show i+1+(N - (i+1))=N by omega]at this;exact this.1];rw[a]at T |-;have g:=T.ker;simp only at g |-;generalize (newK (newsK h.G p i).1 (p+(i:Nat))).1=k at c g |-
    repeat'(first|refine gE ?_|(conv=>whnf);first|refine CB ?_|refine CK (c) (.inl rfl) ?_)
    (conv=>whnf)
    refine CJ (ι:=Nat) (λj=>[(0,.H .box (bB {h with G:=unmN k p j})),(1,.H .one [I (size)]),(5,.H .one [I ((N:Nat):Int)]),(7,.H .one [I (p)]),(9,.H .one [I ((i:Nat):Int)]),(10,.H .one [I ((j:Nat):Int)])]) (λj=>j<=i) (λj=>i - j) (0) ?_ (W0 _) λj hj=>?_
    ·exact wC
    have c4:=oo {h with G:=unmN k p j} (p+(j:Nat)) (gM g p j);by_cases lj:j<i
    ·repeat'(first|refine gE ?_|(conv=>whnf);first|refine CB ?_|refine CK (c4) (.inl rfl) ?_)
     ((conv=>whnf);refine CE (j+1) ω ω ?_;(exact wC))
    obtain rfl:j=i:=ω
    repeat'(first|refine gE ?_|(conv=>whnf);first|refine CB ?_)
    refine CG rfl rfl ?_;exact wC
  obtain rfl:i=N:=ω
  rw[CC M];generalize (newsK h.G p i).1=k
  repeat'(first|refine gE ?_|(conv=>whnf);first|refine CB ?_)
  (conv=>whnf)
  refine CJ (ι:=Nat) (λm=>[(0,.H .box (bB {h with G:=k,j:=J})),(1,.H .one [I (size)]),(5,.H .one [I ((i:Nat):Int)]),(7,.H .one [I (p)]),(11,.H .one [I ((m:Nat):Int)])]) (λm=>m<=h.M.length/\∀(j:Nat)(z:aD),j<m->h.M[j]? = some z->P2 p z=false) (λm=>h.M.length - m) (0) ?_ (⟨W0 _,λj z hj=>ω⟩) λm hm=>?_
  ·exact wC
  obtain⟨hm',U⟩:=hm;have hl2:({h with G:=k,j:=J} : ac).M.length=h.M.length:=rfl;by_cases go:m<h.M.length/\(nth h.M m).Q<p
  ·have o:=au go.1
   repeat'(first|refine gE ?_|(conv=>whnf);first|with_reducible refine CD (aa o) ?_|refine CB ?_|refine CH rfl (aa o) rfl ?_)
   ((conv=>whnf);refine CE (m+1) ⟨ω,dX o (U0 ω) U⟩ ω ?_;(exact wC))
  have w:iQ (P2 p) h.M=m:=lT ω U λz C=>by
   have hlt:=(U2.1 C).1;have:z=nth h.M m:=(bn C).symm;subst this;exact O0 ω
  have o:m<h.M.length->h.M[m]? = some (nth h.M m):=λhh=>au hh
  rw[mg w]
  repeat'(first|refine gE ?_|(conv=>whnf);first|with_reducible (first|refine CD (aa (o ω)) ?_|refine Bf.D (λhq=>?_) (λhq=>?_))|refine CB ?_|refine CH rfl (aa (o ω)) rfl ?_|refine Hy.mk rfl (A4 h.M) rfl ?_|refine CY m rfl (by rw[C1];omega) (aV λ_=>rfl) C4 ?_|refine Sl.suf m rfl (by rw[C1];omega) (aV λ_=>rfl) I4 ?_|refine CR (λ_=>rfl) (λ_=>rfl) (by rw[V1];omega) (by decide) ?_|refine Ap.sn (aV λ_=>rfl) rfl (by rw[C1,V1];omega) (by decide) rfl ?_|refine Ap.ins (e:=aD.enc .V) (y:=⟨p,(i:Nat),size⟩) rfl (λ_=>rfl) (λ_=>rfl) ω (by decide) ?_)
  all_goals
   refine CG rfl ?_ ?_
   ·exact X0 (λz=>[I z]) ω
   exact wC
def F8{k:am}(h:aF k=true)(b:jo k.a0):am.wf k:=by
 obtain⟨p,f,g,q,t⟩:=aG.1 h;obtain⟨u,w,y,A⟩:=bf.1 f;obtain⟨i,B,C⟩:=bu.1 g;refine⟨⟨⟨⟨ω,λr b=>?_⟩,⟨ω,λ_ _=>trivial⟩⟩,⟨ω,λe l=>?_⟩⟩,⟨ω,ω⟩,b⟩
 ·obtain⟨j,c,rfl⟩:=aP b
  obtain⟨D,n⟩:=tW h c;exact⟨ω,λv o=>by have:=n v o;exact⟨ω,ω⟩⟩
 obtain⟨j,c,rfl⟩:=aP l;have a:=i j c;unfold l7 at a;rw[C0]at a;by_cases d:(nth k.F.R.K j).e=0
 ·have:=a.2.2.1 d;exact⟨⟨ω,ω⟩,⟨ω,ω⟩⟩
 have:=a.2.2.2 d;exact⟨⟨ω,ω⟩,⟨ω,ω⟩⟩
def JF{p:cx}(h:eM p=true):cx.wf p:=by
 have a:=λi b=>ge h (i:=i) b
 have e:p.T.length<=16:=mP h;unfold eM at h;simp only[I0,C0]at h;exact⟨⟨ω,ω⟩,⟨ω,ω⟩,⟨ω,λv c=>by
   obtain⟨j,d,rfl⟩:=aP c;have:=a j d;exact⟨ω,ω⟩⟩⟩
def bc.jobWf(a:bc h E):cE.wf h.Y/\cE.sml h.Y:=by
 cases b:h.u with
 | true=>
  obtain⟨c,f,g,i,j⟩:=dv.1 (a.job b).1;have k:=mP c;exact⟨⟨JF c,⟨ω,ω⟩,⟨ω,ω⟩⟩,by show h.Y.X.T.length<=1048576;omega⟩
 | false=>
  have:=a.noj b;unfold sM at this;rw[C0]at this;obtain⟨l,n,e,o,p⟩:=this;refine⟨⟨⟨⟨ω,ω⟩,⟨ω,ω⟩,⟨ω,λv d=>?_⟩⟩,⟨ω,ω⟩,⟨ω,ω⟩⟩,by show h.Y.X.T.length<=1048576;omega⟩;rw[S7 e]at d;cases d
def wx{n:Int}(h:0<=aL n):1<=n/\n<=8:=by
 unfold aL at h
 repeat' split at h
 all_goals omega
def je.wf(b:bc h E)(d:je h.J a c):ng a:=by
 have:=d.bd b;exact⟨ω,ω⟩
def bc.wf(d:bc h E)(M:jo h.G.a0):ac.wf h:=by
 have q:=d.lens;have r:=d.L;have D:=d.nums;unfold cu at D;rw[C0]at D;obtain⟨X,N,Y⟩:=fT.1 d.rng;obtain⟨O,-,-,Z,q5,-⟩:=jK.1 d.quar;have w:=d.mail;have k:=d.hfl;unfold aQ at k;rw[CC w]at k;unfold bQ at w;simp only[I0,C0,cQ,gN,v4,ny,PC]at w;obtain⟨⟨⟨m1,m2,m3⟩,P⟩,m5⟩:=w;have A:=q.free;have Q:=q.spans;have h3:=q.larges;have h4:=q.objs;have h5:=q.caches;have h6:=q.quar;have t:∀n:Nat,bA h.w n<=bA h.w (n+1):=λn=>by simp only[bA];omega
 have g:∀a b:Nat,a<=b->bA h.w a<=bA h.w b:=λa b u=>by
  induction u with
  | refl=>exact v5 _
  | step _ R=>exact t5 R (t _)
 have B:∀n:Nat,0<=bA h.w n:=λn=>g 0 n (W0 _)
 have o:∀i,i<h.w.U.length->(nth h.w.U i).length<=30/\(nth h.w.y i).length<=30:=λi f=>by
  have F:=g (i+1) h.w.U.length ω;have S:=B i;simp only[bA]at F;omega
 refine⟨F8 d.ker M,⟨ω,λx e=>?_⟩,⟨ω,λx e=>?_⟩,⟨ω,λx e=>?_⟩,⟨ω,λx e=>?_⟩,⟨ω,λx e=>?_⟩,⟨⟨ω,λl c=>?_⟩,⟨ω,λl c=>?_⟩⟩,⟨⟨ω,ω⟩,⟨ω,λx e=>?_⟩⟩,⟨ω,ω⟩,⟨ω,ω⟩,⟨ω,ω⟩,⟨ω,ω⟩,trivial,d.jobWf.1⟩
 ·have:=N x e;exact⟨⟨ω,ω⟩,⟨ω,ω⟩⟩
 ·have y:=r.sok x e
  have G:=dK y;have T:=aI y;exact⟨⟨ω,ω⟩,⟨ω,ω⟩,⟨ω,ω⟩⟩
 ·have H:=aS (r.lok x e)
  have J:=cT (r.lok x e);exact⟨⟨ω,ω⟩,⟨ω,ω⟩,⟨ω,ω⟩⟩
 ·obtain⟨o1,o2,o3,o4⟩:=d.onu x e
  have u:0<=x.Addr/\x.Addr<512/\-1000<=x.q/\x.q<=1000:=by
   rcases d.oow x e with⟨s,y,A,Q⟩|⟨l,c,F,S⟩
   ·have T:=aI (r.sok s y)
    have:=wx (n:=x.q) ω;exact⟨by have:=A.1;omega,by have:=A.2.1;omega,ω,ω⟩
   have H:=aS (r.lok l c);have J:=cT (r.lok l c);omega
  exact⟨⟨ω,ω⟩,⟨ω,ω⟩,⟨ω,ω⟩,⟨ω,ω⟩⟩
 ·obtain⟨c1,U⟩:=q.lists x e
  refine⟨ω,λl c=>⟨by have:=U l c;omega,λa C=>?_⟩⟩;obtain⟨j,V,rfl⟩:=aP c;exact je.wf d (d.hca x e j V a C)
 ·obtain⟨i,f,rfl⟩:=aP c
  have G:=o i f;refine⟨ω,λp K=>?_⟩;have W:=(P i f).1 p K;exact⟨⟨ω,ω⟩,je.wf d (k p.Addr (C3.2 (.inl (List.mem_flatMap.2 ⟨_,ar f,O4.2 ⟨p,K,rfl⟩⟩))))⟩
 ·obtain⟨i,f,rfl⟩:=aP c
  have G:=o i ω;exact⟨ω,λa C=>je.wf d (k a (C3.2 (.inr (List.mem_flatten.2 ⟨_,ar f,C⟩))))⟩
 have H:=O x e;have J:=d.snc x e;exact⟨je.wf d (d.hqu x e),⟨ω,ω⟩,⟨ω,ω⟩⟩
structure Un(h:ac):Prop where
 ker:aF h.G=true
 wf:ac.wf h
 sml:ac.sml h
 lens:rD h
def bc.fit(a:bc h E)(b:jo h.G.a0)(c:aN.sml h.w):Un h:=⟨a.ker,a.wf b,a.lens.sml a.ker c a.jobWf.2,a.lens⟩
def xz(b:bc h [])(c:h.u=true):aF (mStep h).G=true/\(mStep h).G.Calls<=h.G.Calls+1/\(mStep h).G.a0=h.G.a0/\(mStep h).w=h.w/\(Gm h=true->(mStep h).u=false)/\cE.wf (mStep h).Y/\cE.sml (mStep h).Y:=by
 have s:=JS.of b c;refine⟨s.ker,s.calls.2.1,s.calls.2.2,rfl,λa=>?_,?_⟩
 ·unfold Gm at a
  rw[C0]at a;show(if over _=true then false else h.u)=false;rw[CC (show over (gT h.G h.Y).2=true from O0 (.inl a))]
 show cE.wf (if over _=true then _ else _)/\cE.sml (if over _=true then _ else _);split
 ·exact⟨⟨⟨⟨by decide,by decide⟩,⟨by decide,by decide⟩,⟨by decide,λv f=>by cases f⟩⟩,⟨by decide,by decide⟩,⟨by decide,by decide⟩⟩,by show(0:Nat)<=1048576;omega⟩
 have d:=(dv.1 (b.job c).1).1;have g:=mP d;obtain⟨j,k⟩:=s.ph;obtain⟨l,i⟩:=s.nxt;have e:=s.plan;refine⟨⟨by rw[e];exact JF d,⟨ω,ω⟩,⟨ω,by rw[e]at i;omega⟩⟩,by show((gT h.G h.Y).2.X.T).length<=1048576;rw[e];omega⟩
def zM(h:ac):Nat->ac × Bool
 | 0=>(h,false)
 | i+1=>if(zM h i).1.u=true then(mStep (zM h i).1,Gm (zM h i).1) else zM h i
def fin(h:ac):ac × Bool:=zM h 100
def vp(hi:bc h []):bc (started h).1 []/\(started h).1.G=h.G/\(started h).1.w=h.w:=by
 have r:=hi.nums;unfold cu at r;rw[C0]at r;have t:=(mZ (bG h).length (show 0<=h.b3/\h.b3<=1073741823 by omega) ((bG h).length - 1)).2;have g:=oh (bG h) (show 0<=h.b3/\h.b3<=1073741823 by omega);have c:cu {h with b3:=(shuf (bG h).length h.b3).2} = true:=by
  unfold cu;rw[C0];unfold shuf;simp only;omega
 cases j:mc (bG h) h.b3 with
 | nil=>
  have f:Ab.started h=({h with b3:=(shuf (bG h).length h.b3).2},false):=by unfold Ab.started;rw[j]
  rw[f];exact⟨{hi with nums:=c},rfl,rfl⟩
 | cons q y=>
  obtain⟨C,D,k⟩:=g q (by rw[j];exact Z1 ..);have f:Ab.started h=({h with b3:=(shuf (bG h).length h.b3).2,u:=true,Y:=uH (dl (nth (bG h) q.A.toNat) (nth (bG h) q.B.toNat))},true):=by unfold Ab.started;rw[j]
  rw[f];have d:∀s∈bG h,s∈h.J:=λs u=>mR h (I3 _) s (List.mem_of_mem_take u)
  have l:=d _ (ar (xs:=bG h) (i:=q.A.toNat) ω);have n:=d _ (ar (xs:=bG h) (i:=q.B.toNat) ω);generalize nth (bG h) q.A.toNat=a at k l |-;generalize nth (bG h) q.B.toNat=b at k n |-;obtain⟨w,E,F⟩:=uw k;have o:jL (uH (dl a b))=true:=dv.2 ⟨w,by show(0:Int)<=0;omega,by show(0:Int)<=5;omega,by show(0:Int)<=0;omega,by show(0:Int)<=(((dl a b).T.length:Nat):Int);omega⟩;have p:(∃s∈h.J,s.Q=(dl a b).a3)/\∃s∈h.J,s.Q=(dl a b).a1:=by
   unfold dl;split
   ·exact⟨⟨b,n,rfl⟩,⟨a,l,rfl⟩⟩
   exact⟨⟨a,l,rfl⟩,⟨b,n,rfl⟩⟩
  exact⟨{hi with nums:=c,job:=λ_=>⟨o,p⟩,noj:=λe=>by cases e},rfl,rfl⟩
def bc.objSz(a:bc h E):∀o∈h.O,0<=o.q/\o.q<=1000:=λx c=>by
 rcases a.oow x c with⟨s,d,e,f⟩|⟨l,b,g,i⟩
 ·have j:=aI (a.L.sok s d)
  have:=wx (n:=x.q) ω;omega
 have k:=cT (a.L.lok l b);omega
def zS(t:Int)(c:bc h [])(d:9<=size/\size<=1000):largeA h t size=if(zq h size).2<0 then((zq h size).1,-1,4) else(addO (zq h size).1 (zq h size).2 size t,(zq h size).2,0):=by
 unfold largeA zq;by_cases a:(ax h.j (fW size:Nat)).2.2=false
 ·rw[CC a,CC a]
  exact(CC (show(-1:Int)<0 by decide)).symm
 rw[C9 a,C9 a];obtain⟨e,-⟩:=ip c (show(1:Int)<=(fW size:Nat) by unfold fW;omega) (by simpa using a);by_cases b:(dB h size).2=fW size
 ·rw[CC b,CC b]
  exact(C9 (show ¬16*(ax h.j (fW size:Nat)).2.1<0 by omega)).symm
 rw[C9 b,C9 b];exact(CC (show(-1:Int)<0 by decide)).symm
def zx(h:ac)(t size:Int)(k:bc h []):zzB 74 false [.ptr (bB h),.val none [I t],.val none [I size]] [.ptr (bB (allocH h t size).1),.val none [I t],.val none [I size]] (.tup [none,none]) [I (allocH h t size).2.1,I (allocH h t size).2.2]:=by
 have X:=k.lens;have hlc:=X.caches;have P:=X.objs;have p:=k.nums;unfold cu at p;rw[C0]at p;have Q:=kO k.objSz h.O.length (I3 _);change 0<=gH h/\gH h<=_ at Q;have n:=aJ t 0 ((h.S.length:Int) - 1);have r:=aJ size 1 1000;have E:=pp h k.objSz ω;have F:=kM size;refine fM 119 [(221,[2,0,0]),(222,[2,0])] [(7,10,[36,37,38,39,40,41,42,43,44,45]),(18,272,[81,82,83,84,85,86,87,89,90,91,92,93,94,95,96,97,0,1,2,3,4,5,6,8,9,10,11,12,13,14,15,16,1016,7,1008,1009,1010,1011,1012,1013,1014,1015,1016,17,18]),(1048594,0,[8])] [(0,0),(0,0),(0,0)] Tryz.func74 rfl (λu q=>?_) (.inr ⟨trivial,trivial,trivial⟩);unfold allocH;by_cases h1:1000000<=h.b
 ·rw[CC (.inl h1)]
  repeat'(first|refine gE ?_|(conv=>whnf);first|refine CB ?_)
  refine CG rfl rfl ?_;exact wC
 by_cases h2:90000<h.G.Calls
 ·rw[CC (.inr h2)]
  repeat'(first|refine gE ?_|(conv=>whnf);first|with_reducible refine Bf.D (λb=>?_) (λb=>?_)|refine CB ?_)
  refine CG rfl rfl ?_;exact wC
 rw[C9 ω];by_cases C:¬(0<=t/\t<=h.S.length - 1)
 ·rw[CC C]
  rw[U0 C]at n
  repeat'(first|refine gE ?_|(conv=>whnf);first|with_reducible refine Bf.D (λb=>?_) (λb=>?_)|refine CB ?_|refine C8 (n) ?_)
  refine CG rfl rfl ?_;exact wC
 rw[C9 C];replace C:=Decidable.not_not.1 C;rw[O0 C]at n;by_cases B:¬(1<=size/\size<=1000)
 ·rw[CC B]
  rw[U0 B]at r
  repeat'(first|refine gE ?_|(conv=>whnf);first|with_reducible refine Bf.D (λb=>?_) (λb=>?_)|refine CB ?_|refine C8 (n) ?_|refine C8 (r) ?_)
  refine CG rfl rfl ?_;exact wC
 rw[C9 B];replace B:=Decidable.not_not.1 B;rw[O0 B]at r;by_cases Y:h.c0<gH h+size
 ·rw[CC Y]
  repeat'(first|refine gE ?_|(conv=>whnf);first|with_reducible refine Bf.D (λb=>?_) (λb=>?_)|refine CB ?_|refine C8 (n) ?_|refine C8 (r) ?_|refine CF (E) ⟨⟨rfl,bI h⟩,trivial⟩ ?_|refine CB ?_)
  refine CG rfl rfl ?_;exact wC
 rw[C9 Y];by_cases G:0<=aL size
 ·rw[CC G]
  have hc3:aL size<=3:=by unfold aL;repeat' split<;>omega
  obtain⟨T,rfl⟩:=z3 C.1;obtain⟨K,hK⟩:=z3 G;have o:=yY h T K k ω ω ω;have s:=mE (t:=T) (c:=K) k ω ω ω;rw[hK]at F |-;simp only[Z2];generalize smallA h T K=w at o s |-;obtain⟨g,a⟩:=w;have H:g.b=h.b:=s.nx;simp only at o |-;by_cases J:a<0
  ·rw[CC J]
   repeat'(first|refine gE ?_|(conv=>whnf);first|with_reducible refine Bf.D (λb=>?_) (λb=>?_)|refine CB ?_|refine C8 (n) ?_|refine C8 (r) ?_|refine CF (E) ⟨⟨rfl,bI h⟩,trivial⟩ ?_|refine CB ?_|refine C8 (F) ?_|refine CK (o) (.inl rfl) ?_)
   refine CG rfl rfl ?_;exact wC
  rw[C9 J];obtain⟨k1,k2⟩:=s.yes (show(0:Int)<=a by omega);have R:g.O.length<=512:=k1.lens.objs
  repeat'(first|refine gE ?_|(conv=>whnf);first|with_reducible refine Bf.D (λb=>?_) (λb=>?_)|refine CB ?_|refine C8 (n) ?_|refine C8 (r) ?_|refine CF (E) ⟨⟨rfl,bI h⟩,trivial⟩ ?_|refine CB ?_|refine C8 (F) ?_|refine CK (o) (.inl rfl) ?_)
  (conv=>whnf)
  refine CJ (ι:=Nat) (λi=>[(0,.H .box (bB g)),(1,.H .one [I ((T:Nat):Int)]),(2,.H .one [I (size)]),(8,.H .one [I (a)]),(9,.H .one [I ((i:Nat):Int)])]) (λi=>i<=g.O.length/\∀(j:Nat)(z:bt),j<i->g.O[j]? = some z->Jw a z=false) (λi=>g.O.length - i) (0) ?_ (⟨W0 _,λj z hj=>ω⟩) λi k=>?_
  ·exact wC
  obtain⟨S,L⟩:=k;by_cases U:i<g.O.length/\(nth g.O i).Addr<a
  ·have d:=au U.1
   repeat'(first|refine gE ?_|(conv=>whnf);first|with_reducible refine CD (aa d) ?_|refine CB ?_|refine CH rfl (aa d) rfl ?_)
   ((conv=>whnf);refine CE (i+1) ⟨ω,dX d (U0 ω) L⟩ ω ?_;(exact wC))
  have l:iQ (Jw a) g.O=i:=lT ω L λz M=>by
   have V:=(U2.1 M).1;have:z=nth g.O i:=(bn M).symm;subst this;exact O0 ω
  have d:i<g.O.length->g.O[i]? = some (nth g.O i):=λW=>au W
  rw[show addO g a size (T:Nat) = {g with O:=g.O.take i++⟨g.b,a,size,(T:Nat)⟩::g.O.drop i,b:=g.b+1} by unfold addO;rw[mg l]]
  repeat'(first|refine gE ?_|(conv=>whnf);first|with_reducible (first|refine CD (aa (d ω)) ?_|refine Bf.D (λb=>?_) (λb=>?_))|refine CB ?_|refine CH rfl (aa (d ω)) rfl ?_|refine Hy.mk rfl (BQ g.O) rfl ?_|refine CY i rfl (by rw[C1];omega) (aV λ_=>rfl) C4 ?_|refine Sl.suf i rfl (by rw[C1];omega) (aV λ_=>rfl) I4 ?_|refine CR (λ_=>rfl) (λ_=>rfl) (by rw[V1];omega) (by decide) ?_|refine Ap.sn (aV λ_=>rfl) rfl (by rw[C1,V1];omega) (by decide) rfl ?_|refine Ap.ins (e:=bt.enc .V) (y:=⟨g.b,a,size,(T:Nat)⟩) rfl (λ_=>rfl) (λ_=>rfl) ω (by decide) ?_|refine CB ?_)
  all_goals
   refine CG rfl rfl ?_;exact wC
 rw[C9 G];have N:9<=size:=by unfold aL at G;repeat' split at G<;>omega
 have o:=yV h size k ⟨N,B.2⟩ ω;rw[zS t k ⟨N,B.2⟩];have Z:(zq h size).1.b=h.b/\(zq h size).1.O=h.O:=by
  unfold zq;split
  ·exact⟨rfl,rfl⟩
  split<;>exact⟨rfl,rfl⟩
 generalize zq h size=w at o Z |-;obtain⟨g,a⟩:=w;obtain⟨H,O⟩:=Z;simp only at o H O |-;have R:g.O.length<=512:=by rw[O];exact P
 by_cases J:a<0
 ·rw[CC J]
  repeat'(first|refine gE ?_|(conv=>whnf);first|with_reducible refine Bf.D (λb=>?_) (λb=>?_)|refine CB ?_|refine C8 (n) ?_|refine C8 (r) ?_|refine CF (E) ⟨⟨rfl,bI h⟩,trivial⟩ ?_|refine CB ?_|refine C8 (F) ?_|refine CK (o) (.inl rfl) ?_)
  refine CG rfl rfl ?_;exact wC
 rw[C9 J]
 repeat'(first|refine gE ?_|(conv=>whnf);first|with_reducible refine Bf.D (λb=>?_) (λb=>?_)|refine CB ?_|refine C8 (n) ?_|refine C8 (r) ?_|refine CF (E) ⟨⟨rfl,bI h⟩,trivial⟩ ?_|refine CB ?_|refine C8 (F) ?_|refine CK (o) (.inl rfl) ?_)
 (conv=>whnf)
 refine CJ (ι:=Nat) (λi=>[(0,.H .box (bB g)),(1,.H .one [I (t)]),(2,.H .one [I (size)]),(8,.H .one [I (a)]),(9,.H .one [I ((i:Nat):Int)])]) (λi=>i<=g.O.length/\∀(j:Nat)(z:bt),j<i->g.O[j]? = some z->Jw a z=false) (λi=>g.O.length - i) (0) ?_ (⟨W0 _,λj z hj=>ω⟩) λi k=>?_
 ·exact wC
 obtain⟨S,L⟩:=k;by_cases U:i<g.O.length/\(nth g.O i).Addr<a
 ·have d:=au U.1
  repeat'(first|refine gE ?_|(conv=>whnf);first|with_reducible refine CD (aa d) ?_|refine CB ?_|refine CH rfl (aa d) rfl ?_)
  ((conv=>whnf);refine CE (i+1) ⟨ω,dX d (U0 ω) L⟩ ω ?_;(exact wC))
 have l:iQ (Jw a) g.O=i:=lT ω L λz M=>by
  have V:=(U2.1 M).1;have:z=nth g.O i:=(bn M).symm;subst this;exact O0 ω
 have d:i<g.O.length->g.O[i]? = some (nth g.O i):=λW=>au W
 rw[show addO g a size t = {g with O:=g.O.take i++⟨g.b,a,size,t⟩::g.O.drop i,b:=g.b+1} by unfold addO;rw[mg l]]
 repeat'(first|refine gE ?_|(conv=>whnf);first|with_reducible (first|refine CD (aa (d ω)) ?_|refine Bf.D (λb=>?_) (λb=>?_))|refine CB ?_|refine CH rfl (aa (d ω)) rfl ?_|refine Hy.mk rfl (BQ g.O) rfl ?_|refine CY i rfl (by rw[C1];omega) (aV λ_=>rfl) C4 ?_|refine Sl.suf i rfl (by rw[C1];omega) (aV λ_=>rfl) I4 ?_|refine CR (λ_=>rfl) (λ_=>rfl) (by rw[V1];omega) (by decide) ?_|refine Ap.sn (aV λ_=>rfl) rfl (by rw[C1,V1];omega) (by decide) rfl ?_|refine Ap.ins (e:=bt.enc .V) (y:=⟨g.b,a,size,t⟩) rfl (λ_=>rfl) (λ_=>rfl) ω (by decide) ?_|refine CB ?_)
 all_goals
  refine CG rfl rfl ?_;exact wC
def GD(h:ac)(a n:Int)(t:h.M.length<=4096)(j:∀l∈h.M,bN l=true)(o:z8 h a<0):zzB 420 false [.ptr (bB h),.val none [I a],.val none [I n]] [.ptr (bB h),.val none [I a],.val none [I n]] .one [B false]:=by
 have b:∀l∈h.M,l.Q*16≠a:=λl c e=>by
  have:=E1 (p:=J9 a) c (O0 e);unfold z8 at o;omega
 refine fM 136 [(374,[2,0])] [(8,6,[49,50,51,52,53,54]),(9,10,[56,57,58,59,60,61,62,63,64,65]),(20,270,[123,124,125,126,127,128,129,130,131,122,132,133,134,135,0,1,2,3,4,5,6,7,8,9,10,11,12,13,14,1011])] [(0,0),(0,0),(0,0)] Tryz.func420 rfl (λu q=>?_)
 repeat'(first|refine gP ?_|(conv=>whnf);first|refine CB ?_)
 (conv=>whnf)
 refine CJ (ι:=Nat) (λk=>[(0,.H .box (bB h)),(1,.H .one [I (a)]),(2,.H .one [I (n)]),(7,.H .one [I ((k:Nat):Int)])]) (λk=>k<=h.M.length) (λk=>h.M.length - k) (0) ?_ (W0 _) λk w=>?_
 ·repeat'(first|exact trivial|rfl |exact nY r|exact nY g|exact dI _|refine CL ?_ ?_|(exact AS (by first|omega|(simp only;omega)|(simp;omega))))
 by_cases d:k<h.M.length
 ·have i:=au d
  have y:=b _ (ar d);have C:=aS (j _ (ar d))
  repeat'(first|refine gB ?_|(conv=>whnf);first|with_reducible refine CD (aa i) ?_|refine CB ?_|refine CH rfl (aa i) rfl ?_)
  ((conv=>whnf);refine CE (k+1) ω ω ?_;(exact wC))
 repeat'(first|refine gE ?_|(conv=>whnf);first|refine CB ?_)
 refine CG rfl rfl ?_;exact wC
def R6(h:ac)(a:Int)(m:Nat):bB {h with G:=zK h.G a (m+1)} = (bB {h with G:=zK h.G a m}).set 0 (.s .own (((zK h.G a m).F.W.T.map (aH .own)).set (af (zK h.G a m).F.R ((a+m) / 16)).o.toNat ((aH .own (nth (zK h.G a m).F.W.T (cU (zK h.G a m) (a+m)))).set 0 (.s .own (((nth (zK h.G a m).F.W.T (cU (zK h.G a m) (a+m))).map (rI .own)).set ((a+m) % 16).toNat (splice (rI .own (nth (nth (zK h.G a m).F.W.T (cU (zK h.G a m) (a+m))) ((a+m) % 16).toNat)) 0 [I 0])))))):=
 Jz {h with G:=zK h.G a m} (a+m) 0
def lV(h:ac)(i k:Nat)(n:Int)(K:am):ac:={h with G:=K,M:=h.M.set k (trimL (nth h.M k) n),O:=h.O.set i {nth h.O i with q:=n}}
def Ky(h:ac)(i k:Nat)(n:Int)(K:am):(lV h i k n K).O.map (bt.enc .own)=(h.O.map (bt.enc .own)).set i (splice (bt.enc .own (nth h.O i)) 2 [I n]):=by
 simp[lV,I6,bt.enc,splice]
def se(h:ac)(i:Nat)(n:Int)(j:bc h [])(H:i<h.O.length)(hg:0<=z8 h (nth h.O i).Addr):zzB 420 false [.ptr (bB h),.val none [I (nth h.O i).Addr],.val none [I n]] [.ptr (bB (if ma h i n then trimH h i (z8 h (nth h.O i).Addr).toNat n else h)),.val none [I (nth h.O i).Addr],.val none [I n]] .one [B (decide (ma h i n))]:=by
 have c:=j.lens;have hnl:=c.larges;have hno:=c.objs;have hpg:eX h<=32:=c.ents;obtain⟨f1,f2,f3⟩:=fC (J9 (nth h.O i).Addr) h.M hg;obtain⟨g,o⟩:=z3 hg;have b:g<h.M.length:=by unfold z8 at o;omega
 have Y:(nth h.M g).Q*16=(nth h.O i).Addr:=by
  have:=of_decide_eq_true f2;rw[show(cW (J9 (nth h.O i).Addr) h.M).toNat=g by unfold z8 at o;omega]at this;exact this
 have J:∀k,k<g->(nth h.M k).Q*16≠(nth h.O i).Addr:=λk hk e=>by
  have N:k<h.M.length:=ω
  have hok1:=aS (j.L.lok _ (ar N));have hok2:=aS (j.L.lok _ (ar b));have:=j.L.one k g N b 0 0 ω ω ω;omega
 have p:ma h i n↔9<=n/\n<=(nth h.M g).q:=by
  unfold ma;rw[o,Z2];exact⟨λx=>x.2,λx=>⟨ω,x⟩⟩
 rw[o,Z2];have hbd:=tQ j (ar H);obtain⟨-,Z,w⟩:=j.objAt (ar H);have hii:qA h (nth h.O i).Addr=i:=by
  have h2:=(j.objAt (ar H)).1;exact cM (f:=(·.Addr)) (de j.osr) h2 H (by rw[Z])
 rw[hii]at w;have E:=au H;have hxg:=au b;have V:=yf (nth h.M g) n (j.L.lok _ (ar b));have h8:=j.L.lok _ (ar b);unfold bN at h8;rw[C0]at h8;refine fM 136 [(374,[2,0])] [(8,6,[49,50,51,52,53,54]),(9,10,[56,57,58,59,60,61,62,63,64,65]),(20,270,[123,124,125,126,127,128,129,130,131,122,132,133,134,135,0,1,2,3,4,5,6,7,8,9,10,11,12,13,14,1011])] [(0,0),(0,0),(0,0)] Tryz.func420 rfl (λu q=>?_)
 repeat'(first|refine gP ?_|(conv=>whnf);first|refine CB ?_)
 (conv=>whnf)
 refine CJ (ι:=Nat) (λk=>[(0,.H .box (bB h)),(1,.H .one [I ((nth h.O i).Addr)]),(2,.H .one [I (n)]),(7,.H .one [I ((k:Nat):Int)])]) (λk=>k<=g) (λk=>g - k) (0) ?_ (W0 _) λk hk=>?_
 ·repeat'(first|exact trivial|rfl |exact nY r|exact nY d|exact dI _|refine CL ?_ ?_|(exact AS (by first|omega|(simp only;omega)|(simp;omega))))
 have l:=au (xs:=h.M) (i:=k) ω;have hfk:=aS (j.L.lok _ (ar (xs:=h.M) (i:=k) ω));by_cases e:k=g;rotate_left
 ·have hne:=J k ω
  repeat'(first|refine gB ?_|(conv=>whnf);first|with_reducible refine CD (aa l) ?_|refine CB ?_|refine CH rfl (aa l) rfl ?_)
  ((conv=>whnf);refine CE (k+1) ω ω ?_;(exact wC))
 subst e;by_cases F:9<=n/\n<=(nth h.M k).q;rotate_left
 ·rw[C9 (by rw[p];exact F),U0 (by rw[p];exact F)]
  rw[C9 F]at V
  repeat'(first|refine gB ?_|(conv=>whnf);first|with_reducible refine CD (aa l) ?_|refine CB ?_|refine CH rfl (aa l) rfl ?_|refine C8 (V) ?_)
  refine CG rfl rfl ?_;exact wC
 rw[CC (by rw[p];exact F),O0 (by rw[p];exact F)];rw[CC F]at V;have y:=λm hm=>wq j b F (m:=m) hm
 have D:=λm=>(nz h.G (16*(nth h.M k).Q+n) m).1
 have O:=λa W=>jO j b (a:=a) W
 have hsz:n<=16*(nth h.M k).a2:=ω
 generalize hM:(16*((n+15) / 16) - n).toNat=M at *;have hfl:∀m,(zK h.G (16*(nth h.M k).Q+n) m).F.W.T.length=h.G.F.W.T.length:=λm=>by
  induction m with
  | zero=>rfl
  | succ m ih=>show(List.set _ _ _).length=_;rw[U1];exact ih
 have cO:=rN {h with M:=h.M.set k (trimL (nth h.M k) n)} (nth h.O i).Addr (by show h.O.length<=_;omega);change ay _ _ _ [.val (some 24) (ac.enc .V {h with M:=h.M.set k (trimL (nth h.M k) n)}),_] _ [I (cW (mn (nth h.O i).Addr) h.O)]at cO;rw[w]at cO;have Q:=bI {h with M:=h.M.set k (trimL (nth h.M k) n)};have heL:bB {h with M:=h.M.set k (trimL (nth h.M k) n)} = (bB h).set 7 (.s .own ((h.M.map (aD.enc .own)).set k (aD.enc .own (trimL (nth h.M k) n)))):=by simp[bB,I6]
 rw[heL]at Q
 repeat'(first|refine gB ?_|(conv=>whnf);first|with_reducible (first|refine CD (aa l) ?_|refine CD (aa E) ?_)|refine CB ?_|refine CH rfl (aa l) rfl ?_|refine C8 (V) ?_|refine CP rfl rfl (aa l) rfl (I1 rfl) rfl ?_|refine CF (cO) ⟨⟨rfl,Q⟩,⟨rfl,rfl⟩,trivial⟩ ?_|refine CP rfl rfl (aa E) rfl (I1 rfl) rfl ?_|refine CH rfl (aa E) rfl ?_|refine CB ?_)
 rw[<-Y];have e0:lV h i k n h.G=lV h i k n (zK h.G (16*(nth h.M k).Q+n) 0):=rfl;have r:C.s .own ((lV h i k n (zK h.G (16*(nth h.M k).Q+n) 0)).M.map (aD.enc .own))=C.s .own ((h.M.map (aD.enc .own)).set k (aD.enc .own (trimL (nth h.M k) n))):=by simp[lV,I6]
 have d:C.s .own ((lV h i k n (zK h.G (16*(nth h.M k).Q+n) 0)).O.map (bt.enc .own))=C.s .own ((h.O.map (bt.enc .own)).set i (splice (bt.enc .own (nth h.O i)) 2 [I n])):=X0 _ (Ky h i k n _)
 (conv=>whnf)
 refine CJ (ι:=Nat) (λm=>[(0,.H .box (bB (lV h i k n (zK h.G (16*(nth h.M k).Q+n) m)))),(1,.H .one [I (((nth h.M k).Q*16))]),(8,.H .box (aD.enc .own (trimL (nth h.M k) n))),(9,.H .box (aB.enc .own (yh (nth h.M k) n))),(11,.H .one [I (((16*(nth h.M k).Q+n)+(m:Nat)))])]) (λm=>m<=M) (λm=>M - m) (0) ?_ (W0 _) λm hm=>?_
 ·repeat'(first|exact trivial|rfl |exact nY r|exact nY d|exact dI _|refine CL ?_ ?_|(exact AS (by first|omega|(simp only;omega)|(simp;omega))))
 have hmod:IntKind.i64.wrap 0=0:=rfl;by_cases lm:m<M
 ·have W:0<=(16*(nth h.M k).Q+n)+(m:Nat)/\(16*(nth h.M k).Q+n)+(m:Nat)<512:=ω
  have R:=O ((16*(nth h.M k).Q+n)+(m:Nat)) ω;have t:=y m hm;rw[<-D m]at R;have hks:=bE t;have c2:=di (zK h.G (16*(nth h.M k).Q+n) m).F.R (((16*(nth h.M k).Q+n)+(m:Nat)) / 16) hks.1.2;obtain⟨-,-,-,q0,q1⟩:=bW t R;have hul:=(bf.1 (aG.1 t).2.1).2.2.1;have S:cU (zK h.G (16*(nth h.M k).Q+n) m) ((16*(nth h.M k).Q+n)+(m:Nat))<(zK h.G (16*(nth h.M k).Q+n) m).F.W.T.length:=by unfold cU;omega
  have G:(zK h.G (16*(nth h.M k).Q+n) m).F.W.T[(af (zK h.G (16*(nth h.M k).Q+n) m).F.R (((16*(nth h.M k).Q+n)+(m:Nat)) / 16)).o.toNat]? = some _:=au S;have h16:=(tW t S).1;have T:=au (xs:=nth (zK h.G (16*(nth h.M k).Q+n) m).F.W.T (cU (zK h.G (16*(nth h.M k).Q+n) m) ((16*(nth h.M k).Q+n)+(m:Nat)))) (i:=(((16*(nth h.M k).Q+n)+(m:Nat)) % 16).toNat) (by rw[h16];omega);have htm:((16*(nth h.M k).Q+n)+(m:Nat)).tmod 16=((16*(nth h.M k).Q+n)+(m:Nat)) % 16:=fh W.1;have hpu:=R6 (lV h i k n h.G) (16*(nth h.M k).Q+n) m;have hwr:=qU W;have hst:(trimL (nth h.M k) n).a2=(n+15) / 16:=rfl
  repeat'(first|refine gE ?_|(conv=>whnf);first|refine CB ?_|refine CO (by decide) ?_|refine CM hwr ?_|refine CS htm ?_|refine CF (c2) ⟨⟨rfl,Cb _⟩,⟨rfl,rfl⟩,trivial⟩ ?_|refine CN q0 (aa G) ?_|refine CH rfl (aa G) rfl ?_|refine CN ω (aa T) ?_|refine Pu.two rfl rfl (aa G) rfl rfl rfl (aa T) rfl (I3 _) hpu ?_)
  ((conv=>whnf);refine CE (m+1) ω ω ?_;(exact wC))
 obtain rfl:m=M:=ω
 have hst:(trimL (nth h.M k) n).a2=(n+15) / 16:=rfl;have hkM:=y m (I3 _);have U:(zK h.G (16*(nth h.M k).Q+n) m).F.R.K.length=eX h:=by rw[D];rfl
 have hTK:kx h k n=zK h.G (16*(nth h.M k).Q+n) m:=by unfold kx;rw[hM]
 unfold trimH HX;rw[hTK];generalize zK h.G (16*(nth h.M k).Q+n) m=K at *;have hN:((d4 (nth h.M k) n:Nat):Int)=(nth h.M k).a2 - (n+15) / 16:=by unfold d4;omega
 have hrA:0<d4 (nth h.M k) n->yh (nth h.M k) n = ⟨(nth h.M k).Q+(n+15) / 16,(d4 (nth h.M k) n:Nat)⟩:=λhp=>by unfold yh;rw[CC ω,hN]
 have hrB:¬0<d4 (nth h.M k) n->yh (nth h.M k) n = ⟨0,0⟩:=λhp=>by unfold yh;rw[C9 ω]
 generalize d4 (nth h.M k) n=P at *;by_cases X:0<P
 ·rw[CC X]
  have hr:=hrA X;rw[hr]
  repeat'(first|refine gE ?_|(conv=>whnf);first|refine CB ?_)
  (conv=>whnf)
  refine CJ (ι:=Nat) (λx=>[(0,.H .box (bB (lV h i k n (unmN K ((nth h.M k).Q+(n+15) / 16) x)))),(9,.H .box ([I ((nth h.M k).Q+(n+15) / 16),I (P:Nat)])),(13,.H .one [I (((nth h.M k).Q+(n+15) / 16+(x:Nat)))])]) (λx=>x<=P) (λx=>P - x) (0) ?_ (W0 _) λx l=>?_
  ·repeat'(first|exact trivial|rfl |exact nY r|exact nY d|exact dI _|refine CL ?_ ?_|(exact AS (by first|omega|(simp only;omega)|(simp;omega))))
  by_cases lx:x<P
  ·have c3:=oo (lV h i k n (unmN K ((nth h.M k).Q+(n+15) / 16) x)) ((nth h.M k).Q+(n+15) / 16+(x:Nat)) (gM hkM _ _)
   repeat'(first|refine gE ?_|(conv=>whnf);first|refine CB ?_|refine CK (c3) (.inl rfl) ?_)
   ((conv=>whnf);refine CE (x+1) ω ω ?_;(exact wC))
  obtain rfl:x=P:=ω
  have c4:=gZ (lV h i k n (unmN K ((nth h.M k).Q+(n+15) / 16) x));rw[show eX (lV h i k n (unmN K ((nth h.M k).Q+(n+15) / 16) x))=eX h from(eO _ _ _).1.trans U]at c4;have c5:=mB (eX h:Nat) h.j ⟨(nth h.M k).Q+(n+15) / 16,(x:Nat)⟩ ⟨ω,ω⟩ ⟨by have:=c.free;omega,λ_ _=>trivial⟩
  repeat'(first|refine gE ?_|(conv=>whnf);first|refine CB ?_|refine CF (c4) ⟨bI _,trivial⟩ ?_|refine CF (c5) ⟨⟨rfl,rfl⟩,⟨rfl,ed h.j⟩,⟨rfl,rfl⟩,trivial⟩ ?_|refine CB ?_)
  refine CG rfl rfl ?_;exact wC
 rw[C9 X];obtain rfl:P=0:=ω
 have hr:=hrB X;rw[hr]
 repeat'(first|refine gE ?_|(conv=>whnf);first|refine CB ?_)
 (conv=>whnf)
 refine CJ (ι:=Nat) (λx=>[(0,.H .box (bB (lV h i k n K))),(9,.H .box ([I 0,I 0])),(13,.H .one [I (0)])]) (λx=>x=0) (λx=>0) (0) ?_ (rfl) λx l=>?_
 ·repeat'(first|exact trivial|rfl |exact nY r|exact nY d|exact dI _|refine CL ?_ ?_|(exact AS (by first|omega|(simp only;omega)|(simp;omega))))
 subst l
 repeat'(first|refine gE ?_|(conv=>whnf);first|refine CB ?_)
 refine CG rfl rfl ?_;exact wC
def EN(a:α)(k:Nat):List.replicate (k+1) a=List.replicate k a++[a]:=List.replicate_succ' ..
def GQ(n k:Nat):aX.enc .own ⟨List.replicate k (List.replicate 16 0),List.replicate n false⟩ = [.s .own (List.replicate k [.s .own (List.replicate 16 [I 0])]),.s .own (List.replicate n [B false])]:=by
 simp[aX.enc,aH,rI,rB,List.map_replicate]
def JZ(n:Nat):Mj [.s .own (List.replicate n [.z]),.s .own (List.replicate n [.z]),B true] (aN.enc .own (ew n)++[B true]):=by
 have e:aN.enc .own (ew n)++[B true]=[.s .own (List.replicate n [.s .own []]),.s .own (List.replicate n [.s .own []]),B true]:=by simp[aN.enc,ew,cF,aH,List.map_replicate]
 rw[e];exact .cons (.rep (.cons .z_ .nil)) (.cons (.rep (.cons .z_ .nil)) (.cons (.rfl_ _) .nil))
def Qr(n:Nat)(b:1<=n/\n<=4):zzA 200 false [.val none [I (n:Nat)]] (.tup [some 2,none]) (aN.enc .own (ew n)++[B true]):=by
 have a:=aO ((n:Nat):Int) 1 4;rw[O0 ω]at a;refine fO 13 [(3,4,[8,9,10,11])] Tryz.func200 rfl ?_ (.inr (aW (aN.enc_fr _) ⟨trivial,trivial⟩))
 repeat'((conv=>whnf);first|with_reducible (first|refine Lm ?_|refine Wm ω ?_|refine Bn ?_|refine jX.dk rfl ?_)|refine Bt ?_|refine Bu ?_|refine CB ?_|refine C8 (a) ?_|refine Mk.mk n rfl rfl ω (yJ ω (by decide)) rfl ?_)
 exact JZ n
def DM(n:Nat)(b:1<=n/\n<=4):zzA 413 false [.val none [I (n:Nat)]] (.tup [some 2,none]) (aN.enc .own (ew n)++[B true]):=by
 have a:=aJ ((n:Nat):Int) 1 4;rw[O0 ω]at a;refine fO 13 [(3,4,[8,9,10,11])] Tryz.func413 rfl ?_ (.inr (aW (aN.enc_fr _) ⟨trivial,trivial⟩))
 repeat'((conv=>whnf);first|with_reducible (first|refine Lm ?_|refine Wm ω ?_|refine Bn ?_|refine jX.dk rfl ?_)|refine Bt ?_|refine Bu ?_|refine CB ?_|refine C8 (a) ?_|refine Mk.mk n rfl rfl ω (yJ ω (by decide)) rfl ?_)
 exact JZ n
def LW:Mj [.s .own (List.replicate 4 [.z])] (aE.enc .own fB):=.cons (.rep (.cons .z_ .nil)) .nil
def zP:zzA 414 false [] .agg (aE.enc .own fB):=by
 refine fO 3 [] Tryz.func414 rfl ?_ (.inr (aE.enc_fr _))
 repeat'((conv=>whnf);first|with_reducible (first|refine Lm ?_|refine Wm ω ?_|refine Bn ?_|refine jX.dk rfl ?_)|refine Bt ?_|refine Bu ?_|refine CB ?_|refine Mk.mk 4 rfl rfl (by decide) (by decide) rfl ?_)
 exact LW
def sg:zzA 415 false [.val none [I 16]] (.tup [some 2,none]) (bM.enc .own ⟨16,[]⟩++[B true]):=by
 refine fO 10 [] Tryz.func415 rfl ?_ (.inr (aW (bM.enc_fr _) ⟨trivial,trivial⟩))
 repeat'((conv=>whnf);first|with_reducible (first|refine Lm ?_|refine Wm ω ?_|refine Bn ?_|refine jX.wk rfl ?_)|refine Bt ?_|refine Bu ?_|refine CB ?_|refine C8 (aJ 16 0 500) ?_)
 exact⟨rfl,rfl,rfl,trivial⟩
def caps(h:ac)(k:Nat):ac:={h with S:=List.replicate k fB}
def Ls(k:Nat):(List.replicate (k+1) fB).map (aE.enc .own)=(List.replicate k fB).map (aE.enc .own)++[aE.enc .own fB]:=by rw[EN,X5];rfl
def LO{k:Nat} : ∀r∈(List.replicate k fB).map (aE.enc .own),r.length=1:=aV λ_=>rfl
def Qb(x:List bD):fz (.s .own (x.map (bD.enc .own)))=.s .V (x.map (bD.enc .V)):=(List.cons.inj (List.cons.inj (Cg ⟨0,x⟩)).2).1
def fo:∀a b:List C,dJ (a++b)=dJ a++dJ b
 | [],_=>rfl
 | x::xs,b=>by show fz x::dJ (xs++b)=fz x::(dJ xs++dJ b);rw[fo xs b]
def eI(r:aC)(c:aC.sml r):zzA 281 false [.val (some 2) (aC.enc .V r)] .agg (aC.enc .own r):=by
 have e:r.O.length<=1048576:=c.1;refine fO 36 [(5,272,[15,16,17,18,19,20,21,22,23,24,25,26,27,28,29,34,0,1,2,3,4,5,6,7,8,9,10,11,12,13,14,15,1000,1001,1002,1003,1004,1005,1006,1007,16,1000,1001,17,1000,1001,18,19,20])] Tryz.func281 rfl ?_ (.inr (aC.enc_fr _))
 repeat'(first|refine gP ?_|(conv=>whnf);first|refine CB ?_)
 (conv=>whnf)
 refine CJ (ι:=Nat) (λi=>[(1,.H .box (aC.enc .V r)),(2,.H .box [I 0,.z]),(3,.H .box [I r.b,.s .own ((r.O.take i).map (bD.enc .own))]),(4,.H .one [I ((i:Nat):Int)])]) (λi=>i<=r.O.length) (λi=>r.O.length - i) (0) ?_ (W0 _) λi g=>?_
 ·exact wC
 by_cases b:i<r.O.length
 ·have d:=au b
  have a:(nth r.O i).T.length<=1048576:=c.2 _ (ar b)
  repeat'(first|refine gE ?_|(conv=>whnf);first|with_reducible refine CD (aa d) ?_|refine CB ?_|refine CH rfl (aa d) rfl ?_|refine CX (λ_=>rfl) (λ_=>rfl) a (by decide) ?_|refine CR (λ_=>rfl) (λ_=>rfl) a (by decide) ?_|refine CB ?_|refine Ap.sn (aV λ_=>rfl) rfl (by simp;omega) (by decide) (fE b) ?_)
  ((conv=>whnf);refine CE (i+1) ω ω ?_;(exact wC))
 repeat'(first|refine gE ?_|(conv=>whnf);first|refine CB ?_)
 obtain rfl:i=r.O.length:=ω
 rw[C5]
 rfl
def ix(r:aC)(id:Int)(g:r.O.length<=1048576):zzA 516 false [.val (some 2) (aC.enc .V r),.val none [I id]] .one [I (oI r id)]:=by
 refine fO 22 [] Tryz.func516 rfl ?_
 repeat'(first|refine gP ?_|(conv=>whnf);first|refine CB ?_)
 (conv=>whnf)
 refine CJ (ι:=Nat) (λi=>[(1,.H .one [I (id)]),(2,.H .box (aC.enc .V r)),(5,.H .one [I ((i:Nat):Int)])]) (λi=>i<=r.O.length/\∀(j:Nat)(z:bD),j<i->r.O[j]? = some z->n6 id z=false) (λi=>r.O.length - i) (0) ?_ (⟨W0 _,λj z h=>ω⟩) λi c=>?_
 ·exact wC
 obtain⟨c,b⟩:=c;by_cases d:i<r.O.length
 ·have a:=au d
  by_cases e:(nth r.O i).Id=id
  ·repeat'(first|refine gB ?_|(conv=>whnf);first|with_reducible refine CD (aa a) ?_|refine CB ?_|refine CH rfl (aa a) rfl ?_)
   exact X0 (λz=>[I z]) (dN a (O0 e) b).symm
  repeat'(first|refine gB ?_|(conv=>whnf);first|with_reducible refine CD (aa a) ?_|refine CB ?_|refine CH rfl (aa a) rfl ?_)
  ((conv=>whnf);refine CE (i+1) ⟨ω,dX a (U0 e) b⟩ ω ?_;(exact wC))
 repeat'(first|refine gE ?_|(conv=>whnf);first|refine CB ?_)
 exact X0 (λz=>[I z]) (gc ω b).symm
def nU(r:aC)(c:C)(h:PH c):hC (aC.enc .own r++[c]):=aW (aC.enc_fr _) ⟨h,trivial⟩
def zd(r:aC)(n:Int)(m:Nat)(b:sC r m)(h:m<=1000)(c:1<=n/\n<=1000):zzA 273 false [.val (some 2) (aC.enc .V r),.val none [I n]] (.tup [some 2,none]) (aC.enc .V (iE r n)++[I r.b]):=by
 have i:=b.sml h;have d:=b.len;have j:=b.nx;have k:=eI r i;have e:=aJ n 1 1000;rw[O0 c]at e;have key:zzA 273 false [.val (some 2) (aC.enc .V r),.val none [I n]] (.tup [some 2,none]) (aC.enc .own (iE r n)++[I r.b]):=by
  have a:=nU (iE r n) (I r.b) trivial;unfold iE at a |-;rw[CC c]at a |-;have l:aC.enc .own {r with b:=r.b+1,O:=r.O++[⟨r.b,List.replicate n.toNat 0⟩]} = [I (r.b+1),.s .own (r.O.map (bD.enc .own)++[[I r.b,.s .own (List.replicate n.toNat [I 0])]])]:=by
   simp[aC.enc,bD.enc,rI]
  rw[l]at a |-;refine fO 30 [(4,263,[13,14,15,16,17,18,22,0,1,2,3,4,5,6,1000,1001,7,1000,1001,8,9,10]),(6,259,[27,28,29,0,1,2,3,1001,1002,4])] Tryz.func273 rfl ?_ (.inr a)
  repeat'(first|refine gP ?_|(conv=>whnf);first|refine CB ?_|refine C8 (k) ?_|refine C8 (e) ?_|refine Mk.mk n.toNat ω ω ω (yJ ω (by decide)) rfl ?_|refine CB ?_|refine Ap.sn (aV λ_=>rfl) rfl (by simp;omega) (by decide) rfl ?_)
  (conv=>whnf)
  rfl
 have g:=key.fzR;rw[fo,Cg]at g;exact g
def DV(r:aC)(id:Int)(m:Nat)(d:sC r m)(k:m<=1000):zzA 417 true [.val (some 2) (aC.enc .V r),.val none [I id]] (.tup [some 2,none]) (aC.enc .V (jD r id)++[B (!decide (oI r id<0))]):=by
 have g:=d.sml k;have h:=d.len;have i:=eI r g;have b:=ix r id g.1;by_cases e:oI r id<0
 ·have key:zzA 417 true [.val (some 2) (aC.enc .V r),.val none [I id]] (.tup [some 2,none]) (aC.enc .own r++[B false]):=by
   refine fO 30 [(5,267,[16,17,18,19,20,22,23,24,25,26,28,0,1,2,3,4,6,7,8,9,10,5,1006,1007,1008,1009,1010,11,12,13]),(1048581,6,[1])] Tryz.func417 rfl ?_ (.inl rfl)
   repeat'(first|refine gE ?_|(conv=>whnf);first|refine CB ?_|refine C8 (i) ?_|refine C8 (b) ?_)
   rfl
  have a:=key.fzR;rw[fo,Cg]at a;unfold jD;rw[CC e,O0 e];exact a
 have n:jD r id = {r with O:=dele r.O (oI r id).toNat}:=by unfold jD;rw[C9 e]
 obtain⟨t,u,w⟩:=fC (n6 id) r.O (by unfold oI at e;omega);obtain⟨j,c⟩:=z3 (show 0<=oI r id by omega);have o:j<r.O.length:=by unfold oI at c;omega
 have key:zzA 417 true [.val (some 2) (aC.enc .V r),.val none [I id]] (.tup [some 2,none]) ([I r.b,.s .own ((dele r.O j).map (bD.enc .V))]++[B true]):=by
  rw[c]at b;refine fO 30 [(5,267,[16,17,18,19,20,22,23,24,25,26,28,0,1,2,3,4,6,7,8,9,10,5,1006,1007,1008,1009,1010,11,12,13]),(1048581,6,[1])] Tryz.func417 rfl ?_ (.inl rfl)
  repeat'(first|refine gE ?_|(conv=>whnf);first|refine CB ?_|refine C8 (i) ?_|refine C8 (b) ?_|refine Hy.mk rfl (Qb r.O) rfl ?_|refine CY j rfl (by rw[C1];omega) (aV λ_=>rfl) C4 ?_|refine Sl.suf (j+1) ω (by rw[C1];omega) (aV λ_=>rfl) I4 ?_|refine CR (λ_=>rfl) (λ_=>rfl) (by rw[V1];omega) (by decide) ?_|refine CX (λ_=>rfl) (λ_=>rfl) (by rw[V1];omega) (by decide) ?_|refine Ap.dele (λ_=>rfl) (λ_=>rfl) ω (by decide) ?_|refine CB ?_)
  rfl
 have a:=key.fzR;have p:dJ ([I r.b,.s .own ((dele r.O j).map (bD.enc .V))]++[B true])=aC.enc .V (jD r id)++[B (!decide (oI r id<0))]:=by
  have:∀l:List bD,fzR (l.map (bD.enc .V))=l.map (bD.enc .V):=λl=>by
   induction l with
   | nil=>rfl
   | cons x xs q=>rw[Z5,fzR,q,<-bD.enc_fz,sD]
  rw[n,c,U0 ω];simp[dJ,fz,aC.enc,this]
 rw[p]at a;exact a
def zO(r:aC)(id a v:Int)(m:Nat)(o:sC r m)(D:m<=1000)(h:0<=oI r id)(c:0<=a/\a<=(nth r.O (oI r id).toNat).T.length - 1)(p:0<=v/\v<=999):zzA 419 false [.val (some 2) (aC.enc .V r),.val none [I id],.val none [I a],.val none [I v]] (.tup [some 2,none]) (aC.enc .V (eC r id a v)++[B true]):=by
 have k:=o.sml D;have q:=o.len;have E:=eI r k;have t:=ix r id k.1;obtain⟨J,K,L⟩:=fC (n6 id) r.O h;obtain⟨j,l⟩:=z3 h;have d:j<r.O.length:=by unfold oI at l;omega
 have e:=au d;have F:(nth r.O j).T.length<=1048576:=k.2 _ (ar d);obtain⟨b,g⟩:=z3 c.1;have G:eC r id a v = {r with O:=r.O.set j ⟨(nth r.O j).Id,(nth r.O j).T.set b v⟩}:=by
  unfold eC;rw[CC ⟨h,c,p⟩,l,g];rfl
 rw[l]at t c;rw[g]at c |-;simp only[Z2]at c;have u:=au (xs:=(nth r.O j).T) (i:=b) ω;have w:=aJ (b:Nat) 0 (((nth r.O j).T.length:Nat) - 1:Int);rw[O0 ω]at w;have y:=aJ v 0 999;rw[O0 p]at y;have key:zzA 419 false [.val (some 2) (aC.enc .V r),.val none [I id],.val none [I (b:Nat)],.val none [I v]] (.tup [some 2,none]) (aC.enc .own (eC r id (b:Nat) v)++[B true]):=by
  have n:=nU (eC r id (b:Nat) v) (B true) trivial;rw[<-g,G]at n |-;have H:aC.enc .own {r with O:=r.O.set j ⟨(nth r.O j).Id,(nth r.O j).T.set b v⟩} = [I r.b,.s .own ((r.O.map (bD.enc .own)).set j [I (nth r.O j).Id,.s .own (((nth r.O j).T.map (rI .own)).set b [I v])])]:=by
   simp[aC.enc,bD.enc,rI,I6]
  rw[H]at n |-;rw[g];refine fO 48 [] Tryz.func419 rfl ?_ (.inr n)
  repeat'(first|refine gE ?_|(conv=>whnf);first|with_reducible (first|refine CD (aa e) ?_|refine CD (aa u) ?_|refine CN ω (aa e) ?_)|refine CB ?_|refine C8 (E) ?_|refine C8 (t) ?_|refine C8 (w) ?_|refine C8 (y) ?_|refine CH rfl (aa e) rfl ?_|refine Pu.two rfl rfl (aa e) rfl rfl rfl (aa u) rfl (I3 _) rfl ?_)
  rfl
 have C:=key.fzR;rw[fo,Cg]at C;exact C
def Dz(r:aC)(id n:Int)(m:Nat)(l:sC r m)(u:m<=1000)(g:0<=oI r id)(c:1<=n/\n<=(nth r.O (oI r id).toNat).T.length):zzA 421 false [.val (some 2) (aC.enc .V r),.val none [I id],.val none [I n]] (.tup [some 2,none]) (aC.enc .V (f8 r id n)++[B true]):=by
 have h:=l.sml u;have o:=l.len;have w:=eI r h;have p:=ix r id h.1;obtain⟨E,F,G⟩:=fC (n6 id) r.O g;obtain⟨j,i⟩:=z3 g;have a:j<r.O.length:=by unfold oI at i;omega
 have d:=au a;have y:(nth r.O j).T.length<=1048576:=h.2 _ (ar a);obtain⟨b,e⟩:=z3 (show 0<=n by omega);have C:f8 r id n = {r with O:=r.O.set j ⟨(nth r.O j).Id,(nth r.O j).T.take b⟩}:=by
  unfold f8;rw[CC ⟨g,c⟩,i,e];rfl
 rw[i]at p c;rw[e]at c |-;simp only[Z2]at c;have q:=aJ (b:Nat) 1 (((nth r.O j).T.length:Nat):Int);rw[O0 ω]at q;have key:zzA 421 false [.val (some 2) (aC.enc .V r),.val none [I id],.val none [I (b:Nat)]] (.tup [some 2,none]) (aC.enc .own (f8 r id (b:Nat))++[B true]):=by
  have k:=nU (f8 r id (b:Nat)) (B true) trivial;rw[<-e,C]at k |-;have D:aC.enc .own {r with O:=r.O.set j ⟨(nth r.O j).Id,(nth r.O j).T.take b⟩} = [I r.b,.s .own ((r.O.map (bD.enc .own)).set j [I (nth r.O j).Id,.s .own (((nth r.O j).T.take b).map (rI .V))])]:=by
   simp only[aC.enc,I6]
   rfl
  rw[D]at k |-;rw[e];refine fO 46 [(5,270,[30,31,32,33,34,35,36,37,38,39,40,41,43,44,0,1,2,3,4,5,6,7,8,9,10,11,12,1000,1001,1002,13,14,15])] Tryz.func421 rfl ?_ (.inr k)
  repeat'(first|refine gE ?_|(conv=>whnf);first|with_reducible (first|refine CD (aa d) ?_|refine CN ω (aa d) ?_)|refine CB ?_|refine C8 (w) ?_|refine C8 (p) ?_|refine C8 (q) ?_|refine CH rfl (aa d) rfl ?_|refine CY b rfl (by rw[C1];omega) (aV λ_=>rfl) C4 ?_|refine CX (λ_=>rfl) (λ_=>rfl) (by rw[V1];omega) (by decide) ?_|refine CR (λ_=>rfl) (λ_=>rfl) (by rw[V1];omega) (by decide) ?_|refine CB ?_|refine CP rfl rfl (aa d) rfl (I1 rfl) rfl ?_)
  rfl
 have t:=key.fzR;rw[fo,Cg]at t;exact t
def D5(r:aC)(id a v:Int)(m:Nat)(h:sC r m)(l:m<=1000)(u:0<=v/\v<=999):∃b:Bool,zzA 419 false [.val (some 2) (aC.enc .V r),.val none [I id],.val none [I a],.val none [I v]] (.tup [some 2,none]) (aC.enc .V (eC r id a v)++[B b]):=by
 by_cases i:0<=oI r id
 ·by_cases d:0<=a/\a<=(nth r.O (oI r id).toNat).T.length - 1
  ·exact⟨true,zO r id a v m h l i d u⟩
  refine⟨false,?_⟩;have c:=h.sml l;have o:=h.len;have n:=eI r c;have k:=ix r id c.1;obtain⟨C,D,E⟩:=fC (n6 id) r.O i;obtain⟨j,p⟩:=z3 i;have e:j<r.O.length:=by unfold oI at p;omega
  have q:=au e;have w:(nth r.O j).T.length<=1048576:=c.2 _ (ar e);have y:eC r id a v=r:=by unfold eC;rw[C9 (λx=>d x.2.1)]
  rw[p]at k d;simp only[Z2]at d;have t:=aJ a 0 (((nth r.O j).T.length:Nat) - 1:Int);rw[U0 d]at t;rw[y];have key:zzA 419 false [.val (some 2) (aC.enc .V r),.val none [I id],.val none [I a],.val none [I v]] (.tup [some 2,none]) (aC.enc .own r++[B false]):=by
   refine fO 48 [] Tryz.func419 rfl ?_ (.inr (nU r (B false) trivial))
   repeat'(first|refine gE ?_|(conv=>whnf);first|with_reducible refine CD (aa q) ?_|refine CB ?_|refine C8 (n) ?_|refine C8 (k) ?_|refine C8 (t) ?_|refine CH rfl (aa q) rfl ?_)
   rfl
  have g:=key.fzR;rw[fo,Cg]at g;exact g
 refine⟨false,?_⟩;have c:=h.sml l;have n:=eI r c;have k:=ix r id c.1;rw[show eC r id a v=r by unfold eC;rw[C9 (λx=>i x.1)]];have key:zzA 419 false [.val (some 2) (aC.enc .V r),.val none [I id],.val none [I a],.val none [I v]] (.tup [some 2,none]) (aC.enc .own r++[B false]):=by
  refine fO 48 [] Tryz.func419 rfl ?_ (.inr (nU r (B false) trivial))
  repeat'(first|refine gE ?_|(conv=>whnf);first|refine CB ?_|refine C8 (n) ?_|refine C8 (k) ?_)
  rfl
 have g:=key.fzR;rw[fo,Cg]at g;exact g
def Eu(r:aC)(id n:Int)(m:Nat)(g:sC r m)(k:m<=1000):∃b:Bool,zzA 421 false [.val (some 2) (aC.enc .V r),.val none [I id],.val none [I n]] (.tup [some 2,none]) (aC.enc .V (f8 r id n)++[B b]):=by
 by_cases h:0<=oI r id
 ·by_cases c:1<=n/\n<=(nth r.O (oI r id).toNat).T.length
  ·exact⟨true,Dz r id n m g k h c⟩
  refine⟨false,?_⟩;have a:=g.sml k;have o:=g.len;have l:=eI r a;have i:=ix r id a.1;obtain⟨y,C,D⟩:=fC (n6 id) r.O h;obtain⟨j,p⟩:=z3 h;have d:j<r.O.length:=by unfold oI at p;omega
  have q:=au d;have u:(nth r.O j).T.length<=1048576:=a.2 _ (ar d);have w:f8 r id n=r:=by unfold f8;rw[C9 (λx=>c x.2)]
  rw[p]at i c;simp only[Z2]at c;have t:=aJ n 1 (((nth r.O j).T.length:Nat):Int);rw[U0 c]at t;rw[w];have key:zzA 421 false [.val (some 2) (aC.enc .V r),.val none [I id],.val none [I n]] (.tup [some 2,none]) (aC.enc .own r++[B false]):=by
   refine fO 46 [(5,270,[30,31,32,33,34,35,36,37,38,39,40,41,43,44,0,1,2,3,4,5,6,7,8,9,10,11,12,1000,1001,1002,13,14,15])] Tryz.func421 rfl ?_ (.inr (nU r (B false) trivial))
   repeat'(first|refine gE ?_|(conv=>whnf);first|with_reducible refine CD (aa q) ?_|refine CB ?_|refine C8 (l) ?_|refine C8 (i) ?_|refine C8 (t) ?_|refine CH rfl (aa q) rfl ?_)
   rfl
  have e:=key.fzR;rw[fo,Cg]at e;exact e
 refine⟨false,?_⟩;have a:=g.sml k;have l:=eI r a;have i:=ix r id a.1;rw[show f8 r id n=r by unfold f8;rw[C9 (λx=>h x.1)]];have key:zzA 421 false [.val (some 2) (aC.enc .V r),.val none [I id],.val none [I n]] (.tup [some 2,none]) (aC.enc .own r++[B false]):=by
  refine fO 46 [(5,270,[30,31,32,33,34,35,36,37,38,39,40,41,43,44,0,1,2,3,4,5,6,7,8,9,10,11,12,1000,1001,1002,13,14,15])] Tryz.func421 rfl ?_ (.inr (nU r (B false) trivial))
  repeat'(first|refine gE ?_|(conv=>whnf);first|refine CB ?_|refine C8 (l) ?_|refine C8 (i) ?_)
  rfl
 have e:=key.fzR;rw[fo,Cg]at e;exact e
structure iC where
 i:Nat
 h:Int
deriving Inhabited
def w64(x:Int):Int:=IntKind.i64.wrap x
def Ta(h:Int):Int:=w64 (w64 (h*6364136223846793005)+1442695040888963407)
def R5(a b:Int):Int:=w64 ((BitVec.ofInt IntKind.i64.bits a ^^^ BitVec.ofInt IntKind.i64.bits b).toNat:Nat)
def and255(a:Int):Int:=w64 ((BitVec.ofInt IntKind.i64.bits a &&& BitVec.ofInt IntKind.i64.bits 255).toNat:Nat)
def P5(h:Int)(n:Nat):Int:=h.fdiv (2 ^ (min n IntKind.i64.bits))
def Aj(h:Int):Int:=and255 (R5 (P5 h 33) (P5 h 45))
def Bj(a:Int):0<=and255 a/\and255 a<=255:=by
 have b:(BitVec.ofInt IntKind.i64.bits a &&& BitVec.ofInt IntKind.i64.bits 255).toNat<=255:=by
  rw[BitVec.toNat_and];exact Z4 Nat.and_le_right (by decide)
 unfold and255 w64;rw[fQ ω ω];omega
def dA(zs:List Int)(c:iC):Int × iC:=if c.i<zs.length then(and255 (Aj (Ta c.h)+nth zs c.i),⟨c.i+1,Ta c.h⟩) else(Aj (Ta c.h),⟨c.i,Ta c.h⟩)
def sB(zs:List Int)(c:iC):0<=(dA zs c).1/\(dA zs c).1<=255:=by
 unfold dA;split<;>exact Bj _
variable{zs:List Int}
def iK{c:iC}(h:c.i<=zs.length):(dA zs c).2.i<=zs.length:=by
 unfold dA;split
 ·simp only;omega
 exact h
def Ao(zs:List Int)(c:iC):Int × iC:=
 ((dA zs c).1*16777216+(dA zs (dA zs c).2).1*65536+(dA zs (dA zs (dA zs c).2).2).1*256+(dA zs (dA zs (dA zs (dA zs c).2).2).2).1,(dA zs (dA zs (dA zs (dA zs c).2).2).2).2)
def bw(zs:List Int)(c:iC)(n:Int):Int × iC:=if n<=256 then((dA zs c).1 % n,(dA zs c).2) else((Ao zs c).1 % n,(Ao zs c).2)
def bJ(zs:List Int)(c:iC){n:Int}(h:1<=n):0<=(bw zs c n).1/\(bw zs c n).1<n:=by
 unfold bw;split<;>exact⟨Int.emod_nonneg _ ω,Int.emod_lt_of_pos _ ω⟩
def bT{c:iC}(h:c.i<=zs.length)(n:Int):(bw zs c n).2.i<=zs.length:=by
 unfold bw;split
 ·exact iK h
 exact iK (iK (iK (iK h)))
def lw(zs:List Int)(c:iC)(l:List Int):Int × iC:=(nth l (bw zs c (l.length:Nat)).1.toNat,(bw zs c (l.length:Nat)).2)
def pJ(zs:List Int)(c:iC){l:List Int}(h:1<=l.length):(lw zs c l).1∈l:=by
 have:=bJ zs c (n:=(l.length:Nat)) ω;exact ar ω
def po(zs:List Int):Nat->Nat->List Int->iC->List Int × iC
 | 0,_,out,c=>(out,(bw zs c 4).2)
 | f+1,i,out,c=>if(i:Int)<(bw zs c 4).1 then po zs f (i+1) (out++[(bw zs (bw zs c 4).2 12).1]) (bw zs (bw zs c 4).2 12).2 else(out,(bw zs c 4).2)
def PD(zs:List Int)(c:iC):List Int × iC:=po zs 4 0 [] c
def JW(zs:List Int):∀(f i:Nat)(out:List Int)(c:iC),(∀x∈out,0<=x)->out.length+f<=4->c.i<=zs.length->(∀x∈(po zs f i out c).1,0<=x)/\(po zs f i out c).1.length<=4/\(po zs f i out c).2.i<=zs.length
 | 0,_,out,c,b,e,d=>⟨b,by show out.length<=4;omega,bT d _⟩
 | f+1,i,out,c,b,e,d=>by
  unfold po;split
  ·refine JW zs f (i+1) _ _ (λx a=>?_) (by simp only[U3,List.length_singleton];omega) (bT (bT d _) _)
   rcases C3.1 a with a|a
   ·exact b x a
   rw[O1.1 a];exact(bJ zs _ (by decide)).1
  exact⟨b,by show out.length<=4;omega,bT d _⟩
def zc(zs:List Int)(c:iC):Int × iC:=bw zs c 7
def FN(zs:List Int)(c:iC):Int × iC:=bw zs (zc zs c).2 3
def Hs(zs:List Int)(c:iC):Int × iC:=bw zs (FN zs c).2 100
def DP(zs:List Int)(c:iC):Int × iC:=bw zs (Hs zs c).2 4
def QQ(zs:List Int)(c:iC):List Int × iC:=PD zs (DP zs c).2
def qR(zs:List Int)(c:iC):cG:=⟨(6+(zc zs c).1).toNat,(6+(zc zs c).1 - (DP zs c).1).toNat,(1+(FN zs c).1).toNat,40+(Hs zs c).1,(QQ zs c).1⟩
def p6{c:iC}(h:c.i<=zs.length):FU (qR zs c)/\(QQ zs c).2.i<=zs.length:=by
 have a:=bJ zs c (n:=7) (by decide);have b:=bJ zs (zc zs c).2 (n:=3) (by decide);have d:=bJ zs (FN zs c).2 (n:=100) (by decide);have e:=bJ zs (Hs zs c).2 (n:=4) (by decide);change 0<=(zc zs c).1/\(zc zs c).1<7 at a;change 0<=(FN zs c).1/\(FN zs c).1<3 at b;change 0<=(Hs zs c).1/\(Hs zs c).1<100 at d;change 0<=(DP zs c).1/\(DP zs c).1<4 at e;obtain⟨f,k,g⟩:=JW zs 4 0 [] (DP zs c).2 (λx j=>by cases j) (by simp) (bT (bT (bT (bT h _) _) _) _);refine⟨⟨?_,?_,?_,?_,?_⟩,g⟩
 ·show 1<=(6+(zc zs c).1).toNat/\(6+(zc zs c).1).toNat<=32;omega
 ·show 1<=(6+(zc zs c).1 - (DP zs c).1).toNat/\(6+(zc zs c).1 - (DP zs c).1).toNat<=32;omega
 ·show 1<=(1+(FN zs c).1).toNat/\(1+(FN zs c).1).toNat<=4;omega
 ·show 0<=40+(Hs zs c).1/\40+(Hs zs c).1<=1000;omega
 exact⟨by show(po zs 4 0 [] (DP zs c).2).1.length<=40;omega,f⟩
def Ad(zs:List Int)(c:iC):Int × iC:=bw zs c 3
def Gt(zs:List Int)(c:iC)(ids:Int):Int × iC:=bw zs (Ad zs c).2 ids
def lG(zs:List Int)(c:iC)(ids:Int):Int × iC:=bw zs (Gt zs c ids).2 20
def szs:List Int:=[1,1,2,2,3,4,4,5,8,9,20]
def tc(zs:List Int)(c:iC)(ids:Int):eG × iC:=
 if(lG zs c ids).1<=6 then(⟨1,(Ad zs c).1,(lw zs (lG zs c ids).2 szs).1,0,0⟩,(lw zs (lG zs c ids).2 szs).2)
 else if(lG zs c ids).1<=9 then(⟨2,(Ad zs c).1,1+(Gt zs c ids).1,0,0⟩,(lG zs c ids).2)
 else if(lG zs c ids).1<=12 then(⟨3,(Ad zs c).1,1+(Gt zs c ids).1,(bw zs (lG zs c ids).2 4).1,1+(bw zs (bw zs (lG zs c ids).2 4).2 999).1⟩,(bw zs (bw zs (lG zs c ids).2 4).2 999).2)
 else if(lG zs c ids).1=13 then(⟨4,(Ad zs c).1,1+(Gt zs c ids).1,0,9+(bw zs (lG zs c ids).2 10).1⟩,(bw zs (lG zs c ids).2 10).2)
 else if(lG zs c ids).1=14 then(⟨(lw zs (lG zs c ids).2 [5,6]).1,(Ad zs c).1,1+(Gt zs c ids).1,0,0⟩,(lw zs (lG zs c ids).2 [5,6]).2)
 else if(lG zs c ids).1=15 then(⟨7,(Ad zs c).1,1+(Gt zs c ids).1,0,0⟩,(lG zs c ids).2)
 else if(lG zs c ids).1=16 then(⟨8,(Ad zs c).1,(lw zs (lG zs c ids).2 [1,30,60,120]).1,0,0⟩,(lw zs (lG zs c ids).2 [1,30,60,120]).2)
 else if(lG zs c ids).1=17 then(⟨9,(Ad zs c).1,1+(Gt zs c ids).1,0,0⟩,(lG zs c ids).2)
 else(⟨10,(Ad zs c).1,(lw zs (lG zs c ids).2 [1,2,3,10,30]).1,0,0⟩,(lw zs (lG zs c ids).2 [1,2,3,10,30]).2)
structure Mr(a:eG):Prop where
 k:1<=a.b5/\a.b5<=10
 t:0<=a.a4/\a.a4<=1000000
 n:0<=a.N/\a.N<=1000000
 p:0<=a.At/\a.At<=1000000
 v:0<=a.Value/\a.Value<=1000000
def N4{c:iC}{ids:Int}(h:c.i<=zs.length)(b:1<=ids/\ids<=1000):Mr (tc zs c ids).1/\(tc zs c ids).2.i<=zs.length:=by
 have d:=bJ zs c (n:=3) (by decide);have e:=bJ zs (Ad zs c).2 (n:=ids) b.1;change 0<=(Ad zs c).1/\(Ad zs c).1<3 at d;change 0<=(Gt zs c ids).1/\(Gt zs c ids).1<ids at e;have a:(lG zs c ids).2.i<=zs.length:=bT (bT (bT h _) _) _;have f:=pJ zs (lG zs c ids).2 (l:=szs) (by decide);have g:=pJ zs (lG zs c ids).2 (l:=[5,6]) (by decide);have j:=pJ zs (lG zs c ids).2 (l:=[1,30,60,120]) (by decide);have k:=pJ zs (lG zs c ids).2 (l:=[1,2,3,10,30]) (by decide);have o:=bJ zs (lG zs c ids).2 (n:=4) (by decide);have p:=bJ zs (bw zs (lG zs c ids).2 4).2 (n:=999) (by decide);have q:=bJ zs (lG zs c ids).2 (n:=10) (by decide);simp only[szs,List.mem_cons,List.not_mem_nil,or_false]at f g j k;unfold tc
 repeat' split
 ·exact⟨⟨by simp only;omega,by simp only;omega,by simp only[szs];omega,by simp only;omega,by simp only;omega⟩,bT a _⟩
 ·exact⟨⟨by simp only;omega,by simp only;omega,by simp only;omega,by simp only;omega,by simp only;omega⟩,a⟩
 ·exact⟨⟨by simp only;omega,by simp only;omega,by simp only;omega,by simp only;omega,by simp only;omega⟩,bT (bT a _) _⟩
 ·exact⟨⟨by simp only;omega,by simp only;omega,by simp only;omega,by simp only;omega,by simp only;omega⟩,bT a _⟩
 ·exact⟨⟨by simp only;omega,by simp only;omega,by simp only;omega,by simp only;omega,by simp only;omega⟩,bT a _⟩
 ·exact⟨⟨by simp only;omega,by simp only;omega,by simp only;omega,by simp only;omega,by simp only;omega⟩,a⟩
 ·exact⟨⟨by simp only;omega,by simp only;omega,by simp only;omega,by simp only;omega,by simp only;omega⟩,bT a _⟩
 ·exact⟨⟨by simp only;omega,by simp only;omega,by simp only;omega,by simp only;omega,by simp only;omega⟩,a⟩
 exact⟨⟨by simp only;omega,by simp only;omega,by simp only;omega,by simp only;omega,by simp only;omega⟩,bT a _⟩
def lf(zs:List Int)(c:iC):Nat->List eG × iC
 | 0=>([],(bw zs c 41).2)
 | i+1=>((lf zs c i).1++[(tc zs (lf zs c i).2 (1+(i:Int) / 2)).1],(tc zs (lf zs c i).2 (1+(i:Int) / 2)).2)
def l8(zs:List Int)(c:iC):List eG × iC:=lf zs c (bw zs c 41).1.toNat
def pc{zs:List Int}{c:iC}(h:c.i<=zs.length):∀{n:Nat},n<=100->(lf zs c n).1.length=n/\(∀a∈(lf zs c n).1,Mr a)/\(lf zs c n).2.i<=zs.length
 | 0,_=>⟨rfl,λa b=>(by cases b),bT h _⟩
 | n+1,k=>by
  obtain⟨d,e,f⟩:=pc h (n:=n) ω;obtain⟨g,j⟩:=N4 (ids:=1+(n:Int) / 2) f ω;refine⟨by simp only[lf,U3,List.length_singleton,d],λa b=>?_,j⟩;rcases C3.1 b with b|b
  ·exact e a b
  rw[O1.1 b];exact g
def ql(zs:List Int):Nat->Int
 | 0=>w64 (98801+(zs.length:Nat))
 | i+1=>w64 ((BitVec.ofInt IntKind.i64.bits (w64 (w64 (w64 (ql zs i*131)+nth zs i)+7)) &&& BitVec.ofInt IntKind.i64.bits 1073741823).toNat:Nat)
def su(zs:List Int):iC:=⟨0,ql zs (min zs.length 4000)⟩
def dS(zs:List Int):iC:=(QQ zs (su zs)).2
def drawn(zs:List Int):bp:=(yL (qR zs (su zs)) (l8 zs (dS zs)).1 (l8 zs (dS zs)).1.length).1
def y8(zs:List Int):rP (drawn zs) 40:=by
 have a:(su zs).i<=zs.length:=W0 _;obtain⟨b,d⟩:=p6 a;have f:=bJ zs (dS zs) (n:=41) (by decide);obtain⟨e,-,-⟩:=pc (zs:=zs) (c:=dS zs) d (n:=(bw zs (dS zs) 41).1.toNat) ω;refine(ui b _ _).more ?_;show(lf zs (dS zs) _).1.length<=40;rw[e];omega
def rU(z:Int):List C:=[.v (.int .u8 z)]
def iv(zs:List Int)(c:iC):List C:=[.s .V (zs.map rU),I (c.i:Nat),I c.h]
def jj(zs:List Int):Prop:=zs.length<=1048576/\∀z∈zs,0<=z/\z<=255
def kC(zs:List Int)(c:iC)(e:jj zs)(w:c.i<=zs.length):zzB 180 false [.ptr (iv zs c)] [.ptr (iv zs (dA zs c).2)] .one [I (dA zs c).1]:=by
 have g:IntKind.i64.wrap (c.h*6364136223846793005)=w64 (c.h*6364136223846793005):=rfl;have b:IntKind.i64.wrap (w64 (c.h*6364136223846793005)+1442695040888963407)=Ta c.h:=rfl;have o:=e.1;generalize p:Ta c.h=H at b;have j:H.fdiv (2 ^ (min (33:Int).toNat IntKind.i64.bits))=P5 H 33:=rfl;have k:H.fdiv (2 ^ (min (45:Int).toNat IntKind.i64.bits))=P5 H 45:=rfl;have l:IntKind.i64.wrap (BitVec.ofInt IntKind.i64.bits (P5 H 33) ^^^ BitVec.ofInt IntKind.i64.bits (P5 H 45)).toNat=R5 (P5 H 33) (P5 H 45):=rfl;have d:IntKind.i64.wrap (BitVec.ofInt IntKind.i64.bits (R5 (P5 H 33) (P5 H 45)) &&& BitVec.ofInt IntKind.i64.bits 255).toNat=Aj H:=rfl;have r:0<=Aj H/\Aj H<=255:=Bj _;unfold dA;rw[p];generalize Aj H=y at d r |-;refine fM 58 [] [(2,10,[13,14,15,16,17,18,19,20,21,22]),(3,9,[25,26,27,28,29,30,31,32,33]),(4,12,[35,36,37,38,39,40,41,42,43,44,45,46])] [(0,0)] Tryz.func180 rfl (λu q=>?_);by_cases a:c.i<zs.length
 ·rw[CC a]
  have n:=au a;have B:=e.2 _ (ar a);have t:IntKind.i64.wrap (BitVec.ofInt IntKind.i64.bits (y+nth zs c.i) &&& BitVec.ofInt IntKind.i64.bits 255).toNat=and255 (y+nth zs c.i):=rfl
  repeat'(first|refine gE ?_|(conv=>whnf);first|with_reducible (first|refine CM g ?_|refine CM b ?_|refine CM l ?_|refine CM d ?_|refine CM t ?_|refine CD (aa n) ?_|refine CO (by decide) ?_|refine CS j ?_|refine CS k ?_)|refine CH rfl (aa n) rfl ?_|refine CB ?_)
  refine CG rfl rfl ?_;exact wB
 rw[C9 a]
 repeat'(first|refine gE ?_|(conv=>whnf);first|with_reducible (first|refine CM g ?_|refine CM b ?_|refine CM l ?_|refine CM d ?_|refine CO (by decide) ?_|refine CS j ?_|refine CS k ?_)|refine CB ?_)
 refine CG rfl rfl ?_;exact wB
def bS(zs:List Int)(c:iC)(n:Int)(b:jj zs)(d:c.i<=zs.length)(p:1<=n):zzB 61 false [.ptr (iv zs c),.val none [I n]] [.ptr (iv zs (bw zs c n).2),.val none [I n]] .one [I (bw zs c n).1]:=by
 have j:=sB zs c;have g:=kC zs c b d;unfold bw;refine fM 37 [(180,[2])] [] [(0,0),(0,0)] Tryz.func61 rfl (λu q=>?_);by_cases h:n<=256
 ·rw[CC h]
  have a:(dA zs c).1.tmod n=(dA zs c).1 % n:=Int.tmod_eq_emod_of_nonneg j.1
  repeat'(first|refine gE ?_|(conv=>whnf);first|with_reducible (first|refine CS a ?_|refine Bf.D (λe=>?_) (λe=>?_))|refine CK (g) (.inl rfl) ?_|refine CO ω ?_)
  refine CG rfl rfl ?_;exact wB
 rw[C9 h];have r:=sB zs (dA zs c).2;have t:=sB zs (dA zs (dA zs c).2).2;have w:=sB zs (dA zs (dA zs (dA zs c).2).2).2;have k:=kC zs (dA zs c).2 b (iK d);have l:=kC zs (dA zs (dA zs c).2).2 b (iK (iK d));have o:=kC zs (dA zs (dA zs (dA zs c).2).2).2 b (iK (iK (iK d)));have a:(Ao zs c).1.tmod n=(Ao zs c).1 % n:=Int.tmod_eq_emod_of_nonneg (by unfold Ao;simp only;omega);unfold Ao at a |-;simp only at a
 repeat'(first|refine gE ?_|(conv=>whnf);first|with_reducible (first|refine CS a ?_|refine Bf.D (λe=>?_) (λe=>?_))|refine CK (g) (.inl rfl) ?_|refine CK (k) (.inl rfl) ?_|refine CK (l) (.inl rfl) ?_|refine CK (o) (.inl rfl) ?_|refine CO ω ?_)
 refine CG rfl rfl ?_;exact wB
def LK(zs:List Int)(c:iC)(l:List Int)(b:jj zs)(d:c.i<=zs.length)(g:1<=l.length/\l.length<=1000):zzB 402 false [.ptr (iv zs c),.val none (aH .V l)] [.ptr (iv zs (lw zs c l).2),.val none (aH .V l)] .one [I (lw zs c l).1]:=by
 have e:=bS zs c (l.length:Nat) b d ω;have h:=bJ zs c (n:=(l.length:Nat)) ω;have a:=au (xs:=l) (i:=(bw zs c (l.length:Nat)).1.toNat) ω;unfold lw;refine fM 12 [(61,[2,0])] [] [(0,0),(0,0)] Tryz.func402 rfl (λu q=>?_)
 repeat'(first|refine gP ?_|(conv=>whnf);first|with_reducible refine CN ω (aa a) ?_|refine CK (e) (.inl rfl) ?_|refine CH rfl (aa a) rfl ?_)
 refine CG rfl rfl ?_;exact wC
def iU(zs:List Int)(c:iC)(l:List Int)(b:jj zs)(d:c.i<=zs.length)(g:1<=l.length/\l.length<=1000):zzB 402 false [.ptr (iv zs c),.mut none (aH .own l)] [.ptr (iv zs (lw zs c l).2),.mut none (aH .own l)] .one [I (lw zs c l).1]:=by
 have e:=bS zs c (l.length:Nat) b d ω;have h:=bJ zs c (n:=(l.length:Nat)) ω;have a:=au (xs:=l) (i:=(bw zs c (l.length:Nat)).1.toNat) ω;unfold lw;refine fM 12 [(61,[2,0])] [] [(0,0),(1,0)] Tryz.func402 rfl (λu q=>?_)
 repeat'(first|refine gP ?_|(conv=>whnf);first|with_reducible refine CN ω (aa a) ?_|refine CK (e) (.inl rfl) ?_|refine CH rfl (aa a) rfl ?_)
 refine CG rfl rfl ?_;exact wC
def KW(zs:List Int):∀(f i:Nat)(out:List Int)(c:iC),(bw zs c 4).1<=i->po zs f i out c=(out,(bw zs c 4).2)
 | 0,_,_,_,_=>rfl
 | f+1,i,out,c,h=>by unfold po;rw[C9 ω]
def PS(zs:List Int)(f i:Nat)(out:List Int)(c:iC)(h:(i:Int)<(bw zs c 4).1):po zs (f+1) i out c=po zs f (i+1) (out++[(bw zs (bw zs c 4).2 12).1]) (bw zs (bw zs c 4).2 12).2:=by
 show(if _ then _ else _)=_;rw[CC h]
structure Rq where
 i:Nat
 out:List Int
 c:iC
def yo(zs:List Int)(c:iC)(e:jj zs)(j:c.i<=zs.length):zzB 258 false [.ptr (iv zs c)] [.ptr (iv zs (PD zs c).2)] .one (aH .own (PD zs c).1):=by
 refine fM 18 [(61,[2,0])] [] [(0,0)] Tryz.func258 rfl (λu q=>?_) (.inr (bP _))
 repeat'(first|refine gP ?_|fail)
 (conv=>whnf)
 refine CJ (ι:=Rq) (λx=>[(0,.H .box (iv zs x.c)),(3,.H .one (aH .own x.out)),(4,.H .one [I ((x.i:Nat):Int)])]) (λx=>(x.i<=4/\x.out.length<=x.i/\x.c.i<=zs.length)/\po zs (4 - x.i) x.i x.out x.c=PD zs c) (λx=>4 - x.i) (⟨0,[],c⟩) ?_ (⟨⟨W0 _,W0 _,j⟩,rfl⟩) λx k=>?_
 ·exact wC
 obtain⟨i,out,d⟩:=x;obtain⟨⟨l,o,b⟩,a⟩:=k;simp only at l o b a |-;have B:=bJ zs d (n:=4) (by decide);have g:=bS zs d 4 e b (by decide);have h:=bT b 4;have p:=bS zs (bw zs d 4).2 12 e h (by decide);have t:=bT h 12;by_cases w:(i:Int)<(bw zs d 4).1
 ·rw[show 4 - i=(4 - (i+1))+1 by omega,PS zs _ _ _ _ w]at a
  repeat'(first|refine gE ?_|(conv=>whnf);first|refine CK (g) (.inl rfl) ?_|refine CK (p) (.inl rfl) ?_|refine CU cI (λr y=>by rw[O1.1 y];rfl) (by simp[bi,eg]) (by simp;omega) (by simp only[C1];exact yJ (by simp;omega) (by decide)) rfl ?_)
  ((conv=>whnf);refine CE ⟨i+1,out++[(bw zs (bw zs d 4).2 12).1],(bw zs (bw zs d 4).2 12).2⟩ ⟨⟨by simp only;omega,by simp only[U3,List.length_singleton];omega,t⟩,a⟩ (by simp only;omega) ?_)
  repeat'(first|exact trivial|rfl| exact dI _ |exact CL rfl (CL (X0 (C.s dQ.own) (by simp[rI])) trivial)|refine CL ?_ ?_|(exact AS (by first|omega|(simp only;omega)|(simp;omega))))
 rw[KW zs _ _ _ _ ω]at a;rw[<-a]
 repeat'(first|refine gE ?_|(conv=>whnf);first|refine CK (g) (.inl rfl) ?_)
 refine CG rfl rfl ?_;exact wC
def cG.enc(o:dQ)(c:cG):List C:=[I (c.a2:Nat),I (c.W:Nat),I (c.c6:Nat),I c.c0,.s o (c.a0.map (rI o))]
def cG.enc_fz(c:cG):dJ (cG.enc .own c)=cG.enc .V c:=by simp[dJ,cG.enc,rI,<-bX,Y5]
def cG.enc_fr(c:cG):hC (cG.enc .own c):=⟨trivial,trivial,trivial,trivial,⟨.inl λh=>(by cases h),bj _ _ λy _=>qI y⟩,trivial⟩
def xR(zs:List Int)(c:iC)(a:jj zs)(h:c.i<=zs.length):zzB 113 false [.ptr (iv zs c)] [.ptr (iv zs (QQ zs c).2)] .agg (cG.enc .own (qR zs c)):=by
 have j:=bT h 7;have k:=bT j 3;have l:=bT k 100;have y:=bT l 4;have b:=bS zs c 7 a h (by decide);have d:=bS zs (zc zs c).2 3 a j (by decide);have e:=bS zs (FN zs c).2 100 a k (by decide);have g:=bS zs (Hs zs c).2 4 a l (by decide);have o:=yo zs (DP zs c).2 a y;have p:=bJ zs c (n:=7) (by decide);have r:=bJ zs (zc zs c).2 (n:=3) (by decide);have B:=bJ zs (FN zs c).2 (n:=100) (by decide);have t:=bJ zs (Hs zs c).2 (n:=4) (by decide);have w:=cG.enc_fr (qR zs c);have C:cG.enc .own (qR zs c)=[I (6+(zc zs c).1),I (6+(zc zs c).1 - (DP zs c).1),I (1+(FN zs c).1),I (40+(Hs zs c).1),.s .own ((QQ zs c).1.map (rI .own))]:=by
  have D:0<=(zc zs c).1/\(zc zs c).1<7:=p;have E:0<=(FN zs c).1/\(FN zs c).1<3:=r;have F:0<=(DP zs c).1/\(DP zs c).1<4:=t;unfold cG.enc qR;simp only;rw[Int.toNat_of_nonneg ω,Int.toNat_of_nonneg ω,Int.toNat_of_nonneg ω]
 rw[C]at w |-;change aK _ _ _ _ [.ptr (iv zs (zc zs c).2),_] _ _ at b;change aK _ _ _ _ [.ptr (iv zs (FN zs c).2),_] _ _ at d;change aK _ _ _ _ [.ptr (iv zs (Hs zs c).2),_] _ _ at e;change aK _ _ _ _ [.ptr (iv zs (DP zs c).2),_] _ _ at g;change aK _ _ _ _ [.ptr (iv zs (QQ zs c).2)] _ (aH .own (QQ zs c).1) at o;change aK _ _ _ _ _ _ [I (zc zs c).1]at b;change aK _ _ _ _ _ _ [I (FN zs c).1]at d;change aK _ _ _ _ _ _ [I (Hs zs c).1]at e;change aK _ _ _ _ _ _ [I (DP zs c).1]at g;change 0<=(zc zs c).1/\(zc zs c).1<7 at p;change 0<=(FN zs c).1/\(FN zs c).1<3 at r;change 0<=(Hs zs c).1/\(Hs zs c).1<100 at B;change 0<=(DP zs c).1/\(DP zs c).1<4 at t;generalize QQ zs c=r5 at *;generalize DP zs c=r4 at *;generalize Hs zs c=r3 at *;generalize FN zs c=r2 at *;generalize zc zs c=r1 at *;refine fM 24 [(61,[2,0]),(258,[2])] [(2,65536,[])] [(0,0)] Tryz.func113 rfl (λu q=>?_) (.inr w)
 repeat'(first|refine gP ?_|(conv=>whnf);first|refine CK (b) (.inl rfl) ?_|refine CK (d) (.inl rfl) ?_|refine CK (e) (.inl rfl) ?_|refine CK (g) (.inl rfl) ?_|refine CK (o) (.inl rfl) ?_|refine CL ?_ ?_)
 all_goals
  refine CG rfl rfl ?_;exact wC
end Go.Proofs.YtiopgblagimpmaaGreat.Ab
