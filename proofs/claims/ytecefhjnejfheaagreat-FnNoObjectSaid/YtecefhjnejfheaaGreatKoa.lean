/- Abstract cells: data as trees, what it means that a value of the model's memory holds such a tree, and how that lasts. No condition. -/
import Derived.RowKit3
import Derived.WalkKit
import Derived.Handy
import Derived.Laws.Cells
import Derived.Laws.IdiomCopy
import Derived.Maps.RangeRun
import Derived.Below
import Derived.Laws.MakeOwn
import Derived.Laws.Append
import Derived.Laws.AppendOwn
import Derived.Laws.Tables
import Derived.Great.BuildSlice
import Derived.Laws.Slices
import Derived.Laws.Small
import Derived.MapKept
import Derived.Carry
set_option linter.unusedVariables false
set_option linter.defProp false
set_option linter.unusedSimpArgs false
set_option linter.constructorNameAsVariable false
namespace Go.Proofs.YtecefhjnejfheaaGreat.Ab
def ω{P:Prop}(h:P:=by omega):P:=h
def CN:type_of% @And.intro:=@And.intro
def CB:type_of% @if_neg:=@if_neg
def CD:type_of% @if_pos:=@if_pos
def C0:type_of% @decide_eq_true_eq:=@decide_eq_true_eq
def I0:type_of% @Bool.and_eq_true:=@Bool.and_eq_true
def O0:type_of% @decide_eq_true:=@decide_eq_true
def W0:type_of% @decide_eq_false:=@decide_eq_false
def X0:type_of% @Nat.zero_le:=@Nat.zero_le
def Z0:type_of% @congrArg:=@congrArg
def C1:type_of% @Option.some.injEq:=@Option.some.injEq
def I1:type_of% @List.length_map:=@List.length_map
def O1:type_of% @Nat.le_of_ble_eq_true:=@Nat.le_of_ble_eq_true
def V1:type_of% @List.mem_singleton:=@List.mem_singleton
def W1:type_of% @List.length_set:=@List.length_set
def Z1:type_of% @List.length_take:=@List.length_take
def C2:type_of% @List.mem_cons_self:=@List.mem_cons_self
def I2:type_of% @List.mem_of_getElem?:=@List.mem_of_getElem?
def O2:type_of% @Nat.eq_of_beq_eq_true:=@Nat.eq_of_beq_eq_true
def W2:type_of% @List.getElem?_eq_getElem:=@List.getElem?_eq_getElem
def X2:type_of% @List.getElem?_eq_some_iff:=@List.getElem?_eq_some_iff
def Z2:type_of% @List.getElem?_eq_none:=@List.getElem?_eq_none
def C3:type_of% @List.getD_eq_getElem?_getD:=@List.getD_eq_getElem?_getD
def I3:type_of% @Int.toNat_natCast:=@Int.toNat_natCast
def O3:type_of% @Int.eq_ofNat_of_zero_le:=@Int.eq_ofNat_of_zero_le
def V3:type_of% @List.mem_append:=@List.mem_append
def W3:type_of% @Nat.le_refl:=@Nat.le_refl
def X3:type_of% @List.getElem?_map:=@List.getElem?_map
def Y3:type_of% @List.length_append:=@List.length_append
def Z3:type_of% @List.length_drop:=@List.length_drop
def t4:type_of% @Array.getElem?_eq_some_iff:=@Array.getElem?_eq_some_iff
def v4:type_of% @List.getElem?_set_self:=@List.getElem?_set_self
def z4:type_of% @List.length_replicate:=@List.length_replicate
def C4:type_of% @Nat.lt_of_lt_of_le:=@Nat.lt_of_lt_of_le
def I4:type_of% @List.getElem?_set:=@List.getElem?_set
def O4:type_of% @List.any_eq_true:=@List.any_eq_true
def V4:type_of% @List.all_eq_true:=@List.all_eq_true
def W4:type_of% @not_not_intro:=@not_not_intro
def X4:type_of% @List.map_take:=@List.map_take
def Y4:type_of% @List.map_drop:=@List.map_drop
def Z4:type_of% @List.mem_map:=@List.mem_map
def t5:type_of% @List.mem_filter:=@List.mem_filter
def v5:type_of% @List.getElem?_append_left:=@List.getElem?_append_left
def z5:type_of% @List.getElem?_append_right:=@List.getElem?_append_right
def C5:type_of% @decide_eq_false_iff_not:=@decide_eq_false_iff_not
def I5:type_of% @Bool.eq_iff_iff:=@Bool.eq_iff_iff
def O5:type_of% @Nat.le_trans:=@Nat.le_trans
def V5:type_of% @Int.le_trans:=@Int.le_trans
def W5:type_of% @Int.le_refl:=@Int.le_refl
def X5:type_of% @Int.le_of_eq:=@Int.le_of_eq
def Y5:type_of% @List.take_length:=@List.take_length
def Z5:type_of% @Option.map_some:=@Option.map_some
def C6:type_of% @List.mem_cons_of_mem:=@List.mem_cons_of_mem
def I6:type_of% @Bool.not_eq_true:=@Bool.not_eq_true
def O6:type_of% @List.take_add_one:=@List.take_add_one
def V6:type_of% @List.append_assoc:=@List.append_assoc
def W6:type_of% @List.map_append:=@List.map_append
def X6:type_of% @Function.comp_def:=@Function.comp_def
def Y6:type_of% @List.map_cons:=@List.map_cons
def Z6:type_of% @List.count_append:=@List.count_append
def C7:type_of% @List.map_set:=@List.map_set
def I7:type_of% @Bool.or_eq_true:=@Bool.or_eq_true
def O7:type_of% @Array.getElem?_eq_getElem:=@Array.getElem?_eq_getElem
def S7:type_of% @List.mem_or_eq_of_mem_set:=@List.mem_or_eq_of_mem_set
def V7:type_of% @Array.getD_eq_getD_getElem?:=@Array.getD_eq_getD_getElem?
def W7:type_of% @List.flatMap_cons:=@List.flatMap_cons
def X7:type_of% @List.getElem?_range:=@List.getElem?_range
def Y7:type_of% @Nat.zero_add:=@Nat.zero_add
def Z7:type_of% @List.findIdx?_eq_some_iff_getElem:=@List.findIdx?_eq_some_iff_getElem
def C8:type_of% @List.take_of_length_le:=@List.take_of_length_le
def I8:type_of% @Nat.mul_le_mul_right:=@Nat.mul_le_mul_right
def O8:type_of% @List.eq_nil_of_length_eq_zero:=@List.eq_nil_of_length_eq_zero
open Go.RowKit
inductive dN where
 |U
 |own
 |tag (v:Value)
def dN.mine:dN->Bool
 | .U=>false
 | .own=>true
 | .tag _=>true
def dN.ok:dN->Value->Prop
 | .U,_=>False
 | .own,_=>True
 | .tag v',v=>v'=v
def dN.okN:dN->Value->Prop
 | .tag v',v=>v'=v
 | _,_=>True
inductive C where
 |v (x:Value)
 |s (o:dN) (rows:List (List C))
 |x
 |z
 |m (es:List (Int × Value))
 |it (cur:Option Int) (left:List Int)
instance:Inhabited C:=⟨.x⟩
abbrev af:=Nat->Nat->Prop
def NO:af:=λ_ _=>False
abbrev cel(w:World)(b o:Nat):Option Value:=w.cell? ⟨b,o,none⟩
def mp(w:World)(b:Nat):Option Obj:=
 match w.heap[b]? with
 | some (.map es clock)=>some (.map es clock)
 | some (.mapIter m since seen clock)=>some (.mapIter m since seen clock)
 | some (.cells c _ fr)=>if fr.1<=c.size/\c.size<fr.2 then some (.cells #[] 0 (0,0)) else none
 | _=>none
def Hs(w:World)(a:Addr)(v:Value)(b:Nat):mp (w.setCell a v) b=mp w b:=by
 unfold mp World.setCell;simp only[Array.getElem?_modify];by_cases h:a.block=b
 ·rw[CD h]
  cases w.heap[b]? with
  | none=>rfl
  | some o=>
   cases o with
   | cells c e d=>cases a.spot<;>simp
   | _=>rfl
 rw[CB h]
def mt(b:Nat):∀(g o:Nat)(vs:List Value)(w:World),mp (w.setCells g o vs) b=mp w b
 | _,_,[],_=>rfl
 | g,o,v::vs,w=>by rw[World.setCells,mt b g (o+1) vs,Hs]
abbrev fro(w:World)(b o:Nat):Bool × Option Obj:=(w.frozen? ⟨b,o,none⟩,mp w b)
abbrev NF:Bool × Option Obj:=(false,none)
def bq(X:af)(w a:World):Prop:=∀b o,X b o->cel a b o=cel w b o/\fro a b o=fro w b o
inductive eY(w:World)(S:af):af->C->Value->Prop
 |v (F:af) (x:Value) (h1:x.oneCell'=true):eY w S F (.v x) x
 |x (F:af) (u:Value) (h1:u.oneCell'=true):eY w S F .x u
 |z (F:af) (a:Option Addr):eY w S F .z (.slice a 0 0)
 |nil (F:af) (o:dN) (a:Option Addr) (ho:o.okN (.slice a 0 0)):eY w S F (.s o []) (.slice a 0 0)
 |U (F:af) (g off k n cap:Nat) (rows:List (List C)) (u:Nat->Value) (hn:rows.length=n) (hk:∀r∈rows,r.length=k) (hcap:n<=cap)
   (hS:∀q,q<n*k->S g (off+q)/\cel w g (off+q)=some (u q))
   (hc:∀i j r c,rows[i]? = some r->r[j]? = some c->eY w S NO c (u (i*k+j))) :
   eY w S F (.s .U rows) (.slice (some ⟨g,off,none⟩) n cap)
 |own (F:af) (o:dN) (g k n cap:Nat) (rows:List (List C)) (u:Nat->Value) (f:Nat->af) (ho:o.ok (.slice (some ⟨g,0,none⟩) n cap)) (hn:rows.length=n) (hk:∀r∈rows,r.length=k) (hcap:n<=cap) (hpos:0<n)
   (hF:∀q,q<cap*k->F g q/\(∃z,cel w g q=some z/\z.oneCell'=true)/\fro w g q=NF)
   (hu:∀q,q<n*k->cel w g q=some (u q))
   (hf:∀q,q<n*k->∀b o,f q b o->F b o/\¬(b=g/\o<cap*k))
   (hd:∀q q',q<n*k->q'<n*k->q≠q'->∀b o,f q b o->¬f q' b o)
   (hc:∀i j r c,rows[i]? = some r->r[j]? = some c->eY w S (f (i*k+j)) c (u (i*k+j))) :
   eY w S F (.s o rows) (.slice (some ⟨g,0,none⟩) n cap)
 |m (F:af) (b clock:Nat) (es:List (Int × Value)) (ents:Array MapEntry) (hF:∀o,F b o) (hb:mp w b=some (.map ents clock)) (he:ents.toList.map (λe=>(e.key,e.val))=es.map (λp=>(.int .i64 p.1,p.2))) (hv:∀p∈es,p.2.oneCell'=true) (hst:(ents.toList.map (·.born)).Nodup/\∀x∈ents.toList,x.born<clock) :
   eY w S F (.m es) (.map (some b))
 |it (F:af) (r b since c0 clock:Nat) (seen:Array Nat) (ents:Array MapEntry) (cur:Option Int) (left:List Int) (hF:∀o,F r o/\F b o) (hr:mp w r=some (.mapIter (some b) since seen c0)) (hb:mp w b=some (.map ents clock))
   (hst:(ents.toList.map (·.born)).Nodup/\∀x∈ents.toList,x.born<since) (hc:since<=c0/\since<=clock) (hv:∀x∈ents.toList,x.val.oneCell'=true) (hl:(leftOf ents seen).toList.map (·.key)=left.map (Value.int .i64)) (hcur:∀k,cur=some k->c0=clock/\∃e∈ents.toList,∃s':Array Nat,seen=s'.push e.born/\e.key=.int .i64 k) :
   eY w S F (.it cur left) (.pointer (some ⟨r,0,none⟩))
variable{i j n:Nat}
def gX{k:Nat}(a:i<n)(b:j<k):i*k+j<n*k:=by
 have:(i+1)*k<=n*k:=I8 k a;rw[Nat.add_mul]at this;omega
variable{c:C}{r:List C}{rows:List (List C)}
def HW{k:Nat}(e:rows.length=n)(b:∀r∈rows,r.length=k)(a:rows[i]? = some r)(d:r[j]? = some c):i<n/\j<k:=by
 have f:=(X2.1 a).1;have g:=(X2.1 d).1;have h:=b r (I2 a);omega
variable{v:Value}{S F:af}{w:World}
def eY.one(h:eY w S F c v):v.oneCell'=true:=by
 cases h<;>first|assumption|rfl
def eY.keep{Q:World}(h:eY w S F c v):bq S w Q->bq F w Q->eY Q S F c v:=by
 induction h with
 | v F x G=>exact λ_ _=>.v F x G
 | x F u G=>exact λ_ _=>.x F u G
 | z F a=>exact λ_ _=>.z F a
 | nil F o a R=>exact λ_ _=>.nil F o a R
 | U F g T k n A l u L M e U V W=>
  intro N _;exact .U F g T k n A l u L M e (λq y=>⟨(U q y).1,(N _ _ (U q y).1).1.trans (U q y).2⟩)
   (λi j r c O P=>W i j r c O P N (λ_ _ h=>h.elim))
 | own F o g k n A l u f R L M e H t hu B hd V W=>
  intro N D;refine .own F o g k n A l u f R L M e H (λq y=>?_) (λq y=>?_) B hd (λi j r c O P=>W i j r c O P N λb o J=>?_)
  ·obtain⟨G,h2,h3⟩:=t q y
   have h4:=D g q G;exact⟨G,by rw[h4.1];exact h2,by rw[h4.2];exact h3⟩
  ·rw[(D g q (t q (C4 y (I8 k e))).1).1];exact hu q y
  obtain⟨X,Y⟩:=HW L M O P;exact D b o (B _ (gX X Y) b o J).1
 | m F b d es p t J he Z E=>exact λ_ B=>.m F b d es p t ((Z0 Prod.snd (B b 0 (t 0)).2).trans J) he Z E
 | it F r b since c0 d seen p cur left t hr J E V Z hl K=>exact λ_ B=>.it F r b since c0 d seen p cur left t ((Z0 Prod.snd (B r 0 (t 0).1).2).trans hr) ((Z0 Prod.snd (B b 0 (t 0).2).2).trans J) E V Z hl K
variable{S' F':af}
def eY.mono(h:eY w S F c v):(∀b o,S b o->S' b o)->(∀b o,F b o->F' b o)->eY w S' F' c v:=by
 induction h generalizing F' with
 | v F x K=>exact λ_ _=>.v _ x K
 | x F u K=>exact λ_ _=>.x _ u K
 | z F a=>exact λ_ _=>.z _ a
 | nil F o a L=>exact λ_ _=>.nil _ o a L
 | U F g M k n A l u N O p V P Q=>
  intro J _;exact .U _ g M k n A l u N O p (λq y=>⟨J _ _ (V q y).1,(V q y).2⟩) (λi j r c R T=>Q i j r c R T J (λ_ _ h=>h))
 | own F o g k n A l u f L N O p G B X W Y P Q=>
  intro J d;exact .own _ o g k n A l u f L N O p G (λq y=>⟨d _ _ (B q y).1,(B q y).2⟩) X (λq y b o E=>⟨d _ _ (W q y b o E).1,(W q y b o E).2⟩) Y
   (λi j r c R T=>Q i j r c R T J (λ_ _ h=>h))
 | m F b e Z t B E he U D=>exact λ_ d=>.m _ b e Z t (λo=>d _ _ (B o)) E he U D
 | it F r b since c0 e seen t cur left B hr E D P U hl H=>exact λ_ d=>.it _ r b since c0 e seen t cur left (λo=>⟨d _ _ (B o).1,d _ _ (B o).2⟩) hr E D P U hl H
mutual
def fz:C->C
 | .v x=>.v x
 | .s _ a=>.s .U (fzR a)
 | .x=>.x
 | .z=>.z
 | .m _=>.x
 | .it _ _=>.x
def fzR:List (List C)->List (List C)
 | []=>[]
 | r::rs=>eH r::fzR rs
def eH:List C->List C
 | []=>[]
 | c::cs=>fz c::eH cs
end
def co(cs:List C):eH cs=cs.map fz:=by
 induction cs with
 | nil=>rfl
 | cons c cs a=>simp[eH,a]
def R5(a:List (List C)):fzR a=a.map (·.map fz):=by
 induction a with
 | nil=>rfl
 | cons c d b=>simp[fzR,co,b]
@[simp] def Vd(x:Value):fz (.v x)=.v x:=by simp[fz]
@[simp] def Vc:fz .x=.x:=by simp[fz]
@[simp] def Vf:fz .z=.z:=by simp[fz]
@[simp] def Vg(es:List (Int × Value)):fz (.m es)=.x:=by simp[fz]
@[simp] def UV(cur:Option Int)(left:List Int):fz (.it cur left)=.x:=by simp[fz]
@[simp] def U1(o:dN)(rows:List (List C)):fz (.s o rows)=.s .U (rows.map (·.map fz)):=by simp[fz,R5]
def eY.freeze(h:eY w S F c v):eY w (λb o=>S b o\/F b o) NO (fz c) v:=by
 induction h with
 | v F x J=>simpa using .v _ x J
 | x F u J=>simpa using .x _ u J
 | z F a=>simpa using .z _ a
 | nil F o a W=>simpa using .nil _ _ a trivial
 | U F g K k n B y u G H l R X L=>
  rw[U1];refine .U _ g K k n B _ u (by simpa using G) (λr M=>?_) l (λq E=>⟨.inl (R q E).1,(R q E).2⟩) (λi j r c p t=>?_)
  ·obtain⟨A,D,rfl⟩:=Z4.1 M
   simpa using H A D
  rw[X3]at p;cases d:y[i]? with
  | none=>rw[d]at p;cases p
  | some A=>
   rw[d]at p;simp only[Z5,C1]at p;subst p;rw[X3]at t;cases e:A[j]? with
   | none=>rw[e]at t;cases t
   | some N=>
    rw[e]at t;simp only[Z5,C1]at t;subst t;exact(L i j A N d e).mono (λ_ _ h=>h.elim .inl (λh=>h.elim)) (λ_ _ h=>h)
 | own F o g k n B y u f W G H l T U Y Z hd X L=>
  rw[U1];refine .U _ g 0 k n B _ u (by simpa using G) (λr M=>?_) l (λq E=>?_) (λi j r c p t=>?_)
  ·obtain⟨A,D,rfl⟩:=Z4.1 M
   simpa using H A D
  ·rw[Y7]
   exact⟨.inr (U q (C4 E (I8 k l))).1,Y q E⟩
  rw[X3]at p;cases d:y[i]? with
  | none=>rw[d]at p;cases p
  | some A=>
   rw[d]at p;simp only[Z5,C1]at p;subst p;rw[X3]at t;cases e:A[j]? with
   | none=>rw[e]at t;cases t
   | some N=>
    rw[e]at t;simp only[Z5,C1]at t;subst t;obtain⟨O,P⟩:=HW G H d e;exact(L i j A N d e).mono (λb o h=>h.elim .inl (λh=>.inr (Z _ (gX O P) b o h).1)) (λ_ _ h=>h)
 | m F b Q es V U hb he hv=>simpa using .x _ _ rfl
 | it=>simpa using .x _ _ rfl
def dn(w:World)(S F:af)(cs:List C)(u:Nat->Value):Prop:=
 ∃f:Nat->af,(∀j c,cs[j]? = some c->eY w S (f j) c (u j))/\(∀j,j<cs.length->∀b o,f j b o->F b o)/\
  (∀j a,j<cs.length->a<cs.length->j≠a->∀b o,f j b o->¬f a b o)
variable{u:Nat->Value}{cs:List C}{a:World}
def dn.keep(h:dn w S F cs u)(g:bq S w a)(i:bq F w a):dn a S F cs u:=by
 obtain⟨f,k,d,l⟩:=h;exact⟨f,λj c e=>(k j c e).keep g (λb o n=>i b o (d j (X2.1 e).1 b o n)),d,l⟩
def dn.mono(h:dn w S F cs u)(d:∀b o,S b o->S' b o)(e:∀b o,F b o->F' b o):dn w S' F' cs u:=by
 obtain⟨f,g,i,k⟩:=h;exact⟨f,λj c a=>(g j c a).mono d (λ_ _ h=>h),λj a b o l=>e b o (i j a b o l),k⟩
def dn.congr{a:Nat->Value}(h:dn w S F cs u)(d:∀j,j<cs.length->a j=u j):dn w S F cs a:=by
 obtain⟨f,e,g,i⟩:=h;exact⟨f,λj c b=>by rw[d j (X2.1 b).1];exact e j c b,g,i⟩
def dn.nil(w:World)(S F:af)(u:Nat->Value):dn w S F [] u:=⟨λ_=>NO,λj c h=>by simp at h,λj h=>by simp at h,λj a h=>by simp at h⟩
def dn.freeze(h:dn w S F cs u):dn w (λb o=>S b o\/F b o) NO (eH cs) u:=by
 obtain⟨f,e,g,k⟩:=h;rw[co];refine⟨λ_=>NO,λj c d=>?_,λj _ b o h=>h,λj l _ _ _ b o h=>h.elim⟩;rw[X3]at d;cases a:cs[j]? with
 | none=>rw[a]at d;cases d
 | some i=>
  rw[a]at d;simp only[Z5,C1]at d;subst d;exact(e j i a).freeze.mono (λb o h=>h.elim .inl (λh=>.inr (g j (X2.1 a).1 b o h))) (λ_ _ h=>h)
def dn.one(h:dn w S F cs u)(a:j<cs.length):(u j).oneCell'=true:=by
 obtain⟨f,b,-,-⟩:=h;exact(b j cs[j] (W2 a)).one
def dn.part(h:dn w S F cs u)(a n:Nat):dn w S F ((cs.drop a).take n) (λj=>u (a+j)):=by
 obtain⟨f,k,l,o⟩:=h;have d:∀j,j<((cs.drop a).take n).length->a+j<cs.length:=λj b=>by simp at b;omega
 refine⟨λj=>f (a+j),λj c b=>?_,λj b=>l _ (d j b),λj p b e q=>o _ _ (d j b) (d p e) ω⟩;have g:=(X2.1 b).1;have i:j<n:=by simp at g;omega
 rw[List.getElem?_take,CD i,List.getElem?_drop]at b;exact k _ c b
abbrev cM:=List (Nat × Nat × Nat)
def cn:List C->Nat->cM->Option (List C × Nat)
 | b,a,[]=>some (b,a)
 | b,a,(i,k,j)::st=>
  match b[a]? with
  | some (.s _ rows)=>match rows[i]? with
   | some r=>if r.length=k then cn r j st else none
   | none=>none
  | _=>none
def kU:List C->Nat->cM->Prop
 | _,_,[]=>True
 | b,a,(i,_,j)::st=>
  match b[a]? with
  | some (.s o rows)=>o≠.U/\(match rows[i]? with|some r=>kU r j st|none=>False)
  | _=>False
def gl:List C->Nat->cM->List C->List C
 | _,_,[],c=>c
 | b,a,(i,_,j)::d,c=>
  match b[a]? with
  | some (.s o rows)=>match rows[i]? with
   | some r=>b.set a (.s o (rows.set i (gl r j d c)))
   | none=>b
  | _=>b
def plc(w:World):(Nat->Value)->Option (Nat × Nat)->Nat->cM->Option (Nat × Nat)
 | _,top,a,[]=>top.map λp=>(p.1,p.2+a)
 | u,_,a,(i,k,j)::st=>
  match u a with
  | .slice (some ⟨g,o,none⟩) _ _=>plc w (λd=>(cel w g (o+i*k+d)).getD undef) (some (g,o+i*k)) j st
  | _=>none
def cellv(w:World):(Nat->Value)->Nat->cM->Nat->Value
 | u,a,[],d=>u (a+d)
 | u,a,(i,k,j)::st,d=>
  match u a with
  | .slice (some ⟨g,o,none⟩) _ _=>cellv w (λd=>(cel w g (o+i*k+d)).getD undef) j st d
  | _=>undef
def eY.row{o:dN}(h:eY w S F (.s o rows) v)(q:rows[i]? = some r) :
  ∃g b n cap,v=.slice (some ⟨g,b,none⟩) n cap/\i<n/\rows.length=n/\(∀D∈rows,D.length=r.length)/\
   (∀d,d<r.length->(∃z,cel w g (b+i*r.length+d)=some z)/\(S g (b+i*r.length+d)\/F g (b+i*r.length+d)))/\∃F',(∀b o,F' b o->F b o)/\
   dn w S F' r (λd=>(cel w g (b+i*r.length+d)).getD undef):=by
 cases h with
 | nil=>simp at q
 | U _ g t k n cap _ u G E p K H=>
  have y:r.length=k:=E r (I2 q);have a:i<n:=by have:=(X2.1 q).1;omega
  have e:∀d,d<r.length->cel w g (t+i*r.length+d)=some (u (i*k+d)):=λd A=>by
   rw[y,Nat.add_assoc];exact(K _ (gX a ω)).2
  refine⟨g,t,n,cap,rfl,a,G,λD J=>(E D J).trans y.symm,λd A=>⟨⟨_,e d A⟩,.inl (by rw[y,Nat.add_assoc];exact(K _ (gX a ω)).1)⟩,NO,λ_ _ h=>h.elim,λ_=>NO,λj c B=>?_,λ_ _ _ _ h=>h,λ_ _ _ _ _ _ _ h=>h.elim⟩;have l:=(X2.1 B).1;show eY w S NO c ((cel w g (t+i*r.length+j)).getD undef);rw[e j l];exact H i j r c q B
 | own _ _ g k n cap _ u f _ G E p _ L M N A H=>
  have y:r.length=k:=E r (I2 q);have a:i<n:=by have:=(X2.1 q).1;omega
  have e:∀d,d<r.length->cel w g (0+i*r.length+d)=some (u (i*k+d)):=λd A=>by
   rw[y,Y7];exact M _ (gX a ω)
  refine⟨g,0,n,cap,rfl,a,G,λD J=>(E D J).trans y.symm,λd A=>⟨⟨_,e d A⟩,.inr (by rw[y,Y7];exact(L _ (C4 (gX a ω) (I8 k p))).1)⟩,F,λ_ _ h=>h,λj=>f (i*k+j),λj c B=>?_,λj B b o h=>(N _ (gX a ω) b o h).1,
    λj P B l O=>A _ _ (gX a ω) (gX a ω) ω⟩
  have l:=(X2.1 B).1;show eY w S _ c ((cel w g (0+i*r.length+j)).getD undef);rw[e j l];exact H i j r c q B
def dn.at_{w:World}{S:af} : ∀(st:cM){F:af}{cs:List C}{u:Nat->Value}{off:Nat}{r:List C}{j:Nat}(top:Option (Nat × Nat)),dn w S F cs u->cn cs off st=some (r,j)->
  ∃F' t,(∀b o,F' b o->F b o)/\dn w S F' r t/\(∀d,cellv w u off st d=t (j+d))/\(st=[]->t=u)/\
   (st≠[]->∃g b,plc w u top off st=some (g,b+j)/\∀d,d<r.length->cel w g (b+d)=some (t d))
 | [],F,cs,u,off,r,j,top,h,a=>by
  simp only[cn,C1,Prod.mk.injEq]at a;obtain⟨rfl,rfl⟩:=a;exact⟨F,u,λ_ _ h=>h,h,λ_=>rfl,λ_=>rfl,λh=>absurd rfl h⟩
 | (i,k,Y)::st,F,cs,u,off,r,j,top,h,a=>by
  simp only[cn]at a;cases y:cs[off]? with
  | none=>rw[y]at a;cases a
  | some c=>
   rw[y]at a;cases c with
   | v x=>cases a
   | x=>cases a
   | z=>cases a
   | m Z=>cases a
   | it=>cases a
   | s o e=>
    simp only at a;cases A:e[i]? with
    | none=>rw[A]at a;cases a
    | some B=>
     rw[A]at a;simp only at a;split at a
     ·rename_i G
      subst G;obtain⟨f,H,J,h3⟩:=h;have l:=(X2.1 y).1;obtain⟨g,b,n,K,E,L,hn,-,p,F',D,q⟩:=(H off _ y).row A;obtain⟨M,N,O,P,Q,R,T⟩:=dn.at_ st (some (g,b+i*B.length)) q a;refine⟨M,N,λb o U=>J off l b o (D b o (O b o U)),P,λd=>?_,(λh=>by cases h),λ_=>?_⟩
      ·simp only[cellv,E];exact Q d
      simp only[plc,E];cases st with
      | nil=>
       simp only[cn,C1,Prod.mk.injEq]at a;obtain⟨rfl,rfl⟩:=a;refine⟨g,b+i*B.length,rfl,λd V=>?_⟩;obtain⟨⟨z,W⟩,-⟩:=p d V;rw[R rfl];show _=some ((cel w g (b+i*B.length+d)).getD undef);rw[W];rfl
      | cons s X=>exact T (by simp)
     cases a
def dn.last{w p:World}{S:af}(L:bq S w p):∀(st:cM){F:af}{cs:List C}{u l:Nat->Value}{off:Nat}{r:List C}{j:Nat}(top:Option (Nat × Nat)),dn w S F cs u->cn cs off st=some (r,j)->bq F w p->(∀x,x<cs.length->l x=u x)->
  plc p l top off st=plc w u top off st/\∀d,j+d<r.length->cellv p l off st d=cellv w u off st d
 | [],F,cs,u,l,off,r,j,top,h,a,D,E=>by
  simp only[cn,C1,Prod.mk.injEq]at a;obtain⟨rfl,rfl⟩:=a;exact⟨rfl,λd P=>E _ P⟩
 | (i,k,W)::st,F,cs,u,l,off,r,j,top,h,a,D,E=>by
  simp only[cn]at a;cases B:cs[off]? with
  | none=>rw[B]at a;cases a
  | some c=>
   rw[B]at a;cases c with
   | v x=>cases a
   | x=>cases a
   | z=>cases a
   | m X=>cases a
   | it=>cases a
   | s o q=>
    simp only at a;cases G:q[i]? with
    | none=>rw[G]at a;cases a
    | some M=>
     rw[G]at a;simp only at a;split at a
     case isFalse=>cases a
     rename_i Q;subst Q;obtain⟨f,R,N,Y⟩:=h;have e:=(X2.1 B).1;obtain⟨g,b,n,H,O,T,Z,-,t,F',J,y⟩:=(R off _ B).row G;have K:l off=.slice (some ⟨g,b,none⟩) n H:=(E off e).trans O;simp only[plc,cellv,O,K];refine dn.last L st _ y a (λb o U=>D b o (N off e b o (J b o U))) (λx V=>?_);obtain⟨-,A⟩:=t x V;have:cel p g (b+i*M.length+x)=cel w g (b+i*M.length+x):=A.elim (λh=>(L _ _ h).1) (λh=>(D _ _ (N off e _ _ h)).1);rw[this]
def eY.own_set{P:World}{G F1:af}{o:dN}{g k cap:Nat}{f:Nat->af}(ho:o.ok (.slice (some ⟨g,0,none⟩) n cap))(hn:rows.length=n)(hk:∀r∈rows,r.length=k)(N:n<=cap)(hF:∀q,q<cap*k->F g q/\(∃z,cel w g q=some z/\z.oneCell'=true)/\fro w g q=NF)(hu:∀q,q<n*k->cel w g q=some (u q))(W:∀q,q<n*k->∀b o,f q b o->F b o/\¬(b=g/\o<cap*k))(hd:∀q l,q<n*k->l<n*k->q≠l->∀b o,f q b o->¬f l b o)(hc:∀i j r c,rows[i]? = some r->r[j]? = some c->eY w S (f (i*k+j)) c (u (i*k+j)))(i:Nat)(hi:i<n)(X:List C)(hr':X.length=k)(u2:Nat->Value)(H:∀b o,F1 b o->∃j,j<k/\f (i*k+j) b o)(hS:bq S w P)(B:∀b o,F b o->¬F1 b o->¬(b=g/\i*k<=o/\o<i*k+k)->cel P b o=cel w b o/\fro P b o=fro w b o)(J:∀d,d<k->cel P g (i*k+d)=some (u2 d)/\fro P g (i*k+d)=NF)(Y:dn P S G X u2)(hG:∀b o,G b o->F1 b o\/¬F b o) :
  eY P S (λb o=>(F b o/\¬F1 b o)\/G b o) (.s o (rows.set i X)) (.slice (some ⟨g,0,none⟩) n cap):=by
 obtain⟨f2,e1,e2,e3⟩:=Y;have hik:i*k+k<=n*k:=by
  have:(i+1)*k<=n*k:=I8 k hi;rw[Nat.add_mul]at this;omega
 have hnk:n*k<=cap*k:=I8 k N;have K:∀o,o<cap*k->¬F1 g o:=λo ho h=>by
  obtain⟨j,hj,p⟩:=H g o h;exact(W _ ω g o p).2 ⟨rfl,ho⟩
 have D:∀q,(i*k<=q/\q<i*k+k)->q - i*k<k:=λq h=>ω
 refine .own _ o g k n cap _ (λq=>if i*k<=q/\q<i*k+k then u2 (q - i*k) else u q) (λq=>if i*k<=q/\q<i*k+k then f2 (q - i*k) else f q)
  ho (by simpa using hn) (λr hr=>?_) N ω (λq A=>?_) (λq A=>?_) (λq A b o p=>?_) (λq l A E hne b o p a=>?_) (λO Q r c t L=>?_)
 ·rcases S7 hr with h|rfl
  ·exact hk r h
  exact hr'
 ·obtain⟨R,h2,h3⟩:=hF q A
  by_cases y:i*k<=q/\q<i*k+k
  ·obtain⟨c1,c2⟩:=J (q - i*k) (D q y)
   have he:i*k+(q - i*k)=q:=ω
   rw[he]at c1 c2;have hlt:q - i*k<X.length:=ω
   exact⟨.inl ⟨R,K q A⟩,⟨_,c1,(e1 (q - i*k) X[q - i*k] (W2 hlt)).one⟩,c2⟩
  obtain⟨c1,c2⟩:=B g q R (K q A) (λh=>y h.2);exact⟨.inl ⟨R,K q A⟩,by rw[c1];exact h2,by rw[c2];exact h3⟩
 ·split
  ·rename_i y
   have:=(J (q - i*k) (D q y)).1
   rwa [show i*k+(q - i*k)=q by omega]at this
  rename_i y;rw[(B g q (hF q ω).1 (K q ω) (λh=>y h.2)).1];exact hu q A
 ·split at p
  ·rename_i y
   have T:=e2 _ (by have:=D q y;omega) b o p;rcases hG b o T with h|h
   ·obtain⟨j,hj,a⟩:=H b o h
    have:=W _ ω b o a;exact⟨.inr T,this.2⟩
   exact⟨.inr T,λe=>h (by rw[e.1];exact(hF o e.2).1)⟩
  rename_i y;have:=W q A b o p;refine⟨.inl ⟨this.1,λh=>?_⟩,this.2⟩;obtain⟨j,hj,a⟩:=H b o h;exact hd (i*k+j) q ω A ω b o a p
 ·have hx:∀q l,q<n*k->(i*k<=q/\q<i*k+k)->l<n*k->¬(i*k<=l/\l<i*k+k)->∀b o,f2 (q - i*k) b o->¬f l b o:=by
   intro q l A h E M b o p a;rcases hG b o (e2 _ (by have:=D q h;omega) b o p) with R|R
   ·obtain⟨j,hj,U⟩:=H b o R
    exact hd (i*k+j) l ω E ω b o U a
   exact R (W l E b o a).1
  by_cases h:i*k<=q/\q<i*k+k
  ·rw[CD h]at p
   by_cases M:i*k<=l/\l<i*k+k
   ·rw[CD M]at a
    exact e3 (q - i*k) (l - i*k) (by have:=D q h;omega) (by have:=D l M;omega) ω b o p a
   rw[CB M]at a;exact hx q l A h E M b o p a
  rw[CB h]at p;by_cases M:i*k<=l/\l<i*k+k
  ·rw[CD M]at a
   exact hx l q E M A h b o a p
  rw[CB M]at a;exact hd q l A E hne b o p a
 rw[I4]at t;by_cases Z:i=O
 ·subst Z
  rw[CD rfl]at t;split at t
  ·simp only[C1]at t
   subst t;have hj3:=(X2.1 L).1;have A:i*k<=i*k+Q/\i*k+Q<i*k+k:=ω
   simp only[CD A,Nat.add_sub_cancel_left];exact e1 Q c L
  cases t
 rw[CB Z]at t;obtain⟨a1,a2⟩:=HW hn hk t L;have A:¬(i*k<=O*k+Q/\O*k+Q<i*k+k):=by
  rcases Nat.lt_or_ge i O with h|h
  ·have:(i+1)*k<=O*k:=I8 k h
   rw[Nat.add_mul]at this;omega
  have:(O+1)*k<=i*k:=I8 k ω;rw[Nat.add_mul]at this;omega
 simp only[CB A];have V:=gX a1 a2;refine(hc O Q r c t L).keep hS (λb o p=>B b o (W _ V b o p).1 (λh=>?_) (λh=>(W _ V b o p).2 ⟨h.1,ω⟩)) |>.mono (λ_ _ h=>h) (λ_ _ h=>h)
 obtain⟨j,hj,U⟩:=H b o h;exact hd (i*k+j) (O*k+Q) ω V ω b o U p
def dn.focus{w:World}{S:af} : ∀(st:cM){F:af}{cs:List C}{u:Nat->Value}{off:Nat}{r:List C}{j:Nat}(top:Option (Nat × Nat)),st≠[]->dn w S F cs u->cn cs off st=some (r,j)->kU cs off st->
  ∃g b F' u',(∀b o,F' b o->F b o)/\dn w S F' r u'/\plc w u top off st=some (g,b+j)/\
   (∀d,d<r.length->F g (b+d)/\¬F' g (b+d)/\cel w g (b+d)=some (u' d)/\fro w g (b+d)=NF)/\
   ∀(D:World)(O:List C)(u2:Nat->Value)(G:af),bq S w D->(∀b' o,F b' o->¬F' b' o->¬(b'=g/\b<=o/\o<b+r.length)->cel D b' o=cel w b' o/\fro D b' o=fro w b' o)->
    (∀d,d<r.length->cel D g (b+d)=some (u2 d)/\fro D g (b+d)=NF)->O.length=r.length->dn D S G O u2->(∀b o,G b o->F' b o\/¬F b o)->
    dn D S (λb o=>(F b o/\¬F' b o)\/G b o) (gl cs off st O) u
 | [],_,_,_,_,_,_,_,h,_,_,_=>absurd rfl h
 | (i,k,j0)::st,F,cs,u,off,r,j,top,_,h,E,Z=>by
  simp only[cn]at E;simp only[kU]at Z;cases hc:cs[off]? with
  | none=>rw[hc]at E;cases E
  | some c=>
   rw[hc]at E Z;cases c with
   | v x=>cases E
   | x=>cases E
   | z=>cases E
   | m es=>cases E
   | it=>cases E
   | s o rows=>
    simp only at E Z;obtain⟨hoi,Z⟩:=Z;cases hi:rows[i]? with
    | none=>rw[hi]at E;cases E
    | some p=>
     rw[hi]at E Z;simp only at E Z;split at E
     case isFalse=>cases E
     rename_i hk1;subst hk1;obtain⟨f,h1,K,V⟩:=h;have a:=(X2.1 hc).1;have hrep:=h1 off _ hc;have hup:∀O,gl cs off ((i,p.length,j0)::st) O=cs.set off (.s o (rows.set i (gl p j0 st O))):=λO=>by simp only[gl,hc,hi]
     have back:∀(D:World)(c':C)(W G:af),bq S w D->(∀j c,j≠off->cs[j]? = some c->bq (f j) w D)->(∀b o,W b o->f off b o)->eY D S (λb o=>(f off b o/\¬W b o)\/G b o) c' (u off)->(∀b o,G b o->W b o\/¬F b o)->
       dn D S (λb o=>(F b o/\¬W b o)\/G b o) (cs.set off c') u:=by
      intro D c' W G hS H hF2 hrep' X;refine⟨λj=>if j=off then(λb o=>(f off b o/\¬W b o)\/G b o) else f j,λj c q=>?_,λj q b o l=>?_,λj j' q t hne b o l y=>?_⟩
      ·rw[I4]at q
       by_cases Y:off=j
       ·subst Y
        rw[CD rfl,CD a]at q;simp only[C1]at q;subst q;simpa using hrep'
       rw[CB Y]at q;simp only[CB (Ne.symm Y)];exact(h1 j c q).keep hS (H j c (Ne.symm Y) q)
      ·simp only[W1]at q
       simp only at l;split at l
       ·rename_i e
        exact l.imp (λh=>⟨K off a b o h.1,h.2⟩) id
       rename_i e;exact .inl ⟨K j q b o l,λh=>V j off q a e b o l (hF2 b o h)⟩
      simp only[W1]at q t;simp only at l y;by_cases e:j=off
      ·rw[CD e]at l
       have e':j'≠off:=λh=>hne (e.trans h.symm)
       rw[CB e']at y;rcases l with l|l
       ·exact V off j' a t (Ne.symm e') b o l.1 y
       rcases X b o l with h|h
       ·exact V off j' a t (Ne.symm e') b o (hF2 b o h) y
       exact h (K j' t b o y)
      rw[CB e]at l;by_cases e':j'=off
      ·rw[CD e']at y
       rcases y with y|y
       ·exact V off j a q (Ne.symm e) b o y.1 l
       rcases X b o y with h|h
       ·exact V off j a q (Ne.symm e) b o (hF2 b o h) l
       exact h (K j q b o l)
      rw[CB e']at y;exact V j j' q t hne b o l y
     generalize hv:u off=v at hrep;cases hrep with
     | nil=>simp at hi
     | U=>exact absurd rfl hoi
     | own _ _ g k n cap _ u1 f1 hoo hn hk P hpos hF hu hf L hcr=>
      have hr1:p.length=k:=hk p (I2 hi);subst hr1;have hin:i<n:=by have:=(X2.1 hi).1;omega
      have hik:i*p.length+p.length<=n*p.length:=by
       have:(i+1)*p.length<=n*p.length:=I8 _ hin;rw[Nat.add_mul]at this;omega
      have hnk:n*p.length<=cap*p.length:=I8 _ P
      let F1:af:=λb o=>∃j,j<p.length/\f1 (i*p.length+j) b o
      have A:∀b o,F1 b o->f off b o/\¬(b=g/\o<cap*p.length):=λb o ⟨j,q,l⟩=>hf _ ω b o l
      have N:∀d,d<p.length->cel w g (i*p.length+d)=some (u1 (i*p.length+d)):=λd L=>hu _ ω
      have Q:dn w S F1 p (λd=>u1 (i*p.length+d)):=
       ⟨λj=>f1 (i*p.length+j),λj c q=>hcr i j p c hi q,λj q b o l=>⟨j,q,l⟩,λj j' q t hne=>L _ _ ω ω ω⟩
      have hread:dn w S F1 p (λd=>(cel w g (0+i*p.length+d)).getD undef):=Q.congr λd L=>by rw[Y7,N d L];rfl
      cases st with
      | nil=>
       simp only[cn,C1,Prod.mk.injEq]at E;obtain⟨rfl,rfl⟩:=E;refine⟨g,i*p.length,F1,λd=>u1 (i*p.length+d),λb o l=>K off a b o (A b o l).1,Q,by simp only[plc,hv,Y7,Z5],λd L=>?_,?_⟩
       ·exact⟨K off a _ _ (hF _ ω).1,λh=>(A _ _ h).2 ⟨rfl,ω⟩,N d L,(hF _ ω).2.2⟩
       intro D O u2 G hS B M R T X;rw[hup];simp only[gl];refine back D _ F1 G hS (λj c q hjc b o l=>?_) (λb o h=>(A b o h).1) ?_ X
       ·have t:=(X2.1 hjc).1
        refine B b o (K j t b o l) (λh=>V off j a t (Ne.symm q) b o (A b o h).1 l) (λh=>?_);exact V off j a t (Ne.symm q) b o (by rw[h.1];exact(hF o ω).1) l
       rw[hv];exact eY.own_set (F1:=F1) hoo hn hk P hF hu hf L hcr i hin O R u2 (λb o h=>h) hS (λb o l J hno=>B b o (K off a b o l) J hno) M T (λb o l=>(X b o l).imp id (λh h'=>h (K off a b o h')))
      | cons s st'=>
       obtain⟨g2,b2,W,u2,e1,e2,e3,e4,e5⟩:=dn.focus (s::st') (some (g,0+i*p.length)) (by simp) hread E Z;refine⟨g2,b2,W,u2,λb o l=>K off a b o (A b o (e1 b o l)).1,e2,by simp only[plc,hv];exact e3,λd L=>?_,?_⟩
       ·obtain⟨a1,a2,a3,a4⟩:=e4 d L
        exact⟨K off a _ _ (A _ _ a1).1,a2,a3,a4⟩
       intro D O u3 G hS B M R T X;have hrow':=e5 D O u3 G hS (λb o l J hno=>B b o (K off a b o (A b o l).1) J hno) M R T (λb o l=>(X b o l).imp id (λh h'=>h (K off a b o (A b o h').1)));rw[hup];have hin2:∀o,b2<=o->o<b2+r.length->F1 g2 o:=λo ho1 ho2=>by
        have:=(e4 (o - b2) ω).1
        rwa [show b2+(o - b2)=o by omega]at this
       have H:∀b o,f off b o->¬F1 b o->cel D b o=cel w b o/\fro D b o=fro w b o:=λb o l J=>
        B b o (K off a b o l) (λh=>J (e1 b o h)) (λh=>J (by rw[h.1];exact hin2 o h.2.1 h.2.2))
       refine back D _ W G hS (λj c q hjc b o l=>?_) (λb o h=>(A b o (e1 b o h)).1) ?_ X
       ·have t:=(X2.1 hjc).1
        refine B b o (K j t b o l) (λh=>V off j a t (Ne.symm q) b o (A b o (e1 b o h)).1 l) (λh=>?_);exact V off j a t (Ne.symm q) b o (A b o (by rw[h.1];exact hin2 o h.2.1 h.2.2)).1 l
       rw[hv];have U:(gl p j0 (s::st') O).length=p.length:=by
        obtain⟨i',k',j'⟩:=s;simp only[gl];split
        ·split<;>simp
        rfl
       refine(eY.own_set (F1:=F1) (G:=λb o=>(F1 b o/\¬W b o)\/G b o) hoo hn hk P hF hu hf L hcr i hin _ U (λd=>u1 (i*p.length+d)) (λb o h=>h) hS (λb o l J _=>H b o l J) (λd L=>?_) (hrow'.congr λd L=>?_) (λb o l=>l.elim (λh=>.inl h.1) (λh=>(X b o h).imp (e1 b o) (λh h'=>h (K off a b o h'))))).mono (λ_ _ h=>h) (λb o l=>l.elim (λh=>.inl ⟨h.1,λh'=>h.2 (e1 b o h')⟩) (λh=>h.imp (λh=>⟨(A b o h.1).1,h.2⟩) id))
       ·have hnf:¬F1 g (i*p.length+d):=λh=>(A _ _ h).2 ⟨rfl,ω⟩
        have:=H g (i*p.length+d) (hF _ ω).1 hnf;exact⟨this.1.trans (N d L),this.2.trans (hF _ ω).2.2⟩
       rw[U]at L;show _=(cel w g (0+i*p.length+d)).getD undef;rw[Y7,N d L];rfl
inductive Kd where
 |one
 |agg
 |tup (sh:List (Option Nat))
 |box
inductive AV where
 |dead
 |H (k:Kd) (cs:List C)
 |ref (t off:Nat) (st:cM)
 |c2 (t off:Nat) (st:cM) (ag:Option Nat)
 |iref (r:List C) (off:Nat)
 |fn (f:FuncId) (caps:List Nat)
 |fv (Ok:af->World->Value->Prop)
instance:Inhabited AV:=⟨.dead⟩
def AV.uses(d:Nat):AV->Bool
 | .ref t _ _=>Nat.beq t d
 | .c2 t _ _ _=>Nat.beq t d
 | .fn _ caps=>caps.any (Nat.beq · d)
 | _=>false
def kl(d:Nat):AV->AV
 | .ref t off st=>bif Nat.beq t d then .dead else .ref t off st
 | .c2 t off st ag=>bif Nat.beq t d then .dead else .c2 t off st ag
 | .fn f caps=>bif caps.any (Nat.beq · d) then .dead else .fn f caps
 | .H k cs=>.H k cs
 | .iref r off=>.iref r off
 | .fv Ok=>.fv Ok
 | .dead=>.dead
def Bx(d:Nat)(v:AV):kl d v=bif v.uses d then .dead else v:=by cases v<;>rfl
def put(F:Nat->AV)(d:Nat)(v:AV):Nat->AV:=λt=>bif Nat.beq t d then v else kl d (F t)
def ny:Value->List Value
 | .tuple vs=>vs.toList.flatMap λv=>v.cells.toList
 | _=>[]
def cr(w:World):Kd->Value->Nat->Value
 | .one,v=>λ_=>v
 | .agg,v=>λj=>v.cells.toList.getD j undef
 | .tup _,v=>λj=>(ny v).getD j undef
 | .box,.pointer (some a)=>λj=>(cel w a.block (a.off+j)).getD undef
 | .box,_=>λ_=>undef
def oX:Kd->Value->Option (Nat × Nat)
 | .box,.pointer (some a)=>some (a.block,a.off)
 | _,_=>none
def mkv:Option Nat->(Nat->Value)->Value
 | none,u=>u 0
 | some n,u=>.agg ((List.range n).map u).toArray
def qP:List (Option Nat)->Nat
 | []=>0
 | none::sh=>1+qP sh
 | some n::sh=>n+qP sh
def xW:List (Option Nat)->List Value->Prop
 | [],[]=>True
 | none::sh,v::vs=>v.cells = #[v]/\xW sh vs
 | some n::sh,v::vs=>(∃arr,v=.agg arr/\arr.size=n)/\xW sh vs
 | _,_=>False
def gu(w:World)(X:af):Kd->Nat->Value->Prop
 | .one,n,_=>n=1
 | .agg,n,v=>∃arr,v=.agg arr/\arr.size=n
 | .tup sh,n,v=>∃a,v=.tuple a/\xW sh a.toList/\qP sh=n
 | .box,n,v=>∃g o,v=.pointer (some ⟨g,o,none⟩)/\∀j,j<n->X g (o+j)/\(∃z,cel w g (o+j)=some z)/\fro w g (o+j)=NF
def cS(w:World)(S:af)(F:Nat->AV)(tv:Nat->Value)(X:af):AV->Value->Prop
 | .dead,_=>True
 | .H k a,v=>∃c Y:af,(∀b o,c b o->X b o)/\(∀b o,Y b o->X b o)/\(∀b o,c b o->¬Y b o)/\gu w c k a.length v/\dn w S Y a (cr w k v)
 | .ref t off st,v=>∃k a r j g o,F t=.H k a/\cn a off st=some (r,j)/\plc w (cr w k (tv t)) (oX k (tv t)) off st=some (g,o)/\v=.pointer (some ⟨g,o,none⟩)
 | .c2 t off st ag,v=>∃k a r j,F t=.H k a/\cn a off st=some (r,j)/\j+ag.getD 1<=r.length/\v=mkv ag (cellv w (cr w k (tv t)) off st)
 | .iref r off,v=>∃g b u,v=.pointer (some ⟨g,b+off,none⟩)/\(∀d,d<r.length->S g (b+d)/\cel w g (b+d)=some (u d))/\dn w S NO r u
 | .fn f caps,v=>v=.func (.func f) #[] (caps.map tv).toArray
 | .fv Ok,v=>∃(e:af)(w1:World),(∀b o,e b o->S b o)/\bq e w1 w/\Ok e w1 v
def lD{k:Kd}{X:af}(h:gu w X k n v)(b:bq X w a):∀x,x<n->cr a k v x=cr w k v x:=by
 intro x c;cases k with
 | box=>
  obtain⟨g,o,rfl,d⟩:=h;simp only[cr];rw[(b _ _ (d x c).1).1]
 | _=>rfl
def gu.keep{X c:af}{k:Kd}(h:gu w X k n v)(e:bq X w a)(f:∀b o,X b o->c b o):gu a c k n v:=by
 cases k with
 | box=>
  obtain⟨g,o,rfl,i⟩:=h;refine⟨g,o,rfl,λj l=>?_⟩;obtain⟨d,p,q⟩:=i j l;have:=e _ _ d;exact⟨f _ _ d,by rw[this.1];exact p,by rw[this.2];exact q⟩
 | _=>exact h
variable{tv:Nat->Value}
def cS.keep{E:World}{F F':Nat->AV}{y:Nat->Value}{X T:af}{φ:Nat->af}{av:AV}(h:cS w S F tv X av v)(U:∀t k cs,F t=.H k cs->cS w S F tv (φ t) (F t) (tv t))(G:∀t,av.uses t=true->(∀k cs,F t=.H k cs->F' t=.H k cs)/\y t=tv t/\bq (φ t) w E)(H:bq X w E)(p:bq S w E)(V:∀b o,X b o->T b o)(l:∀b o,S b o->S' b o):cS E S' F' y T av v:=by
 cases av with
 | dead=>trivial
 | H k cs=>
  obtain⟨J,Y,c,e,i,q,Z⟩:=h;refine⟨J,Y,λb o a=>V _ _ (c b o a),λb o a=>V _ _ (e b o a),i,q.keep (λb o a=>H _ _ (c b o a)) (λ_ _ h=>h),?_⟩;exact((Z.keep p (λb o a=>H _ _ (e b o a))).mono l (λ_ _ h=>h)).congr λj hj=>lD q (λb o a=>H _ _ (c b o a)) j hj
 | ref t A K=>
  obtain⟨k,cs,r,j,g,o,c,e,i,q⟩:=h;obtain⟨L,M,B⟩:=G t (by simp[AV.uses]);have C:=U t k cs c;rw[c]at C;obtain⟨J,Y,N,O,a3,P,Q⟩:=C;refine⟨k,cs,r,j,g,o,L k cs c,e,?_,q⟩;rw[M];exact(dn.last p K _ Q e (λb o a=>B _ _ (O b o a)) (λx R=>lD P (λb o a=>B _ _ (N b o a)) x R)).1.trans i
 | c2 t A K ag=>
  obtain⟨k,cs,r,j,c,e,i,q⟩:=h;obtain⟨L,M,B⟩:=G t (by simp[AV.uses]);have C:=U t k cs c;rw[c]at C;obtain⟨J,Y,N,O,a3,P,Q⟩:=C;refine⟨k,cs,r,j,L k cs c,e,i,?_⟩;rw[q,M];have W:=(dn.last p K none Q e (λb o a=>B _ _ (O b o a)) (λx R=>lD P (λb o a=>B _ _ (N b o a)) x R)).2;cases ag with
  | none=>exact(W 0 (by simp at i;omega)).symm
  | some n=>
   simp only[mkv]
   congr 2
   exact List.map_congr_left λd D=>(W d (by simp at i;have:=List.mem_range.1 D;omega)).symm
 | iref r A=>
  obtain⟨g,b,u,c,e,i⟩:=h;exact⟨g,b,u,c,λd D=>⟨l _ _ (e d D).1,(p _ _ (e d D).1).1.trans (e d D).2⟩,(i.keep p (λ_ _ h=>h.elim)).mono l (λ_ _ h=>h)⟩
 | fn f caps=>
  refine h.trans ?_
  congr 2
  exact List.map_congr_left λt ht=>((G t (by simp only[AV.uses,O4];exact⟨t,ht,Nat.beq_refl t⟩)).2.1).symm
 | fv Ok=>
  obtain⟨S1,w1,c,e,i⟩:=h;exact⟨S1,w1,λb o a=>l _ _ (c b o a),λb o a=>⟨(p b o (c b o a)).1.trans (e b o a).1,(p b o (c b o a)).2.trans (e b o a).2⟩,i⟩
structure bZ(M:af)(w w':World):Prop where
 os:w'.os=w.os
 tape:w'.tape=w.tape
 output:w'.output=w.output
 size:w.heap.size<=w'.heap.size
 blk:∀b,b<w.heap.size->(∀o,¬M b o)->w'.heap[b]? = w.heap[b]?
 cel:∀b o,b<w.heap.size->¬M b o->cel w' b o=cel w b o
 fro:∀b o,b<w.heap.size->¬M b o->fro w' b o=fro w b o
def bZ.refl(M:af)(w:World):bZ M w w:=⟨rfl,rfl,rfl,W3 _,λ_ _ _=>rfl,λ_ _ _ _=>rfl,λ_ _ _ _=>rfl⟩
def Cb:type_of% @bZ.refl:=@bZ.refl
def bZ.trans{M i:af}{b c:World}(h:bZ M a b)(h':bZ i b c)(j:∀x o,i x o->a.heap.size<=x\/M x o):bZ M a c:=by
 have f:∀x o,x<a.heap.size->¬M x o->¬i x o:=λx o d e h=>(j x o h).elim ω e
 have g:∀x,x<a.heap.size->x<b.heap.size:=λx d=>C4 d h.size
 exact⟨h'.os.trans h.os,h'.tape.trans h.tape,h'.output.trans h.output,O5 h.size h'.size,λx d e=>(h'.blk x (g x d) (λo=>f x o d (e o))).trans (h.blk x d e),
   λx o d e=>(h'.cel x o (g x d) (f x o d e)).trans (h.cel x o d e),λx o d e=>(h'.fro x o (g x d) (f x o d e)).trans (h.fro x o d e)⟩
def bZ.of_below{c:World}(h:Below w.heap.size w c)(M:af):bZ M w c:=
 ⟨h.os,h.tape,h.output,h.size,λb a _=>h.block b a,λ_ _ a _=>h.cell a,λb o a _=>Prod.ext (h.frozen a) (by show mp c b=mp w b;unfold mp;rw[h.block b a])⟩
def Tw{b o:Nat}{z:Value}(h:cel w b o=some z):b<w.heap.size:=by
 rcases Nat.lt_or_ge b w.heap.size with a|c
 ·exact a
 simp[cel,World.cell?,Array.getElem?_eq_none c]at h
def tvs(a:Act)(t:Nat):Value:=a.tmps.getD t undef
structure fD where
 n:Nat
 kp:List (Nat × Value)
 mo:List (Nat × List Nat):=[]
def fD.free(N:fD)(d:Nat):Bool:=Nat.blt d N.n&&!N.kp.any λp=>Nat.beq p.1 d
variable{d:Nat}
def fD.free_lt{N:fD}(h:N.free d=true):d<N.n:=by
 simp only[fD.free,I0]at h;simpa[Nat.blt_eq] using h.1
def fD.free_ne{N:fD}(h:N.free d=true){p:Nat × Value}(a:p∈N.kp):p.1≠d:=λe=>by
 simp only[fD.free,I0,Bool.not_eq_true']at h;have:N.kp.any (λp=>Nat.beq p.1 d)=true:=O4.2 ⟨p,a,by rw[e];exact Nat.beq_refl d⟩;rw[this]at h;cases h.2
structure bo(w0:World)(M S0:af)(N:fD)(S:af)(φ:Nat->af)(F:Nat->AV)(a:Act)(w:World):Prop where
 slot:∀t,cS w S F (tvs a) (φ t) (F t) (tvs a t)
 dis:∀t t',t≠t'->∀b o,φ t b o->¬φ t' b o
 disS:∀t b o,φ t b o->¬S b o
 ex:∀t b o,φ t b o->b<w.heap.size/\(w0.heap.size<=b\/M b o)
 sub:∀b o,S0 b o->S b o
 sup:∀b o,S b o->b<w.heap.size/\(S0 b o\/w0.heap.size<=b\/M b o)
 old:bZ M w0 w
 size:a.tmps.size=N.n
 defers:a.defers=[]
 par:∀p,p∈N.kp->tvs a p.1=p.2
def St(w0:World)(M S0:af)(N:fD)(F:Nat->AV)(a:Act)(w:World):Prop:=∃S φ,bo w0 M S0 N S φ F a w
def R6(a:Act)(d:Nat)(v:Value)(t:Nat)(b:d<a.tmps.size):tvs (a.put (some d) v) t=if t=d then v else tvs a t:=by
 simp only[tvs,Act.put,V7,Array.getElem?_setIfInBounds];by_cases h:d=t
 ·subst h;simp[b]
 rw[CB h,CB (λe=>h e.symm)]
def nk(F:Nat->AV)(d:Nat)(v:AV):put F d v d=v:=by simp[put]
def ig(F:Nat->AV){t:Nat}(v:AV)(h:t≠d):put F d v t=kl d (F t):=by
 have:Nat.beq t d=false:=by rw[<-I6,Nat.beq_eq];exact h
 simp[put,this]
def DR(d:Nat)(k:Kd)(cs:List C):kl d (.H k cs)=.H k cs:=rfl
section
variable{w0 w w1:World}{M S0 S:af}{N:fD}{φ:Nat->af}{F:Nat->AV}{a:Act}
def bo.put_gen(h:bo w0 M S0 N S φ F a w)(u:bZ NO w w1){d:Nat}(K:N.free d=true){av:AV}{v:Value}{X:af}(P:cS w1 S F (tvs a) X av v)(G:av.uses d=false)(D:∀b o,X b o->b<w1.heap.size/\(w0.heap.size<=b\/M b o))(y:∀t,t≠d->∀b o,X b o->¬φ t b o)(H:∀b o,X b o->¬S b o) :
  bo w0 M S0 N S (λt=>if t=d then X else φ t) (put F d av) (a.put (some d) v) w1:=by
 have J:=h.size;have q:∀X:af,(∀b o,X b o->b<w.heap.size)->bq X w w1:=λX D b o c=>⟨u.cel b o (D b o c) (λh=>h),u.fro b o (D b o c) (λh=>h)⟩
 have g:∀t,bq (φ t) w w1:=λt=>q _ λb o c=>(h.ex t b o c).1
 have A:bq S w w1:=q _ λb o c=>(h.sup b o c).1
 have n:∀t,tvs (a.put (some d) v) t=if t=d then v else tvs a t:=λt=>R6 a d v t (by have:=fD.free_lt K;omega)
 refine⟨λt=>?_,λt r f b o c i=>?_,λt b o c=>?_,λt b o c=>?_,h.sub,λb o c=>⟨C4 (h.sup b o c).1 u.size,(h.sup b o c).2⟩,h.old.trans u (λ_ _ h=>h.elim),by simp[Act.put];exact J,h.defers,λp L=>by rw[n,CB (fD.free_ne K L)];exact h.par p L⟩
 ·rw[n]
  by_cases l:t=d
  ·rw[CD l,CD l,l,nk]
   refine P.keep (φ:=φ) (λt k O E=>?_) (λt B=>?_) (λ_ _ _=>⟨rfl,rfl⟩) (λ_ _ _=>⟨rfl,rfl⟩) (λ_ _ h=>h) (λ_ _ h=>h)
   ·refine(h.slot t).keep (φ:=φ) (λt _ _ _=>h.slot t) (λt B=>?_) (g t) A (λ_ _ h=>h) (λ_ _ h=>h)
    exact⟨λ_ _ h=>h,rfl,g t⟩
   have f:t≠d:=λe=>by subst e;rw[G]at B;cases B
   refine⟨λk O E=>by rw[ig _ _ f,E,DR],by rw[n,CB f],λ_ _ _=>⟨rfl,rfl⟩⟩
  rw[ig _ _ l,CB l,CB l];rw[Bx];cases B:(F t).uses d with
  | true=>trivial
  | false=>
   simp only[cond_false];refine(h.slot t).keep (φ:=φ) (λt _ _ _=>h.slot t) (λr C=>?_) (g t) A (λ_ _ h=>h) (λ_ _ h=>h);have f:r≠d:=λe=>by subst e;rw[B]at C;cases C
   exact⟨λk O E=>by rw[ig _ _ f,E,DR],by rw[n,CB f],g r⟩
 ·by_cases l:t=d
  ·rw[CD l]at c
   by_cases j:r=d
   ·exact f (l.trans j.symm)
   rw[CB j]at i;exact y r j b o c i
  rw[CB l]at c;by_cases j:r=d
  ·rw[CD j]at i;exact y t l b o i c
  rw[CB j]at i;exact h.dis t r f b o c i
 ·split at c
  ·exact H b o c
  exact h.disS t b o c
 split at c
 ·exact D b o c
 exact⟨C4 (h.ex t b o c).1 u.size,(h.ex t b o c).2⟩
def Qw(d:Nat):AV->AV
 | .ref t off st=>bif Nat.beq t d then .dead else .ref t off st
 | .c2 t off st ag=>bif Nat.beq t d then .dead else .c2 t off st ag
 | .fn f caps=>.fn f caps
 | .H k cs=>.H k cs
 | .iref r off=>.iref r off
 | .fv Ok=>.fv Ok
 | .dead=>.dead
def kill(F:Nat->AV)(d:Nat):Nat->AV:=λt=>bif Nat.beq t d then .dead else Qw d (F t)
def n6(F:Nat->AV)(d:Nat):kill F d d=.dead:=by simp[kill]
def iI(F:Nat->AV){d t:Nat}(h:t≠d):kill F d t=Qw d (F t):=by
 have:Nat.beq t d=false:=by rw[<-I6,Nat.beq_eq];exact h
 simp[kill,this]
def bo.forget(h:bo w0 M S0 N S φ F a w)(d:Nat):bo w0 M S0 N S (λt=>if t=d then NO else φ t) (kill F d) a w:=by
 refine⟨λt=>?_,λt p g b o c i=>?_,λt b o c=>?_,λt b o c=>?_,h.sub,h.sup,h.old,h.size,h.defers,h.par⟩
 ·by_cases q:t=d
  ·subst q;rw[n6];trivial
  rw[iI _ q,CB q];have l:Qw d (F t)=kl d (F t)->cS w S (kill F d) (tvs a) (φ t) (Qw d (F t)) (tvs a t):=λe=>by
   rw[e,Bx];cases u:(F t).uses d with
   | true=>trivial
   | false=>
    simp only[cond_false];refine(h.slot t).keep (φ:=φ) (λt _ _ _=>h.slot t) (λp n=>?_) (λ_ _ _=>⟨rfl,rfl⟩) (λ_ _ _=>⟨rfl,rfl⟩) (λ_ _ h=>h) (λ_ _ h=>h);have g:p≠d:=λe=>by subst e;rw[u]at n;cases n
    exact⟨λk A y=>by rw[iI _ g,y];rfl,rfl,λ_ _ _=>⟨rfl,rfl⟩⟩
  cases j:F t with
  | fn f caps=>have r:=h.slot t;rw[j]at r;exact r
  | _=>rw[<-j];exact l (by rw[j];rfl)
 ·split at c
  ·exact c.elim
  split at i
  ·exact i.elim
  exact h.dis t p g b o c i
 ·split at c
  ·exact c.elim
  exact h.disS t b o c
 split at c
 ·exact c.elim
 exact h.ex t b o c
end
inductive TK where
 |st (flds:List (Nat × Nat))
 |sl (elem:Nat)
 |sc (d:TypeDesc)
 |mp (key elem:Nat) (z:Value)
structure TI where
 size:Nat
 bytes:Nat
 zero:List C
 kind:TK
instance:Inhabited TI:=⟨⟨0,0,[],.st []⟩⟩
def TI.agg(i:TI):Bool:=match i.kind with|.st _=>true|_=>false
def cval:C->Value
 | .v x=>x
 | .z=>.slice none 0 0
 | _=>undef
def aE:List C->Prop
 | []=>True
 | .v x::cs=>x.oneCell'=true/\aE cs
 | .z::cs=>aE cs
 | _=>False
def bQ(P:Program)(t:Nat)(i:TI):Prop:=
 (P.info? t).map (λx=>(x.zero.map (·.cells.toList),x.size,x.bytes))=some (some (i.zero.map cval),i.size,i.bytes)/\aE i.zero/\
 match i.kind with
 | .st flds=>∃a,P.underlying t=some (.struct a)/\a.toList.map (λf=>(f.offset,f.type))=flds
 | .sl e=>P.underlying t=some (.slice e)
 | .sc d=>P.underlying t=some d/\(match d with|.struct _|.array _ _=>False|_=>True)
 | .mp k e z=>P.underlying t=some (.map k e)/\P.underlying k=some (.int .i64)/\(P.info? e).bind (·.zero)=some z/\z.oneCell'=true
def dS:C->Bool
 | .s .own _=>true
 | .s (.tag _) _=>true
 | .m _=>true
 | .it _ _=>true
 | _=>false
def aZ:List C->Bool
 | []=>true
 | c::cs=>bif dS c then false else aZ cs
def bz(cs:List C)(off n:Nat):List C:=(cs.drop off).take n
def xM:Value->C
 | .slice none 0 0=>.z
 | v=>.v v
def lZ:Value->AV
 | .agg arr=>bif arr.all (·.oneCell') then .H .agg (arr.toList.map xM) else .dead
 | .tuple _=>.dead
 | .pointer (some _)=>.dead
 | v=>.H .one [xM v]
def n8(F:Nat->AV):Operand->AV
 | .tmp t=>F t
 | .const v=>lZ v
 | .global _=>.dead
 | .func f=>.fn f []
inductive Rw(cs:List C)(off:Nat)(st:cM)(K:List C->Nat->Prop):Prop
 |mk_ (h:∃r j,cn cs off st=some (r,j)/\K r j)
variable{st:cM}{off:Nat}
def Rw.mk{K:List C->Nat->Prop}(h:cn cs off st=some (r,j))(a:K r j):Rw cs off st K:=by refine .mk_ ?_;exact⟨r,j,h,a⟩
def Rw.out{K:List C->Nat->Prop}(h:Rw cs off st K):∃r j,cn cs off st=some (r,j)/\K r j:=by obtain⟨h⟩:=h;exact h
inductive Wr(k:IntKind)(x:Int)(K:Int->Prop):Prop
 |mk_ (h:∃z,k.wrap x=z/\K z)
variable{x:Int}
def Wr.mk{k:IntKind}{z:Int}{K:Int->Prop}(h:k.wrap x=z)(a:K z):Wr k x K:=by refine .mk_ ?_;exact⟨z,h,a⟩
def CO:type_of% @Wr.mk:=@Wr.mk
def Wr.out{k:IntKind}{K:Int->Prop}(h:Wr k x K):∃z,k.wrap x=z/\K z:=by obtain⟨h⟩:=h;exact h
inductive Ev(x:Int)(K:Int->Prop):Prop
 |mk_ (h:∃z,x=z/\K z)
def Ev.mk{z:Int}{K:Int->Prop}(h:x=z)(a:K z):Ev x K:=by refine .mk_ ?_;exact⟨z,h,a⟩
def CX:type_of% @Ev.mk:=@Ev.mk
def Ev.out{K:Int->Prop}(h:Ev x K):∃z,x=z/\K z:=by obtain⟨h⟩:=h;exact h
inductive Ln(x:Nat)(K:Nat->Prop):Prop
 |mk_ (h:∃z,x=z/\K z)
def Ln.mk{x z:Nat}{K:Nat->Prop}(h:x=z)(a:K z):Ln x K:=by refine .mk_ ?_;exact⟨z,h,a⟩
def Ln.out{x:Nat}{K:Nat->Prop}(h:Ln x K):K x:=by obtain⟨h⟩:=h;obtain⟨z,rfl,h⟩:=h;exact h
inductive Cd(p:Prop)(X:Prop):Prop
 |mk_ (h:p/\X)
variable{p X:Prop}
def Cd.mk(h:p)(a:X):Cd p X:=by refine .mk_ ?_;exact⟨h,a⟩
def CQ:type_of% @Cd.mk:=@Cd.mk
def Cd.out(h:Cd p X):p/\X:=by obtain⟨h⟩:=h;exact h
inductive Ix(rows:List (List C))(i:Int)(K:List C->Prop):Prop
 |mk_ (h:0<=i/\∃r,rows[i.toNat]? = some r/\K r)
def Ix.mk{i:Int}{K:List C->Prop}(a:0<=i)(h:rows[i.toNat]? = some r)(b:K r):Ix rows i K:=by refine .mk_ ?_;exact⟨a,r,h,b⟩
def CP:type_of% @Ix.mk:=@Ix.mk
def Ix.nat{K:List C->Prop}(h:rows[i]? = some r)(a:K r):Ix rows (i:Int) K:=CP ω h a
def CF:type_of% @Ix.nat:=@Ix.nat
def Ix.out{i:Int}{K:List C->Prop}(h:Ix rows i K):0<=i/\∃r,rows[i.toNat]? = some r/\K r:=by obtain⟨h⟩:=h;exact h
inductive Bf(b:Bool)(X Y:Prop):Prop
 |mk_ (h:bif b then X else Y)
variable{Y:Prop}{b:Bool}
def Bf.out(h:Bf b X Y):bif b then X else Y:=by obtain⟨h⟩:=h;exact h
def Bf.in_(h:bif b then X else Y):Bf b X Y:=by refine .mk_ ?_;exact h
def Bf.t(h:b=true)(a:X):Bf b X Y:=by subst h;exact .in_ a
def Bf.f(h:b=false)(a:Y):Bf b X Y:=by subst h;exact .in_ a
def Bf.P(h1:b=true->X)(a:b=false->Y):Bf b X Y:=by cases b;exact .f rfl (a rfl);exact .t rfl (h1 rfl)
def Bf.D[Decidable p](h1:p->X)(a:¬p->Y):Bf (decide p) X Y:=.P (λh=>h1 (of_decide_eq_true h)) (λh=>a (of_decide_eq_false h))
def Bf.E{a b:Int}(h1:a=b->X)(c:a≠b->Y):Bf (a == b) X Y:=.P (λh=>h1 (by simpa using h)) (λh=>c (by simpa using h))
def Bf.N{a b:Int}(h1:a≠b->X)(c:a=b->Y):Bf (a != b) X Y:=.P (λh=>h1 (by simpa using h)) (λh=>c (by simpa using h))
def Bf.not(h:Bf b Y X):Bf (!b) X Y:=by cases b<;>exact .in_ h.out
def vX(F:Nat->AV)(t off:Nat)(st:cM)(K:List C->Nat->Prop):Prop:=
 match F t with
 | .H _ cs=>match st with
  | []=>K cs off
  | s::st=>Rw cs off (s::st) K
 | _=>False
def iO(F:Nat->AV):AV->(Option Nat->List C->Prop)->Prop
 | .H .one cs,K=>K none cs
 | .H .agg cs,K=>K (some cs.length) cs
 | .c2 t off st ag,K=>vX F t off st λr j=>K ag (bz r j (ag.getD 1))
 | .fn f [],K=>K none [.v (.func (.func f) #[] #[])]
 | _,_=>False
def cb(w:World)(S Y:af)(ag:Option Nat)(cs:List C)(v:Value):Prop:=
 cs.length=ag.getD 1/\∃u,v=mkv ag u/\dn w S Y cs u
def qp{F:Nat->AV}{t:Nat}{K:List C->Nat->Prop}(h:vX F t off st K):∃k cs r j,F t=.H k cs/\cn cs off st=some (r,j)/\K r j:=by
 unfold vX at h;cases a:F t with
 | H k cs=>
  rw[a]at h;cases st with
  | nil=>exact⟨k,cs,cs,off,rfl,rfl,h⟩
  | cons s st=>obtain⟨r,j,e,h⟩:=Rw.out h;exact⟨k,cs,r,j,rfl,e,h⟩
 | _=>rw[a]at h;exact h.elim
def qu(arr:Array Value):Value.agg arr=mkv (some arr.size) (λj=>arr.toList.getD j undef):=by
 simp only[mkv]
 congr 1
 apply Array.ext';apply List.ext_getElem?;intro j;by_cases a:j<arr.size
 ·simp[a,List.getD]
 simp[a]
variable{ag:Option Nat}
def iU{a:Nat->Value}(h:∀j,j<ag.getD 1->u j=a j):mkv ag u=mkv ag a:=by
 cases ag with
 | none=>exact h 0 (by simp)
 | some n=>simp only[mkv];congr 2;exact List.map_congr_left λj b=>h j (by simpa using List.mem_range.1 b)
section
variable{P:Program}{w0 w w1:World}{M S0 S:af}{N:fD}{φ:Nat->af}{F:Nat->AV}{a:Act}
def rx(S F:af){v:Value}(h:v.oneCell'=true):eY w S F (xM v) v:=by
 unfold xM;split
 ·exact .z _ _
 exact .v _ _ h
def LH(v:Value):cS w S F (tvs a) NO (lZ v) v:=by
 cases v with
 | agg arr=>
  cases d:arr.all (·.oneCell') with
  | false=>
   have e:lZ (.agg arr)=.dead:=by simp only[lZ,d,cond_false]
   rw[e];trivial
  | true=>
   have e:lZ (.agg arr)=.H .agg (arr.toList.map xM):=by simp only[lZ,d,cond_true]
   rw[e];refine⟨NO,NO,λ_ _ h=>h,λ_ _ h=>h,λ_ _ _ h=>h,⟨arr,rfl,by simp⟩,λ_=>NO,λj c b=>?_,λ_ _ _ _ h=>h,λ_ _ _ _ _ _ _ h=>h.elim⟩;rw[X3,Array.getElem?_toList]at b;cases g:arr[j]? with
   | none=>rw[g]at b;cases b
   | some x=>
    rw[g]at b;simp only[Z5,C1]at b;subst b;have f:x.oneCell'=true:=by
     obtain⟨i,k⟩:=t4.1 g;have:=Array.all_eq_true.1 d j i
     rwa [k]at this
    have:cr w .agg (.agg arr) j=x:=by simp[cr,Value.cells,List.getD,g]
    rw[this];exact rx _ _ f
 | tuple _=>trivial
 | pointer p=>cases p with
  | some _=>trivial
  | none=>exact⟨NO,NO,λ_ _ h=>h,λ_ _ h=>h,λ_ _ _ h=>h,rfl,λ_=>NO,λj c b=>by cases j with|zero=>simp at b;subst b;exact rx _ _ rfl|succ j=>simp at b,λ_ _ _ _ h=>h,λ_ _ _ _ _ _ _ h=>h.elim⟩
 | _=>exact⟨NO,NO,λ_ _ h=>h,λ_ _ h=>h,λ_ _ _ h=>h,rfl,λ_=>NO,λj c b=>by cases j with|zero=>simp at b;subst b;exact rx _ _ rfl|succ j=>simp at b,λ_ _ _ _ h=>h,λ_ _ _ _ _ _ _ h=>h.elim⟩
def UN(φ:Nat->af):Operand->af
 | .tmp t=>φ t
 | _=>NO
def bo.ev(h:bo w0 M S0 N S φ F a w)(x:Operand):cS w S F (tvs a) (UN φ x) (n8 F x) (a.eval x):=by
 cases x with
 | tmp t=>exact h.slot t
 | const v=>exact LH v
 | global g=>trivial
 | func f=>rfl
def bo.place(h:bo w0 M S0 N S φ F a w){t off:Nat}{st:cM}{k:Kd}{cs r:List C}{j:Nat}(p:F t=.H k cs)(i:cn cs off st=some (r,j)) :
  ∃Y u,(∀b o,Y b o->φ t b o)/\dn w S Y r u/\(∀d,cellv w (cr w k (tvs a t)) off st d=u (j+d))/\
   (∀g o,plc w (cr w k (tvs a t)) (oX k (tvs a t)) off st=some (g,o)->∃b,o=b+j/\∀d,d<r.length->cel w g (b+d)=some (u d)):=by
 have n:=h.slot t;rw[p]at n;obtain⟨V,Y,W,q,X,y,A⟩:=n;obtain⟨B,D,E,G,H,J,K⟩:=dn.at_ st (oX k (tvs a t)) A i;refine⟨B,D,λb o L=>q b o (E b o L),G,H,λg o c=>?_⟩;by_cases f:st=[]
 ·subst f
  simp only[cn,C1,Prod.mk.injEq]at i;obtain⟨rfl,rfl⟩:=i;rw[J rfl];cases k with
  | box=>
   obtain⟨O,P,Q,e⟩:=y;rw[Q]at c |-;simp only[plc,oX,Z5,C1,Prod.mk.injEq]at c;obtain⟨rfl,rfl⟩:=c;refine⟨P,rfl,λd R=>?_⟩;obtain⟨-,⟨z,T⟩,-⟩:=e d R;simp only[cr,T,Option.getD_some]
  | _=>simp[plc,oX]at c
 obtain⟨O,b,l,U⟩:=K f;rw[l]at c;simp only[C1,Prod.mk.injEq]at c;obtain⟨rfl,rfl⟩:=c;exact⟨b,rfl,U⟩
def bo.val(h:bo w0 M S0 N S φ F a w){av:AV}{v:Value}{X:af}{K:Option Nat->List C->Prop}(p:cS w S F (tvs a) X av v)(e:iO F av K) :
  ∃ag cs Y,K ag cs/\cb w S Y ag cs v/\∀b o,Y b o->X b o\/∃t,φ t b o:=by
 cases av with
 | H k cs=>
  obtain⟨U,Y,V,D,W,E,G⟩:=p;cases k with
  | one=>exact⟨none,cs,Y,e,⟨E,_,rfl,G⟩,λb o l=>.inl (D b o l)⟩
  | agg=>
   obtain⟨arr,rfl,q⟩:=E;exact⟨some cs.length,cs,Y,e,⟨rfl,cr w .agg (.agg arr),by have:=qu arr;rw[q]at this;exact this,G⟩,λb o l=>.inl (D b o l)⟩
  | _=>exact e.elim
 | c2 t y O ag=>
  replace e:vX F t y O (λr j=>K ag (bz r j (ag.getD 1))):=e;obtain⟨k,cs,r,j,H,J,P⟩:=qp e;obtain⟨Z,Q,r',j',g,i,L,R⟩:=p;rw[H]at g;simp only[AV.H.injEq]at g;obtain⟨rfl,rfl⟩:=g;rw[J]at i;simp only[C1,Prod.mk.injEq]at i;obtain⟨rfl,rfl⟩:=i;obtain⟨Y,u,T,n,A,-⟩:=h.place H J;refine⟨ag,_,Y,P,⟨by simp[bz];omega,λd=>u (j+d),?_,n.part j _⟩,λb o l=>.inr ⟨t,T b o l⟩⟩;rw[R];exact iU λd _=>A d
 | fn f caps=>
  cases caps with
  | cons c cs=>exact e.elim
  | nil=>
   refine⟨none,_,NO,e,⟨rfl,λ_=>v,rfl,λ_=>NO,λj c B=>?_,λ_ _ _ _ h=>h,λ_ _ _ _ _ _ _ h=>h.elim⟩,λ_ _ h=>h.elim⟩;cases j with
   | zero=>simp at B;subst B;rw[show v=.func (.func f) #[] #[] from p];exact .v _ _ rfl
   | succ j=>simp at B
 | _=>exact e.elim
end
def Ac(P:Program)(o:Oper)(a:Act)(w:World)(R:Value->World->Prop):Prop:=
 ∀(Kc:Act->World->Prop)(Q:Exit->Act->World->Prop),(∀v w1,R v w1->Kc (a.put o.dst v) w1)->o.wp P a w Kc Q
variable{R:Value->World->Prop}{o:Oper}
def Ac.value{P:Program}{a:Act}{w1:World}(h:(execOp a.eval o).run P w=.ok (.value v) w1)(b:R v w1):Ac P o a w R:=by
 intro Kc Q c;unfold Oper.wp;rw[h,Oper.upon_value];exact c v w1 b
def Ac.skip{P:Program}{a:Act}{w1:World}(h:(execOp a.eval o).run P w=.ok .skip w1)(b:R undef w1):Ac P o a w R:=by
 intro Kc Q c;unfold Oper.wp;rw[h,Oper.upon_skip];exact c undef w1 b
def Ac.enter{P:Program}{a:Act}{f:FuncId}{args:Array Value}(h:(execOp a.eval o).run P w=.ok (.enter f args) w)(b:Calls P f args w λe w1=>∃v,e=.returned v/\R v w1):Ac P o a w R:=by
 intro Kc Q c;unfold Oper.wp;rw[h,Oper.upon_enter];refine b.mono λe w1 d=>?_
 obtain⟨v,rfl,g⟩:=d;exact c v w1 g
def mi(w:World)(S:af)(F:Nat->AV)(a:Act)(av:AV)(v:Value)(w1:World):Prop:=
 bZ NO w w1/\∃X c:af,(∀b o,X b o->b<w1.heap.size/\w.heap.size<=b)/\(∀b o,S b o->c b o)/\(∀b o,c b o->S b o\/(b<w1.heap.size/\w.heap.size<=b))/\(∀b o,X b o->¬c b o)/\cS w1 c F (tvs a) X av v
def eY.bare(h:eY w S F c v)(j:dS c=false):eY w S F' c v:=by
 induction h with
 | v F x l=>exact .v _ x l
 | x F u l=>exact .x _ u l
 | z F a=>exact .z _ a
 | nil F o a p=>exact .nil _ o a p
 | U F g q k n e d u A B i D r _=>exact .U _ g q k n e d u A B i D r
 | own F o g k n e d u f p=>cases o with|U=>exact p.elim|own=>cases j|tag v=>cases j
 | m F b t G y H J K L E=>cases j
 | it=>cases j
def rm:∀{cs:List C},aZ cs=true->∀(j:Nat)(c:C),cs[j]? = some c->dS c=false
 | [],_,j,c,h=>by simp at h
 | d::cs,h,j,c,a=>by
  simp only[aZ]at h;cases b:dS d with
  | true=>rw[b]at h;cases h
  | false=>
   rw[b]at h;cases j with
   | zero=>simp at a;subst a;exact b
   | succ j=>exact rm h j c (by simpa using a)
def dn.bare(h:dn w S F cs u)(b:aZ cs=true):dn w S F' cs u:=by
 obtain⟨f,d,-,-⟩:=h;exact⟨λ_=>NO,λj c a=>(d j c a).bare (rm b j c a),λ_ _ _ _ h=>h.elim,λ_ _ _ _ _ _ _ h=>h.elim⟩
def F6(a:j<n):cr w .agg (mkv (some n) u) j=u j:=by
 simp[cr,mkv,Value.cells,List.getD,a]
def mh:Option Nat->Kd
 | none=>.one
 | some _=>.agg
def cb.slot{Y:af}{F:Nat->AV}(h:cb w S Y ag cs v):cS w S F tv Y (.H (mh ag) cs) v:=by
 obtain⟨a,u,rfl,b⟩:=h;cases ag with
 | none=>
  refine⟨NO,Y,λ_ _ h=>h.elim,λ_ _ h=>h,λ_ _ h=>h.elim,a,b.congr λj c=>?_⟩;have:j=0:=by simp at a;omega
  subst this;rfl
 | some n=>
  simp only[Option.getD_some]at a;exact⟨NO,Y,λ_ _ h=>h.elim,λ_ _ h=>h,λ_ _ h=>h.elim,⟨_,rfl,by simp[a]⟩,b.congr λj c=>F6 ω⟩
def cb.bare{Y a:af}(h:cb w S Y ag cs v)(b:aZ cs=true):cb w S a ag cs v:=
 ⟨h.1,h.2.choose,h.2.choose_spec.1,h.2.choose_spec.2.bare b⟩
def bu(F:Nat->AV)(x:Operand)(K:AV->Prop):Prop:=
 match x with
 | .tmp t=>match F t with
  | .H .box _=>K (.ref t 0 [])
  | .H .one cs=>bif aZ cs then K (.H .one cs) else K (.c2 t 0 [] none)
  | .H .agg cs=>bif aZ cs then K (.H .agg cs) else K (.c2 t 0 [] (some cs.length))
  | .H (.tup sh) cs=>bif aZ cs then K (.H (.tup sh) cs) else False
  | .ref t off st=>K (.ref t off st)
  | .c2 t off st ag=>K (.c2 t off st ag)
  | .iref r off=>K (.iref r off)
  | .fn f caps=>K (.fn f caps)
  | .fv Ok=>K (.fv Ok)
  | .dead=>K .dead
 | .const v=>K (lZ v)
 | .global _=>K .dead
 | .func f=>K (.fn f [])
section
variable{P:Program}{w0 w w1:World}{M S0 S:af}{N:fD}{φ:Nat->af}{F:Nat->AV}{a:Act}
variable{K:AV->Prop}
def bo.move(h:bo w0 M S0 N S φ F a w){x:Operand}(c:bu F x K):∃av,K av/\cS w S F (tvs a) NO av (a.eval x):=by
 have b:=h.ev x;cases x with
 | tmp t=>
  simp only[bu]at c;simp only[n8,UN]at b;show ∃av,K av/\cS w S F (tvs a) NO av (tvs a t)
  replace b:cS w S F (tvs a) (φ t) (F t) (tvs a t):=b;cases e:F t with
  | H k i=>
   rw[e]at c b;obtain⟨u,Y,y,A,B,l,p⟩:=b;cases k with
   | box=>
    obtain⟨g,o,n,-⟩:=l;exact⟨_,c,.box,i,i,0,g,o,e,rfl,by rw[n];rfl,n⟩
   | one=>
    simp only at c;cases d:aZ i with
    | true=>rw[d]at c;exact⟨_,c,NO,NO,λ_ _ h=>h,λ_ _ h=>h,λ_ _ h=>h.elim,l,p.bare d⟩
    | false=>
     rw[d]at c;exact⟨_,c,.one,i,i,0,e,rfl,by simp[show i.length=1 from l],rfl⟩
   | agg=>
    simp only at c;cases d:aZ i with
    | true=>rw[d]at c;exact⟨_,c,NO,NO,λ_ _ h=>h,λ_ _ h=>h,λ_ _ h=>h.elim,l,p.bare d⟩
    | false=>
     rw[d]at c;refine⟨_,c,.agg,i,i,0,e,rfl,by simp,?_⟩;obtain⟨arr,n,q⟩:=l;rw[n,qu,q];refine iU λj r=>?_
     show _=cr w .agg _ (0+j);rw[Y7,F6 (by simpa using r)]
   | tup C=>
    simp only at c;cases d:aZ i with
    | true=>rw[d]at c;exact⟨_,c,NO,NO,λ_ _ h=>h,λ_ _ h=>h,λ_ _ h=>h.elim,l,p.bare d⟩
    | false=>rw[d]at c;exact c.elim
  | dead=>rw[e]at c;exact⟨_,c,trivial⟩
  | ref=>rw[e]at c b;exact⟨_,c,b⟩
  | c2=>rw[e]at c b;exact⟨_,c,b⟩
  | iref=>rw[e]at c b;exact⟨_,c,b⟩
  | fn=>rw[e]at c b;exact⟨_,c,b⟩
  | fv=>rw[e]at c b;exact⟨_,c,b⟩
 | const v=>exact⟨_,c,b⟩
 | global g=>exact⟨_,c,b⟩
 | func f=>exact⟨_,c,b⟩
def Ac.same{o:Oper}{av:AV}{v:Value}(h:(execOp a.eval o).run P w=.ok (.value v) w)(b:cS w S F (tvs a) NO av v):Ac P o a w (mi w S F a av):=
 .value h ⟨Cb _ _,NO,S,λ_ _ h=>h.elim,λ_ _ h=>h,λ_ _ h=>.inl h,λ_ _ h=>h.elim,b⟩
def qC(i:TI):Option Nat:=bif i.agg then some i.size else none
def TH(F:Nat->AV)(i:TI)(t off:Nat)(st:cM)(K:AV->Prop):Prop:=
 vX F t off st λr j=>bif Nat.beq (bz r j i.size).length i.size then(bif aZ (bz r j i.size) then K (.H (mh (qC i)) (bz r j i.size)) else K (.c2 t off st (qC i))) else False
def vm(TE:Nat->Option TI)(F:Nat->AV)(T:Nat)(x:Operand)(K:AV->Prop):Prop:=
 match TE T with
 | none=>False
 | some i=>bif i.agg || Nat.beq i.size 1 then(match x with
   | .tmp t=>match F t with
     | .H .box _=>TH F i t 0 [] K
     | .ref t a st=>TH F i t a st K
     | .iref r a=>bif Nat.beq (bz r a i.size).length i.size then K (.H (mh (qC i)) (bz r a i.size)) else False
     | _=>False
   | _=>False) else False
def kq(g o j:Nat):(⟨g,o,none⟩ : Addr).add j = ⟨g,o+j,none⟩:=by unfold Addr.add;split<;>simp_all
variable{i:TI}
def bQ.size{t:Nat}(h:bQ P t i):(P.info? t).map (·.size)=some i.size:=by
 have:=h.1;cases a:P.info? t with
 | none=>rw[a]at this;cases this
 | some q=>rw[a]at this;simp only[Z5,C1,Prod.mk.injEq]at this |-;exact this.2.1
def bQ.isAgg{t:Nat}{i:TI}(h:bQ P t i):(isAgg t).run P w=.ok i.agg w:=by
 have:=h.2.2;unfold Go.isAgg TI.agg;cases a:i.kind with
 | st flds=>rw[a]at this;obtain⟨f,b,-⟩:=this;simp[run_underlying b]
 | sl e=>rw[a]at this;simp[run_underlying this]
 | sc d=>rw[a]at this;obtain⟨b,c⟩:=this;simp[run_underlying b];cases d<;>first|exact c.elim|rfl
 | mp k e z=>rw[a]at this;simp[run_underlying this.1]
def kr{t n:Nat}(h:(P.info? t).map (·.size)=some n):(sizeOf t).run P w=.ok n w:=by
 cases a:P.info? t with
 | none=>rw[a]at h;cases h
 | some q=>rw[a]at h;simp only[Z5,C1]at h;simp[sizeOf,typeInfo,a,h]
variable{T:Nat}
def yI(c:bQ P T i)(e:(i.agg || Nat.beq i.size 1)=true){g o:Nat}{u:Nat->Value}(f:∀d,d<i.size->cel w g (o+d)=some (u d)) :
  (Instr.loadAt T (.pointer (some ⟨g,o,none⟩))).run P w=.ok (mkv (qC i) u) w:=by
 have b:=c.isAgg (w:=w);unfold Instr.loadAt Instr.sureAddr loadVar qC;cases a:i.agg with
 | true=>
  rw[a]at b;have:=run_loadCells (P:=P) w ⟨g,o,none⟩ i.size u (λj h=>by rw[kq];exact f j h);simp[b,kr c.size,this,mkv]
 | false=>
  rw[a]at b e;have k:i.size=1:=by simpa using e
  have:=f 0 ω;simp only[Nat.add_zero]at this;simp[b,this,mkv]
def AA{r:List C}{j n:Nat}(h:Nat.beq (bz r j n).length n=true):n=0\/j+n<=r.length:=by
 have:=O2 h;simp[bz]at this;omega
def pu(a:(i.agg || Nat.beq i.size 1)=true):(qC i).getD 1=i.size:=by
 unfold qC;cases h:i.agg with
 | true=>rfl
 | false=>rw[h]at a;simp at a |-;omega
def bo.ld(h:bo w0 M S0 N S φ F a w)(L:bQ P T i)(D:(i.agg || Nat.beq i.size 1)=true){t off:Nat}{st:cM}{k:Kd}{cs r:List C}{j g o:Nat}(E:F t=.H k cs)(G:cn cs off st=some (r,j))(H:plc w (cr w k (tvs a t)) (oX k (tvs a t)) off st=some (g,o))(O:TH F i t off st K) :
  ∃av v,K av/\(Instr.loadAt T (.pointer (some ⟨g,o,none⟩))).run P w=.ok v w/\cS w S F (tvs a) NO av v:=by
 obtain⟨Y,u,V,y,J,n⟩:=h.place E G;obtain⟨W,Q,X,Z,p,q,f⟩:=qp O;rw[E]at p;simp only[AV.H.injEq]at p;obtain⟨rfl,rfl⟩:=p;rw[G]at q;simp only[C1,Prod.mk.injEq]at q;obtain⟨rfl,rfl⟩:=q;cases c:Nat.beq (bz r j i.size).length i.size with
 | false=>rw[c]at f;exact f.elim
 | true=>
  rw[c]at f;simp only[cond_true]at f;obtain⟨b,rfl,R⟩:=n g o H;have U:=AA c;have l:=yI (w:=w) L D (g:=g) (o:=b+j) (u:=λd=>u (j+d)) (λd hd=>by rw[Nat.add_assoc];exact R _ ω);have A:cb w S Y (qC i) (bz r j i.size) (mkv (qC i) λd=>u (j+d)):=⟨by rw[pu D];exact O2 c,_,rfl,y.part j _⟩
  cases B:aZ (bz r j i.size) with
  | true=>
   rw[B]at f;exact⟨_,_,f,l,(A.bare B).slot⟩
  | false=>
   rw[B]at f;have h0:i.size≠0:=λe=>by simp[bz,e,aZ]at B
   refine⟨_,_,f,l,k,cs,r,j,E,G,by rw[pu D];omega,?_⟩;exact iU λd _=>(J d).symm
def bo.load(h:bo w0 M S0 N S φ F a w){TE:Nat->Option TI}(B:∀t i,TE t=some i->bQ P t i){x:Operand}(c:vm TE F T x K) :
  ∃av v,K av/\(Instr.loadAt T (a.eval x)).run P w=.ok v w/\cS w S F (tvs a) NO av v:=by
 unfold vm at c;cases C:TE T with
 | none=>rw[C]at c;exact c.elim
 | some i=>
  rw[C]at c;have D:=B T i C;simp only at c;cases n:(i.agg || Nat.beq i.size 1) with
  | false=>rw[n]at c;exact c.elim
  | true=>
   rw[n]at c;cases x with
   | tmp t=>
    have p:=h.slot t;show ∃av v,K av/\(Instr.loadAt T (tvs a t)).run P w=.ok v w/\_
    simp only[cond_true]at c;cases l:F t with
    | H k H=>
     rw[l]at c p;cases k with
     | box=>
      obtain⟨O,Y,q,y,A,⟨g,o,G,-⟩,Q⟩:=p;have E:plc w (cr w .box (tvs a t)) (oX .box (tvs a t)) 0 []=some (g,o):=by rw[G];rfl
      rw[G];exact h.ld D n l rfl E c
     | _=>exact c.elim
    | ref R f U=>
     rw[l]at c p;obtain⟨k,H,r,j,g,o,q,y,A,J⟩:=p;rw[J];exact h.ld D n q y A c
    | iref r f=>
     rw[l]at c p;simp only at c;obtain⟨g,b,u,q,y,A⟩:=p;cases e:Nat.beq (bz r f i.size).length i.size with
     | false=>rw[e]at c;exact c.elim
     | true=>
      rw[e]at c;simp only[cond_true]at c;have L:=AA e;rw[q];refine⟨_,_,c,yI D n (u:=λd=>u (f+d)) (λd V=>by rw[Nat.add_assoc];exact(y _ ω).2),?_⟩;exact cb.slot ⟨by rw[pu n];exact O2 e,_,rfl,A.part f _⟩
    | dead=>rw[l]at c;exact c.elim
    | c2=>rw[l]at c;exact c.elim
    | fn=>rw[l]at c;exact c.elim
    | fv=>rw[l]at c;exact c.elim
   | _=>exact c.elim
def bo.more(h:bo w0 M S0 N S φ F a w){i:af}(h1:∀b o,S b o->i b o)(j:∀b o,i b o->S b o\/(b<w1.heap.size/\w.heap.size<=b))(g:bZ NO w w1):bo w0 M S0 N i φ F a w1:=by
 have d:∀X:af,(∀b o,X b o->b<w.heap.size)->bq X w w1:=λX k b o c=>⟨g.cel b o (k b o c) (λh=>h),g.fro b o (k b o c) (λh=>h)⟩
 have e:∀t,bq (φ t) w w1:=λt=>d _ λb o c=>(h.ex t b o c).1
 refine⟨λt=>(h.slot t).keep (φ:=φ) (λt _ _ _=>h.slot t) (λt _=>⟨λ_ _ h=>h,rfl,e t⟩) (e t) (d _ λb o c=>(h.sup b o c).1) (λ_ _ h=>h) h1,h.dis,λt b o c l=>?_,λt b o c=>⟨C4 (h.ex t b o c).1 g.size,(h.ex t b o c).2⟩,
   λb o c=>h1 b o (h.sub b o c),λb o c=>?_,h.old.trans g (λ_ _ h=>h.elim),h.size,h.defers,h.par⟩
 ·rcases j b o l with f|f
  ·exact h.disS t b o c f
  have:=(h.ex t b o c).1;omega
 rcases j b o c with f|f
 ·exact⟨C4 (h.sup b o f).1 g.size,(h.sup b o f).2⟩
 exact⟨f.1,.inr (.inl (O5 h.old.size f.2))⟩
def bo.put_newR(h:bo w0 M S0 N S φ F a w){d:Nat}(i:N.free d=true){av:AV}{v:Value}(j:mi w S F a av v w1)(e:av.uses d=false):St w0 M S0 N (put F d av) (a.put (some d) v) w1:=by
 obtain⟨k,X,l,f,n,p,q,r⟩:=j;have u:=h.more n p k;exact⟨l,_,u.put_gen (Cb _ _) i r e (λb o c=>⟨(f b o c).1,.inl (O5 h.old.size (f b o c).2)⟩)
   (λt _ b o c g=>by have:=(h.ex t b o g).1;have:=(f b o c).2;omega) q⟩
end
def ll:cM->Nat->cM
 | [],_=>[]
 | [(i,k,j)],o=>[(i,k,j+o)]
 | s::a::st,o=>s::ll (a::st) o
def qQ(off:Nat):cM->Nat->Nat
 | [],o=>off+o
 | _::_,_=>off
def B6:∀(st:cM){cs:List C}{off:Nat}{r:List C}{j:Nat}(o:Nat),cn cs off st=some (r,j)->cn cs (qQ off st o) (ll st o)=some (r,j+o)
 | [],cs,off,r,j,o,h=>by
  simp only[cn,C1,Prod.mk.injEq]at h;obtain⟨rfl,rfl⟩:=h
  rfl
 | [(i,k,c)],cs,off,r,j,o,h=>by
  simp only[cn]at h;simp only[qQ,ll,cn];split at h
  ·rename_i e b f
   split at h
   ·rename_i g l
    split at h
    ·simp only[C1,Prod.mk.injEq]at h
     obtain⟨rfl,rfl⟩:=h;rename_i a;rw[CD a]
    cases h
   cases h
  cases h
 | s::d::st,cs,off,r,j,o,h=>by
  obtain⟨i,k,c⟩:=s;rw[cn]at h;simp only[qQ,ll];rw[cn];split at h
  ·split at h
   ·split at h
    ·rename_i a
     rw[CD a];have:=B6 (d::st) o h;simpa[qQ] using this
    cases h
   cases h
  cases h
def Kf{w:World} : ∀(st:cM){u:Nat->Value}{top:Option (Nat × Nat)}{off g x:Nat}(o:Nat),plc w u top off st=some (g,x)->plc w u top (qQ off st o) (ll st o)=some (g,x+o)
 | [],u,top,off,g,x,o,h=>by
  cases top with
  | none=>cases h
  | some p=>
   simp only[plc,Z5,C1,Prod.mk.injEq]at h;obtain⟨rfl,rfl⟩:=h;simp only[plc,qQ,ll,Z5,Nat.add_assoc]
 | [(i,k,a)],u,top,off,g,x,o,h=>by
  simp only[plc]at h;simp only[qQ,ll,plc];split at h
  ·simp only[Z5,C1,Prod.mk.injEq]at h
   obtain⟨rfl,rfl⟩:=h;simp only[Z5,Nat.add_assoc]
  cases h
 | s::b::st,u,top,off,g,x,o,h=>by
  obtain⟨i,k,a⟩:=s;rw[plc]at h;simp only[qQ,ll];rw[plc];split at h
  ·have:=Kf (b::st) o h
   simpa[qQ] using this
  cases h
def pm(F:Nat->AV)(x:Operand)(o:Nat)(K:AV->Prop):Prop:=
 match x with
 | .tmp t=>match F t with
  | .H .box _=>K (.ref t o [])
  | .ref t a b=>K (.ref t (qQ a b o) (ll b o))
  | .iref r a=>K (.iref r (a+o))
  | _=>False
 | _=>False
def iM(TE:Nat->Option TI)(F:Nat->AV)(T:Nat)(x:Operand)(f:Nat)(K:AV->Prop):Prop:=
 match TE T with
 | some ⟨_,_,_,.st flds⟩=>match flds[f]? with
  | some (o,a)=>match TE a with
   | some b=>bif Nat.beq b.size 0 then False else pm F x o K
   | none=>False
  | none=>False
 | _=>False
def r6(st:cM)(s:Nat × Nat × Nat):cM:=st++[s]
def xX:∀(st:cM){cs:List C}{off:Nat}{r:List C}{j i k:Nat}{o:dN}{rows:List (List C)}{a:List C},cn cs off st=some (r,j)->r[j]? = some (.s o rows)->rows[i]? = some a->a.length=k->
  cn cs off (r6 st (i,k,0))=some (a,0)
 | [],cs,off,r,j,i,k,o,rows,a,h,b,c,d=>by
  simp only[cn,C1,Prod.mk.injEq]at h;obtain⟨rfl,rfl⟩:=h;simp only[r6,List.nil_append,cn,b,c,d,if_true]
 | (f,g,l)::st,cs,off,r,j,i,k,o,rows,a,h,b,c,d=>by
  simp only[cn]at h;simp only[r6,List.cons_append,cn];split at h
  ·split at h
   ·split at h
    ·rename_i e
     rw[CD e];exact xX st h b c d
    cases h
   cases h
  cases h
def ER{w:World} : ∀(st:cM){u:Nat->Value}{top:Option (Nat × Nat)}{off i k g b n cap:Nat},cellv w u off st 0=.slice (some ⟨g,b,none⟩) n cap->plc w u top off (r6 st (i,k,0))=some (g,b+i*k)
 | [],u,top,off,i,k,g,b,n,cap,h=>by
  simp only[cellv,Nat.add_zero]at h;simp only[r6,List.nil_append,plc,h,Z5,Nat.add_zero]
 | (a,c,d)::st,u,top,off,i,k,g,b,n,cap,h=>by
  simp only[cellv]at h;simp only[r6,List.cons_append,plc];split at h
  ·exact ER st h
  cases h
def HT(F:Nat->AV)(x:Operand)(K:Value->Prop):Prop:=iO F (n8 F x) λa b=>match a,b with|none,[.v z]=>K z|_,_=>False
def Jq(size:Nat)(t off:Nat)(st:cM)(c:C)(i:Int)(K:AV->Prop):Prop:=
 match c with
 | .s o rows=>Ix rows i λr=>bif Nat.beq r.length size then(bif o.mine then K (.ref t off (r6 st (i.toNat,size,0))) else K (.iref r 0)) else False
 | _=>False
def oJ(F:Nat->AV)(size:Nat)(x:Operand)(i:Int)(K:AV->Prop):Prop:=
 match x with
 | .tmp t=>match F t with
  | .H .one [c]=>Jq size t 0 [] c i K
  | .c2 t off st none=>vX F t off st λr j=>match r[j]? with|some c=>Jq size t off st c i K|none=>False
  | _=>False
 | _=>False
def iL(TE:Nat->Option TI)(F:Nat->AV)(T:Nat)(x y:Operand)(K:AV->Prop):Prop:=
 match TE T with
 | some ⟨_,_,_,.sl e⟩=>match TE e with
  | some a=>HT F y λv=>match v with
   | .int _ i=>oJ F a.size x i K
   | _=>False
  | none=>False
 | _=>False
section
variable{P:Program}{w0 w w1:World}{M S0 S:af}{N:fD}{φ:Nat->af}{F:Nat->AV}{a:Act}
variable{K:Value->Prop}{x:Operand}
def bo.scalar(h:bo w0 M S0 N S φ F a w)(d:HT F x K):K (a.eval x)/\(a.eval x).oneCell'=true:=by
 obtain⟨g,i,Y,b,⟨l,u,j,f,k,-⟩,-⟩:=h.val (h.ev x) d
 match g,i,b with
 | none,[.v z],b=>
  have c:=k 0 _ rfl;have e:u 0=z/\z.oneCell'=true:=by
   generalize u 0=y at c;cases c;exact⟨rfl,by assumption⟩
  have:a.eval x=z:=by rw[j];exact e.1
  rw[this];exact⟨b,e.2⟩
variable{T:Nat}{TE:Nat->Option TI}
def bo.fieldAddr(h:bo w0 M S0 N S φ F a w)(q:∀t i,TE t=some i->bQ P t i){f:Nat}{K:AV->Prop}(c:iM TE F T x f K) :
  ∃av v,K av/\(Instr.fieldAt T (a.eval x) f).run P w=.ok v w/\cS w S F (tvs a) NO av v:=by
 unfold iM at c;split at c
 case h_2=>exact c.elim
 rename_i sz by_ z flds X;split at c
 case h_2=>exact c.elim
 rename_i o Q Z;split at c
 case h_2=>exact c.elim
 rename_i R G;cases A:Nat.beq R.size 0 with
 | true=>rw[A]at c;exact c.elim
 | false=>
  rw[A]at c;simp only[cond_false]at c;unfold pm at c;obtain⟨H,hu,J⟩:=(q _ _ X).2.2;have n:∃d,H[f]? = some d/\d.offset=o/\d.type=Q:=by
   have:(H.toList.map (λf=>(f.offset,f.type)))[f]? = some (o,Q):=by rw[J];exact Z
   rw[X3,Array.getElem?_toList]at this;cases U:H[f]? with
   | none=>rw[U]at this;cases this
   | some d=>rw[U]at this;simp only[Z5,C1,Prod.mk.injEq]at this;exact⟨d,rfl,this⟩
  obtain⟨d,n,rfl,rfl⟩:=n;have L:R.size≠0:=λe=>by rw[e]at A;cases A
  have O:=kr (w:=w) (q _ _ G).size;have run:∀g b,(Instr.fieldAt T (.pointer (some ⟨g,b,none⟩)) f).run P w=.ok (.pointer (some ⟨g,b+d.offset,none⟩)) w:=λg b=>by
   simp[Instr.fieldAt,run_underlying hu,n,Instr.sureAddr,fieldPlace,O,L,kq]
  cases x with
  | tmp t=>
   have p:=h.slot t;show ∃av v,K av/\(Instr.fieldAt T (tvs a t) f).run P w=.ok v w/\_
   simp only at c;cases l:F t with
   | H k B=>
    rw[l]at c p;cases k with
    | box=>
     obtain⟨X1,Y,C,D,E,⟨g,b,V,-⟩,h5⟩:=p;exact⟨_,_,c,by rw[V];exact run g b,.box,B,B,d.offset,g,b+d.offset,l,rfl,by rw[V];rfl,rfl⟩
    | _=>exact c.elim
   | ref t' y W=>
    rw[l]at c p;obtain⟨k,B,r,j,g,b,C,D,E,h4⟩:=p;exact⟨_,_,c,by rw[h4];exact run g b,k,B,r,j+d.offset,g,b+d.offset,C,B6 W _ D,Kf W _ E,rfl⟩
   | iref r y=>
    rw[l]at c p;obtain⟨g,b,u,C,D,E⟩:=p;exact⟨_,_,c,by rw[C];exact run g (b+y),g,b,u,by rw[Nat.add_assoc],D,E⟩
   | dead=>rw[l]at c;exact c.elim
   | c2=>rw[l]at c;exact c.elim
   | fn=>rw[l]at c;exact c.elim
   | fv=>rw[l]at c;exact c.elim
  | _=>exact c.elim
def eY.rowImm{w:World}{S F:af}{rows:List (List C)}{v:Value}(h:eY w S F (.s .U rows) v){i:Nat}{r:List C}(p:rows[i]? = some r) :
  ∃g b n cap u,v=.slice (some ⟨g,b,none⟩) n cap/\i<n/\(∀d,d<r.length->S g (b+i*r.length+d)/\cel w g (b+i*r.length+d)=some (u d))/\dn w S NO r u:=by
 generalize e:C.s .U rows=c at h
 induction h with
 | v=>cases e
 | x=>cases e
 | z=>cases e
 | m=>cases e
 | it=>cases e
 | nil F o a A=>cases e;simp at p
 | own F o g k n cap rows u f A=>cases e;exact A.elim
 | U F g q k n cap t u J D B E y _=>
  cases e;have G:r.length=k:=D r (I2 p);have l:i<n:=by have:=(X2.1 p).1;omega
  refine⟨g,q,n,cap,λd=>u (i*k+d),rfl,l,λd K=>?_,λ_=>NO,λj c H=>y i j r c p H,λ_ _ _ _ h=>h,λ_ _ _ _ _ _ _ h=>h.elim⟩;have:=E (i*k+d) (gX l ω);rw[G,Nat.add_assoc];exact this
def vd{e sz g b n cap:Nat}{i:Int}{k:IntKind}(c:P.underlying T=some (.slice e))(d:(P.info? e).map (·.size)=some sz)(f:0<=i)(h:i.toNat<n) :
  (Instr.indexAt T (.slice (some ⟨g,b,none⟩) n cap) (.int k i)).run P w=.ok (.pointer (some ⟨g,b+i.toNat*sz,none⟩)) w:=by
 have a:i<n:=ω
 simp[Instr.indexAt,run_underlying c,asIntOf,f,a,kr d,kq]
def bo.indexAddr(h:bo w0 M S0 N S φ F a w)(X:∀t i,TE t=some i->bQ P t i){y:Operand}{K:AV->Prop}(V:iL TE F T x y K) :
  ∃av v,K av/\(Instr.indexAt T (a.eval x) (a.eval y)).run P w=.ok v w/\cS w S F (tvs a) NO av v:=by
 unfold iL at V;split at V
 case h_2=>exact V.elim
 rename_i sz by_ z e hT;split at V
 case h_2=>exact V.elim
 rename_i Z hei;obtain⟨l,-⟩:=h.scalar V;generalize a.eval y=vy at l;have hu:P.underlying T=some (.slice e):=(X _ _ hT).2.2;have hsz:=(X _ _ hei).size;cases vy with
 | int k i=>
  have go:∀(t p:Nat)(A:cM)(D:Kd)(E r:List C)(j:Nat)(c:C)(v:Value)(Y:af),F t=.H D E->cn E p A=some (r,j)->r[j]? = some c->v=cellv w (cr w D (tvs a t)) p A 0->eY w S Y c v->Jq Z.size t p A c i K->
    ∃av v',K av/\(Instr.indexAt T v (.int k i)).run P w=.ok v' w/\cS w S F (tvs a) NO av v':=by
   intro t p A D E r j c v Y q hr hj hv G hix;cases c with
   | s o rows=>
    obtain⟨h0,r',J,H⟩:=Ix.out hix;cases hl:Nat.beq r'.length Z.size with
    | false=>rw[hl]at H;exact H.elim
    | true=>
     rw[hl]at H;simp only[cond_true]at H;have hl':=O2 hl;cases hm:o.mine with
     | true=>
      rw[hm]at H;obtain⟨g,b,n,cap,B,L,-⟩:=G.row J;refine⟨_,_,H,by rw[B];exact vd hu hsz h0 L,D,E,r',0,g,b+i.toNat*Z.size,q,xX A hr hj J hl',ER A (by rw[<-hv,B]),rfl⟩
     | false=>
      rw[hm]at H;have:o=.U:=by cases o with|U=>rfl|own=>cases hm|tag v=>cases hm
      subst this;obtain⟨g,b,n,cap,u,B,L,O,hrow⟩:=G.rowImm J;refine⟨_,_,H,by rw[B];exact vd hu hsz h0 L,g,b+i.toNat*Z.size,u,rfl,λd hd=>?_,hrow⟩;rw[<-hl'];exact O d hd
   | _=>exact hix.elim
  simp only at l;unfold oJ at l;cases x with
  | tmp t=>
   have W:=h.slot t;show ∃av v,K av/\(Instr.indexAt T (tvs a t) (.int k i)).run P w=.ok v w/\_
   simp only at l;cases q:F t with
   | H D E=>
    rw[q]at l W;cases D with
    | one=>
     match E,l,W,q with
     | [c],l,W,q=>
      obtain⟨X1,Y,h1,h2,h3,h4,f,h5,-⟩:=W;exact go t 0 [] .one [c] [c] 0 c (tvs a t) _ q rfl rfl rfl (h5 0 c rfl) l
    | _=>exact l.elim
   | c2 t' p A ag=>
    rw[q]at l W;cases ag with
    | none=>
     replace l:vX F t' p A λr j=>match r[j]? with|some c=>Jq Z.size t' p A c i K|none=>False:=l
     obtain⟨D,E,r,j,Q,hr,l⟩:=qp l;obtain⟨k1,cs1,r1,j1,R,U,hlen,hv⟩:=W;rw[Q]at R;simp only[AV.H.injEq]at R;obtain⟨rfl,rfl⟩:=R;rw[hr]at U;simp only[C1,Prod.mk.injEq]at U;obtain⟨rfl,rfl⟩:=U;obtain⟨Y,u,hY,⟨f,hf,-⟩,hcv,-⟩:=h.place Q hr;cases hc:r[j]? with
     | none=>rw[hc]at l;exact l.elim
     | some c=>
      rw[hc]at l;refine go t' p A D E r j c _ (f j) Q hr hc hv ?_ l;rw[hv];show eY w S (f j) c (cellv w _ p A 0);rw[hcv 0,Nat.add_zero];exact hf j c hc
    | some n=>exact l.elim
   | dead=>rw[q]at l;exact l.elim
   | ref=>rw[q]at l;exact l.elim
   | iref=>rw[q]at l;exact l.elim
   | fn=>rw[q]at l;exact l.elim
   | fv=>rw[q]at l;exact l.elim
  | _=>exact l.elim
 | _=>exact l.elim
def g9:IntKind->IntKind->Bool
 | .i64,.i64=>true
 | .u8,.u8=>true
 | .u64,.u64=>true
 | .u32,.u32=>true
 | .i32,.i32=>true
 | .u16,.u16=>true
 | .i16,.i16=>true
 | .i8,.i8=>true
 | _,_=>false
def NG{k a:IntKind}(h:g9 k a=true):k=a:=by cases k<;>cases a<;>first|rfl|cases h
def D0(c:BinOp)(x y:Value)(K:Value->Prop):Prop:=
 match x,y with
 | .int k a,.int k' b=>
  match c with
  | .add=>bif g9 k k' then Wr k (a+b) λz=>K (.int k z) else False
  | .sub=>bif g9 k k' then Wr k (a - b) λz=>K (.int k z) else False
  | .mul=>bif g9 k k' then Wr k (a*b) λz=>K (.int k z) else False
  | .quo=>bif g9 k k' then Cd (b≠0) (Wr k (a.tdiv b) λz=>K (.int k z)) else False
  | .rem=>bif g9 k k' then Cd (b≠0) (Ev (a.tmod b) λz=>K (.int k z)) else False
  | .and=>bif g9 k k' then Wr k (BitVec.ofInt k.bits a &&& BitVec.ofInt k.bits b).toNat λz=>K (.int k z) else False
  | .or=>bif g9 k k' then Wr k (BitVec.ofInt k.bits a ||| BitVec.ofInt k.bits b).toNat λz=>K (.int k z) else False
  | .xor=>bif g9 k k' then Wr k (BitVec.ofInt k.bits a ^^^ BitVec.ofInt k.bits b).toNat λz=>K (.int k z) else False
  | .andNot=>bif g9 k k' then Wr k (BitVec.ofInt k.bits a &&& ~~~BitVec.ofInt k.bits b).toNat λz=>K (.int k z) else False
  | .shl=>Cd (0<=b) (Wr k (a*2 ^ (min b.toNat k.bits)) λz=>K (.int k z))
  | .shr=>Cd (0<=b) (Ev (a.fdiv (2 ^ (min b.toNat k.bits))) λz=>K (.int k z))
  | .eql=>bif g9 k k' then K (.bool (a == b)) else False
  | .neq=>bif g9 k k' then K (.bool (a != b)) else False
  | .lss=>bif g9 k k' then K (.bool (decide (a<b))) else False
  | .leq=>bif g9 k k' then K (.bool (decide (a<=b))) else False
  | .gtr=>bif g9 k k' then K (.bool (decide (a > b))) else False
  | .geq=>bif g9 k k' then K (.bool (decide (a≥b))) else False
 | _,_=>False
def MW{f:BinOp}{g i:Value}{y:Operand}(c:D0 f g i K):∃v,K v/\v.oneCell'=true/\(do eqGuard f T x y g i;binOp f T g i:Sem Value).run P w=.ok v w:=by
 cases g<;>cases i<;>try exact c.elim
 rename_i k a j b;have n:(eqGuard f T x y (.int k a) (.int j b)).run P w=.ok () w:=by
  unfold eqGuard;split<;>rfl
 rw[Sem.run_bind,n];have d:∀{X:Prop},(bif g9 k j then X else False)->k=j/\X:=fun {X} h=>by
  cases l:g9 k j with
  | true=>rw[l]at h;exact⟨NG l,h⟩
  | false=>rw[l]at h;exact h.elim
 cases f<;>simp only[D0]at c
 case add=>obtain⟨rfl,h⟩:=d c;obtain⟨z,rfl,h⟩:=h.out;exact⟨_,h,rfl,by simp[binOp,Op.intArith]⟩
 case sub=>obtain⟨rfl,h⟩:=d c;obtain⟨z,rfl,h⟩:=h.out;exact⟨_,h,rfl,by simp[binOp,Op.intArith]⟩
 case mul=>obtain⟨rfl,h⟩:=d c;obtain⟨z,rfl,h⟩:=h.out;exact⟨_,h,rfl,by simp[binOp,Op.intArith]⟩
 case quo=>obtain⟨rfl,h⟩:=d c;obtain⟨e,h⟩:=h.out;obtain⟨z,rfl,h⟩:=h.out;exact⟨_,h,rfl,by simp[binOp,Op.intDiv,e]⟩
 case rem=>obtain⟨rfl,h⟩:=d c;obtain⟨e,h⟩:=h.out;obtain⟨z,rfl,h⟩:=h.out;exact⟨_,h,rfl,by simp[binOp,Op.intDiv,e]⟩
 case and=>obtain⟨rfl,h⟩:=d c;obtain⟨z,rfl,h⟩:=h.out;exact⟨_,h,rfl,by simp[binOp,Op.intBits]⟩
 case or=>obtain⟨rfl,h⟩:=d c;obtain⟨z,rfl,h⟩:=h.out;exact⟨_,h,rfl,by simp[binOp,Op.intBits]⟩
 case xor=>obtain⟨rfl,h⟩:=d c;obtain⟨z,rfl,h⟩:=h.out;exact⟨_,h,rfl,by simp[binOp,Op.intBits]⟩
 case andNot=>obtain⟨rfl,h⟩:=d c;obtain⟨z,rfl,h⟩:=h.out;exact⟨_,h,rfl,by simp[binOp,Op.intBits]⟩
 case shl=>obtain⟨e,h⟩:=c.out;obtain⟨z,rfl,h⟩:=h.out;exact⟨_,h,rfl,by simp[binOp,Op.shift,Int.not_lt.2 e]⟩
 case shr=>obtain⟨e,h⟩:=c.out;obtain⟨z,rfl,h⟩:=h.out;exact⟨_,h,rfl,by simp[binOp,Op.shift,Int.not_lt.2 e]⟩
 case eql=>obtain⟨rfl,h⟩:=d c;exact⟨_,h,rfl,by simp[binOp,Op.intCmp]⟩
 case neq=>obtain⟨rfl,h⟩:=d c;exact⟨_,h,rfl,by simp[binOp,Op.intCmp]⟩
 case lss=>obtain⟨rfl,h⟩:=d c;exact⟨_,h,rfl,by simp[binOp,Op.intCmp]⟩
 case leq=>obtain⟨rfl,h⟩:=d c;exact⟨_,h,rfl,by simp[binOp,Op.intCmp]⟩
 case gtr=>obtain⟨rfl,h⟩:=d c;exact⟨_,h,rfl,by simp[binOp,Op.intCmp]⟩
 case geq=>obtain⟨rfl,h⟩:=d c;exact⟨_,h,rfl,by simp[binOp,Op.intCmp]⟩
def jV{v:Value}(h:v.oneCell'=true):cS w S F (tvs a) NO (.H .one [.v v]) v:=
 ⟨NO,NO,λ_ _ h=>h,λ_ _ h=>h,λ_ _ _ h=>h,rfl,λ_=>NO,λj c b=>by cases j with|zero=>simp at b;subst b;exact .v _ _ h|succ j=>simp at b,λ_ _ _ _ h=>h,λ_ _ _ _ _ _ _ h=>h.elim⟩
end
def xU(TE:Nat->Option TI)(T:Nat)(K:AV->Prop):Prop:=
 match TE T with
 | some i=>K (.H .box i.zero)
 | none=>False
def QG(F:Nat->AV)(x:Operand)(K:AV->Prop):Prop:=
 iO F (n8 F x) λ_ a=>bif aZ a then K (.H .box a) else False
section
variable{P:Program}{w0 w w1:World}{M S0 S:af}{N:fD}{φ:Nat->af}{F:Nat->AV}{a:Act}
def iz(w:World)(cells:Array Value)(e:TypeId)(j:Nat):cel (w.alloc (.cells cells e)) w.heap.size j=cells[j]?:=
 cell_of_row (w.alloc (.cells cells e)) w.heap.size j cells e (0,0) (heap_alloc_new w _)
def jW(w:World)(cells:Array Value)(e:TypeId)(j:Nat):fro (w.alloc (.cells cells e)) w.heap.size j=NF:=by
 have h:=heap_alloc_new w (.cells cells e);refine Prod.ext ?_ (by show mp _ _=none;unfold mp;rw[h];simp);show World.frozen? _ _=false;simp only[World.frozen?,h];simp
def dl(w:World)(o:Obj):bZ NO w (w.alloc o):=bZ.of_below ((Below.refl _ _).alloc (W3 _) o) NO
def gc(w:World)(o:Obj):(w.alloc o).heap.size=w.heap.size+1:=by show(w.heap.push o).size=_;simp
def iK{X:af}(a:bZ NO w w1)(c:∀b o,X b o->b<w.heap.size):bq X w w1:=λb o d=>⟨a.cel b o (c b o d) (λh=>h),a.fro b o (c b o d) (λh=>h)⟩
variable{u:Nat->Value}
def bo.newBox(h:bo w0 M S0 N S φ F a w){cells:Array Value}{e:TypeId}{cs:List C}(k:cs.length=cells.size)(f:∀j,j<cs.length->cells[j]? = some (u j))(g:dn w S NO cs u) :
  mi w S F a (.H .box cs) (.pointer (some ⟨w.heap.size,0,none⟩)) (w.alloc (.cells cells e)):=by
 refine⟨dl w _,λb o=>b=w.heap.size/\o<cs.length,S,λb o c=>⟨by rw[gc];omega,ω⟩,λ_ _ h=>h,λ_ _ h=>.inl h,λb o c i=>by have:=(h.sup b o i).1;omega,?_⟩;refine⟨λb o=>b=w.heap.size/\o<cs.length,NO,λ_ _ h=>h,λ_ _ h=>h.elim,λ_ _ _ h=>h,⟨_,_,rfl,λj d=>⟨⟨rfl,ω⟩,?_,?_⟩⟩,?_⟩
 ·rw[Y7,iz];exact⟨_,f j d⟩
 ·rw[Y7,jW]
 refine(g.keep (iK (dl w _) λb o c=>(h.sup b o c).1) (λ_ _ h=>h.elim)).congr λj d=>?_
 simp only[cr,Y7,iz,f j d,Option.getD_some]
def tR:∀{cs:List C},aE cs->∀c∈cs,dS c=false
 | [],_,c,h=>by simp at h
 | b::cs,h,c,d=>by
  rcases List.mem_cons.1 d with rfl|e
  ·cases c with|s o a=>exact h.elim|m f=>exact h.elim|it=>exact h.elim|_=>rfl
  exact tR (cs:=cs) (by cases b with|v x=>exact h.2|z=>exact h|x=>exact h.elim|s o a=>exact h.elim|m f=>exact h.elim|it=>exact h.elim) c e
def pB:∀{cs:List C},aE cs->∀(S:af),dn w S NO cs (λj=>(cs.map cval).getD j undef)
 | [],_,S=>dn.nil _ _ _ _
 | c::cs,h,S=>by
  refine⟨λ_=>NO,λj e d=>?_,λ_ _ _ _ h=>h,λ_ _ _ _ _ _ _ h=>h.elim⟩;cases j with
  | zero=>
   simp only[List.getElem?_cons_zero,C1]at d;subst d;cases c with
   | v x=>exact .v _ x h.1
   | z=>exact .z _ none
   | x=>exact h.elim
   | s o a=>exact h.elim
   | m k=>exact h.elim
   | it=>exact h.elim
  | succ j=>
   have g:aE cs:=by cases c with|v x=>exact h.2|z=>exact h|x=>exact h.elim|s o a=>exact h.elim|m k=>exact h.elim|it=>exact h.elim
   obtain⟨f,l,-,-⟩:=pB (cs:=cs) g S;have n:=l j e (by simpa using d);have b:dS e=false:=tR g e (I2 (i:=j) (by simpa using d));have:=n.bare (F':=NO) b;simpa using this
def bQ.zero{t:Nat}{i:TI}(h:bQ P t i):∃z,(zeroValue t).run P w=.ok z w/\z.cells.toList=i.zero.map cval:=by
 have:=h.1;cases a:P.info? t with
 | none=>rw[a]at this;cases this
 | some q=>
  rw[a]at this;simp only[Z5,C1,Prod.mk.injEq]at this;cases b:q.zero with
  | none=>rw[b]at this;cases this.1
  | some z=>rw[b]at this;exact⟨z,by simp[zeroValue,typeInfo,a,b],by simpa using this.1⟩
variable{K:AV->Prop}{T:Nat}{TE:Nat->Option TI}
def bo.alloc(h:bo w0 M S0 N S φ F a w)(d:∀t i,TE t=some i->bQ P t i)(c:xU TE T K) :
  ∃av v w1,K av/\(Instr.alloc T true (.tuple #[])).run P w=.ok v w1/\mi w S F a av v w1:=by
 unfold xU at c;split at c
 case h_2=>exact c.elim
 rename_i i f;have e:=d _ _ f;obtain⟨z,g,b⟩:=e.zero (w:=w);refine⟨_,_,w.alloc (.cells z.cells T),c,?_,h.newBox (u:=λj=>(i.zero.map cval).getD j undef) ?_ (λj k=>?_) (pB e.2.1 S)⟩
 ·simp[Instr.alloc,g,newVar,newRow]
 ·have:=Z0 List.length b;simpa using this.symm
 rw[<-Array.getElem?_toList,b,List.getD,W2 (by simpa using k)];rfl
variable{ag:Option Nat}
def qi(h1:ag=none->(u 0).oneCell'=true):(mkv ag u).cells.toList=(List.range (ag.getD 1)).map u:=by
 cases ag with
 | none=>
  have:=h1 rfl;show(u 0).cells.toList=_;cases a:u 0<;>first|(rw[a]at this;cases this;done)|simp[Value.cells,a,List.range_succ]
 | some n=>simp[mkv,Value.cells]
def cb.cells{Y:af}{cs:List C}{v:Value}(h:cb w S Y ag cs v):∃u,v.cells.toList=(List.range cs.length).map u/\dn w S Y cs u:=by
 obtain⟨a,u,rfl,b⟩:=h;refine⟨u,?_,b⟩;rw[qi (λe=>by subst e;exact b.one (by simp at a;omega)),a]
variable{x:Operand}
def bo.box(h:bo w0 M S0 N S φ F a w)(e:QG F x K) :
  ∃av v w1,K av/\(Instr.box T (a.eval x)).run P w=.ok v w1/\mi w S F a av v w1:=by
 obtain⟨l,f,Y,b,g,-⟩:=h.val (h.ev x) e;cases c:aZ f with
 | false=>rw[c]at b;exact b.elim
 | true=>
  rw[c]at b;obtain⟨u,d,i⟩:=g.cells;refine⟨_,_,w.alloc (.cells (a.eval x).cells T),b,by simp[Instr.box,newVar,newRow],h.newBox (u:=u) ?_ (λj k=>?_) (i.bare c)⟩
  ·have:=Z0 List.length d;simpa using this.symm
  rw[<-Array.getElem?_toList,d];simp[k]
def JG(F:Nat->AV)(c x y:Operand)(K:AV->Prop):Prop:=
 HT F c λv=>match v with|.bool b=>Bf b (bu F x K) (bu F y K)|_=>False
def bo.pick(h:bo w0 M S0 N S φ F a w){c y:Operand}(g:JG F c x y K) :
  ∃av b,K av/\a.eval c=.bool b/\cS w S F (tvs a) NO av (if b then a.eval x else a.eval y):=by
 obtain⟨d,-⟩:=h.scalar g;cases i:a.eval c<;>rw[i]at d<;>try exact d.elim
 rename_i b;cases b with
 | true=>obtain⟨av,e,f⟩:=h.move (Bf.out d);exact⟨av,true,e,rfl,f⟩
 | false=>obtain⟨av,e,f⟩:=h.move (Bf.out d);exact⟨av,false,e,rfl,f⟩
def QH(a:UnOp)(x:Value)(K:Value->Prop):Prop:=
 match a,x with
 | .not,.bool b=>K (.bool !b)
 | .neg,.int k n=>Wr k (0 - n) λz=>K (.int k z)
 | _,_=>False
def R7{b:UnOp}{x:Value}{K:Value->Prop}(a:QH b x K):∃v,K v/\v.oneCell'=true/\(Op.unary b x).run P w=.ok v w:=by
 unfold QH at a;split at a
 ·exact⟨_,a,rfl,rfl⟩
 ·obtain⟨z,rfl,h⟩:=a.out;exact⟨_,h,rfl,rfl⟩
 exact a.elim
def Hx(TE:Nat->Option TI)(F:Nat->AV)(T:Nat)(x:Operand)(K:AV->Prop):Prop:=
 match TE T with
 | some ⟨_,_,_,.sl _⟩=>iO F (n8 F x) λa b=>match a,b with
  | none,[.s _ rows]=>Ln rows.length λn=>K (.H .one [.v (.int .i64 (n:Nat))])
  | none,[.z]=>K (.H .one [.v (.int .i64 0)])
  | _,_=>False
 | some ⟨_,_,_,.sc .string⟩=>HT F x λv=>match v with
  | .string s=>Ln s.size λn=>K (.H .one [.v (.int .i64 (n:Nat))])
  | _=>False
 | _=>False
def eY.slice{F:af}{o:dN}{rows:List (List C)}{v:Value}(h:eY w S F (.s o rows) v):∃b cap,v=.slice b rows.length cap:=by
 generalize a:C.s o rows=c at h;cases h with
 | v=>cases a
 | x=>cases a
 | z=>cases a
 | m=>cases a
 | it=>cases a
 | nil=>cases a;exact⟨_,_,rfl⟩
 | own=>cases a;subst_vars;exact⟨_,_,rfl⟩
 | U=>cases a;subst_vars;exact⟨_,_,rfl⟩
def bo.len(h:bo w0 M S0 N S φ F a w)(c:∀t i,TE t=some i->bQ P t i){ty:Nat}(d:Hx TE F T x K) :
  ∃v,K (.H .one [.v v])/\v.oneCell'=true/\(Builtin.len_ #[T] ty #[a.eval x]).run P w=.ok v w:=by
 unfold Hx at d;split at d
 ·rename_i k
  have g:=(c _ _ k).2.2;obtain⟨r,A,Y,e,⟨D,u,j,f,p,-⟩,-⟩:=h.val (h.ev x) d
  match r,A,e with
  | none,[.s o rows],e=>
   obtain⟨b,l,B⟩:=(p 0 _ rfl).slice;have:a.eval x=.slice b rows.length l:=j.trans B;rw[this];exact⟨_,Ln.out e,rfl,by simp[Builtin.len_,run_underlying g,goInt]⟩
  | none,[.z],e=>
   have q:=p 0 _ rfl;have:∃b,u 0=.slice b 0 0:=by
    generalize u 0=y at q;cases q;exact⟨_,rfl⟩
   obtain⟨b,C⟩:=this;have:a.eval x=.slice b 0 0:=j.trans C;rw[this];exact⟨_,e,rfl,by simp[Builtin.len_,run_underlying g,goInt]⟩
 ·rename_i k
  have g:=(c _ _ k).2.2.1;obtain⟨n,-⟩:=h.scalar d;cases j:a.eval x<;>rw[j]at n<;>try exact n.elim
  exact⟨_,Ln.out n,rfl,by simp[Builtin.len_,run_underlying g,goInt]⟩
 exact d.elim
end
def si(t:Nat):AV->AV
 | .c2 t' off st ag=>bif Nat.beq t' t then .dead else .c2 t' off st ag
 | .ref t' off (s::st)=>bif Nat.beq t' t then .dead else .ref t' off (s::st)
 | .ref t' off []=>.ref t' off []
 | .H k cs=>.H k cs
 | .iref r off=>.iref r off
 | .fn f caps=>.fn f caps
 | .fv Ok=>.fv Ok
 | .dead=>.dead
def updH(F:Nat->AV)(t:Nat)(k:Kd)(cs:List C):Nat->AV:=λs=>bif Nat.beq s t then .H k cs else si t (F s)
def splice(cs:List C)(off:Nat)(xs:List C):List C:=cs.take off++xs++cs.drop (off+xs.length)
def gN{xs:List C}(h:off+xs.length<=cs.length)(j:Nat):(splice cs off xs)[j]? = if off<=j/\j<off+xs.length then xs[j - off]? else cs[j]?:=by
 unfold splice;by_cases a:j<off
 ·rw[CB ω,V6,v5 (by simp;omega),List.getElem?_take,CD a]
 by_cases b:j<off+xs.length
 ·rw[CD ω,v5 (by simp;omega),z5 (by simp;omega)]
  congr 1;simp;omega
 rw[CB ω,z5 (by simp;omega),List.getElem?_drop]
 congr 1;simp;omega
def cC{xs:List C}(h:off+xs.length<=cs.length):(splice cs off xs).length=cs.length:=by
 simp[splice];omega
def ic(F:Nat->AV)(t:Nat)(k:Kd)(cs:List C):updH F t k cs t=.H k cs:=by simp[updH]
def f8(F:Nat->AV){t s:Nat}(k:Kd)(cs:List C)(h:s≠t):updH F t k cs s=si t (F s):=by
 have:Nat.beq s t=false:=by rw[<-I6,Nat.beq_eq];exact h
 simp[updH,this]
section
variable{P:Program}{w0 w w1:World}{M S0 S:af}{N:fD}{φ:Nat->af}{F:Nat->AV}{a:Act}
variable{cs:List C}
def bo.upd{t:Nat}(h:bo w0 M S0 N S φ F a w)(A:bZ (φ t) w w1){k:Kd}{q:List C}(W:F t=.H k cs){X:af}(K:∀b o,X b o->φ t b o\/((∀i,i≠t->¬φ i b o)/\¬S b o/\b<w.heap.size/\(w0.heap.size<=b\/M b o)))(Y:cS w1 S F (tvs a) X (.H k q) (tvs a t)):bo w0 M S0 N S (λs=>if s=t then X else φ s) (updH F t k q) a w1:=by
 have G:∀i,i≠t->bq (φ i) w w1:=λi u b o c=>⟨A.cel b o (h.ex i b o c).1 (h.dis i t u b o c),A.fro b o (h.ex i b o c).1 (h.dis i t u b o c)⟩
 have O:bq S w w1:=λb o c=>⟨A.cel b o (h.sup b o c).1 (λP=>h.disS t b o P c),A.fro b o (h.sup b o c).1 (λP=>h.disS t b o P c)⟩
 have holdsame:∀i,i≠t->∀k cs,F i=.H k cs->updH F t k q i=.H k cs:=by
  intro i u T cs2 Q;rw[f8 _ _ _ u,Q];rfl
 refine⟨λs=>?_,λs L B b o c n=>?_,λs b o c=>?_,λs b o c=>?_,h.sub,λb o c=>⟨C4 (h.sup b o c).1 A.size,(h.sup b o c).2⟩,h.old.trans A (λb o c=>(h.ex t b o c).2),h.size,h.defers,h.par⟩
 ·by_cases d:s=t
  ·subst d
   rw[ic,CD rfl];exact Y
  rw[f8 _ _ _ d,CB d];have p:=h.slot s;have keep:(F s).uses t=false->cS w1 S (updH F t k q) (tvs a) (φ s) (F s) (tvs a s):=λZ=>
   p.keep (φ:=φ) (λt _ _ _=>h.slot t) (λi H=>by
     have u:i≠t:=λe=>by subst e;rw[Z]at H;cases H
     exact⟨λk cs Q=>by rw[f8 _ _ _ u,Q];rfl,rfl,G i u⟩) (G s d) O (λ_ _ h=>h) (λ_ _ h=>h)
  cases y:F s with
  | dead=>trivial
  | H T cs2=>rw[y]at keep;exact keep rfl
  | iref r E=>rw[y]at keep;exact keep rfl
  | fn f caps=>rw[y]at p;exact p
  | fv Ok=>rw[y]at p;obtain⟨S1,w2,R,U,e3⟩:=p;exact⟨S1,w2,R,λb o c=>⟨(O b o (R b o c)).1.trans (U b o c).1,(O b o (R b o c)).2.trans (U b o c).2⟩,e3⟩
  | c2 i E J ag=>
   rw[y]at keep;by_cases u:i=t
   ·subst u;simp[si,cS]
   have c:Nat.beq i t=false:=by rw[<-I6,Nat.beq_eq];exact u
   simp only[si,c,cond_false];exact keep c
  | ref i E J=>
   rw[y]at keep p;by_cases u:i=t
   ·subst u
    cases J with
    | cons s J=>simp[si,cS]
    | nil=>
     obtain⟨T,cs2,r,j,g,o,l,V,h3,h4⟩:=p;rw[W]at l;simp only[AV.H.injEq]at l;obtain⟨rfl,rfl⟩:=l;exact⟨k,q,q,E,g,o,ic _ _ _ _,rfl,h3,h4⟩
   have c:Nat.beq i t=false:=by rw[<-I6,Nat.beq_eq];exact u
   cases J with
   | nil=>exact keep c
   | cons s J=>
    simp only[si,c,cond_false];exact keep c
 ·by_cases d:s=t
  ·rw[CD d]at c
   rw[CB (λe=>B (d.trans e.symm))]at n;rcases K b o c with l|⟨l,-⟩
   ·exact h.dis t L (λe=>B (d.trans e)) b o l n
   exact l L (λe=>B (d.trans e.symm)) n
  rw[CB d]at c;by_cases D:L=t
  ·rw[CD D]at n
   rcases K b o n with l|⟨l,-⟩
   ·exact h.dis t s (Ne.symm d) b o l c
   exact l s d c
  rw[CB D]at n;exact h.dis s L B b o c n
 ·split at c
  ·rcases K b o c with l|⟨-,l,-⟩
   ·exact h.disS t b o l
   exact l
  exact h.disS s b o c
 split at c
 ·rcases K b o c with l|⟨-,-,l,V⟩
  ·exact⟨C4 (h.ex t b o l).1 A.size,(h.ex t b o l).2⟩
  exact⟨C4 l A.size,V⟩
 exact⟨C4 (h.ex s b o c).1 A.size,(h.ex s b o c).2⟩
def dn.split{Y:af}{cs:List C}{u:Nat->Value}(h:dn w S Y cs u){off n:Nat}(F:off+n<=cs.length) :
  ∃t y:af,(∀b o,t b o->Y b o)/\(∀b o,y b o->Y b o)/\(∀b o,t b o->¬y b o)/\dn w S t (splice cs off (List.replicate n .x)) u/\dn w S y (bz cs off n) (λj=>u (off+j)):=by
 have l:=λj a=>h.one (j:=j) a
 obtain⟨f,D,E,A⟩:=h;have k:off+(List.replicate n C.x).length<=cs.length:=by simpa using F
 refine⟨λb o=>∃j,j<cs.length/\¬(off<=j/\j<off+n)/\f j b o,λb o=>∃j,off<=j/\j<off+n/\f j b o,λb o ⟨j,a,_,d⟩=>E j a b o d,λb o ⟨j,_,a,d⟩=>E j ω b o d,
   λb o ⟨j,a,G,d⟩ ⟨r,H,J,g⟩=>A j r a ω (λe=>G ω) b o d g,⟨λj=>if off<=j/\j<off+n then NO else f j,λj c a=>?_,λj a b o d=>?_,λj r a i p b o d g=>?_⟩,
   ⟨λj=>f (off+j),λj c a=>?_,λj a b o d=>⟨off+j,ω,by simp[bz]at a;omega,d⟩,λj r a i p=>A _ _ (by simp[bz]at a;omega) (by simp[bz]at i;omega) ω⟩⟩
 ·rw[gN k,z4]at a
  by_cases q:off<=j/\j<off+n
  ·rw[CD q,List.getElem?_replicate,CD ω]at a
   simp only[C1]at a;subst a;exact .x _ _ (l j ω)
  rw[CB q]at a;simp only[CB q];exact D j c a
 ·rw[cC k]at a
  split at d
  ·exact d.elim
  rename_i q;exact⟨j,a,q,d⟩
 ·rw[cC k]at a i
  split at d
  ·exact d.elim
  split at g
  ·exact g.elim
  exact A j r a i p b o d g
 have B:=(X2.1 a).1;simp only[bz,Z1,Z3]at B;rw[bz,List.getElem?_take,CD ω,List.getElem?_drop]at a;exact D _ c a
variable{off:Nat}{u:Nat->Value}
def dn.join{p q:af}{xs:List C}{D:Nat->Value}(h:dn w S p cs u)(h':dn w S q xs D)(r:off+xs.length<=cs.length)(E:∀b o,p b o->¬q b o) :
  dn w S (λb o=>p b o\/q b o) (splice cs off xs) (λj=>if off<=j/\j<off+xs.length then D (j - off) else u j):=by
 obtain⟨f,F,t,G⟩:=h;obtain⟨H,y,i,A⟩:=h';refine⟨λj=>if off<=j/\j<off+xs.length then H (j - off) else f j,λj c d=>?_,λj d b o g=>?_,λj l d k B b o g a=>?_⟩
 ·rw[gN r]at d
  by_cases n:off<=j/\j<off+xs.length
  ·simp only[CD n]at d |-
   exact y _ c d
  simp only[CB n]at d |-;exact F j c d
 ·rw[cC r]at d
  split at g
  ·exact .inr (i _ ω b o g)
  exact .inl (t j d b o g)
 rw[cC r]at d k;by_cases n:off<=j/\j<off+xs.length
 ·rw[CD n]at g
  by_cases e:off<=l/\l<off+xs.length
  ·rw[CD e]at a
   exact A _ _ ω ω ω b o g a
  rw[CB e]at a;exact E b o (t l k b o a) (i _ ω b o g)
 rw[CB n]at g;by_cases e:off<=l/\l<off+xs.length
 ·rw[CD e]at a
  exact E b o (t j d b o g) (i _ ω b o a)
 rw[CB e]at a;exact G j l d k B b o g a
def bo.take(h:bo w0 M S0 N S φ F a w){t:Nat}{k:Kd}(i:F t=.H k cs){n:Nat}(l:off+n<=cs.length) :
  ∃V X:af,(∀b o,V b o->φ t b o)/\(∀b o,V b o->¬X b o)/\(∀b o,X b o->φ t b o)/\dn w S V (bz cs off n) (λj=>cr w k (tvs a t) (off+j))/\
   bo w0 M S0 N S (λs=>if s=t then X else φ s) (updH F t k (splice cs off (List.replicate n .x))) a w:=by
 have p:=h.slot t;rw[i]at p;obtain⟨q,Y,r,e,u,B,D⟩:=p;obtain⟨y,E,f,A,G,H,J⟩:=D.split l;have g:off+(List.replicate n C.x).length<=cs.length:=by simpa using l
 refine⟨E,λb o=>q b o\/y b o,λb o c=>e b o (A b o c),λb o c d=>d.elim (λd=>u b o d (A b o c)) (λd=>G b o d c),λb o c=>c.elim (r b o) (λc=>e b o (f b o c)),J,?_⟩;refine h.upd (Cb _ _) i (λb o c=>.inl (c.elim (r b o) (λc=>e b o (f b o c)))) ⟨q,y,λ_ _ h=>.inl h,λ_ _ h=>.inr h,λb o c K=>u b o c (f b o K),?_,H⟩;rw[cC g];exact B
def bo.store(h:bo w0 M S0 N S φ F a w){t:Nat}{R:List C}(hF:F t=.H .box R)(U:off+cs.length<=R.length){V:af}(hr:dn w S V cs u)(E:∀b o,V b o->(∀W,¬φ W b o)/\¬S b o/\b<w.heap.size/\(w0.heap.size<=b\/M b o)){T:Nat}(Z:(P.info? T).map (·.size)=some cs.length){v:Value}(hv:v.cells.toList=(List.range cs.length).map u){g o:Nat}(hp:plc w (cr w .box (tvs a t)) (oX .box (tvs a t)) off []=some (g,o)) :
  ∃w1,(Instr.storeAt T (.pointer (some ⟨g,o,none⟩)) v).run P w=.ok () w1/\St w0 M S0 N (updH F t .box (splice R off cs)) a w1:=by
 have hs:=h.slot t;rw[hF]at hs;obtain⟨X1,Y,O,h2,h3,⟨d,c,y,p⟩,h5⟩:=hs;rw[y]at hp h5;simp only[plc,oX,Z5,C1,Prod.mk.injEq]at hp;obtain⟨rfl,rfl⟩:=hp;have G:v.cells.toList.length=cs.length:=by rw[hv];simp
 have l:∀j,j<cs.length->X1 d (c+off+j)/\(∃z,cel w d (c+off+j)=some z)/\fro w d (c+off+j)=NF:=λj n=>by
  have:=p (off+j) ω
  rwa [<-Nat.add_assoc]at this
 have H:∀x∈v.cells.toList,x.oneCell'=true:=λx hx=>by
  rw[hv]at hx;obtain⟨j,n,rfl⟩:=Z4.1 hx;exact hr.one (List.mem_range.1 n)
 have J:=run_storeCells_cells (P:=P) d (c+off) v.cells.toList 0 w (λj n=>by obtain⟨z,K⟩:=(l j ω).2.1;simp only[Nat.add_zero];show(cel w d (c+off+j)).isSome=true;rw[K];rfl)
  (λj n=>by simp only[Nat.add_zero];exact Z0 Prod.fst (l j ω).2.2) H
 simp only[Nat.add_zero]at J;refine⟨w.setCells d (c+off) v.cells.toList,?_,?_⟩
 ·have hvs:v.cells.size=cs.length:=by simpa using G
  simp[Instr.storeAt,Instr.sureAddr,storeVar,kr Z,hvs,J]
 have k:∀b o,¬(b=d/\c+off<=o/\o<c+off+cs.length)->cel (w.setCells d (c+off) v.cells.toList) b o=cel w b o:=λb o Q=>
  World.cell?_setCells_out d v.cells.toList (c+off) w ⟨b,o,none⟩ (λe _=>by simp only at e |-;rw[G];omega)
 have i:∀b o,fro (w.setCells d (c+off) v.cells.toList) b o=fro w b o:=λb o=>Prod.ext (World.frozen?_setCells d _ _ w ⟨b,o,none⟩) (mt _ _ _ _ _)
 have q:∀j,j<cs.length->cel (w.setCells d (c+off) v.cells.toList) d (c+off+j)=some (u j):=λj n=>by
  have:=World.cell?_setCells_in d v.cells.toList (c+off) w (λj n=>by obtain⟨z,K⟩:=(l j ω).2.1;show(cel w d (c+off+j)).isSome=true;rw[K];rfl) j ω;show World.cell? _ _=_;rw[this]
  congr 1
  have h0:v.cells.toList[j]? = some (u j):=by rw[hv];simp[n]
  exact(X2.1 h0).2
 have A:bZ (φ t) w (w.setCells d (c+off) v.cells.toList):=by
  have B:∀(r:List Value)(o:Nat)(w:World),(w.setCells d o r).os=w.os/\(w.setCells d o r).tape=w.tape/\(w.setCells d o r).output=w.output/\(w.setCells d o r).heap.size=w.heap.size/\∀b,b≠d->(w.setCells d o r).heap[b]? = w.heap[b]?:=by
   intro r
   induction r with
   | nil=>exact λ_ _=>⟨rfl,rfl,rfl,rfl,λ_ _=>rfl⟩
   | cons x r ih=>
    intro o w;obtain⟨i1,i2,i3,i4,i5⟩:=ih (o+1) (w.setCell ⟨d,o,none⟩ x);exact⟨i1,i2,i3,i4.trans (by simp[World.setCell]),λb f=>(i5 b f).trans (Below.heap_setCell w ⟨d,o,none⟩ x b f)⟩
  obtain⟨i1,i2,i3,i4,i5⟩:=B v.cells.toList (c+off) w;refine⟨i1,i2,i3,ω,λb f Q=>?_,λb o f Q=>k b o (λ⟨e1,e2,e3⟩=>Q ?_),λb o _ _=>i b o⟩
  ·by_cases he:b=d
   ·subst he
    by_cases h0:cs.length=0
    ·have:v.cells.toList=[]:=O8 ω
     rw[this];rfl
    exact absurd (O _ _ (l 0 ω).1) (Q _)
   exact i5 b he
  subst e1;have:=(l (o - (c+off)) ω).1;rw[show c+off+(o - (c+off))=o by omega]at this;exact O _ _ this
 have L:bq S w (w.setCells d (c+off) v.cells.toList):=λb o f=>⟨A.cel b o (h.sup b o f).1 (λh'=>h.disS t b o h' f),i b o⟩
 have hYY:bq Y w (w.setCells d (c+off) v.cells.toList):=λb o f=>⟨k b o (λ⟨e1,e2,e3⟩=>by
   subst e1;have:=(l (o - (c+off)) ω).1;rw[show c+off+(o - (c+off))=o by omega]at this;exact h3 _ _ this f),i b o⟩
 have hVV:bq V w (w.setCells d (c+off) v.cells.toList):=λb o f=>⟨A.cel b o (E b o f).2.2.1 ((E b o f).1 t),i b o⟩
 have n:=(h5.keep L hYY).join (hr.keep L hVV) U (λb o f hb'=>(E b o hb').1 t (h2 b o f));refine⟨S,_,h.upd A hF (X:=λb o=>X1 b o\/Y b o\/V b o) (λb o f=>?_) ⟨X1,λb o=>Y b o\/V b o,λ_ _ h=>.inl h,λ_ _ h=>.inr h,λb o f hy=>hy.elim (h3 b o f) (λhy=>(E b o hy).1 t (O b o f)),⟨d,c,y,λj n=>?_⟩,?_⟩⟩
 ·rcases f with f|f|f
  ·exact .inl (O b o f)
  ·exact .inl (h2 b o f)
  exact .inr ⟨λW _=>(E b o f).1 W,(E b o f).2⟩
 ·rw[cC U]at n
  obtain⟨a1,⟨z,K⟩,a3⟩:=p j n;refine⟨a1,?_,by rw[i];exact a3⟩;by_cases D:off<=j/\j<off+cs.length
  ·have:=q (j - off) ω
   rw[show c+off+(j - off)=c+j by omega]at this;exact⟨_,this⟩
  exact⟨z,by rw[k _ _ ω];exact K⟩
 refine n.congr λj hjl=>?_
 rw[cC U]at hjl;rw[y];simp only[cr];by_cases D:off<=j/\j<off+cs.length
 ·have:=q (j - off) ω
  rw[show c+off+(j - off)=c+j by omega]at this;rw[CD D,this];rfl
 rw[CB D,k _ _ ω]
end
mutual
def Uh:C->Prop
 | .s o rows=>(o≠.U\/rows=[])/\TX rows
 | .v _=>True
 | .x=>True
 | .z=>True
 | .m _=>True
 | .it _ _=>True
def TX:List (List C)->Prop
 | []=>True
 | r::rs=>iD r/\TX rs
def iD:List C->Prop
 | []=>True
 | c::cs=>Uh c/\iD cs
end
def BM:∀{cs:List C}{j:Nat}{c:C},iD cs->cs[j]? = some c->Uh c
 | [],j,c,_,h=>by simp at h
 | b::cs,j,c,h,a=>by
  simp only[iD]at h;cases j with
  | zero=>simp at a;subst a;exact h.1
  | succ j=>exact BM h.2 (by simpa using a)
def Ks:∀{b:List (List C)}{j:Nat}{r:List C},TX b->b[j]? = some r->iD r
 | [],j,c,_,h=>by simp at h
 | d::cs,j,c,h,a=>by
  simp only[TX]at h;cases j with
  | zero=>simp at a;subst a;exact h.1
  | succ j=>exact Ks h.2 (by simpa using a)
def bg{a b:List C}(d:iD a)(e:iD b):iD (a++b):=by
 induction a with
 | nil=>exact e
 | cons c g f=>simp only[iD]at d;exact⟨d.1,f d.2⟩
def bj{α:Type}(f:α->List C)(l:List α)(h:∀x∈l,iD (f x)):TX (l.map f):=by
 induction l with
 | nil=>simp[TX]
 | cons a l b=>simp only[Y6,TX];exact⟨h a (by simp),b λx c=>h x (by simp[c])⟩
def eY.fresh(h:eY w S F c v):Uh c->eY w NO F c v:=by
 induction h with
 | v F x J=>exact λ_=>.v _ x J
 | x F u J=>exact λ_=>.x _ u J
 | z F a=>exact λ_=>.z _ a
 | nil F o a K=>exact λ_=>.nil _ o a K
 | U F g L k n t l u M N p hS O R=>
  intro G;simp only[Uh]at G;rcases G.1 with h|rfl
  ·exact absurd rfl h
  subst M;exact .U _ g L k 0 t [] u rfl N (X0 _) (λq U=>by simp at U) (λi j r c H=>by simp at H)
 | own F o g k n t l u f K M N p A B V G W O R=>
  intro D;simp only[Uh]at D;exact .own _ o g k n t l u f K M N p A B V G W λi j r c H T=>R i j r c H T (BM (Ks D.2 H) T)
 | m F b d X e B P Y Q y=>exact λ_=>.m _ b d X e B P Y Q y
 | it F r b since Z d seen e cur left B hr P y O Q hl E=>exact λ_=>.it _ r b since Z d seen e cur left B hr P y O Q hl E
def dn.fresh(h:dn w S F cs u)(b:iD cs):dn w NO F cs u:=by
 obtain⟨f,d,e,g⟩:=h;exact⟨f,λj c a=>(d j c a).fresh (BM b a),e,g⟩
def Free(w0:World)(M S:af)(φ:Nat->af)(w:World)(V:af):Prop:=∀b o,V b o->(∀t,¬φ t b o)/\¬S b o/\b<w.heap.size/\(w0.heap.size<=b\/M b o)
section
variable{P:Program}{w0 w w1:World}{M S0 S:af}{N:fD}{φ:Nat->af}{F:Nat->AV}{a:Act}
variable{V:af}
def bo.world(h:bo w0 M S0 N S φ F a w)(f:bZ V w w1)(g:Free w0 M S φ w V):bo w0 M S0 N S φ F a w1:=by
 have e:∀t,bq (φ t) w w1:=λt b o c=>⟨f.cel b o (h.ex t b o c).1 (λd=>(g b o d).1 t c),f.fro b o (h.ex t b o c).1 (λd=>(g b o d).1 t c)⟩
 have i:bq S w w1:=λb o c=>⟨f.cel b o (h.sup b o c).1 (λd=>(g b o d).2.1 c),f.fro b o (h.sup b o c).1 (λd=>(g b o d).2.1 c)⟩
 refine⟨λt=>(h.slot t).keep (φ:=φ) (λt _ _ _=>h.slot t) (λt _=>⟨λ_ _ h=>h,rfl,e t⟩) (e t) i (λ_ _ h=>h) (λ_ _ h=>h),h.dis,h.disS,λt b o c=>⟨C4 (h.ex t b o c).1 f.size,(h.ex t b o c).2⟩,h.sub,
   λb o c=>⟨C4 (h.sup b o c).1 f.size,(h.sup b o c).2⟩,h.old.trans f (λb o d=>(g b o d).2.2.2),h.size,h.defers,h.par⟩
def Free.less{φ':Nat->af}(h:Free w0 M S φ w V)(c:∀t b o,φ' t b o->φ t b o):Free w0 M S φ' w V:=λb o a=>⟨λt d=>(h b o a).1 t (c t b o d),(h b o a).2⟩
def Free.or{V':af}(h:Free w0 M S φ w V)(h':Free w0 M S φ w V'):Free w0 M S φ w (λb o=>V b o\/V' b o):=λb o a=>a.elim (h b o) (h' b o)
def Free.grow(h:Free w0 M S φ w V)(c:w.heap.size<=w1.heap.size):Free w0 M S φ w1 V:=λb o a=>⟨(h b o a).1,(h b o a).2.1,C4 (h b o a).2.2.1 c,(h b o a).2.2.2⟩
variable{cs:List C}{k:Kd}
def bo.relTop(h:bo w0 M S0 N S φ F a w){t:Nat}(j:F t=.H k cs) :
  ∃d Y:af,(∀b o,d b o->φ t b o)/\(∀b o,Y b o->φ t b o)/\(∀b o,d b o->¬Y b o)/\dn w S Y cs (cr w k (tvs a t))/\
   ∀(f:List C)(G:af),f.length=cs.length->dn w S G f (cr w k (tvs a t))->(∀b o,G b o->Y b o\/((∀g,¬φ g b o)/\¬S b o/\b<w.heap.size/\(w0.heap.size<=b\/M b o)))->
    bo w0 M S0 N S (λs=>if s=t then(λb o=>d b o\/G b o) else φ s) (updH F t k f) a w:=by
 have l:=h.slot t;rw[j]at l;obtain⟨d,Y,i,n,p,r,u⟩:=l;refine⟨d,Y,i,n,p,u,λf G y A q=>?_⟩;refine h.upd (Cb _ _) j (λb o c=>?_) ⟨d,G,λ_ _ h=>.inl h,λ_ _ h=>.inr h,λb o c e=>?_,by rw[y];exact r,A⟩
 ·rcases c with c|c
  ·exact .inl (i b o c)
  rcases q b o c with c|c
  ·exact .inl (n b o c)
  exact .inr ⟨λg _=>c.1 g,c.2⟩
 rcases q b o e with e|e
 ·exact p b o c e
 exact e.1 t (i b o c)
variable{st:cM}{off j:Nat}{r:List C}
def bo.focus(h:bo w0 M S0 N S φ F a w){t:Nat}(hF:F t=.H k cs)(q:st≠[])(hr:cn cs off st=some (r,j))(ho:kU cs off st) :
  ∃g b D Y,(∀x o,Y x o->φ t x o)/\dn w S Y r D/\(∀d,j+d<r.length->cellv w (cr w k (tvs a t)) off st d=D (j+d))/\plc w (cr w k (tvs a t)) (oX k (tvs a t)) off st=some (g,b+j)/\
   (∀d,d<r.length->φ t g (b+d)/\¬Y g (b+d)/\cel w g (b+d)=some (D d)/\fro w g (b+d)=NF)/\
   ∀(w1:World)(B:List C)(T:Nat->Value)(G V:af),bZ V w w1->(∀x o,V x o->Y x o\/(x=g/\b<=o/\o<b+r.length))->(∀d,d<r.length->cel w1 g (b+d)=some (T d)/\fro w1 g (b+d)=NF)->B.length=r.length->dn w1 S G B T->
    (∀x o,G x o->Y x o\/((∀W,¬φ W x o)/\¬S x o/\x<w.heap.size/\(w0.heap.size<=x\/M x o)))->
    bo w0 M S0 N S (λs=>if s=t then(λx o=>(φ t x o/\¬Y x o)\/G x o) else φ s) (updH F t k (gl cs off st B)) a w1:=by
 have hs:=h.slot t;rw[hF]at hs;obtain⟨X1,X,U,l,E,h4,h5⟩:=hs;obtain⟨g,b,Y,D,H,e2,e3,Z,e5⟩:=dn.focus st (oX k (tvs a t)) q h5 hr ho;obtain⟨F2,u2',c1,c2,c3,-,c4⟩:=dn.at_ st (oX k (tvs a t)) h5 hr;obtain⟨g2,b2,p1,p2⟩:=c4 q;rw[e3]at p1;simp only[C1,Prod.mk.injEq]at p1;obtain⟨rfl,hb2⟩:=p1;have hbb:b=b2:=ω
 subst hbb;refine⟨g,b,D,Y,λx o c=>l x o (H x o c),e2,λd u=>?_,e3,λd u=>?_,λw1 B T G V i hV y J K hG=>?_⟩
 ·rw[c3 d]
  have q1:=p2 (j+d) u;have q2:=(Z (j+d) u).2.2.1;rw[q1]at q2;exact Option.some.inj q2
 ·obtain⟨a1,a2,a3,a4⟩:=Z d u
  exact⟨l _ _ a1,a2,a3,a4⟩
 have L:∀o,b<=o->o<b+r.length->X g o/\¬Y g o:=λo ho1 ho2=>by
  have:=Z (o - b) ω;rw[show b+(o - b)=o by omega]at this;exact⟨this.1,this.2.1⟩
 have f:∀x o,V x o->X x o:=λx o c=>(hV x o c).elim (H x o) (λh=>by rw[h.1];exact(L o h.2.1 h.2.2).1)
 have hkk:bZ (φ t) w w1:=⟨i.os,i.tape,i.output,i.size,λx c O=>i.blk x c (λo e=>O o (l x o (f x o e))),λx o c O=>i.cel x o c (λe=>O (l x o (f x o e))),λx o c O=>i.fro x o c (λe=>O (l x o (f x o e)))⟩
 have hS:bq S w w1:=λx o c=>⟨i.cel x o (h.sup x o c).1 (λe=>h.disS t x o (l x o (f x o e)) c),i.fro x o (h.sup x o c).1 (λe=>h.disS t x o (l x o (f x o e)) c)⟩
 have P:bq X1 w w1:=λx o c=>⟨i.cel x o (h.ex t x o (U x o c)).1 (λe=>E x o c (f x o e)),i.fro x o (h.ex t x o (U x o c)).1 (λe=>E x o c (f x o e))⟩
 have A:=e5 w1 B T G hS (λx o c Q R=>⟨i.cel x o (h.ex t x o (l x o c)).1 (λe=>(hV x o e).elim Q R),i.fro x o (h.ex t x o (l x o c)).1 (λe=>(hV x o e).elim Q R)⟩) y J K (λx o c=>(hG x o c).imp id (λhf h'=>hf.1 t (l x o h')));have n:(gl cs off st B).length=cs.length:=by
  cases st with
  | nil=>exact absurd rfl q
  | cons s st=>
   obtain⟨i',k',j'⟩:=s;simp only[gl];split
   ·split<;>simp
   rfl
 refine h.upd hkk hF (λx o c=>?_) ⟨X1,λx o=>(X x o/\¬Y x o)\/G x o,λx o c=>.inl ⟨U x o c,λp=>E x o c (H x o p)⟩,λx o c=>c.imp (λc=>⟨l x o c.1,c.2⟩) id,λx o c p=>?_,by rw[n];exact h4.keep P (λ_ _ h=>h),A.congr λd u=>?_⟩
 ·rcases c with c|c
  ·exact .inl c.1
  rcases hG x o c with c|c
  ·exact .inl (l x o (H x o c))
  exact .inr ⟨λW _=>c.1 W,c.2⟩
 ·rcases p with p|p
  ·exact E x o c p.1
  rcases hG x o p with p|p
  ·exact E x o c (H x o p)
  exact p.1 t (U x o c)
 rw[n]at u;exact lD h4 P d u
def we{n:Nat}(h:j+n<=r.length):(splice r j (List.replicate n C.x)).length=r.length:=cC (by simpa using h)
def bo.lend(h:bo w0 M S0 N S φ F a w){t:Nat}{n:Nat}(L:F t=.H k cs)(y:cn cs off st=some (r,j))(T:kU cs off st)(A:j+n<=r.length) :
  ∃V φ',dn w S V (bz r j n) (λd=>cellv w (cr w k (tvs a t)) off st d)/\bo w0 M S0 N S φ' (updH F t k (gl cs off st (splice r j (List.replicate n .x)))) a w/\Free w0 M S φ' w V/\(∀s b o,φ' s b o->φ s b o)/\(∀b o,V b o->φ t b o):=by
 have fin:∀(Y X V:af)(B:Nat->AV),(∀b o,X b o->φ t b o)->(∀b o,V b o->¬X b o)->(∀b o,V b o->φ t b o)->dn w S V (bz r j n) (λd=>cellv w (cr w k (tvs a t)) off st d)->bo w0 M S0 N S (λs=>if s=t then X else φ s) B a w->
   ∃V φ',dn w S V (bz r j n) (λd=>cellv w (cr w k (tvs a t)) off st d)/\bo w0 M S0 N S φ' B a w/\Free w0 M S φ' w V/\(∀s b o,φ' s b o->φ s b o)/\(∀b o,V b o->φ t b o):=by
  intro Y X V B U D q p i;refine⟨V,_,p,i,λb o c=>⟨λs l=>?_,h.disS t b o (q b o c),h.ex t b o (q b o c)⟩,λs b o c=>?_,q⟩
  ·replace l:(if s=t then X else φ s) b o:=l
   by_cases e:s=t
   ·rw[CD e]at l;exact D b o c l
   rw[CB e]at l;exact h.dis s t e b o l (q b o c)
  replace c:(if s=t then X else φ s) b o:=c;by_cases e:s=t
  ·subst e;rw[CD rfl]at c;exact U b o c
  rw[CB e]at c;exact c
 by_cases i:st=[]
 ·subst i
  simp only[cn,C1,Prod.mk.injEq]at y;obtain⟨rfl,rfl⟩:=y;obtain⟨V,X,u,E,G,O,H⟩:=h.take L A;exact fin NO X V _ G E u O H
 obtain⟨g,b,W,Y,u,E,G,O,H,Z⟩:=h.focus L i y T;obtain⟨P,Y2,Q,R,f3,f4,f5⟩:=E.split A;refine fin Y (λx o=>(φ t x o/\¬Y x o)\/P x o) Y2 _ (λx o f=>f.elim (·.1) (λf=>u x o (Q x o f))) (λx o f J=>J.elim (λh=>h.2 (R x o f)) (λh'=>f3 x o h' f)) (λx o f=>u x o (R x o f)) ?_
  (Z w _ W P NO (Cb _ _) (λ_ _ h=>h.elim) (λd K=>(H d K).2.2) (we A) f4 (λx o f=>.inl (Q x o f)))
 exact f5.congr λd K=>by
  simp only[bz,Z1,Z3]at K;exact G d ω
def bo.back(h:bo w0 M S0 N S φ F a w){t:Nat}{out:List C}(E:F t=.H k cs)(y:cn cs off st=some (r,j))(J:kU cs off st)(n:j+out.length<=r.length)(p:Free w0 M S φ w V)(i:dn w S V out (λd=>cellv w (cr w k (tvs a t)) off st d)) :
  ∃φ',bo w0 M S0 N S φ' (updH F t k (gl cs off st (splice r j out))) a w/\∀s b o,φ' s b o->φ s b o\/V b o:=by
 by_cases l:st=[]
 ·subst l
  simp only[cn,C1,Prod.mk.injEq]at y;obtain⟨rfl,rfl⟩:=y;obtain⟨K,Y,q,u,G,H,A⟩:=h.relTop E;refine⟨_,A (splice cs off out) (λb o=>Y b o\/V b o) (cC n) ((H.join i n (λb o c B=>(p b o B).1 t (u b o c))).congr λd D=>?_) (λb o c=>c.imp id (p b o)),λs b o c=>?_⟩
  ·split
   ·rename_i L
    simp only[cellv];rw[show off+(d - off)=d by omega]
   rfl
  replace c:(if s=t then(λb o=>K b o\/(Y b o\/V b o)) else φ s) b o:=c;by_cases e:s=t
  ·subst e
   rw[CD rfl]at c;rcases c with c|c|c
   ·exact .inl (q b o c)
   ·exact .inl (u b o c)
   exact .inr c
  rw[CB e]at c;exact .inl c
 obtain⟨g,b,O,Y,q,u,G,H,A,P⟩:=h.focus E l y J;refine⟨_,P w (splice r j out) O (λx o=>Y x o\/V x o) NO (Cb _ _) (λ_ _ h=>h.elim) (λd D=>(A d D).2.2) (cC n) ((u.join i n (λx o f B=>(p x o B).1 t (q x o f))).congr λd D=>?_) (λx o f=>f.imp id (p x o)),λs x o f=>?_⟩
 ·split
  ·rename_i L
   rw[G (d - j) ω,show j+(d - j)=d by omega]
  rfl
 replace f:(if s=t then(λx o=>(φ t x o/\¬Y x o)\/(Y x o\/V x o)) else φ s) x o:=f;by_cases e:s=t
 ·subst e
  rw[CD rfl]at f;rcases f with f|f|f
  ·exact .inl f.1
  ·exact .inl (q x o f)
  exact .inr f
 rw[CB e]at f;exact .inl f
def bo.cellv_same(h:bo w0 M S0 N S φ F a w){t:Nat}(n:F t=.H k cs)(p:cn cs off st=some (r,j))(g:bZ V w w1)(i:Free w0 M S φ w V) :
  ∀d,j+d<r.length->cellv w1 (cr w1 k (tvs a t)) off st d=cellv w (cr w k (tvs a t)) off st d:=by
 have l:=h.slot t;rw[n]at l;obtain⟨E,G,q,u,H,y,A⟩:=l;have e:bq (φ t) w w1:=λb o c=>⟨g.cel b o (h.ex t b o c).1 (λf=>(i b o f).1 t c),g.fro b o (h.ex t b o c).1 (λf=>(i b o f).1 t c)⟩
 have B:bq S w w1:=λb o c=>⟨g.cel b o (h.sup b o c).1 (λf=>(i b o f).2.1 c),g.fro b o (h.sup b o c).1 (λf=>(i b o f).2.1 c)⟩
 exact(dn.last B st none A p (λb o c=>e b o (u b o c)) (λx D=>lD y (λb o c=>e b o (q b o c)) x D)).2
end
section
variable{P:Program}{w0 w w1:World}{M S0 S:af}{N:fD}{φ:Nat->af}{F:Nat->AV}{a:Act}{TE:Nat->Option TI}
def pP(w:World)(b:Option Addr)(n:Nat)(news:List Value):Prop:=news.length=n/\(b=none->n=0)/\∀a j u,b=some a->news[j]? = some u->w.cell? (a.add j)=some u
variable{news:List Value}{c m:Nat}{b:Option Addr}
def tN{size:Nat}(h:pP w b (m*size) news):(Builtin.firstCells size m (.slice b m c)).run P w=.ok news.toArray w:=by
 obtain⟨a,e,f⟩:=h;cases b with
 | none=>
  have:news=[]:=O8 (by rw[a];exact e rfl);subst this
  rfl
 | some d=>
  exact run_firstCells_some (P:=P) w size m d m c news a (λj v g=>f d j v rfl g)
variable{g:Nat}
def pw{X:af} : ∀(vs:List Value)(o:Nat)(w:World),(∀j,j<vs.length->X g (o+j))->bZ X w (w.setCells g o vs):=by
 have c:∀(vs:List Value)(o:Nat)(w:World),(w.setCells g o vs).os=w.os/\(w.setCells g o vs).tape=w.tape/\(w.setCells g o vs).output=w.output/\(w.setCells g o vs).heap.size=w.heap.size/\∀b,b≠g->(w.setCells g o vs).heap[b]? = w.heap[b]?:=by
  intro vs
  induction vs with
  | nil=>exact λ_ _=>⟨rfl,rfl,rfl,rfl,λ_ _=>rfl⟩
  | cons x vs r=>
   intro o w;obtain⟨f,h,i,n,k⟩:=r (o+1) (w.setCell ⟨g,o,none⟩ x);exact⟨f,h,i,n.trans (by simp[World.setCell]),λb d=>(k b d).trans (Below.heap_setCell w ⟨g,o,none⟩ x b d)⟩
 intro vs o w p;obtain⟨f,h,i,n,k⟩:=c vs o w;refine⟨f,h,i,ω,λb d l=>?_,λb a d l=>?_,λb a _ _=>Prod.ext (World.frozen?_setCells g _ _ w ⟨b,a,none⟩) (mt _ _ _ _ _)⟩
 ·by_cases q:b=g
  ·subst q
   cases vs with
   | nil=>rfl
   | cons x vs=>exact absurd (p 0 (by simp)) (l _)
  exact k b q
 refine World.cell?_setCells_out g vs o w ⟨b,a,none⟩ (λe _=>?_);simp only at e |-;subst e;by_cases t:a<o
 ·exact .inl t
 by_cases u:o+vs.length<=a
 ·exact .inr u
 have:=p (a - o) ω;rw[show o+(a - o)=a by omega]at this;exact absurd this l
variable{q:Nat}{vs:List Value}
def ia{o:Nat}{w:World}{b:Nat}(h:¬(b=g/\o<=q/\q<o+vs.length)):cel (w.setCells g o vs) b q=cel w b q:=
 World.cell?_setCells_out g vs o w ⟨b,q,none⟩ (λe _=>by simp only at e |-;omega)
def kO{o:Nat}{w:World}{j:Nat}{x:Value}(h:∀j,j<vs.length->∃z,cel w g (o+j)=some z)(a:vs[j]? = some x):cel (w.setCells g o vs) g (o+j)=some x:=by
 have b:=(X2.1 a).1;have:=World.cell?_setCells_in g vs o w (λj a=>by obtain⟨z,c⟩:=h j a;show(cel w g _).isSome=true;rw[c];rfl) j b;show World.cell? _ _=_;rw[this,<-(X2.1 a).2]
def fm(g o:Nat)(vs:List Value)(w:World)(b q:Nat):fro (w.setCells g o vs) b q=fro w b q:=Prod.ext (World.frozen?_setCells g _ _ w ⟨b,q,none⟩) (mt _ _ _ _ _)
variable{n cap ty e:Nat}{i:TypeInfo}
def N6{t:Nat}(l:P.underlying t=some (.slice e))(o:P.info? e=some i)(h1:pP w b (m*i.size) news)(d:∀u∈news,u.oneCell'=true)(a:n+m<=cap)(k:∀j,j<news.length->(∃z,cel w g (n*i.size+j)=some z)/\fro w g (n*i.size+j)=NF) :
  (Builtin.append_ #[t,t] ty #[.slice (some ⟨g,0,none⟩) n cap,.slice b m c]).run P w=.ok (.slice (some ⟨g,0,none⟩) (n+m) cap) (w.setCells g (n*i.size) news):=by
 have p:=tN (P:=P) (c:=c) h1;have f:=run_storeCells_cells (P:=P) g (n*i.size) news 0 w (λj h=>by obtain⟨z,q⟩:=(k j h).1;simp only[Nat.add_zero];show(cel w g _).isSome=true;rw[q];rfl) (λj h=>by simp only[Nat.add_zero];exact Z0 Prod.fst (k j h).2) d;simp only[Nat.add_zero]at f;simp[Builtin.append_,run_underlying l,sizeOf,typeInfo,o,Builtin.lenOf,a,p,kq,f]
def vj{t:Nat}(f:P.underlying t=some (.slice e))(g:P.info? e=some i){d:Option Addr}(a:n<=cap) :
  (Builtin.append_ #[t,t] ty #[.slice d n cap,.slice b 0 c]).run P w=.ok (.slice d n cap) w:=by
 have h:(Builtin.firstCells i.size 0 (.slice b 0 c)).run P w=.ok #[] w:=by cases b<;>simp[Builtin.firstCells,loadCells,loadCellsFrom]
 cases d<;>simp[Builtin.append_,run_underlying f,sizeOf,typeInfo,g,Builtin.lenOf,a,h,storeCells]
def ML{t:Nat}{z:Value}(h:P.underlying t=some (.slice e))(j:P.info? e=some i)(k:i.zero=some z){f:Option Addr}{olds:List Value}(l:pP w f (n*i.size) olds)(h1:pP w b (m*i.size) news)(o:cap<n+m)(p:n+m<=140737488355328)(q:(n+m)*i.bytes<=140737488355328) :
  (Builtin.append_ #[t,t] ty #[.slice f n cap,.slice b m c]).run P w =
   .ok (.slice (some ⟨w.heap.size,0,none⟩) (n+m) (grownCap w (n+m) cap e)) (w.drew.alloc (.cells (olds.toArray++news.toArray++Builtin.zeroCells z.cells (grownCap w (n+m) cap e - (n+m))) e)):=by
 have r:¬(n+m<=cap):=ω
 have a:¬(9223372036854775807<((n:Int)+(m:Int))):=ω
 have d:¬(281474976710656<Builtin.nextslicecap (n+m) cap*i.bytes):=by have:=growslice_fits o q;omega
 have u:=tN (P:=P) (w:=w.drew) (c:=c) (show pP w.drew b (m*i.size) news from h1);have g:=tN (P:=P) (w:=w.drew) (c:=cap) (show pP w.drew f (n*i.size) olds from l);simp[Builtin.append_,run_underlying h,sizeOf,typeInfo,zeroValue,j,k,Builtin.lenOf,r,a,d,Question.forced,u,g,newRow,grownCap]
 congr 2
 apply Array.ext';simp
structure Ex(w:World)(S V:af)(rows:List (List C))(k:Nat)(u:Nat->Value)(f:Nat->af):Prop where
 hk:∀r∈rows,r.length=k
 hf:∀q,q<rows.length*k->∀b o,f q b o->V b o
 hd:∀q q',q<rows.length*k->q'<rows.length*k->q≠q'->∀b o,f q b o->¬f q' b o
 hc:∀(i j:Nat)(r:List C)(c:C),rows[i]? = some r->r[j]? = some c->eY w S (f (i*k+j)) c (u (i*k+j))
variable{k:Nat}
def HM(h:q<n*k):q / k<n/\q % k<k/\q / k*k+q % k=q:=by
 have b:0<k:=by rcases Nat.eq_zero_or_pos k with a|a;subst a;simp at h;exact a
 exact⟨Nat.div_lt_of_lt_mul (by rw[Nat.mul_comm];exact h),Nat.mod_lt _ b,by rw[Nat.mul_comm];exact Nat.div_add_mod q k⟩
variable{u:Nat->Value}{rows:List (List C)}{V:af}
def Ex.one{f:Nat->af}(h:Ex w S V rows k u f)(b:q<rows.length*k):(u q).oneCell'=true:=by
 obtain⟨c,g,d⟩:=HM b;have a:rows[q / k]? = some rows[q / k]:=W2 c;have i:=h.hk _ (I2 a);have e:(rows[q / k])[q % k]? = some (rows[q / k])[q % k]:=W2 ω;have:=(h.hc _ _ _ _ a e).one
 rwa [d]at this
def Ex.keep{a:World}{f:Nat->af}(h:Ex w S V rows k u f)(g:bq S w a)(l:bq V w a):Ex a S V rows k u f:=
 ⟨h.hk,h.hf,h.hd,λi j r c d e=>(h.hc i j r c d e).keep g λb o n=>l b o (h.hf _ (by
   have p:=(X2.1 d).1;have q:=(X2.1 e).1;have t:=h.hk r (I2 d);exact gX p ω) b o n)⟩
def Ex.append{V':af}{a:List (List C)}{E:Nat->Value}{f F:Nat->af}(h:Ex w S V rows k u f)(h':Ex w S V' a k E F)(G:∀b o,V b o->¬V' b o) :
  Ex w S (λb o=>V b o\/V' b o) (rows++a) k (λq=>if q<rows.length*k then u q else E (q - rows.length*k)) (λq=>if q<rows.length*k then f q else F (q - rows.length*k)):=by
 have n:(rows++a).length*k=rows.length*k+a.length*k:=by rw[Y3,Nat.add_mul]
 refine⟨λr H=>(V3.1 H).elim (h.hk r) (h'.hk r),λq p b o g=>?_,λq y p A B b o g d=>?_,λi j r c t D=>?_⟩
 ·rw[n]at p
  by_cases l:q<rows.length*k
  ·rw[CD l]at g;exact .inl (h.hf q l b o g)
  rw[CB l]at g;exact .inr (h'.hf _ ω b o g)
 ·rw[n]at p A
  by_cases l:q<rows.length*k
  ·rw[CD l]at g
   by_cases e:y<rows.length*k
   ·rw[CD e]at d;exact h.hd q y l e B b o g d
   rw[CB e]at d;exact G b o (h.hf q l b o g) (h'.hf _ ω b o d)
  rw[CB l]at g;by_cases e:y<rows.length*k
  ·rw[CD e]at d;exact G b o (h.hf y e b o d) (h'.hf _ ω b o g)
  rw[CB e]at d;exact h'.hd _ _ ω ω ω b o g d
 by_cases l:i<rows.length
 ·rw[v5 l]at t
  have K:=(X2.1 D).1;have L:=h.hk r (I2 t);have p:i*k+j<rows.length*k:=gX l ω;simp only[CD p];exact h.hc i j r c t D
 rw[z5 ω]at t;have J:rows.length*k<=i*k:=I8 k ω;have p:¬i*k+j<rows.length*k:=ω
 simp only[CB p];have:=h'.hc (i - rows.length) j r c t D;rw[Nat.sub_mul]at this;rw[show i*k+j - rows.length*k=i*k - rows.length*k+j by omega];exact this
def Ex.own{f:Nat->af}(h:Ex w S V rows k u f){X:af}(d:rows.length=n)(a:n<=cap)(c:0<n)(e:∀q,q<cap*k->X g q/\(∃z,cel w g q=some z/\z.oneCell'=true)/\fro w g q=NF)(i:∀q,q<n*k->cel w g q=some (u q))(j:∀b o,V b o->X b o/\¬(b=g/\o<cap*k)):eY w S X (.s .own rows) (.slice (some ⟨g,0,none⟩) n cap):=by
 subst d;exact .own _ .own g k _ cap rows u f trivial rfl h.hk a c e i (λq l b o p=>j b o (h.hf q l b o p)) h.hd h.hc
def eY.els{F:af}{o:dN}(j:o≠.U){v:Value}(h:eY w S F (.s o rows) v)(A:∀r∈rows,r.length=k) :
  (rows=[]/\∃D,v=.slice D 0 0)\/∃g cap u f,v=.slice (some ⟨g,0,none⟩) rows.length cap/\0<rows.length/\rows.length<=cap/\(∀q,q<cap*k->F g q/\(∃z,cel w g q=some z/\z.oneCell'=true)/\fro w g q=NF)/\(∀q,q<rows.length*k->cel w g q=some (u q))/\
   Ex w S (λb o=>F b o/\¬(b=g/\o<cap*k)) rows k u f:=by
 generalize d:C.s o rows=c at h
 induction h with
 | v=>cases d
 | x=>cases d
 | z=>cases d
 | m=>cases d
 | it=>cases d
 | U=>cases d;exact absurd rfl j
 | nil F o a E=>cases d;exact .inl ⟨rfl,a,rfl⟩
 | own F o g G n cap l u f E H p i e J K L M t _=>
  cases d;subst H;have y:G=k:=by
   have B:rows[0]? = some rows[0]:=W2 e;rw[<-p _ (I2 B),A _ (I2 B)]
  subst y;exact .inr ⟨g,cap,u,f,rfl,e,i,J,K,A,L,M,t⟩
def xB{t:Nat}{z:Value}(ht:P.underlying t=some (.slice e))(U:P.info? e=some i)(hz:i.zero=some z)(W:z.cells.size=i.size)(hz1:∀x∈z.cells.toList,x.oneCell'=true){F:af}{xr:List (List C)}{v0:Value}(h:eY w S F (.s .own rows) v0)(hk:∀r∈rows,r.length=i.size){M:Nat->Value}{f2:Nat->af}(X:Ex w S V xr i.size M f2)(d:pP w b (xr.length*i.size) ((List.range (xr.length*i.size)).map M))(G:∀b o,F b o->¬V b o)(hFS:∀b o,F b o->¬S b o)(Y:∀b o,F b o->b<w.heap.size)(Q:∀b o,V b o->b<w.heap.size)(Z:∀b o,S b o->b<w.heap.size)(h63:rows.length+xr.length<=140737488355328)(hby:(rows.length+xr.length)*i.bytes<=140737488355328) :
  ∃v' K,(Builtin.append_ #[t,t] ty #[v0,.slice b xr.length c]).run P w=.ok v' K/\bZ F w K/\eY K S (λb o=>F b o\/V b o\/(w.heap.size<=b/\b<K.heap.size)) (.s .own (rows++xr)) v':=by
 have hkx:xr.length*i.size=((List.range (xr.length*i.size)).map M).length:=by simp
 have grow:∀(a0:Option Addr)(cap:Nat)(u:Nat->Value)(f:Nat->af),cap<rows.length+xr.length->pP w a0 (rows.length*i.size) ((List.range (rows.length*i.size)).map u)->Ex w S F rows i.size u f->v0=.slice a0 rows.length cap->
   ∃v' K,(Builtin.append_ #[t,t] ty #[v0,.slice b xr.length c]).run P w=.ok v' K/\bZ F w K/\eY K S (λb o=>F b o\/V b o\/(w.heap.size<=b/\b<K.heap.size)) (.s .own (rows++xr)) v':=by
  intro a0 cap u f hlt E hE hv;have B:=ML (P:=P) (ty:=ty) ht U hz E d hlt h63 hby (c:=c);have hge:=grownCap_ge w (rows.length+xr.length) cap e;refine⟨_,_,by rw[hv];exact B,bZ.of_below (((Below.refl _ _).drew).alloc (W3 _) _) F,?_⟩;generalize hcells:((List.range (rows.length*i.size)).map u).toArray++((List.range (xr.length*i.size)).map M).toArray++Builtin.zeroCells z.cells (grownCap w (rows.length+xr.length) cap e - (rows.length+xr.length))=cells;generalize grownCap w (rows.length+xr.length) cap e=c' at hge hcells;have hlen:cells.size=c'*i.size:=by
   rw[<-hcells];simp only[Array.size_append,List.size_toArray,I1,List.length_range,size_zeroCells,W,<-Nat.add_mul]
   congr 1;omega
  have hk':bZ NO w (w.drew.alloc (.cells cells e)):=bZ.of_below (((Below.refl _ _).drew).alloc (W3 _) _) NO;have R:=((hE.append X G).keep (iK hk' Z) (iK hk' λb o d=>d.elim (Y b o) (Q b o)))
  have N:∀q,cel (w.drew.alloc (.cells cells e)) w.heap.size q=cells[q]?:=λq=>iz w.drew cells e q
  have hq1:∀q,q<(rows.length+xr.length)*i.size->cells[q]? = some (if q<rows.length*i.size then u q else M (q - rows.length*i.size)):=λq p=>by
   rw[Nat.add_mul]at p;rw[<-hcells,Array.append_assoc];by_cases l:q<rows.length*i.size
   ·rw[Array.getElem?_append_left (by simpa using l),CD l];simp[l]
   rw[Array.getElem?_append_right (by simpa using Nat.le_of_not_lt l),CB l,Array.getElem?_append_left (by simp;omega)];simp only[List.size_toArray,I1,List.length_range,List.getElem?_toArray,X3];rw[X7 ω];rfl
  refine R.own (n:=rows.length+xr.length) (cap:=c') (by simp) hge ω (λq p=>?_) (λq p=>by rw[N];exact hq1 q p) (λb o d=>⟨d.elim .inl (λh=>.inr (.inl h)),λh=>by have:=d.elim (Y b o) (Q b o);omega⟩);refine⟨.inr (.inr ⟨W3 _,by rw[gc];exact Nat.lt_succ_self _⟩),?_,jW w.drew cells e q⟩;rw[N];have H:q<cells.size:=by rw[hlen];exact p
  refine⟨cells[q],O7 H,?_⟩;by_cases l:q<(rows.length+xr.length)*i.size
  ·have D:=hq1 q l
   rw[O7 H]at D;simp only[C1]at D;rw[D];have:=(hE.append X G).one (q:=q) (by simpa using l);exact this
  have hmem:cells[q]∈z.cells.toList:=by
   have D:cells[q]? = (Builtin.zeroCells z.cells (c' - (rows.length+xr.length)))[q - (rows.length+xr.length)*i.size]?:=by
    rw[<-hcells];rw[Array.getElem?_append_right (by simp[<-Nat.add_mul];omega)];simp[<-Nat.add_mul]
   rw[O7 H]at D;have h3:q - (rows.length+xr.length)*i.size<(c' - (rows.length+xr.length))*z.cells.size:=by
    rw[W,Nat.sub_mul];omega
   have hz0:0<z.cells.size:=by rcases Nat.eq_zero_or_pos z.cells.size with h|h;rw[h]at h3;simp at h3;exact h
   simp only[Builtin.zeroCells]at D;rw[O7 (by simpa using h3)]at D;simp only[Array.getElem_map,Array.getElem_range,C1]at D;rw[D];have h4:(q - (rows.length+xr.length)*i.size) % z.cells.size<z.cells.size:=Nat.mod_lt _ hz0;rw[getElem!_pos z.cells _ h4];simp
  exact hz1 _ hmem
 rcases h.els (by simp) hk with⟨rfl,a0,rfl⟩|⟨g,cap,u,f,rfl,hpos,hcap,a,hu,hE⟩
 ·by_cases hm:xr.length=0
  ·have:xr=[]:=O8 hm
   subst this;exact⟨_,w,vj ht U (W3 0),Cb _ _,.nil _ _ _ trivial⟩
  exact grow a0 0 (λ_=>undef) (λ_=>NO) (by simp;omega) ⟨by simp,λ_=>by simp,λad j u _ k=>by simp at k⟩ ⟨λr E=>by simp at E,λq p=>by simp at p,λq q' p=>by simp at p,λi j r c U=>by simp at U⟩ rfl
 have O:∀(n j:Nat)(y:Value)(uu:Nat->Value),((List.range n).map uu)[j]? = some y->j<n/\y=uu j:=λn j y uu k=>by
  rw[X3]at k;cases E:(List.range n)[j]? with
  | none=>rw[E]at k;cases k
  | some j'=>
   obtain⟨l,D⟩:=X2.1 E;simp at l D;subst D;rw[E]at k;simp only[Z5,C1]at k;exact⟨l,k.symm⟩
 by_cases A:rows.length+xr.length<=cap
 ·have L:∀j,j<xr.length*i.size->rows.length*i.size+j<cap*i.size:=λj k=>by
   have:(rows.length+xr.length)*i.size<=cap*i.size:=I8 _ A;rw[Nat.add_mul]at this;omega
  have B:=N6 (P:=P) (ty:=ty) ht U (g:=g) (n:=rows.length) (cap:=cap) (c:=c) d (λy hy=>by
    obtain⟨j,k⟩:=List.getElem?_of_mem hy;obtain⟨l,rfl⟩:=O _ _ _ _ k;exact X.one l) A (λj k=>by
      have:=a _ (L j (by rw[<-hkx]at k;exact k));exact⟨this.2.1.imp λ_ h=>h.1,this.2.2⟩)
  generalize J:(List.range (xr.length*i.size)).map M=news at B hkx;have T:bZ F w (w.setCells g (rows.length*i.size) news):=pw news _ w (λj k=>(a _ (L j ω)).1);refine⟨_,_,B,T,?_⟩;have hSS:bq S w (w.setCells g (rows.length*i.size) news):=λb o d=>⟨T.cel b o (Z b o d) (λh'=>hFS b o h' d),fm _ _ _ _ _ _⟩
  have hVV:bq V w (w.setCells g (rows.length*i.size) news):=λb o d=>⟨T.cel b o (Q b o d) (λh'=>G b o h' d),fm _ _ _ _ _ _⟩
  have hFF:bq (λb o=>F b o/\¬(b=g/\o<cap*i.size)) w (w.setCells g (rows.length*i.size) news):=λb o d=>⟨ia (λ⟨e1,e2,e3⟩=>d.2 ⟨e1,by
    have:=L (o - rows.length*i.size) ω;omega⟩),fm _ _ _ _ _ _⟩
  have R:=(hE.keep hSS hFF).append (X.keep hSS hVV) (λb o d hv=>G b o d.1 hv);have hex:∀j,j<news.length->∃z,cel w g (rows.length*i.size+j)=some z:=λj k=>(a _ (L j ω)).2.1.imp λ_ h=>h.1
  refine R.own (n:=rows.length+xr.length) (cap:=cap) (by simp) A ω (λq p=>?_) (λq p=>?_) (λb o d=>⟨d.elim (λh=>.inl h.1) (λh=>.inr (.inl h)),λh=>d.elim (λh'=>h'.2 h) (λhv=>?_)⟩)
  ·obtain⟨l,⟨z0,D,h2'⟩,h3⟩:=a q p
   refine⟨.inl l,?_,by rw[fm];exact h3⟩;by_cases E:rows.length*i.size<=q/\q<rows.length*i.size+news.length
   ·have h4:news[q - rows.length*i.size]? = some (M (q - rows.length*i.size)):=by
     rw[<-J,X3,X7 ω];rfl
    have:=kO hex h4;rw[show rows.length*i.size+(q - rows.length*i.size)=q by omega]at this;exact⟨_,this,X.one ω⟩
   exact⟨z0,by rw[ia ω];exact D,h2'⟩
  ·rw[Nat.add_mul]at p
   by_cases E:q<rows.length*i.size
   ·rw[CD E,ia ω];exact hu q E
   rw[CB E];have h4:news[q - rows.length*i.size]? = some (M (q - rows.length*i.size)):=by
    rw[<-J,X3,X7 ω];rfl
   have:=kO hex h4
   rwa [show rows.length*i.size+(q - rows.length*i.size)=q by omega]at this
  obtain⟨e1,e2⟩:=h;subst e1;exact G _ _ (a o e2).1 hv
 exact grow (some ⟨g,0,none⟩) cap u f ω ⟨by simp,λh=>(by cases h),λad j y had k=>by
   cases had;obtain⟨l,rfl⟩:=O _ _ _ _ k;rw[kq,Y7];exact hu j l⟩ ⟨hE.hk,λq p b o d=>(hE.hf q p b o d).1,hE.hd,hE.hc⟩ rfl
end
def fc:List C->(List C->Prop)->Prop
 | [],K=>K []
 | c::cs,K=>fc cs λt=>K (c::t)
def d3:∀(cs:List C)(K:List C->Prop),fc cs K=K cs
 | [],_=>rfl
 | c::cs,K=>by rw[fc,d3 cs]
def chunk(k:Nat):Nat->List C->List (List C)
 | 0,_=>[]
 | n+1,a=>a.take k::chunk k n (a.drop k)
def UA(k:Nat):Nat->List C->(List (List C)->Prop)->Prop
 | 0,_,K=>K []
 | n+1,a,K=>fc (a.take k) λr=>UA k n (a.drop k) λb=>K (r::b)
def pY(k:Nat):∀(n:Nat)(cs:List C)(K:List (List C)->Prop),UA k n cs K=K (chunk k n cs)
 | 0,_,_=>rfl
 | n+1,cs,K=>by rw[UA,d3,pY k n];rfl
def TZ(TE:Nat->Option TI)(flds:List (Nat × Nat))(i:Nat):Option (Nat × Nat):=
 match flds[i]? with
 | some p=>(match TE p.2 with|some a=>some (p.1,a.size)|none=>none)
 | none=>none
def yP(TE:Nat->Option TI):List (Nat × Nat)->Bool
 | []=>true
 | p::l=>(TE p.2).isSome&&yP TE l
def UK(size i:Nat):Option (Nat × Nat):=some (i*size,size)
def fillP(F:Nat->AV)(c:Nat->Option (Nat × Nat)):List (Nat × Operand)->List C->(List C->Prop)->Prop
 | [],a,K=>K a
 | p::rest,a,K=>match c p.1 with
  | some q=>iO F (n8 F p.2) λ_ xs=>bif aZ xs&&Nat.beq xs.length q.2&&Nat.ble (q.1+q.2) a.length then fc (splice a q.1 xs) λb=>fillP F c rest b K else False
  | none=>False
def rS(TE:Nat->Option TI)(F:Nat->AV)(T:Nat)(parts:List (Nat × Operand))(K:AV->Prop):Prop:=
 match TE T with
 | some ⟨_,_,zero,.st flds⟩=>bif yP TE flds then fillP F (TZ TE flds) parts zero λa=>K (.H .agg a) else False
 | _=>False
def rep(z:List C):Nat->List C
 | 0=>[]
 | n+1=>z++rep z n
def KF(TE:Nat->Option TI)(T:Nat)(K:Nat->TI->Prop):Prop:=
 match TE T with
 | some ⟨_,_,_,.sl e⟩=>(match TE e with
   | some a=>bif Nat.beq a.zero.length a.size&&Nat.ble 1 a.size then K e a else False
   | none=>False)
 | _=>False
def wK(TE:Nat->Option TI)(F:Nat->AV)(T n:Nat)(parts:List (Nat × Operand))(K:AV->Prop):Prop:=
 KF TE T λ_ b=>bif Nat.ble (n*b.size) 16777216 then(match n,parts with
   | 0,[]=>K (.H .one [.z])
   | n+1,parts=>fc (rep b.zero (n+1)) λd=>fillP F (UK b.size) parts d λc=>UA b.size (n+1) c λa=>K (.H .one [.s .own a])
   | _,_=>False) else False
inductive Fl(rows:List (List C))(sz by_:Nat)(X:Prop):Prop
 |mk_ (h:(∀r∈rows,r.length=sz/\aZ r=true)/\rows.length<=140737488355328/\rows.length*by_<=140737488355328/\X)
variable{sz by_:Nat}
def Fl.mk(h1:∀r∈rows,r.length=sz/\aZ r=true)(a:rows.length<=140737488355328)(b:rows.length*by_<=140737488355328)(c:X):Fl rows sz by_ X:=by refine .mk_ ?_;exact⟨h1,a,b,c⟩
def Fl.out(h:Fl rows sz by_ X):(∀r∈rows,r.length=sz/\aZ r=true)/\rows.length<=140737488355328/\rows.length*by_<=140737488355328/\X:=by obtain⟨h⟩:=h;exact h
def JN(TE:Nat->Option TI)(F:Nat->AV)(T:Nat)(x y:Operand)(K:AV->Prop):Prop:=
 KF TE T λ_ a=>iO F (n8 F x) λb c=>match b,c with
  | none,[.z]=>iO F (n8 F y) λag2 cs2=>match ag2,cs2 with
   | none,[.s _ rows]=>Fl rows a.size a.bytes (K (.H .one [.s .own rows]))
   | none,[.z]=>K (.H .one [.z])
   | _,_=>False
  | _,_=>False
section
variable{P:Program}{w0 w w1:World}{M S0 S:af}{N:fD}{φ:Nat->af}{F:Nat->AV}{a:Act}{TE:Nat->Option TI}
def BS{α:Type}(l xs:List α){p q:Nat}(e:p<=l.length)(d:q=p+xs.length)(j:Nat):(l.take p++xs++l.drop q)[j]? = if j<p then l[j]? else if j<q then xs[j - p]? else l[j]?:=by
 subst d;have b:(l.take p).length=p:=by simp;omega
 by_cases a:j<p
 ·rw[CD a,V6,v5 ω,List.getElem?_take,CD a]
 rw[CB a];by_cases c:j<p+xs.length
 ·rw[CD c,V6,z5 ω,b,v5 ω]
 rw[CB c,V6,z5 ω,b,z5 ω,List.getElem?_drop]
 congr 1;omega
def tw{off:Nat} : ∀(xs:List Value)(k:Nat)(cells:Array Value),off+k+xs.length<=cells.size->
  ((xs.zipIdx k).foldl (λcs (c,j)=>cs.setIfInBounds (off+j) c) cells).toList=cells.toList.take (off+k)++xs++cells.toList.drop (off+k+xs.length)
 | [],k,cells,_=>by simp
 | x::xs,k,cells,h=>by
  simp only[List.length_cons]at h;simp only[List.zipIdx_cons,List.foldl_cons];rw[tw xs (k+1) _ (by simp;omega)];apply List.ext_getElem?;intro j;rw[BS _ _ (by simp;omega) rfl,BS _ _ (by simp;omega) rfl];simp only[Array.toList_setIfInBounds,List.length_cons,I4,Array.length_toList];by_cases a:j<off+k
  ·rw[CD ω,CD a,CB ω]
  rw[CB a];by_cases d:j=off+k
  ·subst d
   rw[CD ω,CD rfl,CD ω,CD ω];simp
  rw[CB ω];by_cases b:j<off+k+(xs.length+1)
  ·rw[CD ω,CD b,show j - (off+k)=(j - (off+(k+1)))+1 by omega,List.getElem?_cons_succ]
  rw[CB ω,CB b,CB ω]
variable{cs:List C}
def Da{xs:List C}{off:Nat}(h:off+xs.length<=cs.length)(u b:Nat->Value) :
  (List.range (splice cs off xs).length).map (λj=>if off<=j/\j<off+xs.length then b (j - off) else u j)=((List.range cs.length).map u).take off++(List.range xs.length).map b++((List.range cs.length).map u).drop (off+xs.length):=by
 rw[cC h];apply List.ext_getElem?;intro j;rw[BS _ _ (by simp;omega) (by simp),X3,X3,X3];by_cases d:j<cs.length
 ·rw[X7 d]
  simp only[Z5];by_cases a:off<=j/\j<off+xs.length
  ·rw[CD a,CB ω,CD a.2,X7 ω];rfl
  rw[CB a];by_cases c:j<off
  ·rw[CD c]
  rw[CB c,CB ω]
 rw[Z2 (by simp;omega)];rw[CB ω,CB ω];rfl
variable{v:Value}{u:Nat->Value}
def Bg{b:Nat->Option (Nat × Nat)}{i:Nat}{q:Nat × Nat}(e:b i=some q){xs:List C}{c:Nat->Value}{cells:Array Value}{rest:List (Nat × Value)}(a:cells.toList=(List.range cs.length).map u)(d:v.cells.toList=(List.range xs.length).map c)(h1:xs.length=q.2)(f:q.1+q.2<=cs.length) :
  ∃cells',Instr.fill b cells ((i,v)::rest)=Instr.fill b cells' rest/\cells'.toList=(List.range (splice cs q.1 xs).length).map (λj=>if q.1<=j/\j<q.1+xs.length then c (j - q.1) else u j):=by
 obtain⟨off,size⟩:=q;simp only at h1 f;have g:v.cells.size=xs.length:=by have:=Z0 List.length d;simpa using this
 have h:cells.size=cs.length:=by have:=Z0 List.length a;simpa using this
 refine⟨_,by simp only[Instr.fill,e];rw[CB (by simp;omega)],?_⟩;have:=tw (off:=off) v.cells.toList 0 cells (by simp;omega);rw[<-Array.toList_zipIdx,Array.foldl_toList]at this;rw[this,Da ω,a,d];simp
def bo.fillP(h:bo w0 M S0 N S φ F a w){o:Nat->Option (Nat × Nat)} : ∀{parts:List (Nat × Operand)}{cs:List C}{K:List C->Prop}{u:Nat->Value}{cells:Array Value},Ab.fillP F o parts cs K->dn w S NO cs u->cells.toList=(List.range cs.length).map u->
  ∃b f cells',K b/\b.length=cs.length/\dn w S NO b f/\Instr.fill o cells (parts.map λp=>(p.1,a.eval p.2))=some cells'/\cells'.toList=(List.range b.length).map f
 | [],cs,K,u,cells,c,g,i=>⟨cs,u,cells,c,rfl,g,rfl,i⟩
 | p::rest,cs,K,u,cells,c,g,i=>by
  simp only[Ab.fillP]at c;split at c
  case h_2=>exact c.elim
  rename_i q r;obtain⟨L,xs,Y,e,t,-⟩:=h.val (h.ev p.2) c;cases d:(aZ xs&&Nat.beq xs.length q.2&&Nat.ble (q.1+q.2) cs.length) with
  | false=>rw[d]at e;exact e.elim
  | true=>
   rw[d]at e;simp only[I0]at d;have y:=O2 d.1.2;have A:=O1 d.2;simp only[cond_true,d3]at e;obtain⟨O,j,k⟩:=t.cells;obtain⟨cells1,B,l⟩:=Bg (rest:=rest.map λp=>(p.1,a.eval p.2)) r i j y A;have n:=(g.join (k.bare (F':=NO) d.1.1) (off:=q.1) ω (λ_ _ h=>h.elim)).mono (F':=NO) (λ_ _ h=>h) (λ_ _ h=>h.elim id id);obtain⟨b,f,cells',D,E,G,H,J⟩:=bo.fillP h e n l;exact⟨b,f,cells',D,by rw[E,cC ω],G,by rw[Y6,B];exact H,J⟩
def vC(b:∀t i,TE t=some i->bQ P t i):∀{fs:List Field}{flds:List (Nat × Nat)},fs.map (λf=>(f.offset,f.type))=flds->yP TE flds=true->
  ∃pls:List (Nat × Nat),fs.mapM (λf=>(P.info? f.type).map λi=>(f.offset,i.size))=some pls/\∀i,pls[i]? = TZ TE flds i
 | [],flds,h,_=>by subst h;exact⟨[],by simp,λi=>by simp[TZ]⟩
 | f::fs,flds,h,c=>by
  subst h;simp only[Y6,yP,I0]at c;obtain⟨pls,g,j⟩:=vC b (fs:=fs) rfl c.2;cases d:TE f.type with
  | none=>rw[d]at c;cases c.1
  | some k=>
   have a:=(b _ _ d).size;cases e:P.info? f.type with
   | none=>rw[e]at a;cases a
   | some l=>
    rw[e]at a;simp only[Z5,C1]at a;refine⟨(f.offset,k.size)::pls,?_,λi=>?_⟩
    ·simp[List.mapM_cons,e,g,a]
    cases i with
    | zero=>simp[TZ,d]
    | succ i=>simp only[List.getElem?_cons_succ,j i,TZ,Y6]
variable{T:Nat}
def xt(b:∀t i,TE t=some i->bQ P t i){size bytes:Nat}{zero:List C}{flds:List (Nat × Nat)}(e:TE T=some ⟨size,bytes,zero,.st flds⟩)(g:yP TE flds=true){parts:Array (Nat × Value)}{cells':Array Value}(h:∀cells:Array Value,cells.toList=zero.map cval->Instr.fill (TZ TE flds) cells parts.toList=some cells'):(Instr.build T parts).run P w=.ok (.agg cells') w:=by
 refine run_build w T parts cells' ?_;have a:=(b _ _ e).1;obtain⟨n,j,c⟩:=(b _ _ e).2.2;obtain⟨pls,k,l⟩:=vC (P:=P) b c g;unfold Program.built;cases f:P.info? T with
 | none=>rw[f]at a;cases a
 | some q=>
  rw[f]at a;simp only[Z5,C1,Prod.mk.injEq]at a;cases d:q.zero with
  | none=>rw[d]at a;cases a.1
  | some z=>
   rw[d]at a;simp only[j,d,k];rw[<-h z.cells (by simpa using a.1)]
   congr 1
   funext i
   rw[<-l i];simp
variable{K:AV->Prop}{parts:Array (Nat × Operand)}
def bo.build(h:bo w0 M S0 N S φ F a w)(c:∀t i,TE t=some i->bQ P t i)(b:rS TE F T parts.toList K) :
  ∃av v,K av/\(Instr.build T (parts.map λ(i,x)=>(i,a.eval x))).run P w=.ok v w/\cS w S F (tvs a) NO av v:=by
 unfold rS at b;split at b
 case h_2=>exact b.elim
 rename_i size bytes zero flds l;cases e:yP TE flds with
 | false=>rw[e]at b;exact b.elim
 | true=>
  rw[e]at b;have f:=(c _ _ l).2.1;have o:∀cells:Array Value,cells.toList=zero.map cval->cells.toList=(List.range zero.length).map (λj=>(zero.map cval).getD j undef):=λcells g=>by
   rw[g];apply List.ext_getElem?;intro j;rw[X3,X3];by_cases k:j<zero.length
   ·rw[X7 k,W2 k];simp[List.getD,k]
   rw[Z2 ω,Z2 (by simp;omega)];rfl
  obtain⟨d,p,cells',q,A,r,u,n⟩:=h.fillP b (pB f S) (o ((zero.map cval).toArray) (by simp));refine⟨_,.agg cells',q,xt c l e λcells g=>?_,?_⟩
  ·have:cells=(zero.map cval).toArray:=by apply Array.ext';simpa using g
   rw[this,Array.toList_map];exact u
  have y:cells'.size=d.length:=by have:=Z0 List.length n;simpa using this
  refine cb.slot (ag:=some d.length) (v:=.agg cells') ⟨rfl,p,?_,r⟩;simp only[mkv]
  congr 1
  apply Array.ext';rw[n]
def ur(k:Nat):∀(n:Nat)(cs:List C)(i:Nat),(chunk k n cs)[i]? = if i<n then some ((cs.drop (i*k)).take k) else none
 | 0,_,i=>by simp[chunk]
 | n+1,cs,0=>by simp[chunk]
 | n+1,cs,i+1=>by
  simp only[chunk,List.getElem?_cons_succ];rw[ur k n,List.drop_drop,show k+i*k=(i+1)*k by rw[Nat.add_mul];omega];by_cases h:i<n
  ·rw[CD h,CD ω]
  rw[CB h,CB ω]
def nz(k:Nat):∀(n:Nat)(cs:List C),(chunk k n cs).length=n
 | 0,_=>rfl
 | n+1,cs=>by simp[chunk,nz k n]
def nL(z:List C):∀n,(rep z n).length=n*z.length
 | 0=>by simp[rep]
 | n+1=>by simp[rep,nL z n,Nat.add_mul];omega
def Kb{z:List C} : ∀{n j:Nat},j<n*z.length->(rep z n)[j]? = z[j % z.length]?
 | 0,j,h=>by simp at h
 | n+1,j,h=>by
  rw[Nat.add_mul]at h;simp only[rep];by_cases a:j<z.length
  ·rw[v5 a,Nat.mod_eq_of_lt a]
  rw[z5 ω,Kb ω];rw[Nat.mod_eq_sub_mod (show j≥z.length by omega)]
variable{n:Nat}{Y:af}
def dn.els(h:dn w S Y cs u){k:Nat}(D:cs.length=n*k):∃f,Ex w S Y (chunk k n cs) k u f:=by
 obtain⟨f,p,t,y⟩:=h;have b:∀i,i<n->((cs.drop (i*k)).take k).length=k:=λi a=>by
  have:(i+1)*k<=n*k:=I8 k a;rw[Nat.add_mul]at this;simp;omega
 refine⟨f,λr A=>?_,λq e=>t q (by rw[nz]at e;omega),λq B e g=>y q B (by rw[nz]at e;omega) (by rw[nz]at g;omega),λi j r c a l=>?_⟩
 ·obtain⟨i,a⟩:=List.getElem?_of_mem A
  rw[ur]at a;split at a
  ·rename_i d
   simp only[C1]at a;subst a;exact b i d
  cases a
 rw[ur]at a;split at a
 ·rename_i d
  simp only[C1]at a;subst a;have o:j<k:=by rw[<-b i d];exact(X2.1 l).1
  rw[List.getElem?_take,CD o,List.getElem?_drop]at l;exact p _ c l
 cases a
def za(h:dn w S Y cs u){k e:Nat}(p:cs.length=n*k)(r:0<n){cells:Array Value}(t:cells.toList=(List.range cs.length).map u)(y:∀b o,S b o->b<w.heap.size)(g:∀b o,Y b o->b<w.heap.size) :
  eY (w.alloc (.cells cells e)) S (λb o=>Y b o\/(w.heap.size<=b/\b<(w.alloc (.cells cells e)).heap.size)) (.s .own (chunk k n cs)) (.slice (some ⟨w.heap.size,0,none⟩) n n):=by
 have c:∀j,j<cs.length->(u j).oneCell'=true:=λj A=>h.one A
 obtain⟨f,hE⟩:=h.els p;have d:=hE.keep (iK (dl w (.cells cells e)) y) (iK (dl w (.cells cells e)) g);have a:∀q,q<n*k->cel (w.alloc (.cells cells e)) w.heap.size q=some (u q):=λq i=>by
  rw[iz,<-Array.getElem?_toList,t,X3,X7 ω];rfl
 refine d.own (by rw[nz]) (W3 n) r (λq i=>⟨.inr ⟨W3 _,by rw[gc];omega⟩,⟨_,a q i,c q ω⟩,jW _ _ _ _⟩) a (λb o l=>⟨.inl l,λ⟨B,_⟩=>?_⟩);have:=g b o l;omega
def uX{z:List C}(d:aE z)(S:af)(n:Nat):dn w S NO (rep z n) (λj=>(z.map cval).getD (j % z.length) undef):=by
 obtain⟨f,e,-,-⟩:=pB (w:=w) d S;refine⟨λ_=>NO,λj c b=>?_,λ_ _ _ _ h=>h,λ_ _ _ _ _ _ _ h=>h.elim⟩;have a:=(X2.1 b).1;rw[nL]at a;rw[Kb a]at b;exact(e _ c b).bare (tR d c (I2 b))
def bQ.info{t:Nat}{i:TI}(h:bQ P t i):∃q z,P.info? t=some q/\q.zero=some z/\z.cells.toList=i.zero.map cval/\q.size=i.size/\q.bytes=i.bytes:=by
 have:=h.1;cases b:P.info? t with
 | none=>rw[b]at this;cases this
 | some q=>
  rw[b]at this;simp only[Z5,C1,Prod.mk.injEq]at this;cases a:q.zero with
  | none=>rw[a]at this;cases this.1
  | some z=>rw[a]at this;exact⟨q,z,rfl,a,by simpa using this.1,this.2.1,this.2.2⟩
def lW{K:Nat->TI->Prop}(b:∀t i,TE t=some i->bQ P t i)(h:KF TE T K) :
  ∃e a q z,K e a/\TE e=some a/\P.underlying T=some (.slice e)/\bQ P e a/\a.zero.length=a.size/\0<a.size/\P.info? e=some q/\q.zero=some z/\z.cells.toList=a.zero.map cval/\q.size=a.size/\q.bytes=a.bytes/\z.cells.size=q.size:=by
 unfold KF at h;split at h
 case h_2=>exact h.elim
 rename_i e g;split at h
 case h_2=>exact h.elim
 rename_i a d;cases c:(Nat.beq a.zero.length a.size&&Nat.ble 1 a.size) with
 | false=>rw[c]at h;exact h.elim
 | true=>
  rw[c]at h;simp only[I0]at c;obtain⟨q,z,j,k,f,l,n⟩:=(b _ _ d).info;have o:=O2 c.1;exact⟨e,a,q,z,h,d,(b _ _ g).2.2,b _ _ d,o,O1 c.2,j,k,f,l,n,by have:=Z0 List.length f;simp at this;omega⟩
def Gp{zero:List C}(a:aE zero):∀x∈zero.map cval,x.oneCell'=true:=by
 induction zero with
 | nil=>simp
 | cons c f e=>
  intro x b;rcases List.mem_cons.1 b with rfl|b
  ·cases c with
   | v x=>exact a.1
   | z=>rfl
   | x=>exact a.elim
   | s=>exact a.elim
   | m=>exact a.elim
   | it=>exact a.elim
  exact e (by cases c with|v x=>exact a.2|z=>exact a|x=>exact a.elim|s o d=>exact a.elim|m=>exact a.elim|it=>exact a.elim) x b
def ve{e:Nat}{q:TypeInfo}(a:P.underlying T=some (.slice e))(b:P.info? e=some q):(Instr.buildSlice T 0 #[]).run P w=.ok (.slice (some ⟨w.heap.size,0,none⟩) 0 0) (w.alloc (.cells #[] e)):=by
 simp[Instr.buildSlice,run_underlying a,sizeOf,typeInfo,b,newRow,Instr.fill,Array.range_zero']
def pD{zero:List C}{z:Value}(a:z.cells.toList=zero.map cval)(d:0<zero.length)(m:Nat):((Array.range m).map (z.cells[· % z.cells.size]!)).toList=(List.range m).map (λj=>(zero.map cval).getD (j % zero.length) undef):=by
 have c:z.cells.size=zero.length:=by have:=Z0 List.length a;simpa using this
 rw[Array.toList_map,Array.toList_range];refine List.map_congr_left λj e=>?_
 have b:j % z.cells.size<z.cells.size:=Nat.mod_lt _ ω;rw[getElem!_pos z.cells _ b,<-a,<-c,List.getD,Array.getElem?_toList,O7 b];rfl
def gz{c:C}(h:eY w S Y c v){F:Nat->AV}{tv:Nat->Value} : cS w S F tv Y (.H .one [c]) v:=by
 refine⟨NO,Y,λ_ _ h=>h.elim,λ_ _ h=>h,λ_ _ h=>h.elim,rfl,λ_=>Y,λj e a=>?_,λ_ _ _ _ h=>h,λj f a b d=>?_⟩
 ·cases j with
  | zero=>simp at a;subst a;exact h
  | succ j=>simp at a
 simp at a b;omega
def bo.buildS(h:bo w0 M S0 N S φ F a w)(p:∀t i,TE t=some i->bQ P t i)(J:wK TE F T n parts.toList K) :
  ∃av v w1,K av/\(Instr.buildSlice T n (parts.map λ(i,x)=>(i,a.eval x))).run P w=.ok v w1/\mi w S F a av v w1:=by
 obtain⟨e,l,q,z,f,Y,C,L,D,k,E,O,r,g,Q,R⟩:=lW p J;cases d:Nat.ble (n*l.size) 16777216 with
 | false=>rw[d]at f;exact f.elim
 | true=>
  rw[d]at f;have u:=O1 d;simp only[cond_true]at f;split at f
  ·rename_i hparts
   have:parts = #[]:=by apply Array.ext';simpa using hparts
   subst this;refine⟨_,_,_,f,by rw[Array.map_empty];exact ve C E,dl _ _,NO,S,λ_ _ h=>h.elim,λ_ _ h=>h,λ_ _ h=>.inl h,λ_ _ h=>h.elim,?_⟩;exact⟨NO,NO,λ_ _ h=>h,λ_ _ h=>h,λ_ _ _ h=>h,rfl,λ_=>NO,λj c y=>(by cases j with|zero=>simp at y;subst y;exact .z _ _|succ j=>simp at y),λ_ _ _ _ h=>h,λ_ _ _ _ _ _ _ h=>h.elim⟩
  ·rename_i n
   rw[Nat.succ_eq_add_one]at u;rw[d3]at f;obtain⟨A,Z,cells',G,U,V,H,W⟩:=h.fillP f (uX L.2.1 S _) (pD r ω (rep l.zero (n+1)).length);rw[pY]at G;have B:A.length=(n+1)*l.size:=by rw[U,nL,D]
   refine⟨_,_,_,G,run_buildSlice w T e (n+1) _ cells' q z C E O (by rw[g];omega) (by rw[g];have:0<(n+1)*l.size:=Nat.mul_pos ω k;omega) ?_,dl _ _,λb _=>w.heap.size<=b/\b<(w.alloc (.cells cells' e)).heap.size,S,λb o d=>⟨d.2,d.1⟩,λ_ _ h=>h,λ_ _ h=>.inl h,λb o d X=>?_,?_⟩
   ·rw[g,Array.toList_map]
    rw[nL,D]at H;exact H
   ·have:=(h.sup b o X).1;have:=d.1;omega
   have:=(za (e:=e) V B ω W (λb o d=>(h.sup b o d).1) (λ_ _ h=>h.elim)).mono (F':=λb o=>w.heap.size<=b/\b<(w.alloc (.cells cells' e)).heap.size) (λ_ _ h=>h) (λb o d=>d.elim (λh=>h.elim) id);exact gz this
  exact f.elim
def eY.flat{o:dN}{rows:List (List C)}(h:eY w S Y (.s o rows) v){sz:Nat}(K:∀r∈rows,r.length=sz/\aZ r=true) :
  ∃b c u,v=.slice b rows.length c/\pP w b (rows.length*sz) ((List.range (rows.length*sz)).map u)/\Ex w S NO rows sz u (λ_=>NO):=by
 have R:∀(g l k:Nat)(u:Nat->Value)(f:Nat->af),(∀r∈rows,r.length=k)->(∀q,q<rows.length*k->cel w g (l+q)=some (u q))->(∀(i j:Nat)(r:List C)(c:C),rows[i]? = some r->r[j]? = some c->eY w S (f (i*k+j)) c (u (i*k+j)))->
   pP w (some ⟨g,l,none⟩) (rows.length*sz) ((List.range (rows.length*sz)).map u)/\Ex w S NO rows sz u (λ_=>NO):=λg l k u f p E B=>by
  have G:rows≠[]->k=sz:=λL=>by
   obtain⟨r,B⟩:=List.exists_mem_of_ne_nil _ L;rw[<-p r B,(K r B).1]
  refine⟨⟨by simp,λh=>(by cases h),λU j y M t=>?_⟩,λr B=>(K r B).1,λ_ _ _ _ h=>h.elim,λ_ _ _ _ _ _ _ h=>h.elim,λi j r c J t=>?_⟩
  ·cases M
   rw[X3]at t;have A:j<rows.length*sz:=by
    rcases Nat.lt_or_ge j (rows.length*sz) with h|h
    ·exact h
    rw[Z2 (by simpa using h)]at t;cases t
   rw[X7 A]at t;simp only[Z5,C1]at t;subst t;rw[kq];refine E j ?_;rw[G (λe=>by rw[e]at A;simp at A)];exact A
  have N:=I2 J;have:=G (λe=>by rw[e]at N;cases N);subst this;exact(B i j r c J t).bare (rm (K r N).2 j c t)
 generalize d:C.s o rows=c0 at h;cases h with
 | v=>cases d
 | x=>cases d
 | z=>cases d
 | m=>cases d
 | it=>cases d
 | nil F V a W=>
  cases d;exact⟨a,0,λ_=>undef,rfl,⟨by simp,λ_=>by simp,λU j u _ t=>by simp at t⟩,λr B=>(by cases B),λ_ _ _ _ h=>h.elim,λ_ _ _ _ _ _ _ h=>h.elim,λi j r c J=>(by simp at J)⟩
 | U F g l k n O D u P p H X E=>
  cases d;subst P;exact⟨_,_,u,rfl,R g l k u (λ_=>NO) p (λq Q=>(X q Q).2) E⟩
 | own F V g k n O D u f W P p H T hF Z hf hd E=>
  cases d;subst P;exact⟨_,_,u,rfl,R g 0 k u f p (λq Q=>by rw[Y7];exact Z q Q) E⟩
def cb.rep1{c:C}(h:cb w S Y none [c] v):eY w S Y c v:=by
 obtain⟨-,u,rfl,f,a,b,-⟩:=h;exact(a 0 c rfl).mono (λ_ _ h=>h) (b 0 (by simp))
def wX(h:eY w S Y .z v):∃b,v=.slice b 0 0:=by
 generalize a:C.z=c at h;cases h with
 | z=>exact⟨_,rfl⟩
 | _=>cases a
def mi.same{av:AV}(b:cS w S F (tvs a) NO av v):mi w S F a av v w:=
 ⟨Cb _ _,NO,S,λ_ _ h=>h.elim,λ_ _ h=>h,λ_ _ h=>.inl h,λ_ _ h=>h.elim,b⟩
def bo.appP(h:bo w0 M S0 N S φ F a w)(l:∀t i,TE t=some i->bQ P t i){ty:Nat}{x y:Operand}(L:JN TE F T x y K) :
  ∃av v w1,K av/\(Builtin.append_ #[T,T] ty #[a.eval x,a.eval y]).run P w=.ok v w1/\mi w S F a av v w1:=by
 obtain⟨e,ie,q,z,d,he,D,O,hl,E,G,Q,n,p,r,u⟩:=lW l L;obtain⟨R,U,Y,d,V,-⟩:=h.val (h.ev x) d
 match R,U,d with
 | none,[.z],d=>
  obtain⟨b,f⟩:=wX V.rep1;obtain⟨ag2,cs2,Y2,d,g,-⟩:=h.val (h.ev y) d;rw[f]
  match ag2,cs2,d with
  | none,[.s o rows],d=>
   obtain⟨W,X,Z,d⟩:=d.out;obtain⟨b2,c2,u2,g,H,hE⟩:=g.rep1.flat W;rw[g];have A:∀x∈z.cells.toList,x.oneCell'=true:=by rw[n];exact Gp O.2.1
   rw[<-p]at H hE;obtain⟨v',J,j,B,k⟩:=xB (P:=P) (ty:=ty) (S:=S) D G Q u A (F:=NO) (rows:=[]) (xr:=rows) (.nil _ _ b trivial) (by simp) hE (c:=c2) H (λ_ _ h=>h.elim) (λ_ _ h=>h.elim) (λ_ _ h=>h.elim) (λ_ _ h=>h.elim) (λb o f=>(h.sup b o f).1) (by simpa using X) (by rw[r];simpa using Z);refine⟨_,v',J,d,j,B,λb _=>w.heap.size<=b/\b<J.heap.size,S,λb o f=>⟨f.2,f.1⟩,λ_ _ h=>h,λ_ _ h=>.inl h,λb o f hS=>by have:=(h.sup b o hS).1;have:=f.1;omega,gz (k.mono (λ_ _ h=>h) (λb o f=>f.elim (λh=>h.elim) (λf=>f.elim (λh=>h.elim) id)))⟩
  | none,[.z],d=>
   obtain⟨b2,C⟩:=wX g.rep1;rw[C];exact⟨_,_,w,d,vj D G (W3 0),mi.same (gz (Y:=NO) (.z _ _))⟩
end
def zrows(z:List C):Nat->List (List C)
 | 0=>[]
 | n+1=>z::zrows z n
def Nh(z:List C):∀n,zrows z n=List.replicate n z
 | 0=>rfl
 | n+1=>by rw[zrows,Nh z n];rfl
inductive Mk(l c:Int)(by_:Nat)(z:List C)(K:List (List C)->Prop):Prop
 |mk_ (h:∃n:Nat,l=(n:Nat)/\c=(n:Nat)/\n<=140737488355328/\n*by_<=140737488355328/\∃rows,rows=List.replicate n z/\K rows)
variable{K:List (List C)->Prop}{l:Int}
def Mk.mk{c:Int}{z:List C}(n:Nat)(h1:l=(n:Nat))(a:c=(n:Nat))(b:n<=140737488355328)(d:n*by_<=140737488355328)(e:rows=List.replicate n z)(f:K rows):Mk l c by_ z K:=by refine .mk_ ?_;exact⟨n,h1,a,b,d,rows,e,f⟩
def Mk.out{c:Int}{z:List C}(h:Mk l c by_ z K):∃n:Nat,l=(n:Nat)/\c=(n:Nat)/\n<=140737488355328/\n*by_<=140737488355328/\K (List.replicate n z):=by
 obtain⟨h⟩:=h;obtain⟨n,b,d,e,f,a,rfl,g⟩:=h;exact⟨n,b,d,e,f,g⟩
def FY(F:Nat->AV)(x:Operand)(K:Int->Prop):Prop:=HT F x λv=>match v with|.int _ n=>K n|_=>False
def J0(TE:Nat->Option TI)(F:Nat->AV)(T:Nat)(x y:Operand)(K:AV->Prop):Prop:=
 KF TE T λ_ b=>FY F x λl=>FY F y λc=>Mk l c b.bytes b.zero λa=>K (.H .one [.s .own a])
inductive Sl(rows:List (List C))(sz:Nat)(l h:Option Int)(K:List (List C)->Prop):Prop
 |mk_ (h:∃x y:Nat,(l=none/\x=0\/l=some ((x:Nat):Int))/\(h=none/\y=rows.length\/h=some ((y:Nat):Int))/\x<=y/\y<=rows.length/\(∀r∈rows,r.length=sz)/\∃rows',rows'=(rows.take y).drop x/\K rows')
def Sl.pre{a:List (List C)}{h:Int}(y:Nat)(h1:h=(y:Nat))(b:y<=rows.length)(c:∀r∈rows,r.length=sz)(d:a=rows.take y)(e:K a):Sl rows sz none (some h) K:=by
 refine .mk_ ?_;exact⟨0,y,.inl ⟨rfl,rfl⟩,.inr (by rw[h1]),X0 _,b,c,a,by rw[d];rfl,e⟩
def CZ:type_of% @Sl.pre:=@Sl.pre
def Sl.suf{a:List (List C)}(x:Nat)(h1:l=(x:Nat))(b:x<=rows.length)(c:∀r∈rows,r.length=sz)(d:a=rows.drop x)(e:K a):Sl rows sz (some l) none K:=by
 refine .mk_ ?_;exact⟨x,rows.length,.inr (by rw[h1]),.inl ⟨rfl,rfl⟩,b,W3 _,c,a,by rw[d,Y5],e⟩
def Sl.out{l h:Option Int}(a:Sl rows sz l h K):∃x y:Nat,(l=none/\x=0\/l=some ((x:Nat):Int))/\(h=none/\y=rows.length\/h=some ((y:Nat):Int))/\x<=y/\y<=rows.length/\(∀r∈rows,r.length=sz)/\K ((rows.take y).drop x):=by
 obtain⟨a⟩:=a;obtain⟨x,y,c,d,e,f,g,b,rfl,i⟩:=a;exact⟨x,y,c,d,e,f,g,i⟩
def Nv(F:Nat->AV)(x:Option Operand)(K:Option Int->Prop):Prop:=
 match x with
 | none=>K none
 | some x=>FY F x λn=>K (some n)
def Dj(TE:Nat->Option TI)(F:Nat->AV)(T:Nat)(x:Operand)(lo c:Option Operand)(K:AV->Prop):Prop:=
 KF TE T λ_ b=>Nv F lo λl=>Nv F c λh=>iO F (n8 F x) λd e=>match d,e with
  | none,[.s .U rows]=>Sl rows b.size l h λa=>K (.H .one [.s .U a])
  | none,[.z]=>Sl [] b.size l h λ_=>K (.H .one [.z])
  | _,_=>False
def Tp:Operand->Bool
 | .const (.int .i64 0)=>true
 | _=>false
def Q9(TE:Nat->Option TI)(F:Nat->AV)(T:Nat)(x a b:Operand)(K:AV->Prop):Prop:=
 KF TE T λ_ _=>bif Tp a&&Tp b then iO F (n8 F x) λc d=>match c,d with
  | none,[.s _ _]=>K (.H .one [.z])
  | none,[.z]=>K (.H .one [.z])
  | _,_=>False
 else False
def rT(TE:Nat->Option TI)(F:Nat->AV)(T:Nat)(x:Operand)(f:Nat)(K:AV->Prop):Prop:=
 match TE T with
 | some ⟨_,_,_,.st flds⟩=>(match flds[f]? with
   | some p=>(match TE p.2 with
     | some i=>iO F (n8 F x) λc a=>bif c.isSome&&(i.agg || Nat.beq i.size 1)&&Nat.ble (p.1+i.size) a.length then(bif aZ (bz a p.1 i.size) then fc (bz a p.1 i.size) λb=>K (.H (mh (qC i)) b) else False) else False
     | none=>False)
   | none=>False)
 | _=>False
def yF(TE:Nat->Option TI)(F:Nat->AV)(a b:Nat)(x:Operand)(K:AV->Prop):Prop:=
 match TE a,TE b with
 | some _,some ⟨_,_,_,.sc (.int k)⟩=>FY F x λn=>Wr k n λz=>K (.H .one [.v (.int k z)])
 | _,_=>False
def Uy(a:Bool)(F:Nat->AV)(x y:Operand)(K:AV->Prop):Prop:=
 HT F x λv=>match v with
  | .int k n=>FY F y λm=>Ev (if a then(if m > n then m else n) else(if m<n then m else n)) λz=>K (.H .one [.v (.int k z)])
  | _=>False
section
variable{P:Program}{w0 w w1:World}{M S0 S:af}{N:fD}{φ:Nat->af}{F:Nat->AV}{a:Act}{TE:Nat->Option TI}
variable{x:Operand}
def bo.int(h:bo w0 M S0 N S φ F a w){K:Int->Prop}(c:FY F x K):∃k n,a.eval x=.int k n/\K n:=by
 obtain⟨b,-⟩:=h.scalar c;cases d:a.eval x<;>rw[d]at b<;>try exact b.elim
 exact⟨_,_,rfl,b⟩
def AD(z:List C):∀n,chunk z.length n (rep z n)=List.replicate n z
 | 0=>rfl
 | n+1=>by
  simp only[chunk,rep,List.replicate_succ];rw[List.take_left,List.drop_left,AD z n]
variable{K:AV->Prop}{T:Nat}
def bo.make(h:bo w0 M S0 N S φ F a w)(k:∀t i,TE t=some i->bQ P t i){y:Operand}(G:J0 TE F T x y K) :
  ∃av v w1,K av/\(Instr.makeSlice T (a.eval x) (a.eval y)).run P w=.ok v w1/\mi w S F a av v w1:=by
 obtain⟨e,C,q,z,g,Y,H,J,D,E,L,O,p,r,u,Q⟩:=lW k G;obtain⟨R,l,U,g⟩:=h.int g;obtain⟨V,c,W,g⟩:=h.int g;obtain⟨n,rfl,rfl,Z,h2,g⟩:=g.out;have A:(q.bytes:Int)*(n:Int)<=281474976710656:=by
  have:((q.bytes*n:Nat):Int)<=281474976710656:=by rw[u,Nat.mul_comm];omega
  rwa [Int.natCast_mul]at this
 have d:=run_make (P:=P) w T e q z H L O R V (n:Nat) (n:Nat) ω (W5 _) A ω;simp only[I3]at d;rw[U,W];refine⟨_,_,_,g,d,dl _ _,λb _=>w.heap.size<=b/\b<(w.alloc (.cells (madeCells z.cells (n*q.size)) e)).heap.size,S,λb o f=>⟨f.2,f.1⟩,λ_ _ h=>h,λ_ _ h=>.inl h,λb o f X=>by have:=(h.sup b o X).1;have:=f.1;omega,gz ?_⟩;rcases Nat.eq_zero_or_pos n with B|B
 ·subst B;exact .nil _ _ _ trivial
 have j:(rep C.zero n).length=n*C.size:=by rw[nL,D]
 have:=(za (e:=e) (cells:=madeCells z.cells (n*q.size)) (uX (w:=w) J.2.1 S n) j B (by
   have:=pD p ω (n*q.size);rw[j,<-r];exact this) (λb o f=>(h.sup b o f).1) (λ_ _ h=>h.elim)).mono (F':=λb o=>w.heap.size<=b/\b<(w.alloc (.cells (madeCells z.cells (n*q.size)) e)).heap.size) (λ_ _ h=>h) (λb o f=>f.elim (λh=>h.elim) id)
 rw[<-D,AD]at this;exact this
def x6(h:bo w0 M S0 N S φ F a w){x:Option Operand}{K:Option Int->Prop}(b:Nv F x K):(x=none/\K none)\/∃y k n,x=some y/\a.eval y=.int k n/\K (some n):=by
 cases x with
 | none=>exact .inl ⟨rfl,b⟩
 | some y=>obtain⟨k,n,c,d⟩:=h.int b;exact .inr ⟨y,k,n,rfl,c,d⟩
variable{lo:Option Operand}{ad:Option Addr}
def u7{e sz len cap x y:Nat}{i:Option Operand}{l r:Option Int}(A:P.underlying T=some (.slice e))(E:(P.info? e).map (·.size)=some sz)(j:(lo=none/\l=none)\/∃o k n,lo=some o/\a.eval o=.int k n/\l=some n)(d:(i=none/\r=none)\/∃o k n,i=some o/\a.eval o=.int k n/\r=some n)(B:l=none/\x=0\/l=some ((x:Nat):Int))(g:r=none/\y=len\/r=some ((y:Nat):Int))(F:x<=y)(G:y<=len)(H:len<=cap) :
  (Instr.sliceAt T (.slice ad len cap) (lo.map a.eval) (i.map a.eval) none).run P w=.ok (sliced ad x y cap sz) w:=by
 have f:P.elem T=e:=by simp[Program.elem,A]
 have b:P.underlying T=some (.slice (P.elem T)):=by rw[f];exact A
 have c:(sizeOf (P.elem T)).run P w=.ok sz w:=by rw[f];exact kr E
 rw[run_sliceAt_slice w T _ _ _ _ b];rcases j with⟨rfl,rfl⟩|⟨L,C,J,rfl,D,rfl⟩
 ·have p:x=0:=by rcases B with⟨-,h⟩|h;exact h;cases h
  subst p;rcases d with⟨rfl,rfl⟩|⟨K,q,t,rfl,u,rfl⟩
  ·have:y=len:=by rcases g with⟨-,h⟩|h;exact h;cases h
   subst this;have:=run_slice_all (P:=P) w T ad y cap b;simp only[Option.map_none];rw[this,c];rfl
  have:t=(y:Nat):=by rcases g with⟨h,-⟩|h;cases h;exact Option.some.inj h
  subst this;have:=run_slice_h (P:=P) w T ad len cap b q (y:Nat) ω ω;simp only[Option.map_none,Z5,u];rw[this,c];rfl
 have:J=(x:Nat):=by rcases B with⟨h,-⟩|h;cases h;exact Option.some.inj h
 subst this;rcases d with⟨rfl,rfl⟩|⟨K,q,t,rfl,u,rfl⟩
 ·have:y=len:=by rcases g with⟨-,h⟩|h;exact h;cases h
  subst this;have:=run_slice_l (P:=P) w T ad y cap b C (x:Nat) ω ω;simp only[Option.map_none,Z5,D];rw[this,c];rfl
 have:t=(y:Nat):=by rcases g with⟨h,-⟩|h;cases h;exact Option.some.inj h
 subst this;have:=run_slice_lh (P:=P) w T ad len cap b C q (x:Nat) (y:Nat) ω ω ω;simp only[Z5,D,u];rw[this,c];rfl
def Nq{o:Operand}(h:Tp o=true):o=.const (.int .i64 0):=by
 unfold Tp at h;split at h
 ·rfl
 cases h
def xl{e sz len cap:Nat}(d:P.underlying T=some (.slice e))(f:(P.info? e).map (·.size)=some sz) :
  (Instr.sliceAt T (.slice ad len cap) none (some (.int .i64 0)) (some (.int .i64 0))).run P w=.ok (.slice ad 0 0) w:=by
 have a:P.elem T=e:=by simp[Program.elem,d]
 have b:P.underlying T=some (.slice (P.elem T)):=by rw[a];exact d
 have c:(sizeOf (P.elem T)).run P w=.ok sz w:=by rw[a];exact kr f
 rw[run_sliceAt_slice w T _ _ _ _ b];unfold Instr.slice;rw[Sem.run_bind,run_underlying b];simp[Instr.sliceBounds,Instr.sliceBound,asIntOf,c]
def bo.slice0(h:bo w0 M S0 N S φ F a w)(g:∀t i,TE t=some i->bQ P t i){j k:Operand}(D:Q9 TE F T x j k K) :
  ∃v,K (.H .one [.z])/\(Instr.sliceAt T (a.eval x) none (some (a.eval j)) (some (a.eval k))).run P w=.ok v w/\cS w S F (tvs a) NO (.H .one [.z]) v:=by
 obtain⟨e,O,q,z,c,Q,p,r,-⟩:=lW g D;cases d:Tp j&&Tp k with
 | false=>rw[d]at c;exact c.elim
 | true=>
  rw[d]at c;rw[I0]at d;have E:=Nq d.1;have G:=Nq d.2;subst E G;obtain⟨H,J,Y,c,⟨R,u,A,f,B,-⟩,-⟩:=h.val (h.ev x) c
  match H,J,c with
  | none,[.s o rows],c=>
   obtain⟨b,l,L⟩:=(B 0 _ rfl).slice;have n:a.eval x=.slice b rows.length l:=A.trans L;rw[n];exact⟨_,c,xl p r.size,gz (.z _ b)⟩
  | none,[.z],c=>
   have C:=B 0 _ rfl;have:∃b,u 0=.slice b 0 0:=by
    generalize u 0=y at C;cases C;exact⟨_,rfl⟩
   obtain⟨b,d⟩:=this;have n:a.eval x=.slice b 0 0:=A.trans d;rw[n];exact⟨_,c,xl p r.size,gz (.z _ b)⟩
def bo.slice(h:bo w0 M S0 N S φ F a w)(hTE:∀t i,TE t=some i->bQ P t i){A:Option Operand}(hp:Dj TE F T x lo A K) :
  ∃av v,K av/\(Instr.sliceAt T (a.eval x) (lo.map a.eval) (A.map a.eval) none).run P w=.ok v w/\cS w S F (tvs a) NO av v:=by
 obtain⟨e,D,q,z,d,he,hu,ht,hl,hpos,H,hz,hzc,hsz,hby,hzs⟩:=lW hTE hp;have key:∀l r,(iO F (n8 F x) λag cs=>match ag,cs with
     | none,[.s .U rows]=>Sl rows D.size l r λy=>K (.H .one [.s .U y])
     | none,[.z]=>Sl [] D.size l r λ_=>K (.H .one [.z])
     | _,_=>False)->((lo=none/\l=none)\/∃o k n,lo=some o/\a.eval o=.int k n/\l=some n)->((A=none/\r=none)\/∃o k n,A=some o/\a.eval o=.int k n/\r=some n)->
   ∃av v,K av/\(Instr.sliceAt T (a.eval x) (lo.map a.eval) (A.map a.eval) none).run P w=.ok v w/\cS w S F (tvs a) NO av v:=by
  intro l r d J L;obtain⟨ag,cs,Y,d,hv,-⟩:=h.val (h.ev x) d
  match ag,cs,d with
  | none,[.s .U rows],d=>
   obtain⟨m,n,h1,h2,h3,V,h5,d⟩:=d.out;have E:=hv.rep1;generalize p:C.s .U rows=c0 at E;generalize a.eval x=vx at E;cases E with
   | v=>cases p
   | x=>cases p
   | z=>cases p
   | m=>cases p
   | it=>cases p
   | own F o' g k n cap y u f ho=>cases p;exact ho.elim
   | nil F o' ad ho=>
    cases p;have O:n=0:=by simp at V;omega
    subst O;have Q:m=0:=ω
    subst Q;have:=u7 (w:=w) (a:=a) (P:=P) (ad:=ad) (cap:=0) (len:=0) hu ht.size J L h1 (by simpa using h2) h3 (W3 0) (W3 0);exact⟨_,_,d,this,gz (.nil _ .U _ trivial)⟩
   | U F g W k n' cap y u hn hkk X hS hc=>
    cases p;subst hn;have:=u7 (w:=w) (a:=a) (P:=P) (ad:=some ⟨g,W,none⟩) (cap:=cap) (len:=rows.length) hu ht.size J L h1 h2 h3 V X;refine⟨_,_,d,this,gz ?_⟩;unfold sliced;by_cases he:cap=m
    ·rw[CD he]
     have hnm:n=m:=ω
     subst hnm;rw[show cap - n=0 by omega,Nat.sub_self];rw[show(rows.take n).drop n=[] by simp];exact .nil _ _ _ trivial
    rw[CB he];simp only[Z5,kq];have Z:((rows.take n).drop m).length=n - m:=by simp;omega
    have G:∀(i:Nat)(r:List C),((rows.take n).drop m)[i]? = some r->rows[m+i]? = some r:=λi r A=>by
     rw[List.getElem?_drop,List.getElem?_take]at A;split at A
     ·exact A
     cases A
    have hks:rows≠[]->k=D.size:=λB=>by
     obtain⟨r,E⟩:=List.exists_mem_of_ne_nil _ B;rw[<-hkk r E,h5 r E]
    refine .U _ g (W+m*D.size) D.size (n - m) (cap - m) _ (λq=>u (m*D.size+q)) Z (λr E=>?_) ω (λq hq=>?_) (λi j r c A hj=>?_)
    ·obtain⟨i,A⟩:=List.getElem?_of_mem E
     exact h5 r (I2 (G i r A))
    ·have B:rows≠[]:=λe=>by subst e;simp at V;subst V;simp at hq
     have R:=hks B;subst R;rw[Nat.add_assoc];refine hS _ ?_;have:(n - m)*D.size+m*D.size<=rows.length*D.size:=by rw[<-Nat.add_mul];exact I8 D.size ω
     omega
    have H:=G i r A;have B:rows≠[]:=λe=>by subst e;simp at H
    have R:=hks B;subst R;have:=hc _ j r c H hj;rw[Nat.add_mul,Nat.add_assoc]at this;exact this
  | none,[.z],d=>
   obtain⟨m,n,h1,h2,h3,V,h5,d⟩:=d.out;obtain⟨b,hb⟩:=wX hv.rep1;have O:n=0:=by simp at V;omega
   subst O;have Q:m=0:=ω
   subst Q;have:=u7 (w:=w) (a:=a) (P:=P) (ad:=b) (cap:=0) (len:=0) hu ht.size J L h1 (by simpa using h2) h3 (W3 0) (W3 0);rw[hb];exact⟨_,_,d,this,gz (.z _ _)⟩
 rcases x6 h d with⟨e1,d⟩|⟨o1,k1,n1,e1,e2,d⟩
 ·rcases x6 h d with⟨U,d⟩|⟨o2,k2,n2,U,e4,d⟩
  ·exact key _ _ d (.inl ⟨e1,rfl⟩) (.inl ⟨U,rfl⟩)
  exact key _ _ d (.inl ⟨e1,rfl⟩) (.inr ⟨_,_,_,U,e4,rfl⟩)
 rcases x6 h d with⟨U,d⟩|⟨o2,k2,n2,U,e4,d⟩
 ·exact key _ _ d (.inr ⟨_,_,_,e1,e2,rfl⟩) (.inl ⟨U,rfl⟩)
 exact key _ _ d (.inr ⟨_,_,_,e1,e2,rfl⟩) (.inr ⟨_,_,_,U,e4,rfl⟩)
def N7{i:TI}(e:bQ P T i)(f:(i.agg || Nat.beq i.size 1)=true){cells:Array Value}{off:Nat}{u:Nat->Value}(g:∀d,d<i.size->cells[off+d]? = some (u d)) :
  (part T cells off).run P w=.ok (mkv (qC i) u) w:=by
 have b:=e.isAgg (w:=w);unfold part qC;cases a:i.agg with
 | true=>
  rw[a]at b;have h:cells.extract off (off+i.size)=((List.range i.size).map u).toArray:=by
   apply Array.ext';apply List.ext_getElem?;intro j;by_cases c:j<i.size
   ·simp[c,g j c]
   simp[c];omega
  simp[b,kr e.size,mkv,h]
 | false=>
  rw[a]at b f;have k:i.size=1:=by simpa using f
  have:=g 0 ω;simp only[Nat.add_zero]at this;simp[b,this,mkv]
def bo.field(h:bo w0 M S0 N S φ F a w)(j:∀t i,TE t=some i->bQ P t i){f:Nat}(e:rT TE F T x f K) :
  ∃av v,K av/\(Instr.field T (a.eval x) f).run P w=.ok v w/\cS w S F (tvs a) NO av v:=by
 unfold rT at e;split at e
 case h_2=>exact e.elim
 rename_i flds Q;split at e
 case h_2=>exact e.elim
 rename_i p b;split at e
 case h_2=>exact e.elim
 rename_i i R;obtain⟨H,o,Y,c,U,-⟩:=h.val (h.ev x) e;cases q:(H.isSome&&(i.agg || Nat.beq i.size 1)&&Nat.ble (p.1+i.size) o.length) with
 | false=>rw[q]at c;exact c.elim
 | true=>
  rw[q]at c;simp only[cond_true]at c;simp only[I0]at q;obtain⟨⟨r,k⟩,y⟩:=q;have A:=O1 y;cases B:aZ (bz o p.1 i.size) with
  | false=>rw[B]at c;exact c.elim
  | true=>
   rw[B]at c;simp only[cond_true,d3]at c;obtain⟨J,V,C⟩:=(j _ _ Q).2.2;have D:=j _ _ R;cases H with
   | none=>cases r
   | some m=>
    obtain⟨L,u,E,W⟩:=U;simp only[Option.getD_some]at L;subst L;have l:cb w S Y (qC i) (bz o p.1 i.size) (mkv (qC i) λd=>u (p.1+d)):=⟨by rw[pu k];simp[bz];omega,_,rfl,W.part p.1 _⟩
    refine⟨_,_,c,?_,(l.bare B).slot⟩;obtain⟨g,n,G⟩ : ∃g,J[f]? = some g/\(g.offset,g.type)=p:=by
     rw[<-C,X3,Array.getElem?_toList]at b;cases O:J[f]? with
     | none=>rw[O]at b;cases b
     | some g=>rw[O]at b;simp only[Z5,C1]at b;exact⟨g,rfl,b⟩
    subst G;rw[E];simp only[Instr.field,Sem.run_bind,run_underlying V,Result.andThen_ok,n,mkv,asAgg,Sem.run_pure];exact N7 D k (λd X=>by simp[show g.offset+d<o.length by simp at A;omega])
def bo.conv(h:bo w0 M S0 N S φ F a w)(b:∀t i,TE t=some i->bQ P t i){g p:Nat}(c:yF TE F g p x K) :
  ∃v,K (.H .one [.v v])/\v.oneCell'=true/\(Go.convert g p (a.eval x)).run P w=.ok v w:=by
 unfold yF at c;split at c
 ·rename_i q _ _ _ k r u
  obtain⟨B,n,y,j⟩:=h.int c;obtain⟨z,rfl,j⟩:=j.out;have l:=(b _ _ u).2.2.1;obtain⟨d,o⟩ : ∃d,P.underlying g=some d:=by
   have:=(b _ _ r).2.2;cases f:q.kind with
   | st flds=>rw[f]at this;obtain⟨C,A,-⟩:=this;exact⟨_,A⟩
   | sl e=>rw[f]at this;exact⟨_,this⟩
   | sc d=>rw[f]at this;exact⟨_,this.1⟩
   | mp k e z=>rw[f]at this;exact⟨_,this.1⟩
  refine⟨_,j,rfl,?_⟩;rw[y];simp[Go.convert,run_underlying o,run_underlying l,Conv.intToInt]
 exact c.elim
def bo.mm(h:bo w0 M S0 N S φ F a w){c:Bool}{y:Operand}{ts:Array TypeId}{ty:Nat}(e:Uy c F x y K) :
  ∃v,K (.H .one [.v v])/\v.oneCell'=true/\(if c then(Builtin.max_ ts ty #[a.eval x,a.eval y]) else(Builtin.min_ ts ty #[a.eval x,a.eval y])).run P w=.ok v w:=by
 obtain⟨d,-⟩:=h.scalar e;cases f:a.eval x<;>rw[f]at d<;>try exact d.elim
 obtain⟨k,m,g,b⟩:=h.int d;obtain⟨z,rfl,b⟩:=b.out;rw[g];cases c with
 | true=>exact⟨_,b,rfl,by simp[run_max_int2]⟩
 | false=>exact⟨_,b,rfl,by simp[run_min_int2]⟩
end
def mlook:List (Int × Value)->Int->Value->Value
 | [],_,d=>d
 | p::es,k,d=>if p.1=k then p.2 else mlook es k d
def mput:List (Int × Value)->Int->Value->List (Int × Value)
 | [],k,v=>[(k,v)]
 | p::es,k,v=>if p.1=k then(k,v)::es else p::mput es k v
inductive Ml(es:List (Int × Value))(k:Int)(d:Value)(K:Value->Prop):Prop
 |mk_ (h:∃v,mlook es k d=v/\K v)
variable{k:Int}
def Ml.mk{a:List (Int × Value)}{d:Value}{K:Value->Prop}(h:mlook a k d=v)(b:K v):Ml a k d K:=.mk_ ⟨v,h,b⟩
def Ml.out{a:List (Int × Value)}{d:Value}{K:Value->Prop}(h:Ml a k d K):K (mlook a k d):=by
 obtain⟨v,rfl,h⟩:=h;exact h
inductive Mu(es:List (Int × Value))(k:Int)(v:Value)(K:List (Int × Value)->Prop):Prop
 |mk_ (h:∃es',es'=mput es k v/\K es')
def Mu.mk{a es':List (Int × Value)}{K:List (Int × Value)->Prop}(h:es'=mput a k v)(b:K es'):Mu a k v K:=.mk_ ⟨es',h,b⟩
def Mu.out{a:List (Int × Value)}{K:List (Int × Value)->Prop}(h:Mu a k v K):K (mput a k v):=by
 obtain⟨v,rfl,h⟩:=h;exact h
def sO(TE:Nat->Option TI)(T:Nat)(r:Option Operand)(K:AV->Prop):Prop:=
 match TE T,r with
 | some ⟨_,_,_,.mp _ _ _⟩,none=>K (.H .one [.m []])
 | _,_=>False
def y2(TE:Nat->Option TI)(F:Nat->AV)(T:Nat)(x y:Operand)(ok:Bool)(K:AV->Prop):Prop:=
 match TE T with
 | some ⟨_,_,_,.mp _ _ d⟩=>bif ok then False else iO F (n8 F x) λa b=>match a,b with
  | none,[.m es]=>HT F y λv=>match v with
   | .int .i64 z=>Ml es z d λc=>K (.H .one [.v c])
   | _=>False
  | _,_=>False
 | _=>False
def putMap(F:Nat->AV)(t off:Nat)(z:Int)(v:Value)(K:(Nat->AV)->Prop):Prop:=
 match F t with
 | .H k c=>match c[off]? with
  | some (.m es)=>Mu es z v λa=>fc (splice c off [.m a]) λb=>K (updH F t k b)
  | _=>False
 | _=>False
def nD(TE:Nat->Option TI)(F:Nat->AV)(T:Nat)(x y v:Operand)(K:(Nat->AV)->Prop):Prop:=
 match TE T with
 | some ⟨_,_,_,.mp _ _ _⟩=>HT F y λb=>HT F v λa=>match b with
  | .int .i64 z=>(match x with
    | .tmp s=>(match F s with
      | .c2 t off [] none=>putMap F t off z a K
      | .H .one _=>putMap F s 0 z a K
      | _=>False)
    | _=>False)
  | _=>False
 | _=>False
def mfind:List (Int × Value)->Int->Nat->Option (Nat × Value)
 | [],_,_=>none
 | p::es,k,i=>if p.1=k then some (i,p.2) else mfind es k (i+1)
section
variable{P:Program}{w0 w w1:World}{M S0 S:af}{N:fD}{φ:Nat->af}{F:Nat->AV}{a:Act}{TE:Nat->Option TI}
def r8(z:Int):∀(l:List MapEntry)(a:List (Int × Value))(i:Nat),l.map (λe=>(e.key,e.val))=a.map (λp=>(Value.int .i64 p.1,p.2))->Instr.findNow (.int .i64) (.int .i64 z) l i=some (mfind a z i)
 | [],a,i,h=>by
  cases a with
  | nil=>rfl
  | cons _ _=>simp at h
 | e::l,a,i,h=>by
  cases a with
  | nil=>simp at h
  | cons p a=>
   simp only[Y6,List.cons.injEq,Prod.mk.injEq]at h;obtain⟨⟨c,d⟩,f⟩:=h;have g:=r8 z l a (i+1) f;simp only[Instr.findNow,c,Instr.sameNow,if_true,mfind];by_cases b:p.1=z
   ·have:(z == p.1)=true:=by simp[b]
    rw[this,CD b,d]
   have:(z == p.1)=false:=by simp;exact λe=>b e.symm
   rw[this,CB b];exact g
def xa(d:Value):∀(a:List (Int × Value))(z:Int)(i:Nat),mlook a z d=((mfind a z i).map (·.2)).getD d
 | [],z,i=>rfl
 | p::a,z,i=>by
  simp only[mlook,mfind];split
  ·rfl
  exact xa d a z (i+1)
variable{b:Nat}
def qj{d:Array MapEntry}{a:Nat}(h:mp w b=some (.map d a)):w.heap[b]? = some (.map d a):=by
 unfold mp at h;split at h
 ·rename_i e c f;simp only[C1,Obj.map.injEq]at h;obtain⟨rfl,rfl⟩:=h;exact f
 ·cases h
 ·split at h<;>cases h
 cases h
variable{c:Nat}
def D2{s:Nat}{m:Option Nat}{seen:Array Nat}(h:mp w b=some (.mapIter m s seen c)):w.heap[b]? = some (.mapIter m s seen c):=by
 unfold mp at h;split at h
 ·cases h
 ·rename_i a;rw[a];exact h
 ·split at h<;>cases h
 cases h
variable{T:Nat}
def Qh{j h:Nat}{d:Value}(l:P.underlying T=some (.map j h))(n:P.underlying j=some (.int .i64))(f:(P.info? h).bind (·.zero)=some d){a:Array MapEntry}{g:List (Int × Value)}(u:mp w b=some (.map a c))(y:a.toList.map (λe=>(e.key,e.val))=g.map (λp=>(Value.int .i64 p.1,p.2)))(z:Int):(Instr.lookup T (.map (some b)) (.int .i64 z) false).run P w=.ok (mlook g z d) w:=by
 have o:=MapKept.run_getObj_map (P:=P) (qj u);have r:∀e,(Instr.checkKey e 10000 j (.int .i64 z)).run P w=.ok () w:=λe=>MapKept.run_checkKey n (show MapKept.IsKey (.int .i64) (.int .i64 z) from rfl) e 9999
 have i:=MapKept.run_findKey (P:=P) (w:=w) n (r8 z a.toList g 0 y);have A:(zeroValue h).run P w=.ok d w:=by
  cases k:P.info? h with
  | none=>rw[k]at f;cases f
  | some q=>rw[k]at f;simp only[Option.bind_some]at f;simp[zeroValue,typeInfo,k,f]
 rw[xa d g z 0];cases t:mfind g z 0 with
 | none=>rw[t]at i;simp[Instr.lookup,run_underlying l,o,r,i,A,Result.andThen]
 | some p=>rw[t]at i;simp[Instr.lookup,run_underlying l,o,r,i,Result.andThen]
def BD{d:Value}(b:d.oneCell'=true):∀{a:List (Int × Value)}(z:Int),(∀p∈a,p.2.oneCell'=true)->(mlook a z d).oneCell'=true
 | [],_,_=>b
 | p::a,z,h=>by
  simp only[mlook];split
  ·exact h p (C2 ..)
  exact BD b z λq c=>h q (C6 _ c)
def stamps(a:Array MapEntry)(n:Nat):Prop:=(a.toList.map (·.born)).Nodup/\∀x∈a.toList,x.born<n
def Gg{b:Array MapEntry}{n:Nat}(h:stamps b n)(k v:Value):stamps (b.push {key:=k,val:=v,born:=n}) (n+1):=by
 obtain⟨d,c⟩:=h;refine⟨?_,λy a=>?_⟩
 ·rw[Array.toList_push,W6,List.nodup_append]
  refine⟨d,by simp,λp f q g e=>?_⟩;obtain⟨y,a,rfl⟩:=Z4.1 f;simp at g;have:=c y a;omega
 rw[Array.toList_push,V3]at a;rcases a with a|a
 ·have:=c y a;omega
 simp at a;subst a;exact Nat.lt_succ_self _
def vg{g:MapEntry->MapEntry}(a:∀e,(g e).born=e.born):∀(l:List MapEntry)(i:Nat),(l.modify i g).map (·.born)=l.map (·.born)
 | [],i=>by cases i<;>rfl
 | e::l,0=>by rw[List.modify_zero_cons,Y6,Y6,a]
 | e::l,i+1=>by rw[List.modify_succ_cons,Y6,Y6,vg a l i]
def Gb{a ents':Array MapEntry}{n:Nat}(h:stamps a n)(b:ents'.toList.map (·.born)=a.toList.map (·.born)):stamps ents' n:=by
 refine⟨by rw[b];exact h.1,λy c=>?_⟩;have:y.born∈a.toList.map (·.born):=by rw[<-b];exact Z4.2 ⟨y,c,rfl⟩
 obtain⟨z,d,e⟩:=Z4.1 this;rw[<-e];exact h.2 z d
def Qd{Y:af}{f:List (Int × Value)}{v:Value}(h:eY w S Y (.m f) v):∃b a d,v=.map (some b)/\(∀o,Y b o)/\mp w b=some (.map d a)/\d.toList.map (λe=>(e.key,e.val))=f.map (λp=>(Value.int .i64 p.1,p.2))/\(∀p∈f,p.2.oneCell'=true)/\stamps d a:=by
 generalize i:C.m f=c at h;cases h with
 | m _ b a j d k l n q g=>cases i;exact⟨b,a,d,rfl,k,l,n,q,g⟩
 | _=>cases i
def bo.look(h:bo w0 M S0 N S φ F a w)(f:∀t i,TE t=some i->bQ P t i){x y:Operand}{ok:Bool}{K:AV->Prop}(c:y2 TE F T x y ok K) :
  ∃v,K (.H .one [.v v])/\v.oneCell'=true/\(Instr.lookup T (a.eval x) (a.eval y) ok).run P w=.ok v w:=by
 unfold y2 at c;split at c
 case h_2=>exact c.elim
 rename_i o;obtain⟨p,q,r,u⟩:=(f _ _ o).2.2;cases ok with
 | true=>exact c.elim
 | false=>
  obtain⟨A,B,Y,g,C,-⟩:=h.val (h.ev x) c
  match A,B,g with
  | none,[.m es],g=>
   obtain⟨d,-⟩:=h.scalar g;cases e:a.eval y with
   | int k z=>
    rw[e]at d;cases k with
    | i64=>
     obtain⟨b,j,n,D,-,E,G,l,-⟩:=Qd C.rep1;exact⟨_,d.out,BD u z l,by rw[D];exact Qh p q r E G z⟩
    | _=>exact d.elim
   | _=>rw[e]at d;exact d.elim
def tg{o:Obj}(c:b<w.heap.size)(a:Nat):({w with heap:=w.heap.setIfInBounds b o} : World).heap[a]? = if a=b then some o else w.heap[a]?:=by
 show(w.heap.setIfInBounds b o)[a]? = _;rw[Array.getElem?_setIfInBounds];by_cases h:a=b
 ·subst h;rw[CD rfl,CD rfl];simp[c]
 rw[CB h,CB λe=>h e.symm]
def FV(z:Int)(v:Value)(a:Nat):∀(l:List MapEntry)(b:List (Int × Value))(i:Nat),l.map (λe=>(e.key,e.val))=b.map (λp=>(Value.int .i64 p.1,p.2))->
  (match mfind b z i with
    | some p=>i<=p.1/\p.1 - i<l.length/\(l[p.1 - i]?).map (·.key)=some (.int .i64 z)/\(l.modify (p.1 - i) λe=>{e with key:=.int .i64 z,val:=v}).map (λe=>(e.key,e.val))=(mput b z v).map (λp=>(Value.int .i64 p.1,p.2))
    | none=>(l++[({key:=.int .i64 z,val:=v,born:=a} : MapEntry)]).map (λe=>(e.key,e.val))=(mput b z v).map (λp=>(Value.int .i64 p.1,p.2)))
 | [],b,i,h=>by
  cases b with
  | nil=>rfl
  | cons _ _=>simp at h
 | e::l,b,i,h=>by
  cases b with
  | nil=>simp at h
  | cons p b=>
   simp only[Y6,List.cons.injEq,Prod.mk.injEq]at h;obtain⟨⟨d,g⟩,j⟩:=h;have c:=FV z v a l b (i+1) j;simp only[mfind,mput];by_cases f:p.1=z
   ·simp only[CD f]
    refine⟨W3 _,by simp,by simp[d,f],?_⟩;rw[Nat.sub_self];simp only[List.modify_zero_cons,Y6,j]
   simp only[CB f];cases k:mfind b z (i+1) with
   | none=>
    rw[k]at c;simp only[List.cons_append,Y6,d,g]at c |-;rw[c]
   | some q=>
    rw[k]at c;simp only at c |-;obtain⟨t,u,n,o⟩:=c;have r:q.1 - i=(q.1 - (i+1))+1:=ω
    rw[r];refine⟨ω,by simp;omega,by simpa using n,?_⟩;rw[List.modify_succ_cons,Y6,Y6,o,d,g]
def Rg{k A:Nat}(n:P.underlying T=some (.map k A))(o:P.underlying k=some (.int .i64)){a:Array MapEntry}{h:List (Int × Value)}(B:mp w b=some (.map a c))(r:a.toList.map (λe=>(e.key,e.val))=h.map (λp=>(Value.int .i64 p.1,p.2)))(d:stamps a c)(z:Int)(v:Value):∃ents' clock',stamps ents' clock'/\(Instr.mapUpdate T (.map (some b)) (.int .i64 z) v).run P w=.ok () {w with heap:=w.heap.setIfInBounds b (.map ents' clock')}/\
   ents'.toList.map (λe=>(e.key,e.val))=(mput h z v).map (λp=>(Value.int .i64 p.1,p.2)):=by
 have l:=qj B;have t:=MapKept.run_getObj_map (P:=P) l;have u:∀e,(Instr.checkKey e 10000 k (.int .i64 z)).run P w=.ok () w:=λe=>MapKept.run_checkKey o (show MapKept.IsKey (.int .i64) (.int .i64 z) from rfl) e 9999
 have j:=MapKept.run_findKey (P:=P) (w:=w) o (r8 z a.toList h 0 r);have f:=FV z v c a.toList h 0 r;cases y:mfind h z 0 with
 | none=>
  rw[y]at j f;simp only at f;refine⟨a.push {key:=.int .i64 z,val:=v,born:=c},c+1,Gg d _ _,?_,by rw[Array.toList_push];exact f⟩;simp[Instr.mapUpdate,run_underlying n,t,u,j,Result.andThen,MapKept.run_setObj_map _ l]
 | some q=>
  rw[y]at j f;simp only[Nat.sub_zero]at f;obtain⟨-,E,C,D⟩:=f;refine⟨a.modify q.1 λe=>{e with key:=.int .i64 z,val:=v},c,Gb d (by rw[Array.toList_modify];exact vg (g:=λe=>{e with key:=.int .i64 z,val:=v}) (λ_=>rfl) _ _),?_,by rw[Array.toList_modify];exact D⟩;have i:((a[q.1]?).map (·.key)).getD (.int .i64 z)=.int .i64 z:=by
   rw[show a[q.1]? = a.toList[q.1]? by simp,C];rfl
  have d:(Instr.keyThatStays (.int .i64 z) (.int .i64 z)).run P w=.ok (.int .i64 z) w:=by
   have:Instr.sameBits 10000 (.int .i64 z) (.int .i64 z)=true:=by simp[Instr.sameBits]
   simp[Instr.keyThatStays,this]
  simp[Instr.mapUpdate,run_underlying n,t,u,j,Result.andThen,i,d,MapKept.run_setObj_map _ l]
def Gr{v:Value}(b:v.oneCell'=true):∀{c:List (Int × Value)}(z:Int),(∀p∈c,p.2.oneCell'=true)->∀p∈mput c z v,p.2.oneCell'=true
 | [],z,_,p,a=>by simp[mput]at a;subst a;exact b
 | q::c,z,h,p,a=>by
  simp only[mput]at a;split at a
  ·rcases List.mem_cons.1 a with rfl|a
   ·exact b
   exact h p (C6 _ a)
  rcases List.mem_cons.1 a with rfl|a
  ·exact h _ (C2 ..)
  exact Gr b z (λq d=>h q (C6 _ d)) p a
def bo.putMap(h:bo w0 M S0 N S φ F a w){kt et:Nat}(hT:P.underlying T=some (.map kt et))(hk:P.underlying kt=some (.int .i64)){t off:Nat}{z:Int}{v:Value}(hv:v.oneCell'=true){K:(Nat->AV)->Prop}(y:Ab.putMap F t off z v K){x:Value}(hx:∀k B,F t=.H k B->x=cr w k (tvs a t) off):∃F' w1,K F'/\(Instr.mapUpdate T x (.int .i64 z) v).run P w=.ok () w1/\St w0 M S0 N F' a w1:=by
 unfold Ab.putMap at y;split at y
 case h_2=>exact y.elim
 rename_i k B U;split at y
 case h_2=>exact y.elim
 rename_i es hc;have hK:=y.out;simp only[d3]at hK;have i:=(X2.1 hc).1;have hs:=h.slot t;rw[U]at hs;obtain⟨V,Y,e1,D,e3,e4,f,f1,A,f3⟩:=hs;obtain⟨b,W,ents,E,l,O,he,Z,hst⟩:=Qd (f1 off _ hc);obtain⟨ents',clock',G,H,he'⟩:=Rg (P:=P) hT hk O he hst z v;have hlt:b<w.heap.size:=(h.ex t b 0 (D _ _ (A off i _ _ (l 0)))).1;have Q:=λd=>tg (w:=w) (b:=b) (o:=.map ents' clock') hlt d
 let w1:World:={w with heap:=w.heap.setIfInBounds b (.map ents' clock')}
 have hother:∀d,d≠b->∀o,cel w1 d o=cel w d o/\fro w1 d o=fro w d o:=λd hne o=>by
  have g:w1.heap[d]? = w.heap[d]?:=(Q d).trans (CB hne);refine⟨?_,Prod.ext ?_ ?_⟩
  ·show World.cell? w1 _=World.cell? w _
   unfold World.cell?;simp only[g]
  ·show World.frozen? w1 _=World.frozen? w _
   unfold World.frozen?;simp only[g]
  show mp w1 d=mp w d;unfold mp;rw[g]
 have u:∀o,cel w1 b o=cel w b o:=λo=>by
  have h1:w1.heap[b]? = some (.map ents' clock'):=(Q b).trans (CD rfl);have h2:=qj O;show World.cell? w1 _=World.cell? w _;unfold World.cell?;simp[h1,h2]
 have hk1:bZ (φ t) w w1:=by
  refine⟨rfl,rfl,rfl,by simp[w1],λd g R=>(Q d).trans (CB λe=>?_),λd o g R=>?_,λd o g R=>?_⟩
  ·subst e;exact R 0 (D _ _ (A off i _ _ (l 0)))
  ·by_cases e:d=b
   ·subst e;exact u o
   exact(hother d e o).1
  by_cases e:d=b
  ·subst e;exact absurd (D _ _ (A off i _ _ (l o))) R
  exact(hother d e o).2
 have n:∀X:af,(∀d o,X d o->d≠b)->bq X w w1:=λX hX d o g=>hother d (hX d o g) o
 have J:bq V w w1:=n V λd o g e=>by subst e;exact e3 d o g (A off i _ _ (l o))
 have hS1:bq S w w1:=n S λd o g e=>by subst e;exact h.disS t _ _ (D _ _ (A off i _ _ (l o))) g
 have r:=lD e4 J;have hsl:(splice B off [.m (mput es z v)]).length=B.length:=cC (by simp;omega);refine⟨_,w1,hK,?_,S,_,h.upd (X:=φ t) hk1 U (λb o O=>.inl O) ⟨V,Y,e1,D,e3,?_,f,λj c p=>?_,λj p=>A j ω,λj j' p hj'=>f3 j j' ω ω⟩⟩
 ·rw[hx k B U,E];exact H
 ·rw[hsl]
  exact e4.keep J (λ_ _ h=>h)
 rw[gN (by simp;omega)]at p;by_cases q:off<=j/\j<off+[C.m (mput es z v)].length
 ·rw[CD q]at p
  simp only[List.length_cons,List.length_nil]at q;obtain rfl:j=off:=ω
  simp only[Nat.sub_self,List.getElem?_cons_zero,C1]at p;subst p;rw[r j i,E];exact .m _ b clock' _ ents' l (by show mp w1 b=_;unfold mp;rw[(Q b).trans (CD rfl)]) he' (Gr hv z Z) G
 rw[CB q]at p;have L:=(X2.1 p).1;rw[r j L];simp only[List.length_cons,List.length_nil]at q;exact(f1 j c p).keep hS1 (n (f j) λd o g e=>by subst e;exact f3 j off L i ω _ _ g (l o))
def bo.mapUpd(h:bo w0 M S0 N S φ F a w)(l:∀t i,TE t=some i->bQ P t i){x y v:Operand}{K:(Nat->AV)->Prop}(g:nD TE F T x y v K) :
  ∃F' w1,K F'/\(Instr.mapUpdate T (a.eval x) (a.eval y) (a.eval v)).run P w=.ok () w1/\St w0 M S0 N F' a w1:=by
 unfold nD at g;split at g
 case h_2=>exact g.elim
 rename_i q;obtain⟨o,p,-,-⟩:=(l _ _ q).2.2;obtain⟨u,-⟩:=h.scalar g;obtain⟨b,c⟩:=h.scalar u;cases d:a.eval y with
 | int k z=>
  rw[d]at b;cases k with
  | i64=>
   simp only at b;cases x with
   | tmp s=>
    simp only at b;have f:=h.slot s;split at b
    ·rename_i t A n
     rw[n]at f;obtain⟨k,B,r,j,C,H,J,D⟩:=f;refine h.putMap o p c b λE G e=>?_
     rw[C]at e;cases e;exact D
    ·rename_i B n
     refine h.putMap o p c b λE G e=>?_
     rw[n]at e;cases e
     rfl
    exact b.elim
   | _=>exact b.elim
  | _=>exact b.elim
 | _=>rw[d]at b;exact b.elim
def bo.makeMap(h:bo w0 M S0 N S φ F a w)(_hTE:∀t i,TE t=some i->bQ P t i){r:Option Operand}{K:AV->Prop}(c:sO TE T r K) :
  ∃av v w1,K av/\(Instr.makeMap T (r.map a.eval)).run P w=.ok v w1/\mi w S F a av v w1:=by
 unfold sO at c;split at c
 case h_2=>exact c.elim
 refine⟨_,_,_,c,run_makeMap T w,dl w _,λb _=>b=w.heap.size,S,λb o e=>⟨by rw[gc];omega,ω⟩,λ_ _ h=>h,λ_ _ h=>.inl h,λb o e d=>?_,?_⟩
 ·have:=(h.sup b o d).1;omega
 refine gz (.m _ w.heap.size 0 [] #[] (λ_=>rfl) ?_ rfl (λp c=>by simp at c) ⟨by simp,λy f=>by simp at f⟩);unfold mp;rw[heap_alloc_new]
end
end Go.Proofs.YtecefhjnejfheaaGreat.Ab
