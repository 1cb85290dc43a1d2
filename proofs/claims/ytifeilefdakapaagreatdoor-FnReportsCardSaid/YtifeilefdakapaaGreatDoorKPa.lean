/- Abstract cells: data as trees, what it means that a value of the model's memory holds such a tree, and how that lasts. No condition. -/
import Derived.RowKit3
import Derived.WalkKit
import Derived.Handy
import Derived.Laws.Cells
import Derived.Laws.IdiomCopy
import Derived.Maps.RangeRun
import Derived.Test.YtifeilefdakapaaGreatDoorProg
import Derived.Lib.LaidTab
import Derived.Lib.ItoaNum
import Derived.Below
import Derived.Laws.MakeOwn
import Derived.Laws.Append
import Derived.Laws.AppendOwn
import Derived.Laws.Tables
import Derived.Great.BuildSlice
import Derived.Laws.Slices
import Derived.Laws.Small
import Derived.MapKept
import Derived.Carry
set_option linter.unusedVariables false
set_option linter.defProp false
set_option linter.unusedSimpArgs false
set_option linter.constructorNameAsVariable false
namespace Go.Proofs.YtifeilefdakapaaGreatDoor.Ab
def ω{P:Prop}(h:P:=by omega):P:=h
theorem ψ{P:Prop}(h:P:=by grind):P:=h
def CI:type_of% @And.intro:=@And.intro
def C9:type_of% @if_neg:=@if_neg
def CB:type_of% @if_pos:=@if_pos
def C0:type_of% @decide_eq_true_eq:=@decide_eq_true_eq
def I0:type_of% @Bool.and_eq_true:=@Bool.and_eq_true
def O0:type_of% @decide_eq_true:=@decide_eq_true
theorem R0:type_of% @decide_eq_false:=@decide_eq_false
def T0:type_of% @Nat.zero_le:=@Nat.zero_le
def U0:type_of% @congrArg:=@congrArg
def W0:type_of% @Option.some.injEq:=@Option.some.injEq
theorem X0:type_of% @List.length_map:=@List.length_map
def Z0:type_of% @Nat.le_of_ble_eq_true:=@Nat.le_of_ble_eq_true
def C1:type_of% @List.mem_singleton:=@List.mem_singleton
def I1:type_of% @List.length_set:=@List.length_set
theorem O1:type_of% @List.length_take:=@List.length_take
theorem R1:type_of% @List.mem_cons_self:=@List.mem_cons_self
def U1:type_of% @List.mem_of_getElem?:=@List.mem_of_getElem?
theorem V1:type_of% @Nat.eq_of_beq_eq_true:=@Nat.eq_of_beq_eq_true
def W1:type_of% @List.getElem?_eq_getElem:=@List.getElem?_eq_getElem
def Z1:type_of% @List.getElem?_eq_some_iff:=@List.getElem?_eq_some_iff
def C2:type_of% @List.getElem?_eq_none:=@List.getElem?_eq_none
def I2:type_of% @Int.toNat_natCast:=@Int.toNat_natCast
def O2:type_of% @Int.eq_ofNat_of_zero_le:=@Int.eq_ofNat_of_zero_le
def R2:type_of% @List.mem_append:=@List.mem_append
def U2:type_of% @Nat.le_refl:=@Nat.le_refl
def W2:type_of% @List.getElem?_map:=@List.getElem?_map
def X2:type_of% @List.length_append:=@List.length_append
def Z2:type_of% @List.length_drop:=@List.length_drop
def C3:type_of% @Array.getElem?_eq_some_iff:=@Array.getElem?_eq_some_iff
def I3:type_of% @List.getElem?_set_self:=@List.getElem?_set_self
theorem O3:type_of% @Nat.lt_of_lt_of_le:=@Nat.lt_of_lt_of_le
def R3:type_of% @List.any_eq_true:=@List.any_eq_true
def T3:type_of% @List.all_eq_true:=@List.all_eq_true
def U3:type_of% @not_not_intro:=@not_not_intro
def V3:type_of% @List.map_take:=@List.map_take
def W3:type_of% @List.map_drop:=@List.map_drop
def X3:type_of% @List.mem_map:=@List.mem_map
def Y3:type_of% @List.mem_filter:=@List.mem_filter
def Z3:type_of% @List.getElem?_append_left:=@List.getElem?_append_left
theorem C4:type_of% @List.getElem?_append_right:=@List.getElem?_append_right
def I4:type_of% @decide_eq_false_iff_not:=@decide_eq_false_iff_not
def O4:type_of% @Bool.eq_iff_iff:=@Bool.eq_iff_iff
def R4:type_of% @Nat.le_trans:=@Nat.le_trans
def T4:type_of% @Int.le_refl:=@Int.le_refl
def U4:type_of% @List.take_length:=@List.take_length
def V4:type_of% @Option.map_some:=@Option.map_some
def W4:type_of% @List.mem_cons_of_mem:=@List.mem_cons_of_mem
def X4:type_of% @Bool.not_eq_true:=@Bool.not_eq_true
theorem Y4:type_of% @List.take_add_one:=@List.take_add_one
def Z4:type_of% @List.append_assoc:=@List.append_assoc
def C5:type_of% @List.map_append:=@List.map_append
theorem I5:type_of% @Function.comp_def:=@Function.comp_def
def O5:type_of% @List.map_cons:=@List.map_cons
def R5:type_of% @List.count_append:=@List.count_append
theorem T5:type_of% @List.map_set:=@List.map_set
def U5:type_of% @Bool.or_eq_true:=@Bool.or_eq_true
def V5:type_of% @Array.getElem?_eq_getElem:=@Array.getElem?_eq_getElem
def W5:type_of% @List.mem_or_eq_of_mem_set:=@List.mem_or_eq_of_mem_set
def X5:type_of% @Array.getD_eq_getD_getElem?:=@Array.getD_eq_getD_getElem?
def Y5:type_of% @List.flatMap_cons:=@List.flatMap_cons
def Z5:type_of% @List.getElem?_range:=@List.getElem?_range
def C6:type_of% @Nat.zero_add:=@Nat.zero_add
theorem I6:type_of% @List.findIdx?_eq_some_iff_getElem:=@List.findIdx?_eq_some_iff_getElem
theorem O6:type_of% @List.take_of_length_le:=@List.take_of_length_le
theorem R6:type_of% @Nat.mul_le_mul_right:=@Nat.mul_le_mul_right
def T6:type_of% @List.eq_nil_of_length_eq_zero:=@List.eq_nil_of_length_eq_zero
open Go.RowKit
inductive du where
 |U
 |own
 |tag (v:Value)
 |suf
 |tagS (v:Value)
def du.mine:du->Bool
 | .U=>false
 | .own=>true
 | .tag _=>true
 | .suf=>true
 | .tagS _=>true
def du.ok:du->Value->Prop
 | .U,_=>False
 | .own,_=>True
 | .tag v',v=>v'=v
 | .suf,_=>False
 | .tagS _,_=>False
def du.okS:du->Value->Prop
 | .suf,_=>True
 | .tagS v',v=>v'=v
 | _,_=>False
def du.okN:du->Value->Prop
 | .tag v',v=>v'=v
 | .tagS v',v=>v'=v
 | _,_=>True
inductive C where
 |v (x:Value)
 |s (o:du) (rows:List (List C))
 |x
 |z
 |m (es:List (Int × Value))
 |it (cur:Option Int) (left:List Int)
instance:Inhabited C:=⟨.x⟩
abbrev ab:=Nat->Nat->Prop
def NO:ab:=λ_ _=>False
abbrev cel(w:World)(b o:Nat):Option Value:=w.cell? ⟨b,o,none⟩
def mp(w:World)(b:Nat):Option Obj:=
 match w.heap[b]? with
 | some (.map es clock)=>some (.map es clock)
 | some (.mapIter m since seen clock)=>some (.mapIter m since seen clock)
 | some (.cells c _ fr)=>if fr.1<=c.size/\c.size<fr.2 then some (.cells #[] 0 (0,0)) else none
 | _=>none
theorem E9(w:World)(a:Addr)(v:Value)(b:Nat):mp (w.setCell a v) b=mp w b:=by grind [mp,Go.World.setCell]
def kH(b:Nat):∀(g o:Nat)(a:List Value)(w:World),mp (w.setCells g o a) b=mp w b
 | _,_,[],_=>rfl
 | g,o,v::a,w=>by rw[World.setCells,kH b g (o+1) a,E9]
abbrev fro(w:World)(b o:Nat):Bool × Option Obj:=(w.frozen? ⟨b,o,none⟩,mp w b)
abbrev NF:Bool × Option Obj:=(false,none)
def bh(X:ab)(w a:World):Prop:=∀b o,X b o->cel a b o=cel w b o/\fro a b o=fro w b o
inductive df(w:World)(S:ab):ab->C->Value->Prop
 |v (F:ab) (x:Value) (h1:x.oneCell'=true):df w S F (.v x) x
 |x (F:ab) (u:Value) (h1:u.oneCell'=true):df w S F .x u
 |z (F:ab) (a:Option Addr):df w S F .z (.slice a 0 0)
 |nil (F:ab) (o:du) (a:Option Addr) (ho:o.okN (.slice a 0 0)):df w S F (.s o []) (.slice a 0 0)
 |U (F:ab) (g off k n cap:Nat) (rows:List (List C)) (u:Nat->Value) (hn:rows.length=n) (hk:∀r∈rows,r.length=k) (hcap:n<=cap)
   (hS:∀q,q<n*k->S g (off+q)/\cel w g (off+q)=some (u q))
   (hc:∀i j r c,rows[i]? = some r->r[j]? = some c->df w S NO c (u (i*k+j))) :
   df w S F (.s .U rows) (.slice (some ⟨g,off,none⟩) n cap)
 |own (F:ab) (o:du) (g k n cap:Nat) (rows:List (List C)) (u:Nat->Value) (f:Nat->ab) (ho:o.ok (.slice (some ⟨g,0,none⟩) n cap)) (hn:rows.length=n) (hk:∀r∈rows,r.length=k) (hcap:n<=cap) (hpos:0<n)
   (hF:∀q,q<cap*k->F g q/\(∃z,cel w g q=some z/\z.oneCell'=true)/\fro w g q=NF)
   (hu:∀q,q<n*k->cel w g q=some (u q))
   (hf:∀q,q<n*k->∀b o,f q b o->F b o/\¬(b=g/\o<cap*k))
   (hd:∀q q',q<n*k->q'<n*k->q≠q'->∀b o,f q b o->¬f q' b o)
   (hc:∀i j r c,rows[i]? = some r->r[j]? = some c->df w S (f (i*k+j)) c (u (i*k+j))) :
   df w S F (.s o rows) (.slice (some ⟨g,0,none⟩) n cap)
 |suf (F:ab) (o:du) (g off k n cap:Nat) (rows:List (List C)) (u:Nat->Value) (f:Nat->ab) (ho:o.okS (.slice (some ⟨g,off,none⟩) n cap)) (hn:rows.length=n) (hk:∀r∈rows,r.length=k) (hcap:n<=cap)
   (hF:∀q,q<n*k->F g (off+q)/\fro w g (off+q)=NF)
   (hu:∀q,q<n*k->cel w g (off+q)=some (u q)/\(u q).oneCell'=true)
   (hf:∀q,q<n*k->∀b o,f q b o->F b o/\¬(b=g/\off<=o/\o<off+n*k))
   (hd:∀q q',q<n*k->q'<n*k->q≠q'->∀b o,f q b o->¬f q' b o)
   (hc:∀i j r c,rows[i]? = some r->r[j]? = some c->df w S (f (i*k+j)) c (u (i*k+j))) :
   df w S F (.s o rows) (.slice (some ⟨g,off,none⟩) n cap)
 |m (F:ab) (b clock:Nat) (es:List (Int × Value)) (ents:Array MapEntry) (hF:∀o,F b o) (hb:mp w b=some (.map ents clock)) (he:ents.toList.map (λe=>(e.key,e.val))=es.map (λp=>(.int .i64 p.1,p.2))) (hv:∀p∈es,p.2.oneCell'=true) (hst:(ents.toList.map (·.born)).Nodup/\∀x∈ents.toList,x.born<clock) :
   df w S F (.m es) (.map (some b))
 |it (F:ab) (r b since c0 clock:Nat) (seen:Array Nat) (ents:Array MapEntry) (cur:Option Int) (left:List Int) (hF:∀o,F r o/\F b o) (hr:mp w r=some (.mapIter (some b) since seen c0)) (hb:mp w b=some (.map ents clock))
   (hst:(ents.toList.map (·.born)).Nodup/\∀x∈ents.toList,x.born<since) (hc:since<=c0/\since<=clock) (hv:∀x∈ents.toList,x.val.oneCell'=true) (hl:(leftOf ents seen).toList.map (·.key)=left.map (Value.int .i64)) (hcur:∀k,cur=some k->c0=clock/\∃e∈ents.toList,∃s':Array Nat,seen=s'.push e.born/\e.key=.int .i64 k) :
   df w S F (.it cur left) (.pointer (some ⟨r,0,none⟩))
theorem d4{i j k n:Nat}(a:i<n)(b:j<k):i*k+j<n*k:=by
 have:(i+1)*k<=n*k:=R6 k a
 grind
theorem sX{rows:List (List C)}{n k i j:Nat}{r:List C}{c:C}(a:rows.length=n)(b:∀r∈rows,r.length=k)(d:rows[i]? = some r)(e:r[j]? = some c):i<n/\j<k:=ψ
def df.one{w:World}{S F:ab}{c:C}{v:Value}(h:df w S F c v):v.oneCell'=true:=by
 cases h<;>first|assumption|rfl
theorem df.keep{w X:World}{S F:ab}{c:C}{v:Value}(h:df w S F c v):bh S w X->bh F w X->df X S F c v:=by
 induction h with
 | v F x Q=>exact λ_ _=>.v F x Q
 | x F u Q=>exact λ_ _=>.x F u Q
 | z F a=>exact λ_ _=>.z F a
 | nil F o a R=>exact λ_ _=>.nil F o a R
 | U F g A k n B e u G H d Y W T=>
  intro P _;exact .U F g A k n B e u G H d (λq t=>⟨(Y q t).1,(P _ _ (Y q t).1).1.trans (Y q t).2⟩)
   (λi j r c J K=>T i j r c J K P (λ_ _ h=>h.elim))
 | own F o g k n B e u f R G H d U y Z E hd W T=>
  intro P l;refine .own F o g k n B e u f R G H d U (λq t=>?_) (λq t=>?_) E hd (λi j r c J K=>T i j r c J K P λb o L=>?_)
  ·obtain⟨Q,h2,h3⟩:=y q t
   have h4:=l g q Q
   grind
  ·rw[(l g q (y q (O3 t (R6 k d))).1).1];exact Z q t
  obtain⟨M,N⟩:=sX G H J K;exact l b o (E _ (d4 M N) b o L).1
 | suf F o g A k n B e u f R G H d y Z E hd W T=>
  intro P l;refine .suf F o g A k n B e u f R G H d (λq t=>?_) (λq t=>?_) E hd (λi j r c J K=>T i j r c J K P λb o L=>?_)
  ·have h4:=l g (A+q) (y q t).1
   grind
  ·rw[(l g (A+q) (y q t).1).1];exact Z q t
  obtain⟨M,N⟩:=sX G H J K;exact l b o (E _ (d4 M N) b o L).1
 | m F b p es D y L he hv O=>exact λ_ E=>.m F b p es D y ((U0 Prod.snd (E b 0 (y 0)).2).trans L) he hv O
 | it F r b since c0 p seen D cur left y hr L O W hv hl V=>exact λ_ E=>.it F r b since c0 p seen D cur left y ((U0 Prod.snd (E r 0 (y 0).1).2).trans hr) ((U0 Prod.snd (E b 0 (y 0).2).2).trans L) O W hv hl V
theorem df.mono{w:World}{S S' F F':ab}{c:C}{v:Value}(h:df w S F c v):(∀b o,S b o->S' b o)->(∀b o,F b o->F' b o)->df w S' F' c v:=by
 induction h generalizing F' with
 | v F x H=>exact λ_ _=>.v _ x H
 | x F u H=>exact λ_ _=>.x _ u H
 | z F a=>exact λ_ _=>.z _ a
 | nil F o a y=>exact λ_ _=>.nil _ o a y
 | U F g p k n j d u A B e X G O=>
  intro P _;exact .U _ g p k n j d u A B e ψ ψ
 | own F o g k n j d u f y A B e D J K Q L G O=>
  intro P q;exact .own _ o g k n j d u f y A B e D ψ K ψ L
   ψ
 | suf F o g p k n j d u f y A B e J K Q L G O=>
  intro P q;exact .suf _ o g p k n j d u f y A B e ψ K ψ L ψ
 | m F b i R l J M T N t=>exact λ_ q=>.m _ b i R l ψ M T N t
 | it F r b since U i seen l cur left J V M t G N W E=>exact λ_ q=>.it _ r b since U i seen l cur left ψ V M t G N W E
mutual
def fz:C->C
 | .v x=>.v x
 | .s _ a=>.s .U (fzR a)
 | .x=>.x
 | .z=>.z
 | .m _=>.x
 | .it _ _=>.x
def fzR:List (List C)->List (List C)
 | []=>[]
 | r::rs=>d8 r::fzR rs
def d8:List C->List C
 | []=>[]
 | c::cs=>fz c::d8 cs
end
theorem ch(cs:List C):d8 cs=cs.map fz:=by
 induction cs with
 | nil=>rfl
 | cons c cs a=>simp[d8,a]
theorem Mj(a:List (List C)):fzR a=a.map (·.map fz):=by
 induction a with
 | nil=>rfl
 | cons c b d=>grind [ch,fzR]
@[simp] def QT(x:Value):fz (.v x)=.v x:=by simp[fz]
@[simp] def QS:fz .x=.x:=by simp[fz]
@[simp] def Re:fz .z=.z:=by simp[fz]
@[simp] def Ra(es:List (Int × Value)):fz (.m es)=.x:=by simp[fz]
@[simp] def QP(cur:Option Int)(left:List Int):fz (.it cur left)=.x:=by simp[fz]
@[simp] def PE(o:du)(rows:List (List C)):fz (.s o rows)=.s .U (rows.map (·.map fz)):=by simp[fz,Mj]
theorem df.freeze{w:World}{S F:ab}{c:C}{v:Value}(h:df w S F c v):df w (λb o=>S b o\/F b o) NO (fz c) v:=by
 induction h with
 | v F x M=>simpa using .v _ x M
 | x F u M=>simpa using .x _ u M
 | z F a=>simpa using .z _ a
 | nil F o a P=>simpa using .nil _ _ a trivial
 | U F g D k n A l u E L p Z Q J=>
  rw[PE];refine .U _ g D k n A _ u (by simpa using E) (λr R=>?_) p ψ (λi j r c t y=>?_)
  ·grind
  rw[W2]at t;cases d:l[i]? with
  | none=>grind
  | some B=>
   rw[d]at t;simp only[V4,W0]at t;subst t;rw[W2]at y;cases e:B[j]? with
   | none=>grind
   | some K=>
    rw[e]at y;simp only[V4,W0]at y;subst y;exact(J i j B K d e).mono (λ_ _ h=>h.elim .inl (λh=>h.elim)) (λ_ _ h=>h)
 | own F o g k n A l u f P E L p T U W N X Q J=>
  rw[PE];refine .U _ g 0 k n A _ u (by simpa using E) (λr R=>?_) p (λq Y=>?_) (λi j r c t y=>?_)
  ·grind
  ·grind [O3,R6]
  rw[W2]at t;cases d:l[i]? with
  | none=>grind
  | some B=>
   rw[d]at t;simp only[V4,W0]at t;subst t;rw[W2]at y;cases e:B[j]? with
   | none=>grind
   | some K=>
    rw[e]at y;simp only[V4,W0]at y;subst y;obtain⟨G,H⟩:=sX E L d e;exact(J i j B K d e).mono (λb o h=>h.elim .inl (λh=>.inr (N _ (d4 G H) b o h).1)) (λ_ _ h=>h)
 | suf F o g D k n A l u f P E L p U W N X Q J=>
  rw[PE];refine .U _ g D k n A _ u (by simpa using E) (λr R=>?_) p (λq Y=>?_) (λi j r c t y=>?_)
  ·grind
  ·grind
  rw[W2]at t;cases d:l[i]? with
  | none=>grind
  | some B=>
   rw[d]at t;simp only[V4,W0]at t;subst t;rw[W2]at y;cases e:B[j]? with
   | none=>grind
   | some K=>
    rw[e]at y;simp only[V4,W0]at y;subst y;obtain⟨G,H⟩:=sX E L d e;exact(J i j B K d e).mono (λb o h=>h.elim .inl (λh=>.inr (N _ (d4 G H) b o h).1)) (λ_ _ h=>h)
 | m F b O es V U hb he hv=>simpa using .x _ _ rfl
 | it=>simpa using .x _ _ rfl
def cx(w:World)(S F:ab)(cs:List C)(u:Nat->Value):Prop:=
 ∃f:Nat->ab,(∀j c,cs[j]? = some c->df w S (f j) c (u j))/\(∀j,j<cs.length->∀b o,f j b o->F b o)/\
  (∀j a,j<cs.length->a<cs.length->j≠a->∀b o,f j b o->¬f a b o)
theorem cx.keep{w a:World}{S F:ab}{cs:List C}{u:Nat->Value}(h:cx w S F cs u)(d:bh S w a)(e:bh F w a):cx a S F cs u:=by
 obtain⟨f,g,i,k⟩:=h;exact⟨f,λj c l=>(g j c l).keep d (λb o n=>e b o ψ),i,k⟩
theorem cx.mono{w:World}{S S' F F':ab}{cs:List C}{u:Nat->Value}(h:cx w S F cs u)(a:∀b o,S b o->S' b o)(i:∀b o,F b o->F' b o):cx w S' F' cs u:=by
 obtain⟨f,d,k,e⟩:=h;exact⟨f,λj c g=>(d j c g).mono a (λ_ _ h=>h),ψ,e⟩
theorem cx.congr{w:World}{S F:ab}{cs:List C}{u a:Nat->Value}(h:cx w S F cs u)(d:∀j,j<cs.length->a j=u j):cx w S F cs a:=by
 obtain⟨f,e,b,c⟩:=h;exact⟨f,ψ,b,c⟩
theorem cx.nil(w:World)(S F:ab)(u:Nat->Value):cx w S F [] u:=⟨λ_=>NO,ψ,ψ,ψ⟩
theorem cx.freeze{w:World}{S F:ab}{cs:List C}{u:Nat->Value}(h:cx w S F cs u):cx w (λb o=>S b o\/F b o) NO (d8 cs) u:=by
 obtain⟨f,e,i,k⟩:=h;rw[ch];refine⟨λ_=>NO,λj c d=>?_,λj _ b o h=>h,λj l _ _ _ b o h=>h.elim⟩;rw[W2]at d;cases a:cs[j]? with
 | none=>grind
 | some g=>
  rw[a]at d;simp only[V4,W0]at d;subst d;exact(e j g a).freeze.mono ψ (λ_ _ h=>h)
theorem cx.one{w:World}{S F:ab}{cs:List C}{u:Nat->Value}(h:cx w S F cs u){j:Nat}(b:j<cs.length):(u j).oneCell'=true:=by
 obtain⟨f,a,-,-⟩:=h;exact(a j cs[j] ψ).one
theorem cx.part{w:World}{S F:ab}{cs:List C}{u:Nat->Value}(h:cx w S F cs u)(a n:Nat):cx w S F ((cs.drop a).take n) (λj=>u (a+j)):=by
 obtain⟨f,b,d,e⟩:=h;have g:∀j,j<((cs.drop a).take n).length->a+j<cs.length:=ψ
 refine⟨λj=>f (a+j),λj c i=>?_,ψ,ψ⟩
 grind
abbrev cq:=List (Nat × Nat × Nat)
def bY:List C->Nat->cq->Option (List C × Nat)
 | b,a,[]=>some (b,a)
 | b,a,(i,k,j)::st=>
  match b[a]? with
  | some (.s _ rows)=>match rows[i]? with
   | some r=>if r.length=k then bY r j st else none
   | none=>none
  | _=>none
def jG:List C->Nat->cq->Prop
 | _,_,[]=>True
 | b,a,(i,_,j)::st=>
  match b[a]? with
  | some (.s o rows)=>o≠.U/\(match rows[i]? with|some r=>jG r j st|none=>False)
  | _=>False
def eE:List C->Nat->cq->List C->List C
 | _,_,[],c=>c
 | b,a,(i,_,j)::d,c=>
  match b[a]? with
  | some (.s o rows)=>match rows[i]? with
   | some r=>b.set a (.s o (rows.set i (eE r j d c)))
   | none=>b
  | _=>b
def plc(w:World):(Nat->Value)->Option (Nat × Nat)->Nat->cq->Option (Nat × Nat)
 | _,top,a,[]=>top.map λp=>(p.1,p.2+a)
 | u,_,a,(i,k,j)::st=>
  match u a with
  | .slice (some ⟨g,o,none⟩) _ _=>plc w (λd=>(cel w g (o+i*k+d)).getD undef) (some (g,o+i*k)) j st
  | _=>none
def cellv(w:World):(Nat->Value)->Nat->cq->Nat->Value
 | u,a,[],d=>u (a+d)
 | u,a,(i,k,j)::st,d=>
  match u a with
  | .slice (some ⟨g,o,none⟩) _ _=>cellv w (λd=>(cel w g (o+i*k+d)).getD undef) j st d
  | _=>undef
theorem df.row{w:World}{S F:ab}{o:du}{rows:List (List C)}{v:Value}(h:df w S F (.s o rows) v){i:Nat}{r:List C}(L:rows[i]? = some r) :
  ∃g b n cap,v=.slice (some ⟨g,b,none⟩) n cap/\i<n/\rows.length=n/\(∀M∈rows,M.length=r.length)/\
   (∀d,d<r.length->(∃z,cel w g (b+i*r.length+d)=some z)/\(S g (b+i*r.length+d)\/F g (b+i*r.length+d)))/\∃F',(∀b o,F' b o->F b o)/\
   cx w S F' r (λd=>(cel w g (b+i*r.length+d)).getD undef):=by
 cases h with
 | nil=>simp at L
 | U _ g p k n cap _ u y G q O H=>
  have A:r.length=k:=ψ
  have a:i<n:=ψ
  have e:∀d,d<r.length->cel w g (p+i*r.length+d)=some (u (i*k+d)):=λd l=>by grind [d4]
  refine⟨g,p,n,cap,rfl,a,y,ψ,λd l=>⟨⟨_,e d l⟩,.inl (by grind [d4])⟩,NO,λ_ _ h=>h.elim,λ_=>NO,λj c t=>?_,λ_ _ _ _ h=>h,λ_ _ _ _ _ _ _ h=>h.elim⟩
  grind
 | own _ _ g k n cap _ u f _ y G q _ J K B l H=>
  have A:r.length=k:=ψ
  have a:i<n:=ψ
  have e:∀d,d<r.length->cel w g (0+i*r.length+d)=some (u (i*k+d)):=λd l=>by grind [d4]
  refine⟨g,0,n,cap,rfl,a,y,ψ,λd l=>⟨⟨_,e d l⟩,.inr (by grind [d4])⟩,F,λ_ _ h=>h,λj=>f (i*k+j),λj c t=>?_,λj t b o h=>(B _ (d4 a ω) b o h).1,
    λj N t D E=>l _ _ (d4 a ω) (d4 a ω) ω⟩
  grind
 | suf _ _ g p k n cap _ u f _ y G q J K B l H=>
  have A:r.length=k:=ψ
  have a:i<n:=ψ
  have e:∀d,d<r.length->cel w g (p+i*r.length+d)=some (u (i*k+d)):=λd l=>by
   have:=(K (i*k+d) (d4 a ω)).1;rw[A,Nat.add_assoc];exact this
  refine⟨g,p,n,cap,rfl,a,y,ψ,λd l=>⟨⟨_,e d l⟩,.inr (by
    have:=(J (i*k+d) (d4 a ω)).1;rw[A,Nat.add_assoc];exact this)⟩,F,λ_ _ h=>h,λj=>f (i*k+j),λj c t=>?_,λj t b o h=>(B _ (d4 a ω) b o h).1,
    λj N t D E=>l _ _ (d4 a ω) (d4 a ω) ω⟩
  grind
theorem cx.at_{w:World}{S:ab} : ∀(st:cq){F:ab}{cs:List C}{u:Nat->Value}{off:Nat}{r:List C}{j:Nat}(top:Option (Nat × Nat)),cx w S F cs u->bY cs off st=some (r,j)->
  ∃F' p,(∀b o,F' b o->F b o)/\cx w S F' r p/\(∀d,cellv w u off st d=p (j+d))/\(st=[]->p=u)/\
   (st≠[]->∃g b,plc w u top off st=some (g,b+j)/\∀d,d<r.length->cel w g (b+d)=some (p d))
 | [],F,cs,u,off,r,j,top,h,a=>by
  simp only[bY,W0,Prod.mk.injEq]at a;obtain⟨rfl,rfl⟩:=a;exact⟨F,u,λ_ _ h=>h,h,λ_=>rfl,λ_=>rfl,ψ⟩
 | (i,k,Q)::st,F,cs,u,off,r,j,top,h,a=>by
  simp only[bY]at a;cases q:cs[off]? with
  | none=>grind
  | some c=>
   rw[q]at a;cases c with
   | v x=>cases a
   | x=>cases a
   | z=>cases a
   | m R=>cases a
   | it=>cases a
   | s o e=>
    simp only at a;cases t:e[i]? with
    | none=>grind
    | some y=>
     rw[t]at a;simp only at a;split at a
     ·rename_i D
      subst D;obtain⟨f,E,T,U⟩:=h;have A:=(Z1.1 q).1;obtain⟨g,b,n,G,H,J,V,-,B,F',K,l⟩:=(E off _ q).row t;obtain⟨L,M,W,N,X,Y,O⟩:=cx.at_ st (some (g,b+i*y.length)) l a;refine⟨L,M,ψ,N,λd=>?_,ψ,λ_=>?_⟩
      ·grind [cellv]
      simp only[plc,H];cases st with
      | nil=>
       simp only[bY,W0,Prod.mk.injEq]at a;obtain⟨rfl,rfl⟩:=a;refine⟨g,b+i*y.length,rfl,λd Z=>?_⟩
       grind
      | cons s P=>exact O (by simp)
     cases a
theorem cx.last{w p:World}{S:ab}(J:bh S w p):∀(st:cq){F:ab}{cs:List C}{u l:Nat->Value}{off:Nat}{r:List C}{j:Nat}(top:Option (Nat × Nat)),cx w S F cs u->bY cs off st=some (r,j)->bh F w p->(∀x,x<cs.length->l x=u x)->
  plc p l top off st=plc w u top off st/\∀d,j+d<r.length->cellv p l off st d=cellv w u off st d
 | [],F,cs,u,l,off,r,j,top,h,a,B,D=>by
  simp only[bY,W0,Prod.mk.injEq]at a;obtain⟨rfl,rfl⟩:=a;exact⟨rfl,λd N=>D _ N⟩
 | (i,k,V)::st,F,cs,u,l,off,r,j,top,h,a,B,D=>by
  simp only[bY]at a;cases E:cs[off]? with
  | none=>grind
  | some c=>
   rw[E]at a;cases c with
   | v x=>cases a
   | x=>cases a
   | z=>cases a
   | m W=>cases a
   | it=>cases a
   | s o q=>
    simp only at a;cases K:q[i]? with
    | none=>grind
    | some L=>
     rw[K]at a;simp only at a;split at a
     case isFalse=>cases a
     rename_i O;subst O;obtain⟨f,P,Q,X⟩:=h;have e:=(Z1.1 E).1;obtain⟨g,b,n,G,M,R,Y,-,t,Z,T,y⟩:=(P off _ E).row K;have H:l off=.slice (some ⟨g,b,none⟩) n G:=(D off e).trans M;simp only[plc,cellv,M,H];refine cx.last J st _ y a (λb o hb=>B b o ψ) (λx U=>?_);obtain⟨-,A⟩:=t x U;have:cel p g (b+i*L.length+x)=cel w g (b+i*L.length+x):=A.elim (λh=>(J _ _ h).1) (λh=>(B _ _ (Q off e _ _ h)).1);rw[this]
theorem df.own_set{w t:World}{S F G F1:ab}{o:du}{g k n cap:Nat}{rows:List (List C)}{u:Nat->Value}{f:Nat->ab}(ho:o.ok (.slice (some ⟨g,0,none⟩) n cap))(X:rows.length=n)(hk:∀r∈rows,r.length=k)(l:n<=cap)(hF:∀q,q<cap*k->F g q/\(∃z,cel w g q=some z/\z.oneCell'=true)/\fro w g q=NF)(hu:∀q,q<n*k->cel w g q=some (u q))(hf:∀q,q<n*k->∀b o,f q b o->F b o/\¬(b=g/\o<cap*k))(hd:∀q a,q<n*k->a<n*k->q≠a->∀b o,f q b o->¬f a b o)(hc:∀i j r c,rows[i]? = some r->r[j]? = some c->df w S (f (i*k+j)) c (u (i*k+j)))(i:Nat)(hi:i<n)(D:List C)(hr':D.length=k)(P:Nat->Value)(E:∀b o,F1 b o->∃j,j<k/\f (i*k+j) b o)(hS:bh S w t)(y:∀b o,F b o->¬F1 b o->¬(b=g/\i*k<=o/\o<i*k+k)->cel t b o=cel w b o/\fro t b o=fro w b o)(A:∀d,d<k->cel t g (i*k+d)=some (P d)/\fro t g (i*k+d)=NF)(H:cx t S G D P)(hG:∀b o,G b o->F1 b o\/¬F b o) :
  df t S (λb o=>(F b o/\¬F1 b o)\/G b o) (.s o (rows.set i D)) (.slice (some ⟨g,0,none⟩) n cap):=by
 obtain⟨Y,e1,e2,e3⟩:=H;have hik:i*k+k<=n*k:=by
  have:(i+1)*k<=n*k:=R6 k hi
  grind
 have hnk:n*k<=cap*k:=R6 k l;have Q:∀o,o<cap*k->¬F1 g o:=ψ
 have R:∀q,(i*k<=q/\q<i*k+k)->q - i*k<k:=λq h=>ω
 refine .own _ o g k n cap _ (λq=>if i*k<=q/\q<i*k+k then P (q - i*k) else u q) (λq=>if i*k<=q/\q<i*k+k then Y (q - i*k) else f q)
  ho (by simpa using X) (λr hr=>?_) l ω (λq p=>?_) (λq p=>?_) (λq p b o N=>?_) (λq a p J hne b o N K=>?_) (λB T r c e L=>?_)
 ·grind
 ·obtain⟨O,h2,h3⟩:=hF q p
  by_cases U:i*k<=q/\q<i*k+k
  ·obtain⟨Z,c2⟩:=A (q - i*k) (R q U)
   have he:i*k+(q - i*k)=q:=ω
   rw[he]at Z c2;have hlt:q - i*k<D.length:=ω
   exact⟨.inl ⟨O,Q q p⟩,⟨_,Z,(e1 (q - i*k) D[q - i*k] ψ).one⟩,c2⟩
  grind
 ·grind
 ·grind
 ·have hx:∀q a,q<n*k->(i*k<=q/\q<i*k+k)->a<n*k->¬(i*k<=a/\a<i*k+k)->∀b o,Y (q - i*k) b o->¬f a b o:=by
   intro q a p h J h' b o N K;rcases hG b o ψ with O|O
   ·obtain⟨j,hj,M⟩:=E b o O
    exact hd (i*k+j) a ω J ω b o M K
   grind
  grind
 rw[List.getElem?_set]at e;by_cases V:i=B
 ·grind
 rw[C9 V]at e;obtain⟨a1,a2⟩:=sX X hk e L;have p:¬(i*k<=B*k+T/\B*k+T<i*k+k):=by
  rcases Nat.lt_or_ge i B with h|h
  ·have:(i+1)*k<=B*k:=R6 k h
   grind
  have:(B+1)*k<=i*k:=R6 k ω
  grind
 simp only[C9 p];have W:=d4 a1 a2;refine(hc B T r c e L).keep hS (λb o N=>y b o (hf _ W b o N).1 (λh=>?_) ψ) |>.mono (λ_ _ h=>h) (λ_ _ h=>h)
 obtain⟨j,hj,M⟩:=E b o h
 grind
theorem df.suf_set{w L:World}{S F G F1:ab}{o:du}{g z k n cap:Nat}{rows:List (List C)}{u:Nat->Value}{f:Nat->ab}(ho:o.okS (.slice (some ⟨g,z,none⟩) n cap))(hn:rows.length=n)(hk:∀r∈rows,r.length=k)(Q:n<=cap)(Z:∀q,q<n*k->F g (z+q)/\fro w g (z+q)=NF)(hu:∀q,q<n*k->cel w g (z+q)=some (u q)/\(u q).oneCell'=true)(R:∀q,q<n*k->∀b o,f q b o->F b o/\¬(b=g/\z<=o/\o<z+n*k))(hd:∀q p,q<n*k->p<n*k->q≠p->∀b o,f q b o->¬f p b o)(hc:∀i j r c,rows[i]? = some r->r[j]? = some c->df w S (f (i*k+j)) c (u (i*k+j)))(i:Nat)(hi:i<n)(T:List C)(hr':T.length=k)(u2:Nat->Value)(E:∀b o,F1 b o->∃j,j<k/\f (i*k+j) b o)(hS:bh S w L)(e:∀b o,F b o->¬F1 b o->¬(b=g/\z+i*k<=o/\o<z+i*k+k)->cel L b o=cel w b o/\fro L b o=fro w b o)(y:∀d,d<k->cel L g (z+i*k+d)=some (u2 d)/\fro L g (z+i*k+d)=NF)(U:cx L S G T u2)(hG:∀b o,G b o->F1 b o\/¬F b o) :
  df L S (λb o=>(F b o/\¬F1 b o)\/G b o) (.s o (rows.set i T)) (.slice (some ⟨g,z,none⟩) n cap):=by
 obtain⟨f2,e1,e2,e3⟩:=U;have hik:i*k+k<=n*k:=by
  have:(i+1)*k<=n*k:=R6 k hi
  grind
 have H:∀q,q<n*k->¬F1 g (z+q):=λq l h=>by
  obtain⟨j,hj,h⟩:=E _ _ h;exact(R _ ω _ _ h).2 ⟨rfl,ω,ω⟩
 have A:∀q,(i*k<=q/\q<i*k+k)->q - i*k<k:=λq h=>ω
 refine .suf _ o g z k n cap _ (λq=>if i*k<=q/\q<i*k+k then u2 (q - i*k) else u q) (λq=>if i*k<=q/\q<i*k+k then f2 (q - i*k) else f q)
  ho (by simpa using hn) (λr hr=>?_) Q (λq l=>?_) (λq l=>?_) (λq l b o t=>?_) (λq p l M hne b o t N=>?_) (λK Y r c J V=>?_)
 ·grind
 ·obtain⟨B,P⟩:=Z q l
  refine⟨.inl ⟨B,H q l⟩,?_⟩;by_cases a:i*k<=q/\q<i*k+k
  ·have c2:=(y (q - i*k) (A q a)).2
   rwa [show z+i*k+(q - i*k)=z+q by omega]at c2
  rw[(e g (z+q) B (H q l) ω).2];exact P
 ·obtain⟨B,P⟩:=Z q l
  by_cases a:i*k<=q/\q<i*k+k
  ·have c1:=(y (q - i*k) (A q a)).1
   rw[show z+i*k+(q - i*k)=z+q by omega]at c1;rw[CB a];have hlt:q - i*k<T.length:=by have:=A q a;omega
   exact⟨c1,(e1 (q - i*k) T[q - i*k] (W1 hlt)).one⟩
  rw[C9 a,(e g (z+q) B (H q l) ω).1];exact hu q l
 ·by_cases a:i*k<=q/\q<i*k+k
  ·rw[CB a]at t
   have W:=e2 (q - i*k) (by have:=A q a;omega) b o t;refine⟨.inr W,λh=>?_⟩;obtain⟨rfl,B,h2⟩:=h;have X:=(Z (o - z) ω).1;rw[show z+(o - z)=o by omega]at X;rcases hG b o W with P|P
   ·exact H (o - z) ω (by rw[show z+(o - z)=o by omega];exact P)
   exact P X
  rw[C9 a]at t;obtain⟨B,h2⟩:=R q l b o t;refine⟨.inl ⟨B,λh=>?_⟩,h2⟩;obtain⟨j,hj,D⟩:=E b o h;exact hd q (i*k+j) l ω ω b o t D
 ·have hx:∀q p,q<n*k->(i*k<=q/\q<i*k+k)->p<n*k->¬(i*k<=p/\p<i*k+k)->∀b o,f2 (q - i*k) b o->¬f p b o:=by
   intro q p l h M h' b o t N;rcases hG b o (e2 _ (by have:=A q h;omega) b o t) with B|B
   ·obtain⟨j,hj,D⟩:=E b o B
    exact hd (i*k+j) p ω M ω b o D N
   exact B (R p M b o N).1
  grind
 rw[List.getElem?_set]at J;by_cases hii:i=K
 ·grind
 rw[C9 hii]at J;obtain⟨a1,a2⟩:=sX hn hk J V;have l:¬(i*k<=K*k+Y/\K*k+Y<i*k+k):=by
  rcases Nat.lt_or_ge i K with h|h
  ·have:(i+1)*k<=K*k:=R6 k h
   grind
  have:(K+1)*k<=i*k:=R6 k ω
  grind
 simp only[C9 l];have O:=d4 a1 a2;refine(hc K Y r c J V).keep hS (λb o t=>e b o (R _ O b o t).1 (λh=>?_) (λh=>(R _ O b o t).2 ⟨h.1,ω,ω⟩)) |>.mono (λ_ _ h=>h) (λ_ _ h=>h)
 obtain⟨j,hj,D⟩:=E b o h;exact hd (K*k+Y) (i*k+j) O ω ω b o t D
theorem cx.focus{w:World}{S:ab} : ∀(st:cq){F:ab}{cs:List C}{u:Nat->Value}{off:Nat}{r:List C}{j:Nat}(top:Option (Nat × Nat)),st≠[]->cx w S F cs u->bY cs off st=some (r,j)->jG cs off st->
  ∃g b F' u',(∀b o,F' b o->F b o)/\cx w S F' r u'/\plc w u top off st=some (g,b+j)/\
   (∀d,d<r.length->F g (b+d)/\¬F' g (b+d)/\cel w g (b+d)=some (u' d)/\fro w g (b+d)=NF)/\
   ∀(D:World)(O:List C)(u2:Nat->Value)(G:ab),bh S w D->(∀b' o,F b' o->¬F' b' o->¬(b'=g/\b<=o/\o<b+r.length)->cel D b' o=cel w b' o/\fro D b' o=fro w b' o)->
    (∀d,d<r.length->cel D g (b+d)=some (u2 d)/\fro D g (b+d)=NF)->O.length=r.length->cx D S G O u2->(∀b o,G b o->F' b o\/¬F b o)->
    cx D S (λb o=>(F b o/\¬F' b o)\/G b o) (eE cs off st O) u
 | [],_,_,_,_,_,_,_,h,_,_,_=>absurd rfl h
 | (i,k,j0)::st,F,cs,u,off,r,j,top,_,h,N,ho=>by
  simp only[bY]at N;simp only[jG]at ho;cases hc:cs[off]? with
  | none=>grind
  | some c=>
   rw[hc]at N ho;cases c with
   | v x=>cases N
   | x=>cases N
   | z=>cases N
   | m es=>cases N
   | it=>cases N
   | s o rows=>
    simp only at N ho;obtain⟨hoi,ho⟩:=ho;cases hi:rows[i]? with
    | none=>grind
    | some a=>
     rw[hi]at N ho;simp only at N ho;split at N
     case isFalse=>cases N
     rename_i hk1;subst hk1;obtain⟨f,h1,Q,h3⟩:=h;have p:=(Z1.1 hc).1;have hrep:=h1 off _ hc;have hup:∀O,eE cs off ((i,a.length,j0)::st) O=cs.set off (.s o (rows.set i (eE a j0 st O))):=λO=>by grind [eE]
     have back:∀(D:World)(c':C)(Z G:ab),bh S w D->(∀j c,j≠off->cs[j]? = some c->bh (f j) w D)->(∀b o,Z b o->f off b o)->df D S (λb o=>(f off b o/\¬Z b o)\/G b o) c' (u off)->(∀b o,G b o->Z b o\/¬F b o)->
       cx D S (λb o=>(F b o/\¬Z b o)\/G b o) (cs.set off c') u:=by
      intro D c' Z G hS E hF2 hrep' hG;refine⟨λj=>if j=off then(λb o=>(f off b o/\¬Z b o)\/G b o) else f j,λj c R=>?_,λj R b o q=>?_,λj j' R A hne b o q hb'=>?_⟩
      ·grind [df.keep]
      ·simp only[I1]at R
       simp only at q;split at q
       all_goals grind
      simp only[I1]at R A;simp only at q hb';by_cases e:j=off
      ·rw[CB e]at q
       grind
      rw[C9 e]at q;by_cases e':j'=off
      ·rw[CB e']at hb'
       grind
      grind
     generalize hv:u off=v at hrep;cases hrep with
     | nil=>simp at hi
     | U=>grind
     | own _ _ g k n cap _ u1 f1 hoo hn hk L hpos hF hu hf M hcr=>
      have hr1:a.length=k:=ψ
      subst hr1;have T:i<n:=ψ
      have hik:i*a.length+a.length<=n*a.length:=by
       have:(i+1)*a.length<=n*a.length:=R6 _ T
       grind
      have hnk:n*a.length<=cap*a.length:=R6 _ L
      let F1:ab:=λb o=>∃j,j<a.length/\f1 (i*a.length+j) b o
      have t:∀b o,F1 b o->f off b o/\¬(b=g/\o<cap*a.length):=ψ
      have hcel:∀d,d<a.length->cel w g (i*a.length+d)=some (u1 (i*a.length+d)):=ψ
      have H:cx w S F1 a (λd=>u1 (i*a.length+d)):=
       ⟨λj=>f1 (i*a.length+j),ψ,ψ,λj j' R A hne=>M _ _ ω ω ω⟩
      have U:cx w S F1 a (λd=>(cel w g (0+i*a.length+d)).getD undef):=H.congr ψ;cases st with
      | nil=>
       simp only[bY,W0,Prod.mk.injEq]at N;obtain⟨rfl,rfl⟩:=N;refine⟨g,i*a.length,F1,λd=>u1 (i*a.length+d),ψ,H,by grind [plc],λd M=>?_,?_⟩
       ·exact⟨Q off p _ _ (hF _ ω).1,λh=>(t _ _ h).2 ⟨rfl,ω⟩,hcel d M,(hF _ ω).2.2⟩
       intro D O u2 G hS l B J K hG;rw[hup];simp only[eE];refine back D _ F1 G hS (λj c R V b o q=>?_) ψ ?_ hG
       ·have A:=(Z1.1 V).1
        refine l b o (Q j A b o q) ψ (λh=>?_)
        grind
       rw[hv];exact df.own_set (F1:=F1) hoo hn hk L hF hu hf M hcr i T O J u2 (λb o h=>h) hS (λb o q y W=>l b o ψ y W) B K (λb o q=>(hG b o q).imp id ψ)
      | cons s st'=>
       obtain⟨g2,b2,Z,u2,e1,e2,e3,e4,e5⟩:=cx.focus (s::st') (some (g,0+i*a.length)) (by simp) U N ho;refine⟨g2,b2,Z,u2,λb o q=>Q off p b o (t b o (e1 b o q)).1,e2,by grind [plc],λd M=>?_,?_⟩
       ·obtain⟨a1,a2,a3,a4⟩:=e4 d M
        grind
       intro D O u3 G hS l B J K hG;have X:=e5 D O u3 G hS (λb o q y W=>l b o (Q off p b o (t b o q).1) y W) B J K (λb o q=>(hG b o q).imp id (λh h'=>h (Q off p b o (t b o h').1)));rw[hup];have P:∀o,b2<=o->o<b2+r.length->F1 g2 o:=λo ho1 ho2=>by
        have:=(e4 (o - b2) ω).1
        rwa [show b2+(o - b2)=o by omega]at this
       have E:∀b o,f off b o->¬F1 b o->cel D b o=cel w b o/\fro D b o=fro w b o:=λb o q y=>
        l b o (Q off p b o q) (λh=>y (e1 b o h)) (λh=>y (by rw[h.1];exact P o h.2.1 h.2.2))
       refine back D _ Z G hS (λj c R V b o q=>?_) (λb o h=>(t b o (e1 b o h)).1) ?_ hG
       ·have A:=(Z1.1 V).1
        refine l b o (Q j A b o q) (λh=>h3 off j p A (Ne.symm R) b o (t b o (e1 b o h)).1 q) (λh=>?_);exact h3 off j p A (Ne.symm R) b o (t b o (by rw[h.1];exact P o h.2.1 h.2.2)).1 q
       rw[hv];have Y:(eE a j0 (s::st') O).length=a.length:=by
        obtain⟨i',k',j'⟩:=s;simp only[eE];split
        ·split<;>simp
        rfl
       refine(df.own_set (F1:=F1) (G:=λb o=>(F1 b o/\¬Z b o)\/G b o) hoo hn hk L hF hu hf M hcr i T _ Y (λd=>u1 (i*a.length+d)) (λb o h=>h) hS (λb o q y _=>E b o q y) (λd M=>?_) (X.congr λd M=>?_) (λb o q=>q.elim (λh=>.inl h.1) (λh=>(hG b o h).imp (e1 b o) (λh h'=>h (Q off p b o h'))))).mono (λ_ _ h=>h) (λb o q=>q.elim (λh=>.inl ⟨h.1,λh'=>h.2 (e1 b o h')⟩) (λh=>h.imp (λh=>⟨(t b o h.1).1,h.2⟩) id))
       ·have hnf:¬F1 g (i*a.length+d):=λh=>(t _ _ h).2 ⟨rfl,ω⟩
        have:=E g (i*a.length+d) (hF _ ω).1 hnf
        grind
       grind
     | suf _ _ g z k n cap _ u1 f1 hoo hn hk L hF hu hf M hcr=>
      have hr1:a.length=k:=ψ
      subst hr1;have T:i<n:=ψ
      have hik:i*a.length+a.length<=n*a.length:=by
       have:(i+1)*a.length<=n*a.length:=R6 _ T
       grind
      let F1:ab:=λb o=>∃j,j<a.length/\f1 (i*a.length+j) b o
      have t:∀b o,F1 b o->f off b o/\¬(b=g/\z<=o/\o<z+n*a.length):=λb o ⟨j,R,h⟩=>hf _ ω b o h
      have hcel:∀d,d<a.length->cel w g (z+i*a.length+d)=some (u1 (i*a.length+d)):=λd M=>by rw[Nat.add_assoc];exact(hu _ ω).1
      have H:cx w S F1 a (λd=>u1 (i*a.length+d)):=
       ⟨λj=>f1 (i*a.length+j),ψ,ψ,λj j' R A hne=>M _ _ ω ω ω⟩
      have U:cx w S F1 a (λd=>(cel w g (z+i*a.length+d)).getD undef):=H.congr ψ;cases st with
      | nil=>
       simp only[bY,W0,Prod.mk.injEq]at N;obtain⟨rfl,rfl⟩:=N;refine⟨g,z+i*a.length,F1,λd=>u1 (i*a.length+d),ψ,H,by grind [plc],λd M=>?_,?_⟩
       ·have hq:=hF (i*a.length+d) ω
        rw[<-Nat.add_assoc]at hq;exact⟨Q off p _ _ hq.1,λh=>(t _ _ h).2 ⟨rfl,ω,ω⟩,hcel d M,hq.2⟩
       intro D O u2 G hS l B J K hG;rw[hup];simp only[eE];refine back D _ F1 G hS (λj c R V b o q=>?_) ψ ?_ hG
       ·have A:=(Z1.1 V).1
        refine l b o (Q j A b o q) ψ (λh=>?_);obtain⟨rfl,q1,q2⟩:=h;have hq:=(hF (o - z) ω).1;rw[show z+(o - z)=o by omega]at hq;exact h3 off j p A (Ne.symm R) _ _ hq q
       rw[hv];exact df.suf_set (F1:=F1) hoo hn hk L hF hu hf M hcr i T O J u2 (λb o h=>h) hS (λb o q y W=>l b o ψ y W) B K (λb o q=>(hG b o q).imp id ψ)
      | cons s st'=>
       obtain⟨g2,b2,Z,u2,e1,e2,e3,e4,e5⟩:=cx.focus (s::st') (some (g,z+i*a.length)) (by simp) U N ho;refine⟨g2,b2,Z,u2,λb o q=>Q off p b o (t b o (e1 b o q)).1,e2,by grind [plc],λd M=>?_,?_⟩
       ·obtain⟨a1,a2,a3,a4⟩:=e4 d M
        grind
       intro D O u3 G hS l B J K hG;have X:=e5 D O u3 G hS (λb o q y W=>l b o (Q off p b o (t b o q).1) y W) B J K (λb o q=>(hG b o q).imp id (λh h'=>h (Q off p b o (t b o h').1)));rw[hup];have P:∀o,b2<=o->o<b2+r.length->F1 g2 o:=λo ho1 ho2=>by
        have:=(e4 (o - b2) ω).1
        rwa [show b2+(o - b2)=o by omega]at this
       have E:∀b o,f off b o->¬F1 b o->cel D b o=cel w b o/\fro D b o=fro w b o:=λb o q y=>
        l b o (Q off p b o q) (λh=>y (e1 b o h)) (λh=>y (by rw[h.1];exact P o h.2.1 h.2.2))
       refine back D _ Z G hS (λj c R V b o q=>?_) (λb o h=>(t b o (e1 b o h)).1) ?_ hG
       ·have A:=(Z1.1 V).1
        refine l b o (Q j A b o q) (λh=>h3 off j p A (Ne.symm R) b o (t b o (e1 b o h)).1 q) (λh=>?_);exact h3 off j p A (Ne.symm R) b o (t b o (by rw[h.1];exact P o h.2.1 h.2.2)).1 q
       rw[hv];have Y:(eE a j0 (s::st') O).length=a.length:=by
        obtain⟨i',k',j'⟩:=s;simp only[eE];split
        ·split<;>simp
        rfl
       refine(df.suf_set (F1:=F1) (G:=λb o=>(F1 b o/\¬Z b o)\/G b o) hoo hn hk L hF hu hf M hcr i T _ Y (λd=>u1 (i*a.length+d)) (λb o h=>h) hS (λb o q y _=>E b o q y) (λd M=>?_) (X.congr λd M=>?_) (λb o q=>q.elim (λh=>.inl h.1) (λh=>(hG b o h).imp (e1 b o) (λh h'=>h (Q off p b o h'))))).mono (λ_ _ h=>h) (λb o q=>q.elim (λh=>.inl ⟨h.1,λh'=>h.2 (e1 b o h')⟩) (λh=>h.imp (λh=>⟨(t b o h.1).1,h.2⟩) id))
       ·have hnf:¬F1 g (z+i*a.length+d):=λh=>(t _ _ h).2 ⟨rfl,ω,ω⟩
        have hq:=hF (i*a.length+d) ω;rw[<-Nat.add_assoc]at hq;have:=E g (z+i*a.length+d) hq.1 hnf
        grind
       grind
end Go.Proofs.YtifeilefdakapaaGreatDoor.Ab
namespace Go.Proofs.YtifeilefdakapaaGreatDoor.Tbl
open Go Go.RowKit
def Tab(w : World) : Prop := Lib.TabIs Tryz.prog w "internal/strconv.uint64pow10" .u64 Lib.pow10Tab
def glob : Tryz.prog.globalNamed "internal/strconv.uint64pow10" = some 1 := by kernel_rfl
def tab_lt{w:World}(h:Tab w) : 1<w.heap.size:=by
 have:=Lib.TabIs.cell h glob 0 (by rw[Lib.pow10Tab_length];omega);exact World.block_lt_of_cell? w _ this
def tab_blk{w w1:World}(h:Tab w)(a:w1.heap[(1:Nat)]? = w.heap[(1:Nat)]?):Tab w1:=by
 unfold Tab Lib.TabIs World.var? at h |-;simp only[glob,Option.bind_some]at h |-;rw[a];exact h
end Go.Proofs.YtifeilefdakapaaGreatDoor.Tbl
namespace Go.Proofs.YtifeilefdakapaaGreatDoor.Ab
open Go.RowKit
structure b8(M:ab)(w w':World):Prop where
 os:w'.os=w.os
 tape:w'.tape=w.tape
 output:w'.output=w.output
 size:w.heap.size<=w'.heap.size
 blk:∀b,b<w.heap.size->(∀o,¬M b o)->w'.heap[b]? = w.heap[b]?
 cel:∀b o,b<w.heap.size->¬M b o->cel w' b o=cel w b o
 fro:∀b o,b<w.heap.size->¬M b o->fro w' b o=fro w b o
def b8.refl(M:ab)(w:World):b8 M w w:=⟨rfl,rfl,rfl,U2 _,λ_ _ _=>rfl,λ_ _ _ _=>rfl,λ_ _ _ _=>rfl⟩
def CV:type_of% @b8.refl:=@b8.refl
theorem b8.trans{M i:ab}{a b c:World}(h:b8 M a b)(h':b8 i b c)(j:∀x o,i x o->a.heap.size<=x\/M x o):b8 M a c:=by
 have g:∀x o,x<a.heap.size->¬M x o->¬i x o:=ψ
 have e:∀x,x<a.heap.size->x<b.heap.size:=λx d=>O3 d h.size
 exact⟨h'.os.trans h.os,h'.tape.trans h.tape,h'.output.trans h.output,R4 h.size h'.size,λx d f=>(h'.blk x (e x d) ψ).trans (h.blk x d f),
   λx o d f=>(h'.cel x o (e x d) (g x o d f)).trans (h.cel x o d f),λx o d f=>(h'.fro x o (e x d) (g x o d f)).trans (h.fro x o d f)⟩
theorem b8.of_below{w c:World}(h:Below w.heap.size w c)(M:ab):b8 M w c:=
 ⟨h.os,h.tape,h.output,h.size,λb a _=>h.block b a,λ_ _ a _=>h.cell a,λb o a _=>Prod.ext (h.frozen a) (by grind [Go.RowKit.Below.block,mp])⟩
structure Tb(w:World)(S:ab):Prop where
 tab:Tbl.Tab w
 all:∀o,S 1 o
def Tb.keep{w w1:World}{S a V:ab}(h:Tb w S)(c:b8 V w w1)(d:∀b o,V b o->¬S b o)(e:∀b o,S b o->a b o):Tb w1 a:=
 ⟨Tbl.tab_blk h.tab (c.blk _ (Tbl.tab_lt h.tab) λo f=>d _ o f (h.all o)),λo=>e _ _ (h.all o)⟩
inductive Kd where
 |one
 |agg
 |tup (sh:List (Option Nat))
 |box
inductive AV where
 |dead
 |F (k:Kd) (cs:List C)
 |ref (t off:Nat) (st:cq)
 |c3 (t off:Nat) (st:cq) (ag:Option Nat)
 |iref (r:List C) (off:Nat)
 |fn (f:FuncId) (caps:List Nat)
 |fv (Ok:ab->World->Value->Prop)
instance:Inhabited AV:=⟨.dead⟩
def AV.uses(d:Nat):AV->Bool
 | .ref t _ _=>Nat.beq t d
 | .c3 t _ _ _=>Nat.beq t d
 | .fn _ caps=>caps.any (Nat.beq · d)
 | _=>false
def kl(d:Nat):AV->AV
 | .ref t off st=>bif Nat.beq t d then .dead else .ref t off st
 | .c3 t off st ag=>bif Nat.beq t d then .dead else .c3 t off st ag
 | .fn f caps=>bif caps.any (Nat.beq · d) then .dead else .fn f caps
 | .F k cs=>.F k cs
 | .iref r off=>.iref r off
 | .fv Ok=>.fv Ok
 | .dead=>.dead
theorem y6(d:Nat)(v:AV):kl d v=bif v.uses d then .dead else v:=by cases v<;>rfl
def put(F:Nat->AV)(d:Nat)(v:AV):Nat->AV:=λt=>bif Nat.beq t d then v else kl d (F t)
def lV:Value->List Value
 | .tuple vs=>vs.toList.flatMap λv=>v.cells.toList
 | _=>[]
def cb(w:World):Kd->Value->Nat->Value
 | .one,v=>λ_=>v
 | .agg,v=>λj=>v.cells.toList.getD j undef
 | .tup _,v=>λj=>(lV v).getD j undef
 | .box,.pointer (some a)=>λj=>(cel w a.block (a.off+j)).getD undef
 | .box,_=>λ_=>undef
def nw:Kd->Value->Option (Nat × Nat)
 | .box,.pointer (some a)=>some (a.block,a.off)
 | _,_=>none
def mkv:Option Nat->(Nat->Value)->Value
 | none,u=>u 0
 | some n,u=>.agg ((List.range n).map u).toArray
def wu:List (Option Nat)->Nat
 | []=>0
 | none::sh=>1+wu sh
 | some n::sh=>n+wu sh
def ww:List (Option Nat)->List Value->Prop
 | [],[]=>True
 | none::sh,v::vs=>v.cells = #[v]/\ww sh vs
 | some n::sh,v::vs=>(∃arr,v=.agg arr/\arr.size=n)/\ww sh vs
 | _,_=>False
def fe(w:World)(X:ab):Kd->Nat->Value->Prop
 | .one,n,_=>n=1
 | .agg,n,v=>∃arr,v=.agg arr/\arr.size=n
 | .tup sh,n,v=>∃a,v=.tuple a/\ww sh a.toList/\wu sh=n
 | .box,n,v=>∃g o,v=.pointer (some ⟨g,o,none⟩)/\∀j,j<n->X g (o+j)/\(∃z,cel w g (o+j)=some z)/\fro w g (o+j)=NF
def cu(w:World)(S:ab)(F:Nat->AV)(tv:Nat->Value)(X:ab):AV->Value->Prop
 | .dead,_=>True
 | .F k a,v=>∃c Y:ab,(∀b o,c b o->X b o)/\(∀b o,Y b o->X b o)/\(∀b o,c b o->¬Y b o)/\fe w c k a.length v/\cx w S Y a (cb w k v)
 | .ref t off st,v=>∃k a r j g o,F t=.F k a/\bY a off st=some (r,j)/\plc w (cb w k (tv t)) (nw k (tv t)) off st=some (g,o)/\v=.pointer (some ⟨g,o,none⟩)
 | .c3 t off st ag,v=>∃k a r j,F t=.F k a/\bY a off st=some (r,j)/\j+ag.getD 1<=r.length/\v=mkv ag (cellv w (cb w k (tv t)) off st)
 | .iref r off,v=>∃g b u,v=.pointer (some ⟨g,b+off,none⟩)/\(∀d,d<r.length->S g (b+d)/\cel w g (b+d)=some (u d))/\cx w S NO r u
 | .fn f caps,v=>v=.func (.func f) #[] (caps.map tv).toArray
 | .fv Ok,v=>∃(e:ab)(w1:World),(∀b o,e b o->S b o)/\bh e w1 w/\Ok e w1 v
theorem jW{w a:World}{k:Kd}{v:Value}{n:Nat}{X:ab}(h:fe w X k n v)(b:bh X w a):∀x,x<n->cb a k v x=cb w k v x:=by
 intro x c;cases k with
 | box=>
  obtain⟨g,o,rfl,d⟩:=h;simp only[cb];rw[(b _ _ (d x c).1).1]
 | _=>rfl
theorem fe.keep{w a:World}{X c:ab}{k:Kd}{n:Nat}{v:Value}(h:fe w X k n v)(d:bh X w a)(l:∀b o,X b o->c b o):fe a c k n v:=by
 cases k with
 | box=>
  obtain⟨g,o,rfl,e⟩:=h;refine⟨g,o,rfl,λj f=>?_⟩;obtain⟨i,p,q⟩:=e j f;have:=d _ _ i
  grind
 | _=>exact h
theorem cu.keep{w D:World}{S S':ab}{F F':Nat->AV}{tv y:Nat->Value}{X R:ab}{φ:Nat->ab}{av:AV}{v:Value}(h:cu w S F tv X av v)(T:∀t k cs,F t=.F k cs->cu w S F tv (φ t) (F t) (tv t))(U:∀t,av.uses t=true->(∀k cs,F t=.F k cs->F' t=.F k cs)/\y t=tv t/\bh (φ t) w D)(E:bh X w D)(l:bh S w D)(hm:∀b o,X b o->R b o)(p:∀b o,S b o->S' b o):cu D S' F' y R av v:=by
 cases av with
 | dead=>trivial
 | F k cs=>
  obtain⟨G,Y,c,e,i,q,V⟩:=h;refine⟨G,Y,ψ,ψ,i,q.keep (λb o a=>E _ _ (c b o a)) (λ_ _ h=>h),?_⟩;exact((V.keep l (λb o a=>E _ _ (e b o a))).mono p (λ_ _ h=>h)).congr λj W=>jW q (λb o a=>E _ _ (c b o a)) j W
 | ref t A H=>
  obtain⟨k,cs,r,j,g,o,c,e,i,q⟩:=h;obtain⟨J,K,B⟩:=U t (by simp[AV.uses]);have C:=T t k cs c;rw[c]at C;obtain⟨G,Y,L,M,Z,N,O⟩:=C;refine⟨k,cs,r,j,g,o,J k cs c,e,?_,q⟩;rw[K];exact(cx.last l H _ O e (λb o a=>B _ _ (M b o a)) (λx P=>jW N (λb o a=>B _ _ (L b o a)) x P)).1.trans i
 | c3 t A H ag=>
  obtain⟨k,cs,r,j,c,e,i,q⟩:=h;obtain⟨J,K,B⟩:=U t (by simp[AV.uses]);have C:=T t k cs c;rw[c]at C;obtain⟨G,Y,L,M,Z,N,O⟩:=C;refine⟨k,cs,r,j,J k cs c,e,i,?_⟩;rw[q,K];have hl:=(cx.last l H none O e (λb o a=>B _ _ (M b o a)) (λx P=>jW N (λb o a=>B _ _ (L b o a)) x P)).2;cases ag with
  | none=>exact(hl 0 (by simp at i;omega)).symm
  | some n=>
   grind [List.map_congr_left,mkv]
 | iref r A=>
  obtain⟨g,b,u,c,e,i⟩:=h;exact⟨g,b,u,c,λd Q=>⟨p _ _ (e d Q).1,(l _ _ (e d Q).1).1.trans (e d Q).2⟩,(i.keep l (λ_ _ h=>h.elim)).mono p (λ_ _ h=>h)⟩
 | fn f caps=>
  refine h.trans ?_
  grind [List.map_congr_left,Nat.beq_refl,AV.uses]
 | fv Ok=>
  obtain⟨S1,w1,c,e,i⟩:=h;exact⟨S1,w1,ψ,λb o a=>⟨(l b o (c b o a)).1.trans (e b o a).1,(l b o (c b o a)).2.trans (e b o a).2⟩,i⟩
theorem P9{w:World}{b o:Nat}{z:Value}(h:cel w b o=some z):b<w.heap.size:=by grind [Go.World.cell?]
def tvs(a:Act)(t:Nat):Value:=a.tmps.getD t undef
structure dU where
 n:Nat
 kp:List (Nat × Value)
 mo:List (Nat × List Nat):=[]
def dU.free(N:dU)(d:Nat):Bool:=Nat.blt d N.n&&!N.kp.any λp=>Nat.beq p.1 d
theorem dU.free_lt{N:dU}{d:Nat}(h:N.free d=true):d<N.n:=by grind [Nat.blt_eq,dU.free]
theorem dU.free_ne{N:dU}{d:Nat}(h:N.free d=true){p:Nat × Value}(a:p∈N.kp):p.1≠d:=λe=>by grind [Nat.beq_refl,dU.free]
structure aV(w0:World)(M S0:ab)(N:dU)(S:ab)(φ:Nat->ab)(F:Nat->AV)(a:Act)(w:World):Prop where
 slot:∀t,cu w S F (tvs a) (φ t) (F t) (tvs a t)
 dis:∀t t',t≠t'->∀b o,φ t b o->¬φ t' b o
 disS:∀t b o,φ t b o->¬S b o
 ex:∀t b o,φ t b o->b<w.heap.size/\(w0.heap.size<=b\/M b o)
 sub:∀b o,S0 b o->S b o
 sup:∀b o,S b o->b<w.heap.size/\(S0 b o\/w0.heap.size<=b\/M b o)
 old:b8 M w0 w
 size:a.tmps.size=N.n
 defers:a.defers=[]
 par:(∀p,p∈N.kp->tvs a p.1=p.2)/\Tb w S
def St(w0:World)(M S0:ab)(N:dU)(F:Nat->AV)(a:Act)(w:World):Prop:=∃S φ,aV w0 M S0 N S φ F a w
theorem Mv(a:Act)(d:Nat)(v:Value)(t:Nat)(b:d<a.tmps.size):tvs (a.put (some d) v) t=if t=d then v else tvs a t:=by
 simp only[tvs,Act.put,X5,Array.getElem?_setIfInBounds]
 grind
theorem oe(F:Nat->AV)(d:Nat)(v:AV):put F d v d=v:=by simp[put]
theorem gX(F:Nat->AV){d t:Nat}(v:AV)(h:t≠d):put F d v t=kl d (F t):=by grind [Nat.beq_eq,put]
theorem Ai(d:Nat)(k:Kd)(cs:List C):kl d (.F k cs)=.F k cs:=rfl
section
variable{w0 w w1:World}{M S0 S:ab}{N:dU}{φ:Nat->ab}{F:Nat->AV}{a:Act}
theorem aV.put_gen(h:aV w0 M S0 N S φ F a w)(i:b8 NO w w1){d:Nat}(C:N.free d=true){av:AV}{v:Value}{X:ab}(D:cu w1 S F (tvs a) X av v)(E:av.uses d=false)(q:∀b o,X b o->b<w1.heap.size/\(w0.heap.size<=b\/M b o))(G:∀t,t≠d->∀b o,X b o->¬φ t b o)(r:∀b o,X b o->¬S b o) :
  aV w0 M S0 N S (λt=>if t=d then X else φ t) (put F d av) (a.put (some d) v) w1:=by
 have H:=h.size;have e:∀X:ab,(∀b o,X b o->b<w.heap.size)->bh X w w1:=λX q b o c=>⟨i.cel b o (q b o c) (λh=>h),i.fro b o (q b o c) (λh=>h)⟩
 have f:∀t,bh (φ t) w w1:=λt=>e _ λb o c=>(h.ex t b o c).1
 have j:bh S w w1:=e _ λb o c=>(h.sup b o c).1
 have u:∀t,tvs (a.put (some d) v) t=if t=d then v else tvs a t:=λt=>Mv a d v t (by have:=dU.free_lt C;omega)
 refine⟨λt=>?_,λt y l b o c n=>?_,λt b o c=>?_,λt b o c=>?_,h.sub,λb o c=>⟨O3 (h.sup b o c).1 i.size,(h.sup b o c).2⟩,h.old.trans i (λ_ _ h=>h.elim),by grind [Go.Act.put],h.defers,λp O=>by have:=h.par.1;grind [dU.free_ne],h.par.2.keep i (λ_ _ h=>h.elim) (λ_ _ h=>h)⟩
 ·rw[u]
  by_cases g:t=d
  ·rw[CB g,CB g,g,oe]
   refine D.keep (φ:=φ) (λt k J K=>?_) (λt B=>?_) (λ_ _ _=>⟨rfl,rfl⟩) (λ_ _ _=>⟨rfl,rfl⟩) (λ_ _ h=>h) (λ_ _ h=>h)
   ·refine(h.slot t).keep (φ:=φ) (λt _ _ _=>h.slot t) (λt B=>?_) (f t) j (λ_ _ h=>h) (λ_ _ h=>h)
    grind
   have l:t≠d:=ψ
   refine⟨λk J K=>by grind [gX,Ai],ψ,λ_ _ _=>⟨rfl,rfl⟩⟩
  rw[gX _ _ g,C9 g,C9 g];rw[y6];cases B:(F t).uses d with
  | true=>trivial
  | false=>
   simp only[cond_false];refine(h.slot t).keep (φ:=φ) (λt _ _ _=>h.slot t) (λy L=>?_) (f t) j (λ_ _ h=>h) (λ_ _ h=>h)
   grind [gX,Ai]
 ·by_cases g:t=d
  ·grind
  rw[C9 g]at c;by_cases A:y=d
  ·grind
  rw[C9 A]at n;exact h.dis t y l b o c n
 ·split at c
  ·exact r b o c
  exact h.disS t b o c
 split at c
 ·exact q b o c
 exact⟨O3 (h.ex t b o c).1 i.size,(h.ex t b o c).2⟩
def LX(d:Nat):AV->AV
 | .ref t off st=>bif Nat.beq t d then .dead else .ref t off st
 | .c3 t off st ag=>bif Nat.beq t d then .dead else .c3 t off st ag
 | .fn f caps=>.fn f caps
 | .F k cs=>.F k cs
 | .iref r off=>.iref r off
 | .fv Ok=>.fv Ok
 | .dead=>.dead
def kill(F:Nat->AV)(d:Nat):Nat->AV:=λt=>bif Nat.beq t d then .dead else LX d (F t)
theorem oS(F:Nat->AV)(d:Nat):kill F d d=.dead:=by simp[kill]
theorem kw(F:Nat->AV){d t:Nat}(h:t≠d):kill F d t=LX d (F t):=by grind [Nat.beq_eq,kill]
theorem aV.forget(h:aV w0 M S0 N S φ F a w)(d:Nat):aV w0 M S0 N S (λt=>if t=d then NO else φ t) (kill F d) a w:=by
 refine⟨λt=>?_,λt n g b o c i=>?_,λt b o c=>?_,λt b o c=>?_,h.sub,h.sup,h.old,h.size,h.defers,h.par⟩
 ·by_cases p:t=d
  ·subst p;rw[oS];trivial
  rw[kw _ p,C9 p];have l:LX d (F t)=kl d (F t)->cu w S (kill F d) (tvs a) (φ t) (LX d (F t)) (tvs a t):=λe=>by
   rw[e,y6];cases y:(F t).uses d with
   | true=>trivial
   | false=>
    simp only[cond_false];refine(h.slot t).keep (φ:=φ) (λt _ _ _=>h.slot t) (λn r=>?_) (λ_ _ _=>⟨rfl,rfl⟩) (λ_ _ _=>⟨rfl,rfl⟩) (λ_ _ h=>h) (λ_ _ h=>h);have g:n≠d:=ψ
    exact⟨λk A u=>by rw[kw _ g,u];rfl,rfl,λ_ _ _=>⟨rfl,rfl⟩⟩
  cases j:F t with
  | fn f caps=>have q:=h.slot t;rw[j]at q;exact q
  | _=>rw[<-j];exact l (by rw[j];rfl)
 ·split at c
  ·exact c.elim
  split at i
  ·exact i.elim
  exact h.dis t n g b o c i
 ·split at c
  ·exact c.elim
  exact h.disS t b o c
 split at c
 ·exact c.elim
 exact h.ex t b o c
end
inductive TK where
 |st (flds:List (Nat × Nat))
 |sl (elem:Nat)
 |sc (d:TypeDesc)
 |mp (key elem:Nat) (z:Value)
structure TI where
 size:Nat
 bytes:Nat
 zero:List C
 kind:TK
instance:Inhabited TI:=⟨⟨0,0,[],.st []⟩⟩
def TI.agg(i:TI):Bool:=match i.kind with|.st _=>true|_=>false
def cval:C->Value
 | .v x=>x
 | .z=>.slice none 0 0
 | _=>undef
def jD:List C->Prop
 | []=>True
 | .v x::cs=>x.oneCell'=true/\jD cs
 | .z::cs=>jD cs
 | _=>False
def gg(P:Program)(t:Nat)(i:TI):Prop:=
 (P.info? t).map (λx=>(x.zero.map (·.cells.toList),x.size,x.bytes))=some (some (i.zero.map cval),i.size,i.bytes)/\jD i.zero/\
 match i.kind with
 | .st flds=>∃a,P.underlying t=some (.struct a)/\a.toList.map (λf=>(f.offset,f.type))=flds
 | .sl e=>P.underlying t=some (.slice e)
 | .sc d=>P.underlying t=some d/\(match d with|.struct _|.array _ _=>False|_=>True)
 | .mp k e z=>P.underlying t=some (.map k e)/\P.underlying k=some (.int .i64)/\(P.info? e).bind (·.zero)=some z/\z.oneCell'=true
def dn:C->Bool
 | .s .own _=>true
 | .s (.tag _) _=>true
 | .s .suf _=>true
 | .s (.tagS _) _=>true
 | .m _=>true
 | .it _ _=>true
 | _=>false
def aW:List C->Bool
 | []=>true
 | c::cs=>bif dn c then false else aW cs
def bt(cs:List C)(off n:Nat):List C:=(cs.drop off).take n
def w8:Value->C
 | .slice none 0 0=>.z
 | v=>.v v
def lr:Value->AV
 | .agg arr=>bif arr.all (·.oneCell') then .F .agg (arr.toList.map w8) else .dead
 | .tuple _=>.dead
 | .pointer (some _)=>.dead
 | v=>.F .one [w8 v]
def lY(F:Nat->AV):Operand->AV
 | .tmp t=>F t
 | .const v=>lr v
 | .global _=>.dead
 | .func f=>.fn f []
inductive Rw(cs:List C)(off:Nat)(st:cq)(K:List C->Nat->Prop):Prop
 |mk_ (h:∃r j,bY cs off st=some (r,j)/\K r j)
theorem Rw.mk{cs:List C}{off:Nat}{st:cq}{K:List C->Nat->Prop}{r:List C}{j:Nat}(h:bY cs off st=some (r,j))(a:K r j):Rw cs off st K:=by refine .mk_ ?_;grind
theorem Rw.out{cs:List C}{off:Nat}{st:cq}{K:List C->Nat->Prop}(h:Rw cs off st K):∃r j,bY cs off st=some (r,j)/\K r j:=by obtain⟨h⟩:=h;exact h
inductive Wr(k:IntKind)(x:Int)(K:Int->Prop):Prop
 |mk_ (h:∃z,k.wrap x=z/\K z)
theorem Wr.mk{k:IntKind}{x z:Int}{K:Int->Prop}(h:k.wrap x=z)(a:K z):Wr k x K:=by refine .mk_ ?_;grind
def CK:type_of% @Wr.mk:=@Wr.mk
def Wr.out{k:IntKind}{x:Int}{K:Int->Prop}(h:Wr k x K):∃z,k.wrap x=z/\K z:=by obtain⟨h⟩:=h;exact h
inductive Ev(x:Int)(K:Int->Prop):Prop
 |mk_ (h:∃z,x=z/\K z)
theorem Ev.mk{x z:Int}{K:Int->Prop}(h:x=z)(a:K z):Ev x K:=by refine .mk_ ?_;grind
def CS:type_of% @Ev.mk:=@Ev.mk
def Ev.out{x:Int}{K:Int->Prop}(h:Ev x K):∃z,x=z/\K z:=by obtain⟨h⟩:=h;exact h
inductive Ln(x:Nat)(K:Nat->Prop):Prop
 |mk_ (h:∃z,x=z/\K z)
theorem Ln.mk{x z:Nat}{K:Nat->Prop}(h:x=z)(a:K z):Ln x K:=by refine .mk_ ?_;grind
theorem Ln.out{x:Nat}{K:Nat->Prop}(h:Ln x K):K x:=by obtain⟨h⟩:=h;grind
inductive Cd(p:Prop)(X:Prop):Prop
 |mk_ (h:p/\X)
def Cd.mk{p X:Prop}(h:p)(a:X):Cd p X:=by refine .mk_ ?_;exact⟨h,a⟩
def CM:type_of% @Cd.mk:=@Cd.mk
def Cd.out{p X:Prop}(h:Cd p X):p/\X:=by obtain⟨h⟩:=h;exact h
inductive Ix(rows:List (List C))(i:Int)(K:List C->Prop):Prop
 |mk_ (h:0<=i/\∃r,rows[i.toNat]? = some r/\K r)
theorem Ix.mk{rows:List (List C)}{i:Int}{K:List C->Prop}{r:List C}(a:0<=i)(h:rows[i.toNat]? = some r)(b:K r):Ix rows i K:=by refine .mk_ ?_;grind
def CL:type_of% @Ix.mk:=@Ix.mk
def Ix.nat{rows:List (List C)}{i:Nat}{K:List C->Prop}{r:List C}(h:rows[i]? = some r)(a:K r):Ix rows (i:Int) K:=CL ω h a
def CA:type_of% @Ix.nat:=@Ix.nat
def Ix.out{rows:List (List C)}{i:Int}{K:List C->Prop}(h:Ix rows i K):0<=i/\∃r,rows[i.toNat]? = some r/\K r:=by obtain⟨h⟩:=h;exact h
inductive Bf(b:Bool)(X Y:Prop):Prop
 |mk_ (h:bif b then X else Y)
theorem Bf.out{b:Bool}{X Y:Prop}(h:Bf b X Y):bif b then X else Y:=by obtain⟨h⟩:=h;exact h
theorem Bf.in_{b:Bool}{X Y:Prop}(h:bif b then X else Y):Bf b X Y:=by refine .mk_ ?_;exact h
theorem Bf.t{b:Bool}{X Y:Prop}(h:b=true)(a:X):Bf b X Y:=by grind [Bf.in_]
theorem Bf.f{b:Bool}{X Y:Prop}(h:b=false)(a:Y):Bf b X Y:=by grind [Bf.in_]
theorem Bf.P{b:Bool}{X Y:Prop}(h1:b=true->X)(a:b=false->Y):Bf b X Y:=by cases b;all_goals grind [Bf.f,Bf.t]
theorem Bf.D{p:Prop}[Decidable p]{X Y:Prop}(h1:p->X)(a:¬p->Y):Bf (decide p) X Y:=.P ψ ψ
theorem Bf.E{a b:Int}{X Y:Prop}(h1:a=b->X)(c:a≠b->Y):Bf (a == b) X Y:=.P ψ ψ
theorem Bf.N{a b:Int}{X Y:Prop}(h1:a≠b->X)(c:a=b->Y):Bf (a != b) X Y:=.P ψ ψ
theorem Bf.not{b:Bool}{X Y:Prop}(h:Bf b Y X):Bf (!b) X Y:=by grind [Bf.in_,Bf.out]
def tW(F:Nat->AV)(t off:Nat)(st:cq)(K:List C->Nat->Prop):Prop:=
 match F t with
 | .F _ cs=>match st with
  | []=>K cs off
  | s::st=>Rw cs off (s::st) K
 | _=>False
def gM(F:Nat->AV):AV->(Option Nat->List C->Prop)->Prop
 | .F .one cs,K=>K none cs
 | .F .agg cs,K=>K (some cs.length) cs
 | .c3 t off st ag,K=>tW F t off st λr j=>K ag (bt r j (ag.getD 1))
 | .fn f [],K=>K none [.v (.func (.func f) #[] #[])]
 | _,_=>False
def bu(w:World)(S Y:ab)(ag:Option Nat)(cs:List C)(v:Value):Prop:=
 cs.length=ag.getD 1/\∃u,v=mkv ag u/\cx w S Y cs u
theorem oJ{F:Nat->AV}{t off:Nat}{st:cq}{K:List C->Nat->Prop}(h:tW F t off st K):∃k cs r j,F t=.F k cs/\bY cs off st=some (r,j)/\K r j:=by
 unfold tW at h;cases a:F t with
 | F k cs=>
  rw[a]at h;cases st with
  | nil=>exact⟨k,cs,cs,off,rfl,rfl,h⟩
  | cons s st=>grind [Rw.out]
 | _=>grind
theorem mB(arr:Array Value):Value.agg arr=mkv (some arr.size) (λj=>arr.toList.getD j undef):=by
 simp only[mkv]
 congr 1
 grind
theorem iP{ag:Option Nat}{u a:Nat->Value}(h:∀j,j<ag.getD 1->u j=a j):mkv ag u=mkv ag a:=by
 cases ag with
 | none=>exact h 0 (by simp)
 | some n=>grind [List.map_congr_left,mkv]
section
variable{P:Program}{w0 w w1:World}{M S0 S:ab}{N:dU}{φ:Nat->ab}{F:Nat->AV}{a:Act}
theorem pF(S F:ab){v:Value}(h:v.oneCell'=true):df w S F (w8 v) v:=by
 unfold w8;split
 ·exact .z _ _
 exact .v _ _ h
theorem HM(v:Value):cu w S F (tvs a) NO (lr v) v:=by
 cases v with
 | agg arr=>
  cases d:arr.all (·.oneCell') with
  | false=>
   have e:lr (.agg arr)=.dead:=by grind [lr]
   rw[e];trivial
  | true=>
   have e:lr (.agg arr)=.F .agg (arr.toList.map w8):=by grind [lr]
   rw[e];refine⟨NO,NO,λ_ _ h=>h,λ_ _ h=>h,λ_ _ _ h=>h,⟨arr,rfl,by simp⟩,λ_=>NO,λj c b=>?_,λ_ _ _ _ h=>h,λ_ _ _ _ _ _ _ h=>h.elim⟩;rw[W2,Array.getElem?_toList]at b
   grind [pF,cb,Go.Value.cells]
 | tuple _=>trivial
 | pointer p=>cases p with
  | some _=>trivial
  | none=>exact⟨NO,NO,λ_ _ h=>h,λ_ _ h=>h,λ_ _ _ h=>h,rfl,λ_=>NO,λj c b=>by cases j with|zero=>simp at b;subst b;exact pF _ _ rfl|succ j=>simp at b,λ_ _ _ _ h=>h,ψ⟩
 | _=>exact⟨NO,NO,λ_ _ h=>h,λ_ _ h=>h,λ_ _ _ h=>h,rfl,λ_=>NO,λj c b=>by cases j with|zero=>simp at b;subst b;exact pF _ _ rfl|succ j=>simp at b,λ_ _ _ _ h=>h,λ_ _ _ _ _ _ _ h=>h.elim⟩
def QH(φ:Nat->ab):Operand->ab
 | .tmp t=>φ t
 | _=>NO
def aV.ev(h:aV w0 M S0 N S φ F a w)(x:Operand):cu w S F (tvs a) (QH φ x) (lY F x) (a.eval x):=by
 cases x with
 | tmp t=>exact h.slot t
 | const v=>exact HM v
 | global g=>trivial
 | func f=>rfl
theorem aV.place(h:aV w0 M S0 N S φ F a w){t off:Nat}{st:cq}{k:Kd}{cs r:List C}{j:Nat}(l:F t=.F k cs)(c:bY cs off st=some (r,j)) :
  ∃Y u,(∀b o,Y b o->φ t b o)/\cx w S Y r u/\(∀d,cellv w (cb w k (tvs a t)) off st d=u (j+d))/\
   (∀g o,plc w (cb w k (tvs a t)) (nw k (tvs a t)) off st=some (g,o)->∃b,o=b+j/\∀d,d<r.length->cel w g (b+d)=some (u d)):=by
 have i:=h.slot t;rw[l]at i;obtain⟨E,Y,G,H,J,n,p⟩:=i;obtain⟨q,y,K,A,B,D,L⟩:=cx.at_ st (nw k (tvs a t)) p c;refine⟨q,y,ψ,A,B,λg o O=>?_⟩;by_cases e:st=[]
 ·subst e
  simp only[bY,W0,Prod.mk.injEq]at c;obtain⟨rfl,rfl⟩:=c;rw[D rfl];cases k with
  | box=>
   obtain⟨P,Q,R,f⟩:=n
   grind [plc,nw,cb]
  | _=>grind [plc,nw]
 grind
theorem aV.val(h:aV w0 M S0 N S φ F a w){av:AV}{v:Value}{X:ab}{K:Option Nat->List C->Prop}(n:cu w S F (tvs a) X av v)(e:gM F av K) :
  ∃ag cs Y,K ag cs/\bu w S Y ag cs v/\∀b o,Y b o->X b o\/∃t,φ t b o:=by
 cases av with
 | F k cs=>
  obtain⟨P,Y,Q,R,T,A,B⟩:=n;cases k with
  | one=>exact⟨none,cs,Y,e,⟨A,_,rfl,B⟩,ψ⟩
  | agg=>
   obtain⟨arr,rfl,p⟩:=A;exact⟨some cs.length,cs,Y,e,⟨rfl,cb w .agg (.agg arr),by have:=mB arr;rw[p]at this;exact this,B⟩,ψ⟩
  | _=>exact e.elim
 | c3 t q H ag=>
  replace e:tW F t q H (λr j=>K ag (bt r j (ag.getD 1))):=e;obtain⟨k,cs,r,j,D,E,J⟩:=oJ e;obtain⟨U,L,V,W,g,i,G,Z⟩:=n;rw[D]at g;simp only[AV.F.injEq]at g;obtain⟨rfl,rfl⟩:=g;rw[E]at i;simp only[W0,Prod.mk.injEq]at i;obtain⟨rfl,rfl⟩:=i;obtain⟨Y,u,hY,l,O,-⟩:=h.place D E;refine⟨ag,_,Y,J,⟨by simp[bt];omega,λd=>u (j+d),?_,l.part j _⟩,ψ⟩
  grind [iP]
 | fn f caps=>
  cases caps with
  | cons c cs=>exact e.elim
  | nil=>
   refine⟨none,_,NO,e,⟨rfl,λ_=>v,rfl,λ_=>NO,λj c y=>?_,λ_ _ _ _ h=>h,ψ⟩,λ_ _ h=>h.elim⟩;cases j with
   | zero=>simp at y;subst y;rw[show v=.func (.func f) #[] #[] from n];exact .v _ _ rfl
   | succ j=>simp at y
 | _=>exact e.elim
end
def xL(P:Program)(o:Oper)(a:Act)(w:World)(R:Value->World->Prop):Prop:=
 ∀(Kc:Act->World->Prop)(Q:Exit->Act->World->Prop),(∀v w1,R v w1->Kc (a.put o.dst v) w1)->o.wp P a w Kc Q
theorem xL.value{P:Program}{o:Oper}{a:Act}{w w1:World}{R:Value->World->Prop}{v:Value}(h:(execOp a.eval o).run P w=.ok (.value v) w1)(b:R v w1):xL P o a w R:=by
 intro Kc Q c
 grind [Go.Oper.upon_value,Go.Oper.wp]
theorem xL.skip{P:Program}{o:Oper}{a:Act}{w w1:World}{R:Value->World->Prop}(h:(execOp a.eval o).run P w=.ok .skip w1)(b:R undef w1):xL P o a w R:=by
 intro Kc Q c
 grind [Go.Oper.upon_skip,Go.Oper.wp]
theorem xL.enter{P:Program}{o:Oper}{a:Act}{w:World}{R:Value->World->Prop}{f:FuncId}{args:Array Value}(h:(execOp a.eval o).run P w=.ok (.enter f args) w)(b:Calls P f args w λe w1=>∃v,e=.returned v/\R v w1):xL P o a w R:=by
 intro Kc Q c
 grind [Go.Oper.upon_enter,Go.Calls.mono,Go.Oper.wp]
def kD(w:World)(S:ab)(F:Nat->AV)(a:Act)(av:AV)(v:Value)(w1:World):Prop:=
 b8 NO w w1/\∃X c:ab,(∀b o,X b o->b<w1.heap.size/\w.heap.size<=b)/\(∀b o,S b o->c b o)/\(∀b o,c b o->S b o\/(b<w1.heap.size/\w.heap.size<=b))/\(∀b o,X b o->¬c b o)/\cu w1 c F (tvs a) X av v
theorem df.bare{w:World}{S F F':ab}{c:C}{v:Value}(h:df w S F c v)(e:dn c=false):df w S F' c v:=by
 induction h with
 | v F x q=>exact .v _ x q
 | x F u q=>exact .x _ u q
 | z F a=>exact .z _ a
 | nil F o a j=>exact .nil _ o a j
 | U F g l k n i d u A B p D r _=>exact .U _ g l k n i d u A B p D r
 | own F o g k n i d u f j=>cases o with|U=>exact j.elim|own=>cases e|tag v=>cases e|suf=>cases e|tagS v=>cases e
 | suf F o g l k n i d u f j=>cases o with|U=>exact j.elim|own=>cases e|tag v=>cases e|suf=>cases e|tagS v=>cases e
 | m F b t G y H J K L E=>cases e
 | it=>cases e
theorem pZ:∀{cs:List C},aW cs=true->∀(j:Nat)(c:C),cs[j]? = some c->dn c=false
 | [],_,j,c,h=>by simp at h
 | a::cs,h,j,c,b=>by
  simp only[aW]at h;cases d:dn a with
  | true=>grind
  | false=>
   rw[d]at h;cases j with
   | zero=>grind
   | succ j=>exact pZ h j c (by simpa using b)
def cx.bare{w:World}{S F F':ab}{cs:List C}{u:Nat->Value}(h:cx w S F cs u)(b:aW cs=true):cx w S F' cs u:=by
 obtain⟨f,d,-,-⟩:=h;exact⟨λ_=>NO,λj c a=>(d j c a).bare (pZ b j c a),λ_ _ _ _ h=>h.elim,λ_ _ _ _ _ _ _ h=>h.elim⟩
theorem B9{w:World}{n:Nat}{u:Nat->Value}{j:Nat}(a:j<n):cb w .agg (mkv (some n) u) j=u j:=by grind [cb,mkv,Go.Value.cells]
def kC:Option Nat->Kd
 | none=>.one
 | some _=>.agg
theorem bu.slot{w:World}{S Y:ab}{F:Nat->AV}{tv:Nat->Value}{ag:Option Nat}{cs:List C}{v:Value}(h:bu w S Y ag cs v):cu w S F tv Y (.F (kC ag) cs) v:=by
 obtain⟨a,u,rfl,b⟩:=h;cases ag with
 | none=>
  refine⟨NO,Y,λ_ _ h=>h.elim,λ_ _ h=>h,λ_ _ h=>h.elim,a,b.congr λj c=>?_⟩;have:j=0:=by simp at a;omega
  subst this;rfl
 | some n=>
  simp only[Option.getD_some]at a;exact⟨NO,Y,λ_ _ h=>h.elim,λ_ _ h=>h,λ_ _ h=>h.elim,⟨_,rfl,by simp[a]⟩,b.congr λj c=>B9 ω⟩
theorem bu.bare{w:World}{S Y a:ab}{ag:Option Nat}{cs:List C}{v:Value}(h:bu w S Y ag cs v)(b:aW cs=true):bu w S a ag cs v:=
 ⟨h.1,h.2.choose,h.2.choose_spec.1,h.2.choose_spec.2.bare b⟩
def bp(F:Nat->AV)(x:Operand)(K:AV->Prop):Prop:=
 match x with
 | .tmp t=>match F t with
  | .F .box _=>K (.ref t 0 [])
  | .F .one cs=>bif aW cs then K (.F .one cs) else K (.c3 t 0 [] none)
  | .F .agg cs=>bif aW cs then K (.F .agg cs) else K (.c3 t 0 [] (some cs.length))
  | .F (.tup sh) cs=>bif aW cs then K (.F (.tup sh) cs) else False
  | .ref t off st=>K (.ref t off st)
  | .c3 t off st ag=>K (.c3 t off st ag)
  | .iref r off=>K (.iref r off)
  | .fn f caps=>K (.fn f caps)
  | .fv Ok=>K (.fv Ok)
  | .dead=>K .dead
 | .const v=>K (lr v)
 | .global _=>K .dead
 | .func f=>K (.fn f [])
section
variable{P:Program}{w0 w w1:World}{M S0 S:ab}{N:dU}{φ:Nat->ab}{F:Nat->AV}{a:Act}
theorem aV.move(h:aV w0 M S0 N S φ F a w){x:Operand}{K:AV->Prop}(c:bp F x K):∃av,K av/\cu w S F (tvs a) NO av (a.eval x):=by
 have b:=h.ev x;cases x with
 | tmp t=>
  simp only[bp]at c;simp only[lY,QH]at b;show ∃av,K av/\cu w S F (tvs a) NO av (tvs a t)
  replace b:cu w S F (tvs a) (φ t) (F t) (tvs a t):=b;cases d:F t with
  | F k e=>
   rw[d]at c b;obtain⟨r,Y,u,y,A,l,p⟩:=b;cases k with
   | box=>
    obtain⟨g,o,n,-⟩:=l;exact⟨_,c,.box,e,e,0,g,o,d,rfl,by rw[n];rfl,n⟩
   | one=>
    simp only at c;cases i:aW e with
    | true=>rw[i]at c;exact⟨_,c,NO,NO,λ_ _ h=>h,λ_ _ h=>h,λ_ _ h=>h.elim,l,p.bare i⟩
    | false=>
     rw[i]at c;exact⟨_,c,.one,e,e,0,d,rfl,by simp[show e.length=1 from l],rfl⟩
   | agg=>
    simp only at c;cases i:aW e with
    | true=>rw[i]at c;exact⟨_,c,NO,NO,λ_ _ h=>h,λ_ _ h=>h,λ_ _ h=>h.elim,l,p.bare i⟩
    | false=>
     rw[i]at c;refine⟨_,c,.agg,e,e,0,d,rfl,by simp,?_⟩;obtain⟨arr,n,q⟩:=l;rw[n,mB,q];refine iP λj B=>?_
     show _=cb w .agg _ (0+j)
     grind [B9]
   | tup C=>
    simp only at c;cases i:aW e with
    | true=>rw[i]at c;exact⟨_,c,NO,NO,λ_ _ h=>h,λ_ _ h=>h,λ_ _ h=>h.elim,l,p.bare i⟩
    | false=>grind
  | dead=>rw[d]at c;exact⟨_,c,trivial⟩
  | ref=>rw[d]at c b;exact⟨_,c,b⟩
  | c3=>rw[d]at c b;exact⟨_,c,b⟩
  | iref=>rw[d]at c b;exact⟨_,c,b⟩
  | fn=>rw[d]at c b;exact⟨_,c,b⟩
  | fv=>rw[d]at c b;exact⟨_,c,b⟩
 | const v=>exact⟨_,c,b⟩
 | global g=>exact⟨_,c,b⟩
 | func f=>exact⟨_,c,b⟩
def xL.same{o:Oper}{av:AV}{v:Value}(h:(execOp a.eval o).run P w=.ok (.value v) w)(b:cu w S F (tvs a) NO av v):xL P o a w (kD w S F a av):=
 .value h ⟨CV _ _,NO,S,λ_ _ h=>h.elim,λ_ _ h=>h,λ_ _ h=>.inl h,λ_ _ h=>h.elim,b⟩
def pc(i:TI):Option Nat:=bif i.agg then some i.size else none
def Ph(F:Nat->AV)(i:TI)(t off:Nat)(st:cq)(K:AV->Prop):Prop:=
 tW F t off st λr j=>bif Nat.beq (bt r j i.size).length i.size then(bif aW (bt r j i.size) then K (.F (kC (pc i)) (bt r j i.size)) else K (.c3 t off st (pc i))) else False
def te(TE:Nat->Option TI)(F:Nat->AV)(T:Nat)(x:Operand)(K:AV->Prop):Prop:=
 match TE T with
 | none=>False
 | some i=>bif i.agg || Nat.beq i.size 1 then(match x with
   | .tmp t=>match F t with
     | .F .box _=>Ph F i t 0 [] K
     | .ref t a st=>Ph F i t a st K
     | .iref r a=>bif Nat.beq (bt r a i.size).length i.size then K (.F (kC (pc i)) (bt r a i.size)) else False
     | _=>False
   | _=>False) else False
theorem gp(g o j:Nat):(⟨g,o,none⟩ : Addr).add j = ⟨g,o+j,none⟩:=by grind [Go.Addr.add]
theorem gg.size{t:Nat}{i:TI}(h:gg P t i):(P.info? t).map (·.size)=some i.size:=by
 have:=h.1;cases a:P.info? t with
 | none=>grind
 | some q=>grind
def gg.isAgg{t:Nat}{i:TI}(h:gg P t i):(isAgg t).run P w=.ok i.agg w:=by
 have:=h.2.2;unfold Go.isAgg TI.agg;cases a:i.kind with
 | st flds=>rw[a]at this;obtain⟨f,b,-⟩:=this;simp[run_underlying b]
 | sl e=>rw[a]at this;simp[run_underlying this]
 | sc d=>rw[a]at this;obtain⟨b,c⟩:=this;simp[run_underlying b];cases d<;>first|exact c.elim|rfl
 | mp k e z=>rw[a]at this;simp[run_underlying this.1]
theorem jo{t n:Nat}(h:(P.info? t).map (·.size)=some n):(sizeOf t).run P w=.ok n w:=by
 cases a:P.info? t with
 | none=>grind
 | some q=>rw[a]at h;simp only[V4,W0]at h;simp[sizeOf,typeInfo,a,h]
theorem wl{T:Nat}{i:TI}(c:gg P T i)(e:(i.agg || Nat.beq i.size 1)=true){g o:Nat}{u:Nat->Value}(f:∀d,d<i.size->cel w g (o+d)=some (u d)) :
  (Instr.loadAt T (.pointer (some ⟨g,o,none⟩))).run P w=.ok (mkv (pc i) u) w:=by
 have b:=c.isAgg (w:=w);unfold Instr.loadAt Instr.sureAddr loadVar pc;cases a:i.agg with
 | true=>
  rw[a]at b;have:=run_loadCells (P:=P) w ⟨g,o,none⟩ i.size u (λj h=>by grind [gp]);simp[b,jo c.size,this,mkv]
 | false=>
  rw[a]at b e;have k:i.size=1:=by simpa using e
  have:=f 0 ω;simp only[Nat.add_zero]at this;simp[b,this,mkv]
theorem yI{r:List C}{j n:Nat}(h:Nat.beq (bt r j n).length n=true):n=0\/j+n<=r.length:=by grind [V1,bt]
theorem o9{i:TI}(a:(i.agg || Nat.beq i.size 1)=true):(pc i).getD 1=i.size:=by
 unfold pc;cases h:i.agg with
 | true=>rfl
 | false=>simp_all
theorem aV.ld(h:aV w0 M S0 N S φ F a w){T:Nat}{i:TI}(G:gg P T i)(H:(i.agg || Nat.beq i.size 1)=true){t off:Nat}{st:cq}{k:Kd}{cs r:List C}{j g o:Nat}{K:AV->Prop}(A:F t=.F k cs)(B:bY cs off st=some (r,j))(D:plc w (cb w k (tvs a t)) (nw k (tvs a t)) off st=some (g,o))(J:Ph F i t off st K) :
  ∃av v,K av/\(Instr.loadAt T (.pointer (some ⟨g,o,none⟩))).run P w=.ok v w/\cu w S F (tvs a) NO av v:=by
 obtain⟨Y,u,U,p,L,f⟩:=h.place A B;obtain⟨V,O,W,X,l,n,y⟩:=oJ J;rw[A]at l;simp only[AV.F.injEq]at l;obtain⟨rfl,rfl⟩:=l;rw[B]at n;simp only[W0,Prod.mk.injEq]at n;obtain⟨rfl,rfl⟩:=n;cases c:Nat.beq (bt r j i.size).length i.size with
 | false=>grind
 | true=>
  rw[c]at y;simp only[cond_true]at y;obtain⟨b,rfl,Z⟩:=f g o D;have Q:=yI c;have q:=wl (w:=w) G H (g:=g) (o:=b+j) (u:=λd=>u (j+d)) ψ;have E:bu w S Y (pc i) (bt r j i.size) (mkv (pc i) λd=>u (j+d)):=⟨by grind [o9,V1],_,rfl,p.part j _⟩
  cases R:aW (bt r j i.size) with
  | true=>
   grind [bu.slot,bu.bare]
  | false=>
   rw[R]at y;have h0:i.size≠0:=λe=>by grind [bt,aW]
   refine⟨_,_,y,q,k,cs,r,j,A,B,by grind [o9],?_⟩
   grind [iP]
theorem aV.load(h:aV w0 M S0 N S φ F a w){TE:Nat->Option TI}(p:∀t i,TE t=some i->gg P t i){T:Nat}{x:Operand}{K:AV->Prop}(c:te TE F T x K) :
  ∃av v,K av/\(Instr.loadAt T (a.eval x)).run P w=.ok v w/\cu w S F (tvs a) NO av v:=by
 unfold te at c;cases C:TE T with
 | none=>grind
 | some i=>
  rw[C]at c;have D:=p T i C;simp only at c;cases q:(i.agg || Nat.beq i.size 1) with
  | false=>grind
  | true=>
   rw[q]at c;cases x with
   | tmp t=>
    have l:=h.slot t;show ∃av v,K av/\(Instr.loadAt T (tvs a t)).run P w=.ok v w/\_
    simp only[cond_true]at c;cases n:F t with
    | F k H=>
     rw[n]at c l;cases k with
     | box=>
      obtain⟨L,Y,y,E,A,⟨g,o,G,-⟩,O⟩:=l;have B:plc w (cb w .box (tvs a t)) (nw .box (tvs a t)) 0 []=some (g,o):=by rw[G];rfl
      rw[G];exact h.ld D q n rfl B c
     | _=>exact c.elim
    | ref Q e R=>
     rw[n]at c l;obtain⟨k,H,r,j,g,o,y,E,A,U⟩:=l
     grind [aV.ld]
    | iref r e=>
     rw[n]at c l;simp only at c;obtain⟨g,b,u,y,E,A⟩:=l;cases f:Nat.beq (bt r e i.size).length i.size with
     | false=>grind
     | true=>
      rw[f]at c;simp only[cond_true]at c;have J:=yI f;rw[y];refine⟨_,_,c,wl D q (u:=λd=>u (e+d)) ψ,?_⟩;exact bu.slot ⟨by grind [o9,V1],_,rfl,A.part e _⟩
    | dead=>grind
    | c3=>grind
    | fn=>grind
    | fv=>grind
   | _=>exact c.elim
theorem aV.more(h:aV w0 M S0 N S φ F a w){i:ab}(h1:∀b o,S b o->i b o)(j:∀b o,i b o->S b o\/(b<w1.heap.size/\w.heap.size<=b))(f:b8 NO w w1):aV w0 M S0 N i φ F a w1:=by
 have d:∀X:ab,(∀b o,X b o->b<w.heap.size)->bh X w w1:=λX k b o c=>⟨f.cel b o (k b o c) (λh=>h),f.fro b o (k b o c) (λh=>h)⟩
 have g:∀t,bh (φ t) w w1:=λt=>d _ λb o c=>(h.ex t b o c).1
 refine⟨λt=>(h.slot t).keep (φ:=φ) (λt _ _ _=>h.slot t) ψ (g t) (d _ λb o c=>(h.sup b o c).1) (λ_ _ h=>h) h1,h.dis,λt b o c l=>?_,λt b o c=>⟨O3 (h.ex t b o c).1 f.size,(h.ex t b o c).2⟩,
   λb o c=>h1 b o (h.sub b o c),λb o c=>?_,h.old.trans f (λ_ _ h=>h.elim),h.size,h.defers,h.par.1,h.par.2.keep f (λ_ _ h=>h.elim) h1⟩
 ·rcases j b o l with e|e
  ·exact h.disS t b o c e
  have:=(h.ex t b o c).1;omega
 rcases j b o c with e|e
 ·exact⟨O3 (h.sup b o e).1 f.size,(h.sup b o e).2⟩
 exact⟨e.1,.inr (.inl (R4 h.old.size e.2))⟩
theorem aV.put_newR(h:aV w0 M S0 N S φ F a w){d:Nat}(i:N.free d=true){av:AV}{v:Value}(j:kD w S F a av v w1)(c:av.uses d=false):St w0 M S0 N (put F d av) (a.put (some d) v) w1:=by
 obtain⟨k,X,l,g,n,p,q,r⟩:=j;have u:=h.more n p k;exact⟨l,_,u.put_gen (CV _ _) i r c (λb o e=>⟨(g b o e).1,.inl (R4 h.old.size (g b o e).2)⟩)
   (λt _ b o e f=>by have:=(h.ex t b o f).1;grind) q⟩
end
def jP:cq->Nat->cq
 | [],_=>[]
 | [(i,k,j)],o=>[(i,k,j+o)]
 | s::a::st,o=>s::jP (a::st) o
def p7(off:Nat):cq->Nat->Nat
 | [],o=>off+o
 | _::_,_=>off
theorem zc:∀(st:cq){cs:List C}{off:Nat}{r:List C}{j:Nat}(o:Nat),bY cs off st=some (r,j)->bY cs (p7 off st o) (jP st o)=some (r,j+o)
 | [],cs,off,r,j,o,h=>by
  simp only[bY,W0,Prod.mk.injEq]at h;obtain⟨rfl,rfl⟩:=h
  rfl
 | [(i,k,a)],cs,off,r,j,o,h=>by
  simp only[bY]at h
  grind [p7,jP,bY]
 | s::b::st,cs,off,r,j,o,h=>by
  obtain⟨i,k,a⟩:=s;rw[bY]at h;simp only[p7,jP];rw[bY];split at h
  ·split at h
   ·split at h
    ·rename_i c
     rw[CB c];have:=zc (b::st) o h
     grind [p7]
    cases h
   cases h
  cases h
theorem FW{w:World} : ∀(st:cq){u:Nat->Value}{top:Option (Nat × Nat)}{off g x:Nat}(o:Nat),plc w u top off st=some (g,x)->plc w u top (p7 off st o) (jP st o)=some (g,x+o)
 | [],u,top,off,g,x,o,h=>by
  cases top with
  | none=>cases h
  | some p=>
   grind [plc,p7,jP]
 | [(i,k,a)],u,top,off,g,x,o,h=>by grind [plc,p7,jP]
 | s::b::st,u,top,off,g,x,o,h=>by
  obtain⟨i,k,a⟩:=s;rw[plc]at h;simp only[p7,jP];rw[plc];split at h
  ·have:=FW (b::st) o h
   grind [p7]
  cases h
def ny(F:Nat->AV)(x:Operand)(o:Nat)(K:AV->Prop):Prop:=
 match x with
 | .tmp t=>match F t with
  | .F .box _=>K (.ref t o [])
  | .ref t a b=>K (.ref t (p7 a b o) (jP b o))
  | .iref r a=>K (.iref r (a+o))
  | _=>False
 | _=>False
def gK(TE:Nat->Option TI)(F:Nat->AV)(T:Nat)(x:Operand)(f:Nat)(K:AV->Prop):Prop:=
 match TE T with
 | some ⟨_,_,_,.st flds⟩=>match flds[f]? with
  | some (o,a)=>match TE a with
   | some b=>bif Nat.beq b.size 0 then False else ny F x o K
   | none=>False
  | none=>False
 | _=>False
def pS(st:cq)(s:Nat × Nat × Nat):cq:=st++[s]
theorem wq:∀(st:cq){cs:List C}{off:Nat}{r:List C}{j i k:Nat}{o:du}{rows:List (List C)}{a:List C},bY cs off st=some (r,j)->r[j]? = some (.s o rows)->rows[i]? = some a->a.length=k->
  bY cs off (pS st (i,k,0))=some (a,0)
 | [],cs,off,r,j,i,k,o,rows,a,h,b,c,d=>by grind [bY,pS]
 | (f,g,l)::st,cs,off,r,j,i,k,o,rows,a,h,b,c,d=>by
  simp only[bY]at h;simp only[pS,List.cons_append,bY];split at h
  ·split at h
   ·split at h
    ·rename_i e
     rw[CB e];exact wq st h b c d
    cases h
   cases h
  cases h
theorem Bm{w:World} : ∀(st:cq){u:Nat->Value}{top:Option (Nat × Nat)}{off i k g b n cap:Nat},cellv w u off st 0=.slice (some ⟨g,b,none⟩) n cap->plc w u top off (pS st (i,k,0))=some (g,b+i*k)
 | [],u,top,off,i,k,g,b,n,cap,h=>by grind [cellv,pS,plc]
 | (a,c,d)::st,u,top,off,i,k,g,b,n,cap,h=>by
  simp only[cellv]at h;simp only[pS,List.cons_append,plc];split at h
  ·exact Bm st h
  cases h
def En(F:Nat->AV)(x:Operand)(K:Value->Prop):Prop:=gM F (lY F x) λa b=>match a,b with|none,[.v z]=>K z|_,_=>False
def E6(size:Nat)(t off:Nat)(st:cq)(c:C)(i:Int)(K:AV->Prop):Prop:=
 match c with
 | .s o rows=>Ix rows i λr=>bif Nat.beq r.length size then(bif o.mine then K (.ref t off (pS st (i.toNat,size,0))) else K (.iref r 0)) else False
 | _=>False
def ma(F:Nat->AV)(size:Nat)(x:Operand)(i:Int)(K:AV->Prop):Prop:=
 match x with
 | .tmp t=>match F t with
  | .F .one [c]=>E6 size t 0 [] c i K
  | .c3 t off st none=>tW F t off st λr j=>match r[j]? with|some c=>E6 size t off st c i K|none=>False
  | _=>False
 | _=>False
def gH(TE:Nat->Option TI)(F:Nat->AV)(T:Nat)(x y:Operand)(K:AV->Prop):Prop:=
 match TE T with
 | some ⟨_,_,_,.sl e⟩=>match TE e with
  | some a=>En F y λv=>match v with
   | .int _ i=>ma F a.size x i K
   | _=>False
  | none=>False
 | _=>False
section
variable{P:Program}{w0 w w1:World}{M S0 S:ab}{N:dU}{φ:Nat->ab}{F:Nat->AV}{a:Act}
theorem aV.scalar(h:aV w0 M S0 N S φ F a w){x:Operand}{K:Value->Prop}(d:En F x K):K (a.eval x)/\(a.eval x).oneCell'=true:=by
 obtain⟨g,i,Y,b,⟨l,u,j,f,k,-⟩,-⟩:=h.val (h.ev x) d
 match g,i,b with
 | none,[.v z],b=>
  have c:=k 0 _ rfl;have e:u 0=z/\z.oneCell'=true:=by
   generalize u 0=y at c;cases c
   grind
  have:a.eval x=z:=by rw[j];exact e.1
  rw[this];exact⟨b,e.2⟩
theorem aV.fieldAddr(h:aV w0 M S0 N S φ F a w){TE:Nat->Option TI}(p:∀t i,TE t=some i->gg P t i){T:Nat}{x:Operand}{f:Nat}{K:AV->Prop}(c:gK TE F T x f K) :
  ∃av v,K av/\(Instr.fieldAt T (a.eval x) f).run P w=.ok v w/\cu w S F (tvs a) NO av v:=by
 unfold gK at c;split at c
 case h_2=>exact c.elim
 rename_i Z by_ z flds O;split at c
 case h_2=>exact c.elim
 rename_i o Q hf;split at c
 case h_2=>exact c.elim
 rename_i J E;cases R:Nat.beq J.size 0 with
 | true=>grind
 | false=>
  rw[R]at c;simp only[cond_false]at c;unfold ny at c;obtain⟨U,V,W⟩:=(p _ _ O).2.2;have l:∃d,U[f]? = some d/\d.offset=o/\d.type=Q:=ψ
  obtain⟨d,l,rfl,rfl⟩:=l;have G:J.size≠0:=λe=>by simp_all
  have H:=jo (w:=w) (p _ _ E).size;have run:∀g b,(Instr.fieldAt T (.pointer (some ⟨g,b,none⟩)) f).run P w=.ok (.pointer (some ⟨g,b+d.offset,none⟩)) w:=λg b=>by
   simp[Instr.fieldAt,run_underlying V,l,Instr.sureAddr,fieldPlace,H,G,gp]
  cases x with
  | tmp t=>
   have n:=h.slot t;show ∃av v,K av/\(Instr.fieldAt T (tvs a t) f).run P w=.ok v w/\_
   simp only at c;cases y:F t with
   | F k A=>
    rw[y]at c n;cases k with
    | box=>
     obtain⟨X1,Y,B,C,D,⟨g,b,X,-⟩,h5⟩:=n;exact⟨_,_,c,ψ,.box,A,A,d.offset,g,b+d.offset,y,rfl,by rw[X];rfl,rfl⟩
    | _=>exact c.elim
   | ref t' q L=>
    rw[y]at c n;obtain⟨k,A,r,j,g,b,B,C,D,h4⟩:=n;exact⟨_,_,c,ψ,k,A,r,j+d.offset,g,b+d.offset,B,zc L _ C,FW L _ D,rfl⟩
   | iref r q=>
    rw[y]at c n;obtain⟨g,b,u,B,C,D⟩:=n;exact⟨_,_,c,by rw[B];exact run g (b+q),g,b,u,by rw[Nat.add_assoc],C,D⟩
   | dead=>grind
   | c3=>grind
   | fn=>grind
   | fv=>grind
  | _=>exact c.elim
theorem df.rowImm{w:World}{S F:ab}{rows:List (List C)}{v:Value}(h:df w S F (.s .U rows) v){i:Nat}{r:List C}(A:rows[i]? = some r) :
  ∃g b n cap u,v=.slice (some ⟨g,b,none⟩) n cap/\i<n/\(∀d,d<r.length->S g (b+i*r.length+d)/\cel w g (b+i*r.length+d)=some (u d))/\cx w S NO r u:=by
 generalize e:C.s .U rows=c at h
 induction h with
 | v=>cases e
 | x=>cases e
 | z=>cases e
 | m=>cases e
 | it=>cases e
 | nil F o a l=>grind
 | own F o g k n cap rows u f l=>cases e;exact l.elim
 | suf F o g j k n cap rows u f l=>cases e;exact l.elim
 | U F g j k n cap p u B D t E y _=>
  cases e;have G:r.length=k:=ψ
  have q:i<n:=ψ
  refine⟨g,j,n,cap,λd=>u (i*k+d),rfl,q,λd H=>?_,λ_=>NO,ψ,λ_ _ _ _ h=>h,λ_ _ _ _ _ _ _ h=>h.elim⟩
  grind [d4]
theorem t9{T e sz g b n cap:Nat}{i:Int}{k:IntKind}(c:P.underlying T=some (.slice e))(d:(P.info? e).map (·.size)=some sz)(f:0<=i)(h:i.toNat<n) :
  (Instr.indexAt T (.slice (some ⟨g,b,none⟩) n cap) (.int k i)).run P w=.ok (.pointer (some ⟨g,b+i.toNat*sz,none⟩)) w:=by
 have a:i<n:=ω
 simp[Instr.indexAt,run_underlying c,asIntOf,f,a,jo d,gp]
theorem aV.indexAddr(h:aV w0 M S0 N S φ F a w){TE:Nat->Option TI}(V:∀t i,TE t=some i->gg P t i){T:Nat}{x y:Operand}{K:AV->Prop}(O:gH TE F T x y K) :
  ∃av v,K av/\(Instr.indexAt T (a.eval x) (a.eval y)).run P w=.ok v w/\cu w S F (tvs a) NO av v:=by
 unfold gH at O;split at O
 case h_2=>exact O.elim
 rename_i sz by_ z e hT;split at O
 case h_2=>exact O.elim
 rename_i W hei;obtain⟨l,-⟩:=h.scalar O;generalize a.eval y=vy at l;have hu:P.underlying T=some (.slice e):=(V _ _ hT).2.2;have hsz:=(V _ _ hei).size;cases vy with
 | int k i=>
  have go:∀(t p:Nat)(q:cq)(A:Kd)(B r:List C)(j:Nat)(c:C)(v:Value)(Y:ab),F t=.F A B->bY B p q=some (r,j)->r[j]? = some c->v=cellv w (cb w A (tvs a t)) p q 0->df w S Y c v->E6 W.size t p q c i K->
    ∃av v',K av/\(Instr.indexAt T v (.int k i)).run P w=.ok v' w/\cu w S F (tvs a) NO av v':=by
   intro t p q A B r j c v Y E X hj hv D Z;cases c with
   | s o rows=>
    obtain⟨h0,r',G,Q⟩:=Ix.out Z;cases hl:Nat.beq r'.length W.size with
    | false=>grind
    | true=>
     rw[hl]at Q;simp only[cond_true]at Q;have hl':=V1 hl;cases R:o.mine with
     | true=>
      rw[R]at Q;obtain⟨g,b,n,cap,hv',hin,-⟩:=D.row G;refine⟨_,_,Q,by grind [t9],A,B,r',0,g,b+i.toNat*W.size,E,wq q X hj G hl',Bm q (by rw[<-hv,hv']),rfl⟩
     | false=>
      rw[R]at Q;have:o=.U:=by cases o with|U=>rfl|own=>cases R|tag v=>cases R|suf=>cases R|tagS v=>cases R
      subst this;obtain⟨g,b,n,cap,u,hv',hin,hcell,hrow⟩:=D.rowImm G;refine⟨_,_,Q,by grind [t9],g,b+i.toNat*W.size,u,rfl,λd hd=>?_,hrow⟩
      grind
   | _=>exact Z.elim
  simp only at l;unfold ma at l;cases x with
  | tmp t=>
   have U:=h.slot t;show ∃av v,K av/\(Instr.indexAt T (tvs a t) (.int k i)).run P w=.ok v w/\_
   simp only at l;cases E:F t with
   | F A B=>
    rw[E]at l U;cases A with
    | one=>
     match B,l,U,E with
     | [c],l,U,E=>
      obtain⟨X1,Y,h1,h2,h3,h4,f,h5,-⟩:=U;exact go t 0 [] .one [c] [c] 0 c (tvs a t) _ E rfl rfl rfl (h5 0 c rfl) l
    | _=>exact l.elim
   | c3 t' p q ag=>
    rw[E]at l U;cases ag with
    | none=>
     replace l:tW F t' p q λr j=>match r[j]? with|some c=>E6 W.size t' p q c i K|none=>False:=l
     obtain⟨A,B,r,j,H,X,l⟩:=oJ l;obtain⟨k1,cs1,r1,j1,J,L,hlen,hv⟩:=U;rw[H]at J;simp only[AV.F.injEq]at J;obtain⟨rfl,rfl⟩:=J;rw[X]at L;simp only[W0,Prod.mk.injEq]at L;obtain⟨rfl,rfl⟩:=L;obtain⟨Y,u,hY,⟨f,hf,-⟩,hcv,-⟩:=h.place H X;cases hc:r[j]? with
     | none=>grind
     | some c=>
      rw[hc]at l;refine go t' p q A B r j c _ (f j) H X hc hv ?_ l;rw[hv];show df w S (f j) c (cellv w _ p q 0)
      grind
    | some n=>exact l.elim
   | dead=>grind
   | ref=>grind
   | iref=>grind
   | fn=>grind
   | fv=>grind
  | _=>exact l.elim
 | _=>exact l.elim
def gw:IntKind->IntKind->Bool
 | .i64,.i64=>true
 | .u8,.u8=>true
 | .u64,.u64=>true
 | .u32,.u32=>true
 | .i32,.i32=>true
 | .u16,.u16=>true
 | .i16,.i16=>true
 | .i8,.i8=>true
 | _,_=>false
theorem LT{k a:IntKind}(h:gw k a=true):k=a:=by cases k<;>cases a<;>first|rfl|cases h
def Au(c:BinOp)(x y:Value)(K:Value->Prop):Prop:=
 match x,y with
 | .int k a,.int k' b=>
  match c with
  | .add=>bif gw k k' then Wr k (a+b) λz=>K (.int k z) else False
  | .sub=>bif gw k k' then Wr k (a - b) λz=>K (.int k z) else False
  | .mul=>bif gw k k' then Wr k (a*b) λz=>K (.int k z) else False
  | .quo=>bif gw k k' then Cd (b≠0) (Wr k (a.tdiv b) λz=>K (.int k z)) else False
  | .rem=>bif gw k k' then Cd (b≠0) (Ev (a.tmod b) λz=>K (.int k z)) else False
  | .and=>bif gw k k' then Wr k (BitVec.ofInt k.bits a &&& BitVec.ofInt k.bits b).toNat λz=>K (.int k z) else False
  | .or=>bif gw k k' then Wr k (BitVec.ofInt k.bits a ||| BitVec.ofInt k.bits b).toNat λz=>K (.int k z) else False
  | .xor=>bif gw k k' then Wr k (BitVec.ofInt k.bits a ^^^ BitVec.ofInt k.bits b).toNat λz=>K (.int k z) else False
  | .andNot=>bif gw k k' then Wr k (BitVec.ofInt k.bits a &&& ~~~BitVec.ofInt k.bits b).toNat λz=>K (.int k z) else False
  | .shl=>Cd (0<=b) (Wr k (a*2 ^ (min b.toNat k.bits)) λz=>K (.int k z))
  | .shr=>Cd (0<=b) (Ev (a.fdiv (2 ^ (min b.toNat k.bits))) λz=>K (.int k z))
  | .eql=>bif gw k k' then K (.bool (a == b)) else False
  | .neq=>bif gw k k' then K (.bool (a != b)) else False
  | .lss=>bif gw k k' then K (.bool (decide (a<b))) else False
  | .leq=>bif gw k k' then K (.bool (decide (a<=b))) else False
  | .gtr=>bif gw k k' then K (.bool (decide (a > b))) else False
  | .geq=>bif gw k k' then K (.bool (decide (a≥b))) else False
 | _,_=>False
theorem J6{f:BinOp}{T:Nat}{g i:Value}{K:Value->Prop}{x y:Operand}(c:Au f g i K):∃v,K v/\v.oneCell'=true/\(do eqGuard f T x y g i;binOp f T g i:Sem Value).run P w=.ok v w:=by
 cases g<;>cases i<;>try exact c.elim
 rename_i k a j b;have l:(eqGuard f T x y (.int k a) (.int j b)).run P w=.ok () w:=by
  unfold eqGuard;split<;>rfl
 rw[Sem.run_bind,l];have d:∀{X:Prop},(bif gw k j then X else False)->k=j/\X:=fun {X} h=>by grind [LT]
 cases f<;>simp only[Au]at c
 case add=>obtain⟨rfl,h⟩:=d c;obtain⟨z,rfl,h⟩:=h.out;exact⟨_,h,rfl,by simp[binOp,Op.intArith]⟩
 case sub=>obtain⟨rfl,h⟩:=d c;obtain⟨z,rfl,h⟩:=h.out;exact⟨_,h,rfl,by simp[binOp,Op.intArith]⟩
 case mul=>obtain⟨rfl,h⟩:=d c;obtain⟨z,rfl,h⟩:=h.out;exact⟨_,h,rfl,by simp[binOp,Op.intArith]⟩
 case quo=>obtain⟨rfl,h⟩:=d c;obtain⟨e,h⟩:=h.out;obtain⟨z,rfl,h⟩:=h.out;exact⟨_,h,rfl,by simp[binOp,Op.intDiv,e]⟩
 case rem=>obtain⟨rfl,h⟩:=d c;obtain⟨e,h⟩:=h.out;obtain⟨z,rfl,h⟩:=h.out;exact⟨_,h,rfl,by simp[binOp,Op.intDiv,e]⟩
 case and=>obtain⟨rfl,h⟩:=d c;obtain⟨z,rfl,h⟩:=h.out;exact⟨_,h,rfl,by simp[binOp,Op.intBits]⟩
 case or=>obtain⟨rfl,h⟩:=d c;obtain⟨z,rfl,h⟩:=h.out;exact⟨_,h,rfl,by simp[binOp,Op.intBits]⟩
 case xor=>obtain⟨rfl,h⟩:=d c;obtain⟨z,rfl,h⟩:=h.out;exact⟨_,h,rfl,by simp[binOp,Op.intBits]⟩
 case andNot=>obtain⟨rfl,h⟩:=d c;obtain⟨z,rfl,h⟩:=h.out;exact⟨_,h,rfl,by simp[binOp,Op.intBits]⟩
 case shl=>obtain⟨e,h⟩:=c.out;obtain⟨z,rfl,h⟩:=h.out;exact⟨_,h,rfl,by simp[binOp,Op.shift,Int.not_lt.2 e]⟩
 case shr=>obtain⟨e,h⟩:=c.out;obtain⟨z,rfl,h⟩:=h.out;exact⟨_,h,rfl,by simp[binOp,Op.shift,Int.not_lt.2 e]⟩
 case eql=>obtain⟨rfl,h⟩:=d c;exact⟨_,h,rfl,by simp[binOp,Op.intCmp]⟩
 case neq=>obtain⟨rfl,h⟩:=d c;exact⟨_,h,rfl,by simp[binOp,Op.intCmp]⟩
 case lss=>obtain⟨rfl,h⟩:=d c;exact⟨_,h,rfl,by simp[binOp,Op.intCmp]⟩
 case leq=>obtain⟨rfl,h⟩:=d c;exact⟨_,h,rfl,by simp[binOp,Op.intCmp]⟩
 case gtr=>obtain⟨rfl,h⟩:=d c;exact⟨_,h,rfl,by simp[binOp,Op.intCmp]⟩
 case geq=>obtain⟨rfl,h⟩:=d c;exact⟨_,h,rfl,by simp[binOp,Op.intCmp]⟩
theorem jb{v:Value}(h:v.oneCell'=true):cu w S F (tvs a) NO (.F .one [.v v]) v:=
 ⟨NO,NO,λ_ _ h=>h,λ_ _ h=>h,λ_ _ _ h=>h,rfl,λ_=>NO,λj c b=>by cases j with|zero=>simp at b;subst b;exact .v _ _ h|succ j=>simp at b,λ_ _ _ _ h=>h,ψ⟩
end
def uW(TE:Nat->Option TI)(T:Nat)(K:AV->Prop):Prop:=
 match TE T with
 | some i=>K (.F .box i.zero)
 | none=>False
def M9(F:Nat->AV)(x:Operand)(K:AV->Prop):Prop:=
 gM F (lY F x) λ_ a=>bif aW a then K (.F .box a) else False
section
variable{P:Program}{w0 w w1:World}{M S0 S:ab}{N:dU}{φ:Nat->ab}{F:Nat->AV}{a:Act}
theorem iZ(w:World)(cells:Array Value)(e:TypeId)(j:Nat):cel (w.alloc (.cells cells e)) w.heap.size j=cells[j]?:=
 cell_of_row (w.alloc (.cells cells e)) w.heap.size j cells e (0,0) (heap_alloc_new w _)
theorem iV(w:World)(cells:Array Value)(e:TypeId)(j:Nat):fro (w.alloc (.cells cells e)) w.heap.size j=NF:=by grind [Go.heap_alloc_new,mp,Go.World.frozen?]
def cT(w:World)(o:Obj):b8 NO w (w.alloc o):=b8.of_below ((Below.refl _ _).alloc (U2 _) o) NO
theorem kj(w:World)(o:Obj):(w.alloc o).heap.size=w.heap.size+1:=by simp_all
def gJ{X:ab}(a:b8 NO w w1)(c:∀b o,X b o->b<w.heap.size):bh X w w1:=λb o d=>⟨a.cel b o (c b o d) (λh=>h),a.fro b o (c b o d) (λh=>h)⟩
theorem aV.newBox(h:aV w0 M S0 N S φ F a w){cells:Array Value}{e:TypeId}{cs:List C}{u:Nat->Value}(i:cs.length=cells.size)(k:∀j,j<cs.length->cells[j]? = some (u j))(d:cx w S NO cs u) :
  kD w S F a (.F .box cs) (.pointer (some ⟨w.heap.size,0,none⟩)) (w.alloc (.cells cells e)):=by
 refine⟨cT w _,λb o=>b=w.heap.size/\o<cs.length,S,λb o c=>⟨by simp_all,ω⟩,λ_ _ h=>h,λ_ _ h=>.inl h,λb o c f=>by have:=(h.sup b o f).1;omega,?_⟩;refine⟨λb o=>b=w.heap.size/\o<cs.length,NO,λ_ _ h=>h,λ_ _ h=>h.elim,λ_ _ _ h=>h,⟨_,_,rfl,λj g=>⟨⟨rfl,ω⟩,?_,?_⟩⟩,?_⟩
 ·simp_all
 ·grind [iV]
 refine(d.keep (gJ (cT w _) λb o c=>(h.sup b o c).1) (λ_ _ h=>h.elim)).congr λj g=>?_
 grind [iZ,cb]
theorem rQ:∀{cs:List C},jD cs->∀c∈cs,dn c=false
 | [],_,c,h=>by simp at h
 | b::cs,h,c,d=>by
  rcases List.mem_cons.1 d with rfl|e
  ·cases c with|s o a=>exact h.elim|m f=>exact h.elim|it=>exact h.elim|_=>rfl
  exact rQ (cs:=cs) (by cases b with|v x=>exact h.2|z=>exact h|x=>exact h.elim|s o a=>exact h.elim|m f=>exact h.elim|it=>exact h.elim) c e
theorem o8:∀{cs:List C},jD cs->∀(S:ab),cx w S NO cs (λj=>(cs.map cval).getD j undef)
 | [],_,S=>cx.nil _ _ _ _
 | c::cs,h,S=>by
  refine⟨λ_=>NO,λj g b=>?_,λ_ _ _ _ h=>h,λ_ _ _ _ _ _ _ h=>h.elim⟩;cases j with
  | zero=>
   simp only[List.getElem?_cons_zero,W0]at b;subst b;cases c with
   | v x=>exact .v _ x h.1
   | z=>exact .z _ none
   | x=>exact h.elim
   | s o a=>exact h.elim
   | m d=>exact h.elim
   | it=>exact h.elim
  | succ j=>
   have e:jD cs:=by cases c with|v x=>exact h.2|z=>exact h|x=>exact h.elim|s o a=>exact h.elim|m d=>exact h.elim|it=>exact h.elim
   obtain⟨f,i,-,-⟩:=o8 (cs:=cs) e S
   grind [rQ,df.bare]
theorem gg.zero{t:Nat}{i:TI}(h:gg P t i):∃z,(zeroValue t).run P w=.ok z w/\z.cells.toList=i.zero.map cval:=by
 have:=h.1;cases a:P.info? t with
 | none=>grind
 | some q=>
  rw[a]at this;simp only[V4,W0,Prod.mk.injEq]at this;cases b:q.zero with
  | none=>grind
  | some z=>rw[b]at this;exact⟨z,by simp[zeroValue,typeInfo,a,b],by simpa using this.1⟩
theorem aV.alloc(h:aV w0 M S0 N S φ F a w){TE:Nat->Option TI}(c:∀t i,TE t=some i->gg P t i){T:Nat}{K:AV->Prop}(b:uW TE T K) :
  ∃av v w1,K av/\(Instr.alloc T true (.tuple #[])).run P w=.ok v w1/\kD w S F a av v w1:=by
 unfold uW at b;split at b
 case h_2=>exact b.elim
 rename_i i f;have e:=c _ _ f;obtain⟨z,g,d⟩:=e.zero (w:=w);refine⟨_,_,w.alloc (.cells z.cells T),b,?_,h.newBox (u:=λj=>(i.zero.map cval).getD j undef) ?_ (λj k=>?_) (o8 e.2.1 S)⟩
 ·simp[Instr.alloc,g,newVar,newRow]
 ·have:=U0 List.length d;grind
 grind
theorem oT{ag:Option Nat}{u:Nat->Value}(h1:ag=none->(u 0).oneCell'=true):(mkv ag u).cells.toList=(List.range (ag.getD 1)).map u:=by
 cases ag with
 | none=>
  have:=h1 rfl;show(u 0).cells.toList=_;cases a:u 0<;>first|(rw[a]at this;cases this;done)|simp[Value.cells,a,List.range_succ]
 | some n=>grind [mkv,Go.Value.cells]
def bu.cells{Y:ab}{ag:Option Nat}{cs:List C}{v:Value}(h:bu w S Y ag cs v):∃u,v.cells.toList=(List.range cs.length).map u/\cx w S Y cs u:=by
 obtain⟨a,u,rfl,b⟩:=h;refine⟨u,?_,b⟩;rw[oT (λe=>by subst e;exact b.one (by simp at a;omega)),a]
theorem aV.box(h:aV w0 M S0 N S φ F a w){T:Nat}{x:Operand}{K:AV->Prop}(e:M9 F x K) :
  ∃av v w1,K av/\(Instr.box T (a.eval x)).run P w=.ok v w1/\kD w S F a av v w1:=by
 obtain⟨l,f,Y,b,g,-⟩:=h.val (h.ev x) e;cases c:aW f with
 | false=>grind
 | true=>
  rw[c]at b;obtain⟨u,d,i⟩:=g.cells;refine⟨_,_,w.alloc (.cells (a.eval x).cells T),b,by simp[Instr.box,newVar,newRow],h.newBox (u:=u) ?_ (λj k=>?_) (i.bare c)⟩
  ·have:=U0 List.length d;grind
  rw[<-Array.getElem?_toList,d];simp[k]
def Gh(F:Nat->AV)(c x y:Operand)(K:AV->Prop):Prop:=
 En F c λv=>match v with|.bool b=>Bf b (bp F x K) (bp F y K)|_=>False
theorem aV.pick(h:aV w0 M S0 N S φ F a w){c x y:Operand}{K:AV->Prop}(d:Gh F c x y K) :
  ∃av b,K av/\a.eval c=.bool b/\cu w S F (tvs a) NO av (if b then a.eval x else a.eval y):=by
 obtain⟨e,-⟩:=h.scalar d
 grind [aV.move,Bf.out]
def N3(a:UnOp)(x:Value)(K:Value->Prop):Prop:=
 match a,x with
 | .not,.bool b=>K (.bool !b)
 | .neg,.int k n=>Wr k (0 - n) λz=>K (.int k z)
 | _,_=>False
def MU{b:UnOp}{x:Value}{K:Value->Prop}(a:N3 b x K):∃v,K v/\v.oneCell'=true/\(Op.unary b x).run P w=.ok v w:=by
 unfold N3 at a;split at a
 ·exact⟨_,a,rfl,rfl⟩
 ·obtain⟨z,rfl,h⟩:=a.out;exact⟨_,h,rfl,rfl⟩
 exact a.elim
def FA(TE:Nat->Option TI)(F:Nat->AV)(T:Nat)(x:Operand)(K:AV->Prop):Prop:=
 match TE T with
 | some ⟨_,_,_,.sl _⟩=>gM F (lY F x) λa b=>match a,b with
  | none,[.s _ rows]=>Ln rows.length λn=>K (.F .one [.v (.int .i64 (n:Nat))])
  | none,[.z]=>K (.F .one [.v (.int .i64 0)])
  | _,_=>False
 | some ⟨_,_,_,.sc .string⟩=>En F x λv=>match v with
  | .string s=>Ln s.size λn=>K (.F .one [.v (.int .i64 (n:Nat))])
  | _=>False
 | _=>False
theorem df.slice{F:ab}{o:du}{rows:List (List C)}{v:Value}(h:df w S F (.s o rows) v):∃b cap,v=.slice b rows.length cap:=by
 generalize a:C.s o rows=c at h;cases h with
 | v=>cases a
 | x=>cases a
 | z=>cases a
 | m=>cases a
 | it=>cases a
 | nil=>grind
 | own=>grind
 | suf=>simp_all
 | U=>simp_all
def aV.len(h:aV w0 M S0 N S φ F a w){TE:Nat->Option TI}(c:∀t i,TE t=some i->gg P t i){T ty:Nat}{x:Operand}{K:AV->Prop}(d:FA TE F T x K) :
  ∃v,K (.F .one [.v v])/\v.oneCell'=true/\(Builtin.len_ #[T] ty #[a.eval x]).run P w=.ok v w:=by
 unfold FA at d;split at d
 ·rename_i k
  have g:=(c _ _ k).2.2;obtain⟨r,A,Y,e,⟨D,u,j,f,p,-⟩,-⟩:=h.val (h.ev x) d
  match r,A,e with
  | none,[.s o rows],e=>
   obtain⟨b,l,B⟩:=(p 0 _ rfl).slice;have:a.eval x=.slice b rows.length l:=j.trans B;rw[this];exact⟨_,Ln.out e,rfl,by simp[Builtin.len_,run_underlying g,goInt]⟩
  | none,[.z],e=>
   have q:=p 0 _ rfl;have:∃b,u 0=.slice b 0 0:=by
    generalize u 0=y at q;cases q;exact⟨_,rfl⟩
   obtain⟨b,C⟩:=this;have:a.eval x=.slice b 0 0:=j.trans C;rw[this];exact⟨_,e,rfl,by simp[Builtin.len_,run_underlying g,goInt]⟩
 ·rename_i k
  have g:=(c _ _ k).2.2.1;obtain⟨n,-⟩:=h.scalar d;cases j:a.eval x<;>rw[j]at n<;>try exact n.elim
  exact⟨_,Ln.out n,rfl,by simp[Builtin.len_,run_underlying g,goInt]⟩
 exact d.elim
end
def r9(t:Nat):AV->AV
 | .c3 t' off st ag=>bif Nat.beq t' t then .dead else .c3 t' off st ag
 | .ref t' off (s::st)=>bif Nat.beq t' t then .dead else .ref t' off (s::st)
 | .ref t' off []=>.ref t' off []
 | .F k cs=>.F k cs
 | .iref r off=>.iref r off
 | .fn f caps=>.fn f caps
 | .fv Ok=>.fv Ok
 | .dead=>.dead
def updH(F:Nat->AV)(t:Nat)(k:Kd)(cs:List C):Nat->AV:=λs=>bif Nat.beq s t then .F k cs else r9 t (F s)
def splice(cs:List C)(off:Nat)(xs:List C):List C:=cs.take off++xs++cs.drop (off+xs.length)
theorem iI{cs xs:List C}{off:Nat}(h:off+xs.length<=cs.length)(j:Nat):(splice cs off xs)[j]? = if off<=j/\j<off+xs.length then xs[j - off]? else cs[j]?:=by grind [C4,splice]
theorem cB{cs xs:List C}{off:Nat}(h:off+xs.length<=cs.length):(splice cs off xs).length=cs.length:=by grind [splice]
theorem ia(F:Nat->AV)(t:Nat)(k:Kd)(cs:List C):updH F t k cs t=.F k cs:=by simp[updH]
theorem fH(F:Nat->AV){t s:Nat}(k:Kd)(cs:List C)(h:s≠t):updH F t k cs s=r9 t (F s):=by grind [Nat.beq_eq,updH]
section
variable{P:Program}{w0 w w1:World}{M S0 S:ab}{N:dU}{φ:Nat->ab}{F:Nat->AV}{a:Act}
theorem aV.upd{t:Nat}(h:aV w0 M S0 N S φ F a w)(u:b8 (φ t) w w1){k:Kd}{cs n:List C}(T:F t=.F k cs){X:ab}(E:∀b o,X b o->φ t b o\/((∀d,d≠t->¬φ d b o)/\¬S b o/\b<w.heap.size/\(w0.heap.size<=b\/M b o)))(U:cu w1 S F (tvs a) X (.F k n) (tvs a t)):aV w0 M S0 N S (λs=>if s=t then X else φ s) (updH F t k n) a w1:=by
 have G:∀d,d≠t->bh (φ d) w w1:=λd y b o c=>⟨u.cel b o (h.ex d b o c).1 (h.dis d t y b o c),u.fro b o (h.ex d b o c).1 (h.dis d t y b o c)⟩
 have H:bh S w w1:=λb o c=>⟨u.cel b o (h.sup b o c).1 (λJ=>h.disS t b o J c),u.fro b o (h.sup b o c).1 (λJ=>h.disS t b o J c)⟩
 have holdsame:∀d,d≠t->∀k cs,F d=.F k cs->updH F t k n d=.F k cs:=by
  intro d y P cs2 V;rw[fH _ _ _ y,V];rfl
 refine⟨λs=>?_,λs K L b o c p=>?_,λs b o c=>?_,λs b o c=>?_,h.sub,λb o c=>⟨O3 (h.sup b o c).1 u.size,(h.sup b o c).2⟩,h.old.trans u (λb o c=>(h.ex t b o c).2),h.size,h.defers,h.par.1,h.par.2.keep u (λb o c=>h.disS t b o c) (λ_ _ h=>h)⟩
 ·by_cases i:s=t
  ·subst i
   rw[ia,CB rfl];exact U
  rw[fH _ _ _ i,C9 i];have l:=h.slot s;have keep:(F s).uses t=false->cu w1 S (updH F t k n) (tvs a) (φ s) (F s) (tvs a s):=λhu=>
   l.keep (φ:=φ) (λt _ _ _=>h.slot t) (λd W=>by grind [fH]) (G s i) H (λ_ _ h=>h) (λ_ _ h=>h)
  cases q:F s with
  | dead=>trivial
  | F P cs2=>rw[q]at keep;exact keep rfl
  | iref r B=>rw[q]at keep;exact keep rfl
  | fn f caps=>rw[q]at l;exact l
  | fv Ok=>rw[q]at l;obtain⟨Y,Z,O,Q,e3⟩:=l;exact⟨Y,Z,O,λb o c=>⟨(H b o (O b o c)).1.trans (Q b o c).1,(H b o (O b o c)).2.trans (Q b o c).2⟩,e3⟩
  | c3 d B D ag=>
   rw[q]at keep;by_cases y:d=t
   ·subst y;simp[r9,cu]
   have c:Nat.beq d t=false:=by grind [Nat.beq_eq]
   simp only[r9,c,cond_false];exact keep c
  | ref d B D=>
   rw[q]at keep l;by_cases y:d=t
   ·subst y
    cases D with
    | cons s D=>simp[r9,cu]
    | nil=>
     obtain⟨P,cs2,r,j,g,o,e,R,h3,h4⟩:=l;rw[T]at e;simp only[AV.F.injEq]at e;obtain⟨rfl,rfl⟩:=e;exact⟨k,n,n,B,g,o,ia _ _ _ _,rfl,h3,h4⟩
   have c:Nat.beq d t=false:=by grind [Nat.beq_eq]
   cases D with
   | nil=>exact keep c
   | cons s D=>
    simp only[r9,c,cond_false];exact keep c
 ·by_cases i:s=t
  ·rw[CB i]at c
   rw[C9 ω]at p;rcases E b o c with e|⟨e,-⟩
   ·exact h.dis t K ω b o e p
   grind
  rw[C9 i]at c;by_cases A:K=t
  ·rw[CB A]at p
   rcases E b o p with e|⟨e,-⟩
   ·exact h.dis t s (Ne.symm i) b o e c
   grind
  rw[C9 A]at p;exact h.dis s K L b o c p
 ·split at c
  ·rcases E b o c with e|⟨-,e,-⟩
   ·exact h.disS t b o e
   exact e
  exact h.disS s b o c
 split at c
 ·rcases E b o c with e|⟨-,-,e,R⟩
  ·exact⟨O3 (h.ex t b o e).1 u.size,(h.ex t b o e).2⟩
  exact⟨O3 e u.size,R⟩
 exact⟨O3 (h.ex s b o c).1 u.size,(h.ex s b o c).2⟩
theorem cx.split{Y:ab}{cs:List C}{u:Nat->Value}(h:cx w S Y cs u){off n:Nat}(r:off+n<=cs.length) :
  ∃l p:ab,(∀b o,l b o->Y b o)/\(∀b o,p b o->Y b o)/\(∀b o,l b o->¬p b o)/\cx w S l (splice cs off (List.replicate n .x)) u/\cx w S p (bt cs off n) (λj=>u (off+j)):=by
 have g:=λj a=>h.one (j:=j) a
 obtain⟨f,B,D,t⟩:=h;have d:off+(List.replicate n C.x).length<=cs.length:=by simpa using r
 refine⟨λb o=>∃j,j<cs.length/\¬(off<=j/\j<off+n)/\f j b o,λb o=>∃j,off<=j/\j<off+n/\f j b o,ψ,ψ,
   ψ,⟨λj=>if off<=j/\j<off+n then NO else f j,λj c a=>?_,λj a b o e=>?_,λj y a i q b o e k=>?_⟩,
   ⟨λj=>f (off+j),λj c a=>?_,λj a b o e=>⟨off+j,ω,by grind [bt],e⟩,λj y a i q=>t _ _ (by grind [bt]) (by grind [bt]) ω⟩⟩
 ·rw[iI d,List.length_replicate]at a
  by_cases A:off<=j/\j<off+n
  ·rw[CB A,List.getElem?_replicate,CB ω]at a
   simp only[W0]at a;subst a;exact .x _ _ (g j ω)
  grind
 ·rw[cB d]at a
  split at e
  ·exact e.elim
  grind
 ·rw[cB d]at a i
  split at e
  ·exact e.elim
  split at k
  ·exact k.elim
  grind
 grind [bt]
theorem cx.join{a d:ab}{cs xs:List C}{u e:Nat->Value}(h:cx w S a cs u)(h':cx w S d xs e){off:Nat}(y:off+xs.length<=cs.length)(A:∀b o,a b o->¬d b o) :
  cx w S (λb o=>a b o\/d b o) (splice cs off xs) (λj=>if off<=j/\j<off+xs.length then e (j - off) else u j):=by
 obtain⟨f,B,D,E⟩:=h;obtain⟨i,k,l,n⟩:=h';refine⟨λj=>if off<=j/\j<off+xs.length then i (j - off) else f j,λj c g=>?_,λj g b o p=>?_,λj F g q r b o p t=>?_⟩
 all_goals grind [iI,cB]
theorem aV.take(h:aV w0 M S0 N S φ F a w){t:Nat}{k:Kd}{cs:List C}(c:F t=.F k cs){off n:Nat}(d:off+n<=cs.length) :
  ∃V X:ab,(∀b o,V b o->φ t b o)/\(∀b o,V b o->¬X b o)/\(∀b o,X b o->φ t b o)/\cx w S V (bt cs off n) (λj=>cb w k (tvs a t) (off+j))/\
   aV w0 M S0 N S (λs=>if s=t then X else φ s) (updH F t k (splice cs off (List.replicate n .x))) a w:=by
 have e:=h.slot t;rw[c]at e;obtain⟨f,Y,u,y,A,B,i⟩:=e;obtain⟨g,l,D,E,G,p,q⟩:=i.split d;have r:off+(List.replicate n C.x).length<=cs.length:=by simpa using d
 refine⟨l,λb o=>f b o\/g b o,ψ,ψ,ψ,q,?_⟩;refine h.upd (CV _ _) c ψ ⟨f,g,λ_ _ h=>.inl h,λ_ _ h=>.inr h,ψ,?_,p⟩
 grind [cB]
theorem aV.store(h:aV w0 M S0 N S φ F a w){t:Nat}{H cs:List C}(hF:F t=.F .box H){off:Nat}(hl:off+cs.length<=H.length){V:ab}{u:Nat->Value}(hr:cx w S V cs u)(hV:∀b o,V b o->(∀t',¬φ t' b o)/\¬S b o/\b<w.heap.size/\(w0.heap.size<=b\/M b o)){T:Nat}(J:(P.info? T).map (·.size)=some cs.length){v:Value}(hv:v.cells.toList=(List.range cs.length).map u){g o:Nat}(K:plc w (cb w .box (tvs a t)) (nw .box (tvs a t)) off []=some (g,o)) :
  ∃w1,(Instr.storeAt T (.pointer (some ⟨g,o,none⟩)) v).run P w=.ok () w1/\St w0 M S0 N (updH F t .box (splice H off cs)) a w1:=by
 have hs:=h.slot t;rw[hF]at hs;obtain⟨L,Y,h1,h2,h3,⟨c,d,r,i⟩,h5⟩:=hs;rw[r]at K h5;simp only[plc,nw,V4,W0,Prod.mk.injEq]at K;obtain⟨rfl,rfl⟩:=K;have O:v.cells.toList.length=cs.length:=by rw[hv];simp
 have n:∀j,j<cs.length->L c (d+off+j)/\(∃z,cel w c (d+off+j)=some z)/\fro w c (d+off+j)=NF:=λj y=>by
  have:=i (off+j) ω
  grind
 have A:∀x∈v.cells.toList,x.oneCell'=true:=λx hx=>by grind [cx.one]
 have B:=run_storeCells_cells (P:=P) c (d+off) v.cells.toList 0 w ψ
  ψ A
 simp only[Nat.add_zero]at B;refine⟨w.setCells c (d+off) v.cells.toList,?_,?_⟩
 ·have Q:v.cells.size=cs.length:=by simpa using O
  simp[Instr.storeAt,Instr.sureAddr,storeVar,jo J,Q,B]
 have k:∀b o,¬(b=c/\d+off<=o/\o<d+off+cs.length)->cel (w.setCells c (d+off) v.cells.toList) b o=cel w b o:=λb o G=>
  World.cell?_setCells_out c v.cells.toList (d+off) w ⟨b,o,none⟩ ψ
 have e:∀b o,fro (w.setCells c (d+off) v.cells.toList) b o=fro w b o:=λb o=>Prod.ext (World.frozen?_setCells c _ _ w ⟨b,o,none⟩) (kH _ _ _ _ _)
 have D:∀j,j<cs.length->cel (w.setCells c (d+off) v.cells.toList) c (d+off+j)=some (u j):=λj y=>by grind [Go.World.cell?_setCells_in]
 have p:b8 (φ t) w (w.setCells c (d+off) v.cells.toList):=by
  have q:∀(l:List Value)(o:Nat)(w:World),(w.setCells c o l).os=w.os/\(w.setCells c o l).tape=w.tape/\(w.setCells c o l).output=w.output/\(w.setCells c o l).heap.size=w.heap.size/\∀b,b≠c->(w.setCells c o l).heap[b]? = w.heap[b]?:=by
   intro l
   induction l with
   | nil=>exact λ_ _=>⟨rfl,rfl,rfl,rfl,λ_ _=>rfl⟩
   | cons x l ih=>
    intro o w;obtain⟨R,U,W,i4,Z⟩:=ih (o+1) (w.setCell ⟨c,o,none⟩ x);exact⟨R,U,W,i4.trans (by simp_all),λb f=>(Z b f).trans (Below.heap_setCell w ⟨c,o,none⟩ x b f)⟩
  obtain⟨R,U,W,i4,Z⟩:=q v.cells.toList (d+off) w;refine⟨R,U,W,ω,λb f G=>?_,λb o f G=>k b o (λ⟨e1,e2,e3⟩=>G ?_),ψ⟩
  ·by_cases he:b=c
   ·subst he
    by_cases h0:cs.length=0
    ·have:v.cells.toList=[]:=ψ
     rw[this];rfl
    exact absurd (h1 _ _ (n 0 ω).1) (G _)
   exact Z b he
  subst e1;have:=(n (o - (d+off)) ω).1
  grind
 have E:bh S w (w.setCells c (d+off) v.cells.toList):=λb o f=>⟨p.cel b o (h.sup b o f).1 (λh'=>h.disS t b o h' f),e b o⟩
 have hYY:bh Y w (w.setCells c (d+off) v.cells.toList):=λb o f=>⟨k b o (λ⟨e1,e2,e3⟩=>by
   subst e1;have:=(n (o - (d+off)) ω).1
   grind),e b o⟩
 have hVV:bh V w (w.setCells c (d+off) v.cells.toList):=λb o f=>⟨p.cel b o (hV b o f).2.2.1 ((hV b o f).1 t),e b o⟩
 have y:=(h5.keep E hYY).join (hr.keep E hVV) hl ψ;refine⟨S,_,h.upd p hF (X:=λb o=>L b o\/Y b o\/V b o) (λb o f=>?_) ⟨L,λb o=>Y b o\/V b o,λ_ _ h=>.inl h,λ_ _ h=>.inr h,ψ,⟨c,d,r,λj y=>?_⟩,?_⟩⟩
 ·grind
 ·rw[cB hl]at y
  obtain⟨a1,⟨z,hz⟩,a3⟩:=i j y;refine⟨a1,?_,by rw[e];exact a3⟩;by_cases hjr:off<=j/\j<off+cs.length
  ·have:=D (j - off) ω
   grind
  grind
 grind [cx.congr,cb]
end
mutual
def PN:C->Prop
 | .s o rows=>(o≠.U\/rows=[])/\PI rows
 | .v _=>True
 | .x=>True
 | .z=>True
 | .m _=>True
 | .it _ _=>True
def PI:List (List C)->Prop
 | []=>True
 | r::rs=>gn r/\PI rs
def gn:List C->Prop
 | []=>True
 | c::cs=>PN c/\gn cs
end
theorem uN:∀{cs:List C}{j:Nat}{c:C},gn cs->cs[j]? = some c->PN c
 | [],j,c,_,h=>by simp at h
 | b::cs,j,c,h,a=>by
  simp only[gn]at h;cases j with
  | zero=>grind
  | succ j=>exact uN h.2 (by simpa using a)
theorem Az:∀{a:List (List C)}{j:Nat}{r:List C},PI a->a[j]? = some r->gn r
 | [],j,c,_,h=>by simp at h
 | d::cs,j,c,h,b=>by
  simp only[PI]at h;cases j with
  | zero=>grind
  | succ j=>exact Az h.2 (by simpa using b)
theorem bc{a b:List C}(e:gn a)(d:gn b):gn (a++b):=by
 induction a with
 | nil=>exact d
 | cons c f g=>grind [gn]
theorem aX{α:Type}(f:α->List C)(l:List α)(h:∀x∈l,gn (f x)):PI (l.map f):=by
 induction l with
 | nil=>simp[PI]
 | cons a l b=>grind [PI]
theorem df.fresh{w:World}{S F:ab}{c:C}{v:Value}(h:df w S F c v):PN c->df w NO F c v:=by
 induction h with
 | v F x P=>exact λ_=>.v _ x P
 | x F u P=>exact λ_=>.x _ u P
 | z F a=>exact λ_=>.z _ a
 | nil F o a E=>exact λ_=>.nil _ o a E
 | U F g y k n p e u G H l hS N O=>
  intro D;simp only[PN]at D;rcases D.1 with h|rfl
  ·exact absurd rfl h
  subst G;exact .U _ g y k 0 p [] u rfl H (T0 _) ω ψ
 | own F o g k n p e u f E G H l J A Q D R N O=>
  intro q;simp only[PN]at q;exact .own _ o g k n p e u f E G H l J A Q D R λi j r c K L=>O i j r c K L (uN (Az q.2 K) L)
 | suf F o g y k n p e u f E G H l A Q D R N O=>
  intro q;simp only[PN]at q;exact .suf _ o g y k n p e u f E G H l A Q D R λi j r c K L=>O i j r c K L (uN (Az q.2 K) L)
 | m F b d V t A T W U B=>exact λ_=>.m _ b d V t A T W U B
 | it F r b since X d seen t cur left A Y T B N U Z M=>exact λ_=>.it _ r b since X d seen t cur left A Y T B N U Z M
def cx.fresh{w:World}{S F:ab}{cs:List C}{u:Nat->Value}(h:cx w S F cs u)(b:gn cs):cx w NO F cs u:=by
 obtain⟨f,d,e,g⟩:=h;exact⟨f,λj c a=>(d j c a).fresh (uN b a),e,g⟩
def Free(w0:World)(M S:ab)(φ:Nat->ab)(w:World)(V:ab):Prop:=∀b o,V b o->(∀t,¬φ t b o)/\¬S b o/\b<w.heap.size/\(w0.heap.size<=b\/M b o)
section
variable{P:Program}{w0 w w1:World}{M S0 S:ab}{N:dU}{φ:Nat->ab}{F:Nat->AV}{a:Act}
theorem aV.world(h:aV w0 M S0 N S φ F a w){V:ab}(e:b8 V w w1)(f:Free w0 M S φ w V):aV w0 M S0 N S φ F a w1:=by
 have g:∀t,bh (φ t) w w1:=λt b o c=>⟨e.cel b o (h.ex t b o c).1 (λd=>(f b o d).1 t c),e.fro b o (h.ex t b o c).1 (λd=>(f b o d).1 t c)⟩
 have i:bh S w w1:=λb o c=>⟨e.cel b o (h.sup b o c).1 (λd=>(f b o d).2.1 c),e.fro b o (h.sup b o c).1 (λd=>(f b o d).2.1 c)⟩
 refine⟨λt=>(h.slot t).keep (φ:=φ) (λt _ _ _=>h.slot t) ψ (g t) i (λ_ _ h=>h) (λ_ _ h=>h),h.dis,h.disS,λt b o c=>⟨O3 (h.ex t b o c).1 e.size,(h.ex t b o c).2⟩,h.sub,
   λb o c=>⟨O3 (h.sup b o c).1 e.size,(h.sup b o c).2⟩,h.old.trans e (λb o d=>(f b o d).2.2.2),h.size,h.defers,h.par.1,h.par.2.keep e (λb o d=>(f b o d).2.1) (λ_ _ h=>h)⟩
def Free.less{φ':Nat->ab}{V:ab}(h:Free w0 M S φ w V)(c:∀t b o,φ' t b o->φ t b o):Free w0 M S φ' w V:=λb o a=>⟨λt d=>(h b o a).1 t (c t b o d),(h b o a).2⟩
def Free.or{V V':ab}(h:Free w0 M S φ w V)(h':Free w0 M S φ w V'):Free w0 M S φ w (λb o=>V b o\/V' b o):=λb o a=>a.elim (h b o) (h' b o)
def Free.grow{V:ab}(h:Free w0 M S φ w V)(c:w.heap.size<=w1.heap.size):Free w0 M S φ w1 V:=λb o a=>⟨(h b o a).1,(h b o a).2.1,O3 (h b o a).2.2.1 c,(h b o a).2.2.2⟩
theorem aV.relTop(h:aV w0 M S0 N S φ F a w){t:Nat}{k:Kd}{cs:List C}(e:F t=.F k cs) :
  ∃c Y:ab,(∀b o,c b o->φ t b o)/\(∀b o,Y b o->φ t b o)/\(∀b o,c b o->¬Y b o)/\cx w S Y cs (cb w k (tvs a t))/\
   ∀(d:List C)(G:ab),d.length=cs.length->cx w S G d (cb w k (tvs a t))->(∀b o,G b o->Y b o\/((∀g,¬φ g b o)/\¬S b o/\b<w.heap.size/\(w0.heap.size<=b\/M b o)))->
    aV w0 M S0 N S (λs=>if s=t then(λb o=>c b o\/G b o) else φ s) (updH F t k d) a w:=by
 have f:=h.slot t;rw[e]at f;obtain⟨c,Y,i,j,l,n,p⟩:=f;refine⟨c,Y,i,j,l,p,λd G q r y=>?_⟩;refine h.upd (CV _ _) e (λb o u=>?_) ⟨c,G,λ_ _ h=>.inl h,λ_ _ h=>.inr h,λb o u A=>?_,by rw[q];exact n,r⟩
 all_goals grind
theorem aV.focus(h:aV w0 M S0 N S φ F a w){t:Nat}{k:Kd}{cs r:List C}{off j:Nat}{st:cq}(J:F t=.F k cs)(n:st≠[])(K:bY cs off st=some (r,j))(Z:jG cs off st) :
  ∃g b p Y,(∀x o,Y x o->φ t x o)/\cx w S Y r p/\(∀d,j+d<r.length->cellv w (cb w k (tvs a t)) off st d=p (j+d))/\plc w (cb w k (tvs a t)) (nw k (tvs a t)) off st=some (g,b+j)/\
   (∀d,d<r.length->φ t g (b+d)/\¬Y g (b+d)/\cel w g (b+d)=some (p d)/\fro w g (b+d)=NF)/\
   ∀(w1:World)(l:List C)(y:Nat->Value)(G V:ab),b8 V w w1->(∀x o,V x o->Y x o\/(x=g/\b<=o/\o<b+r.length))->(∀d,d<r.length->cel w1 g (b+d)=some (y d)/\fro w1 g (b+d)=NF)->l.length=r.length->cx w1 S G l y->
    (∀x o,G x o->Y x o\/((∀t',¬φ t' x o)/\¬S x o/\x<w.heap.size/\(w0.heap.size<=x\/M x o)))->
    aV w0 M S0 N S (λs=>if s=t then(λx o=>(φ t x o/\¬Y x o)\/G x o) else φ s) (updH F t k (eE cs off st l)) a w1:=by
 have L:=h.slot t;rw[J]at L;obtain⟨O,A,P,Q,h3,h4,R⟩:=L;obtain⟨g,b,Y,p,e1,e2,T,e4,e5⟩:=cx.focus st (nw k (tvs a t)) n R K Z;obtain⟨F2,u2',c1,c2,c3,-,c4⟩:=cx.at_ st (nw k (tvs a t)) R K;obtain⟨g2,b2,B,p2⟩:=c4 n;rw[T]at B;simp only[W0,Prod.mk.injEq]at B;obtain⟨rfl,hb2⟩:=B;have D:b=b2:=ω
 subst D;refine⟨g,b,p,Y,ψ,e2,λd U=>?_,T,λd U=>?_,λw1 l y G V e hV f q u hG=>?_⟩
 ·grind
 ·grind
 have W:∀o,b<=o->o<b+r.length->A g o/\¬Y g o:=λo ho1 ho2=>by
  have:=e4 (o - b) ω
  simp_all
 have hV0:∀x o,V x o->A x o:=ψ
 have E:b8 (φ t) w w1:=⟨e.os,e.tape,e.output,e.size,λx c X=>e.blk x c ψ,λx o c X=>e.cel x o c ψ,λx o c X=>e.fro x o c ψ⟩
 have hS:bh S w w1:=λx o c=>⟨e.cel x o (h.sup x o c).1 (λhv=>h.disS t x o ψ c),e.fro x o (h.sup x o c).1 (λhv=>h.disS t x o ψ c)⟩
 have hX1:bh O w w1:=λx o c=>⟨e.cel x o (h.ex t x o (P x o c)).1 ψ,e.fro x o (h.ex t x o (P x o c)).1 ψ⟩
 have i:=e5 w1 l y G hS (λx o c hny hnc=>⟨e.cel x o (h.ex t x o (Q x o c)).1 ψ,e.fro x o (h.ex t x o (Q x o c)).1 ψ⟩) f q u ψ;have H:(eE cs off st l).length=cs.length:=by
  cases st with
  | nil=>grind
  | cons s st=>
   obtain⟨i',k',j'⟩:=s;simp only[eE]
   grind
 refine h.upd E J (λx o c=>?_) ⟨O,λx o=>(A x o/\¬Y x o)\/G x o,ψ,ψ,λx o c hy=>?_,by grind [fe.keep],i.congr λd U=>?_⟩
 ·grind
 all_goals grind [jW]
def uj{r:List C}{j n:Nat}(h:j+n<=r.length):(splice r j (List.replicate n C.x)).length=r.length:=cB (by simpa using h)
theorem aV.lend(h:aV w0 M S0 N S φ F a w){t:Nat}{k:Kd}{cs r:List C}{off j n:Nat}{st:cq}(B:F t=.F k cs)(q:bY cs off st=some (r,j))(K:jG cs off st)(u:j+n<=r.length) :
  ∃V φ',cx w S V (bt r j n) (λd=>cellv w (cb w k (tvs a t)) off st d)/\aV w0 M S0 N S φ' (updH F t k (eE cs off st (splice r j (List.replicate n .x)))) a w/\Free w0 M S φ' w V/\(∀s b o,φ' s b o->φ s b o)/\(∀b o,V b o->φ t b o):=by
 have fin:∀(Y X V:ab)(y:Nat->AV),(∀b o,X b o->φ t b o)->(∀b o,V b o->¬X b o)->(∀b o,V b o->φ t b o)->cx w S V (bt r j n) (λd=>cellv w (cb w k (tvs a t)) off st d)->aV w0 M S0 N S (λs=>if s=t then X else φ s) y a w->
   ∃V φ',cx w S V (bt r j n) (λd=>cellv w (cb w k (tvs a t)) off st d)/\aV w0 M S0 N S φ' y a w/\Free w0 M S φ' w V/\(∀s b o,φ' s b o->φ s b o)/\(∀b o,V b o->φ t b o):=by
  intro Y X V y T L i f c;refine⟨V,_,f,c,λb o l=>⟨λs p=>?_,h.disS t b o (i b o l),h.ex t b o (i b o l)⟩,λs b o l=>?_,i⟩
  ·replace p:(if s=t then X else φ s) b o:=p
   by_cases e:s=t
   ·grind
   rw[C9 e]at p;exact h.dis s t e b o p (i b o l)
  grind
 by_cases c:st=[]
 ·subst c
  simp only[bY,W0,Prod.mk.injEq]at q;obtain⟨rfl,rfl⟩:=q;obtain⟨V,X,D,A,E,G,H⟩:=h.take B u;exact fin NO X V _ E A D G H
 obtain⟨g,b,O,Y,D,A,E,G,H,P⟩:=h.focus B c q K;obtain⟨J,Q,U,W,Z,R,f5⟩:=A.split u;refine fin Y (λx o=>(φ t x o/\¬Y x o)\/J x o) Q _ ψ ψ ψ ?_
  (P w _ O J NO (CV _ _) (λ_ _ h=>h.elim) ψ (uj u) R ψ)
 grind [cx.congr,bt]
theorem aV.back(h:aV w0 M S0 N S φ F a w){t:Nat}{k:Kd}{cs r out:List C}{off j:Nat}{st:cq}(A:F t=.F k cs)(q:bY cs off st=some (r,j))(G:jG cs off st)(n:j+out.length<=r.length){V:ab}(p:Free w0 M S φ w V)(c:cx w S V out (λd=>cellv w (cb w k (tvs a t)) off st d)) :
  ∃φ',aV w0 M S0 N S φ' (updH F t k (eE cs off st (splice r j out))) a w/\∀s b o,φ' s b o->φ s b o\/V b o:=by
 by_cases l:st=[]
 ·subst l
  simp only[bY,W0,Prod.mk.injEq]at q;obtain⟨rfl,rfl⟩:=q;obtain⟨H,Y,B,u,J,D,E⟩:=h.relTop A;refine⟨_,E (splice cs off out) (λb o=>Y b o\/V b o) (cB n) ((D.join c n (λb o f y=>(p b o y).1 t (u b o f))).congr λd K=>?_) (λb o f=>f.imp id (p b o)),λs b o f=>?_⟩
  ·grind [cellv]
  replace f:(if s=t then(λb o=>H b o\/(Y b o\/V b o)) else φ s) b o:=f;by_cases e:s=t
  ·subst e
   grind
  grind
 obtain⟨g,b,L,Y,B,u,J,D,E,O⟩:=h.focus A l q G;refine⟨_,O w (splice r j out) L (λx o=>Y x o\/V x o) NO (CV _ _) (λ_ _ h=>h.elim) ψ (cB n) ((u.join c n (λx o i y=>(p x o y).1 t (B x o i))).congr λd K=>?_) (λx o i=>i.imp id (p x o)),λs x o i=>?_⟩
 ·grind
 replace i:(if s=t then(λx o=>(φ t x o/\¬Y x o)\/(Y x o\/V x o)) else φ s) x o:=i;by_cases e:s=t
 ·subst e
  grind
 grind
def aV.cellv_same(h:aV w0 M S0 N S φ F a w){t:Nat}{k:Kd}{cs r:List C}{off j:Nat}{st:cq}(n:F t=.F k cs)(p:bY cs off st=some (r,j)){V:ab}(g:b8 V w w1)(i:Free w0 M S φ w V) :
  ∀d,j+d<r.length->cellv w1 (cb w1 k (tvs a t)) off st d=cellv w (cb w k (tvs a t)) off st d:=by
 have l:=h.slot t;rw[n]at l;obtain⟨E,G,q,u,H,y,A⟩:=l;have e:bh (φ t) w w1:=λb o c=>⟨g.cel b o (h.ex t b o c).1 (λf=>(i b o f).1 t c),g.fro b o (h.ex t b o c).1 (λf=>(i b o f).1 t c)⟩
 have B:bh S w w1:=λb o c=>⟨g.cel b o (h.sup b o c).1 (λf=>(i b o f).2.1 c),g.fro b o (h.sup b o c).1 (λf=>(i b o f).2.1 c)⟩
 exact(cx.last B st none A p (λb o c=>e b o (u b o c)) (λx D=>jW y (λb o c=>e b o (q b o c)) x D)).2
end
section
variable{P:Program}{w0 w w1:World}{M S0 S:ab}{N:dU}{φ:Nat->ab}{F:Nat->AV}{a:Act}{TE:Nat->Option TI}
def ov(w:World)(b:Option Addr)(n:Nat)(news:List Value):Prop:=news.length=n/\(b=none->n=0)/\∀a j u,b=some a->news[j]? = some u->w.cell? (a.add j)=some u
theorem sL{size m:Nat}{b:Option Addr}{c:Nat}{news:List Value}(h:ov w b (m*size) news):(Builtin.firstCells size m (.slice b m c)).run P w=.ok news.toArray w:=by
 obtain⟨a,d,e⟩:=h;cases b with
 | none=>
  have:news=[]:=ψ
  subst this
  rfl
 | some f=>
  grind [Go.run_firstCells_some]
theorem nR{g:Nat}{X:ab} : ∀(a:List Value)(o:Nat)(w:World),(∀j,j<a.length->X g (o+j))->b8 X w (w.setCells g o a):=by
 have c:∀(a:List Value)(o:Nat)(w:World),(w.setCells g o a).os=w.os/\(w.setCells g o a).tape=w.tape/\(w.setCells g o a).output=w.output/\(w.setCells g o a).heap.size=w.heap.size/\∀b,b≠g->(w.setCells g o a).heap[b]? = w.heap[b]?:=by
  intro a
  induction a with
  | nil=>exact λ_ _=>⟨rfl,rfl,rfl,rfl,λ_ _=>rfl⟩
  | cons x a t=>
   intro o w;obtain⟨h,i,k,n,l⟩:=t (o+1) (w.setCell ⟨g,o,none⟩ x);exact⟨h,i,k,n.trans (by simp_all),λb f=>(l b f).trans (Below.heap_setCell w ⟨g,o,none⟩ x b f)⟩
 intro a o w p;obtain⟨h,i,k,n,l⟩:=c a o w;refine⟨h,i,k,ω,λb f q=>?_,λb d f q=>?_,λb d _ _=>Prod.ext (World.frozen?_setCells g _ _ w ⟨b,d,none⟩) (kH _ _ _ _ _)⟩
 ·by_cases r:b=g
  ·subst r
   cases a with
   | nil=>rfl
   | cons x a=>exact absurd (p 0 (by simp)) (q _)
  exact l b r
 refine World.cell?_setCells_out g a o w ⟨b,d,none⟩ (λe _=>?_);simp only at e |-;subst e;by_cases u:d<o
 ·exact .inl u
 by_cases y:o+a.length<=d
 ·exact .inr y
 have:=p (d - o) ω
 grind
theorem fX{g o:Nat}{a:List Value}{w:World}{b q:Nat}(h:¬(b=g/\o<=q/\q<o+a.length)):cel (w.setCells g o a) b q=cel w b q:=
 World.cell?_setCells_out g a o w ⟨b,q,none⟩ ψ
theorem jB{g o:Nat}{a:List Value}{w:World}{j:Nat}{x:Value}(h:∀j,j<a.length->∃z,cel w g (o+j)=some z)(b:a[j]? = some x):cel (w.setCells g o a) g (o+j)=some x:=by grind [Go.World.cell?_setCells_in]
theorem ef(g o:Nat)(a:List Value)(w:World)(b q:Nat):fro (w.setCells g o a) b q=fro w b q:=Prod.ext (World.frozen?_setCells g _ _ w ⟨b,q,none⟩) (kH _ _ _ _ _)
theorem JH{t ty e:Nat}{i:TypeInfo}(h:P.underlying t=some (.slice e))(k:P.info? e=some i){g n cap m c:Nat}{b:Option Addr}{news:List Value}(h1:ov w b (m*i.size) news)(d:∀u∈news,u.oneCell'=true)(a:n+m<=cap)(o:∀j,j<news.length->(∃z,cel w g (n*i.size+j)=some z)/\fro w g (n*i.size+j)=NF) :
  (Builtin.append_ #[t,t] ty #[.slice (some ⟨g,0,none⟩) n cap,.slice b m c]).run P w=.ok (.slice (some ⟨g,0,none⟩) (n+m) cap) (w.setCells g (n*i.size) news):=by
 have l:=sL (P:=P) (c:=c) h1;have f:=run_storeCells_cells (P:=P) g (n*i.size) news 0 w ψ ψ d;simp only[Nat.add_zero]at f;simp[Builtin.append_,run_underlying h,sizeOf,typeInfo,k,Builtin.lenOf,a,l,gp,f]
def tR{t ty e:Nat}{i:TypeInfo}(f:P.underlying t=some (.slice e))(g:P.info? e=some i){n cap c:Nat}{d b:Option Addr}(a:n<=cap) :
  (Builtin.append_ #[t,t] ty #[.slice d n cap,.slice b 0 c]).run P w=.ok (.slice d n cap) w:=by
 have h:(Builtin.firstCells i.size 0 (.slice b 0 c)).run P w=.ok #[] w:=by cases b<;>simp[Builtin.firstCells,loadCells,loadCellsFrom]
 cases d<;>simp[Builtin.append_,run_underlying f,sizeOf,typeInfo,g,Builtin.lenOf,a,h,storeCells]
theorem Kv{t ty e:Nat}{i:TypeInfo}{z:Value}(h:P.underlying t=some (.slice e))(j:P.info? e=some i)(k:i.zero=some z){n cap m c:Nat}{f b:Option Addr}{olds news:List Value}(l:ov w f (n*i.size) olds)(h1:ov w b (m*i.size) news)(o:cap<n+m)(p:n+m<=140737488355328)(q:(n+m)*i.bytes<=140737488355328) :
  (Builtin.append_ #[t,t] ty #[.slice f n cap,.slice b m c]).run P w =
   .ok (.slice (some ⟨w.heap.size,0,none⟩) (n+m) (grownCap w (n+m) cap e)) (w.drew.alloc (.cells (olds.toArray++news.toArray++Builtin.zeroCells z.cells (grownCap w (n+m) cap e - (n+m))) e)):=by
 have r:¬(n+m<=cap):=ω
 have a:¬(9223372036854775807<((n:Int)+(m:Int))):=ω
 have d:¬(281474976710656<Builtin.nextslicecap (n+m) cap*i.bytes):=by have:=growslice_fits o q;omega
 have u:=sL (P:=P) (w:=w.drew) (c:=c) (show ov w.drew b (m*i.size) news from h1);have g:=sL (P:=P) (w:=w.drew) (c:=cap) (show ov w.drew f (n*i.size) olds from l);simp[Builtin.append_,run_underlying h,sizeOf,typeInfo,zeroValue,j,k,Builtin.lenOf,r,a,d,Question.forced,u,g,newRow,grownCap]
 grind
structure xG(w:World)(S V:ab)(rows:List (List C))(k:Nat)(u:Nat->Value)(f:Nat->ab):Prop where
 hk:∀r∈rows,r.length=k
 hf:∀q,q<rows.length*k->∀b o,f q b o->V b o
 hd:∀q q',q<rows.length*k->q'<rows.length*k->q≠q'->∀b o,f q b o->¬f q' b o
 hc:∀(i j:Nat)(r:List C)(c:C),rows[i]? = some r->r[j]? = some c->df w S (f (i*k+j)) c (u (i*k+j))
theorem E3{n k q:Nat}(h:q<n*k):q / k<n/\q % k<k/\q / k*k+q % k=q:=by
 have a:0<k:=ψ
 exact⟨Nat.div_lt_of_lt_mul ψ,Nat.mod_lt _ a,by grind [Nat.div_add_mod]⟩
theorem xG.one{V:ab}{rows:List (List C)}{k:Nat}{u:Nat->Value}{f:Nat->ab}(h:xG w S V rows k u f){q:Nat}(b:q<rows.length*k):(u q).oneCell'=true:=by
 obtain⟨e,g,c⟩:=E3 b;have a:rows[q / k]? = some rows[q / k]:=ψ
 have i:=h.hk _ (U1 a);have d:(rows[q / k])[q % k]? = some (rows[q / k])[q % k]:=ψ
 have:=(h.hc _ _ _ _ a d).one
 rwa [c]at this
theorem xG.keep{a:World}{V:ab}{rows:List (List C)}{k:Nat}{u:Nat->Value}{f:Nat->ab}(h:xG w S V rows k u f)(g:bh S w a)(l:bh V w a):xG a S V rows k u f:=
 ⟨h.hk,h.hf,h.hd,λi j r c d e=>(h.hc i j r c d e).keep g λb o n=>l b o (h.hf _ (by
   have p:=(Z1.1 d).1;have q:=(Z1.1 e).1;have t:=h.hk r ψ;exact d4 p ω) b o n)⟩
theorem xG.append{V V':ab}{rows a:List (List C)}{k:Nat}{u B:Nat->Value}{f D:Nat->ab}(h:xG w S V rows k u f)(h':xG w S V' a k B D)(E:∀b o,V b o->¬V' b o) :
  xG w S (λb o=>V b o\/V' b o) (rows++a) k (λq=>if q<rows.length*k then u q else B (q - rows.length*k)) (λq=>if q<rows.length*k then f q else D (q - rows.length*k)):=by
 have n:(rows++a).length*k=rows.length*k+a.length*k:=ψ
 refine⟨λr F=>(R2.1 F).elim (h.hk r) (h'.hk r),λq t b o g=>?_,λq p t y A b o g d=>?_,λi j r c G J=>?_⟩
 ·rw[n]at t
  by_cases l:q<rows.length*k
  ·rw[CB l]at g;exact .inl (h.hf q l b o g)
  rw[C9 l]at g;exact .inr (h'.hf _ ω b o g)
 ·rw[n]at t y
  by_cases l:q<rows.length*k
  ·rw[CB l]at g
   by_cases e:p<rows.length*k
   ·rw[CB e]at d;exact h.hd q p l e A b o g d
   rw[C9 e]at d;exact E b o (h.hf q l b o g) (h'.hf _ ω b o d)
  rw[C9 l]at g;by_cases e:p<rows.length*k
  ·rw[CB e]at d;exact E b o (h.hf p e b o d) (h'.hf _ ω b o g)
  rw[C9 e]at d;exact h'.hd _ _ ω ω ω b o g d
 by_cases l:i<rows.length
 ·grind [xG.hk,d4,xG.hc]
 rw[C4 ω]at G;have H:rows.length*k<=i*k:=R6 k ω
 grind [xG.hc,Nat.sub_mul]
def xG.own{V:ab}{rows:List (List C)}{k:Nat}{u:Nat->Value}{f:Nat->ab}(h:xG w S V rows k u f){g n cap:Nat}{X:ab}(d:rows.length=n)(a:n<=cap)(c:0<n)(e:∀q,q<cap*k->X g q/\(∃z,cel w g q=some z/\z.oneCell'=true)/\fro w g q=NF)(i:∀q,q<n*k->cel w g q=some (u q))(j:∀b o,V b o->X b o/\¬(b=g/\o<cap*k)):df w S X (.s .own rows) (.slice (some ⟨g,0,none⟩) n cap):=by
 subst d;exact .own _ .own g k _ cap rows u f trivial rfl h.hk a c e i (λq l b o p=>j b o (h.hf q l b o p)) h.hd h.hc
theorem df.els{F:ab}{o:du}(e:o≠.U/\o≠.suf/\∀z,o≠.tagS z){rows:List (List C)}{v:Value}(h:df w S F (.s o rows) v){k:Nat}(B:∀r∈rows,r.length=k) :
  (rows=[]/\∃D,v=.slice D 0 0)\/∃g cap u f,v=.slice (some ⟨g,0,none⟩) rows.length cap/\0<rows.length/\rows.length<=cap/\(∀q,q<cap*k->F g q/\(∃z,cel w g q=some z/\z.oneCell'=true)/\fro w g q=NF)/\(∀q,q<rows.length*k->cel w g q=some (u q))/\
   xG w S (λb o=>F b o/\¬(b=g/\o<cap*k)) rows k u f:=by
 generalize d:C.s o rows=c at h
 induction h with
 | v=>cases d
 | x=>cases d
 | z=>cases d
 | m=>cases d
 | it=>cases d
 | U=>grind
 | suf F o g E k n cap rows u f i=>cases d;cases o with|U=>exact i.elim|own=>exact i.elim|tag v=>exact i.elim|suf=>exact absurd rfl e.2.1|tagS v=>exact absurd rfl (e.2.2 v)
 | nil F o a i=>grind
 | own F o g G n cap p u f i H t j l J K L M y _=>
  cases d;subst H;have A:G=k:=by
   have N:rows[0]? = some rows[0]:=ψ
   rw[<-t _ (U1 N),B _ ψ]
  subst A;exact .inr ⟨g,cap,u,f,rfl,l,j,J,K,B,L,M,y⟩
def uS{t ty e:Nat}{i:TypeInfo}{z:Value}(ht:P.underlying t=some (.slice e))(W:P.info? e=some i)(hz:i.zero=some z)(X:z.cells.size=i.size)(hz1:∀x∈z.cells.toList,x.oneCell'=true){F:ab}{rows xr:List (List C)}{v0:Value}(h:df w S F (.s .own rows) v0)(hk:∀r∈rows,r.length=i.size){V:ab}{M:Nat->Value}{f2:Nat->ab}(Y:xG w S V xr i.size M f2){b:Option Addr}{c:Nat}(d:ov w b (xr.length*i.size) ((List.range (xr.length*i.size)).map M))(G:∀b o,F b o->¬V b o)(hFS:∀b o,F b o->¬S b o)(Z:∀b o,F b o->b<w.heap.size)(R:∀b o,V b o->b<w.heap.size)(hSe:∀b o,S b o->b<w.heap.size)(h63:rows.length+xr.length<=140737488355328)(hby:(rows.length+xr.length)*i.bytes<=140737488355328) :
  ∃v' K,(Builtin.append_ #[t,t] ty #[v0,.slice b xr.length c]).run P w=.ok v' K/\b8 F w K/\df K S (λb o=>F b o\/V b o\/(w.heap.size<=b/\b<K.heap.size)) (.s .own (rows++xr)) v':=by
 have hkx:xr.length*i.size=((List.range (xr.length*i.size)).map M).length:=by simp
 have grow:∀(a0:Option Addr)(cap:Nat)(u:Nat->Value)(f:Nat->ab),cap<rows.length+xr.length->ov w a0 (rows.length*i.size) ((List.range (rows.length*i.size)).map u)->xG w S F rows i.size u f->v0=.slice a0 rows.length cap->
   ∃v' K,(Builtin.append_ #[t,t] ty #[v0,.slice b xr.length c]).run P w=.ok v' K/\b8 F w K/\df K S (λb o=>F b o\/V b o\/(w.heap.size<=b/\b<K.heap.size)) (.s .own (rows++xr)) v':=by
  intro a0 cap u f hlt E N hv;have B:=Kv (P:=P) (ty:=ty) ht W hz E d hlt h63 hby (c:=c);have hge:=grownCap_ge w (rows.length+xr.length) cap e;refine⟨_,_,by rw[hv];exact B,b8.of_below (((Below.refl _ _).drew).alloc (U2 _) _) F,?_⟩;generalize hcells:((List.range (rows.length*i.size)).map u).toArray++((List.range (xr.length*i.size)).map M).toArray++Builtin.zeroCells z.cells (grownCap w (rows.length+xr.length) cap e - (rows.length+xr.length))=cells;generalize grownCap w (rows.length+xr.length) cap e=c' at hge hcells;have hlen:cells.size=c'*i.size:=by
   rw[<-hcells];simp only[Array.size_append,List.size_toArray,X0,List.length_range,size_zeroCells,X,<-Nat.add_mul]
   congr 1;omega
  have hk':b8 NO w (w.drew.alloc (.cells cells e)):=b8.of_below (((Below.refl _ _).drew).alloc (U2 _) _) NO;have T:=((N.append Y G).keep (gJ hk' hSe) (gJ hk' λb o d=>d.elim (Z b o) (R b o)))
  have O:∀q,cel (w.drew.alloc (.cells cells e)) w.heap.size q=cells[q]?:=λq=>iZ w.drew cells e q
  have hq1:∀q,q<(rows.length+xr.length)*i.size->cells[q]? = some (if q<rows.length*i.size then u q else M (q - rows.length*i.size)):=λq p=>by
   rw[Nat.add_mul]at p;rw[<-hcells,Array.append_assoc];by_cases l:q<rows.length*i.size
   ·rw[Array.getElem?_append_left (by simpa using l),CB l];simp[l]
   rw[Array.getElem?_append_right (by simpa using Nat.le_of_not_lt l),C9 l,Array.getElem?_append_left (by simp;omega)];simp only[List.size_toArray,X0,List.length_range,List.getElem?_toArray,W2];rw[Z5 ω];rfl
  refine T.own (n:=rows.length+xr.length) (cap:=c') (by simp) hge ω (λq p=>?_) (λq p=>by rw[O];exact hq1 q p) (λb o d=>⟨d.elim .inl (λh=>.inr (.inl h)),λh=>by have:=d.elim (Z b o) (R b o);omega⟩);refine⟨.inr (.inr ⟨U2 _,by rw[kj];exact Nat.lt_succ_self _⟩),?_,iV w.drew cells e q⟩;rw[O];have H:q<cells.size:=by rw[hlen];exact p
  refine⟨cells[q],V5 H,?_⟩;by_cases l:q<(rows.length+xr.length)*i.size
  ·have D:=hq1 q l
   rw[V5 H]at D;simp only[W0]at D;rw[D];have:=(N.append Y G).one (q:=q) (by simpa using l);exact this
  have hmem:cells[q]∈z.cells.toList:=by
   have D:cells[q]? = (Builtin.zeroCells z.cells (c' - (rows.length+xr.length)))[q - (rows.length+xr.length)*i.size]?:=by
    rw[<-hcells];rw[Array.getElem?_append_right (by simp[<-Nat.add_mul];omega)];simp[<-Nat.add_mul]
   rw[V5 H]at D;have h3:q - (rows.length+xr.length)*i.size<(c' - (rows.length+xr.length))*z.cells.size:=by
    rw[X,Nat.sub_mul];omega
   have hz0:0<z.cells.size:=by rcases Nat.eq_zero_or_pos z.cells.size with h|h;rw[h]at h3;simp at h3;exact h
   simp only[Builtin.zeroCells]at D;rw[V5 (by simpa using h3)]at D;simp only[Array.getElem_map,Array.getElem_range,W0]at D;rw[D];have h4:(q - (rows.length+xr.length)*i.size) % z.cells.size<z.cells.size:=Nat.mod_lt _ hz0;rw[getElem!_pos z.cells _ h4];simp
  exact hz1 _ hmem
 rcases h.els (by simp) hk with⟨rfl,a0,rfl⟩|⟨g,cap,u,f,rfl,hpos,hcap,a,hu,N⟩
 ·by_cases hm:xr.length=0
  ·have:xr=[]:=T6 hm
   subst this;exact⟨_,w,tR ht W (U2 0),CV _ _,.nil _ _ _ trivial⟩
  exact grow a0 0 (λ_=>undef) (λ_=>NO) (by simp;omega) ⟨by simp,λ_=>by simp,λad j u _ k=>by simp at k⟩ ⟨λr E=>by simp at E,λq p=>by simp at p,λq q' p=>by simp at p,λi j r c W=>by simp at W⟩ rfl
 have Q:∀(n j:Nat)(y:Value)(uu:Nat->Value),((List.range n).map uu)[j]? = some y->j<n/\y=uu j:=λn j y uu k=>by
  rw[W2]at k;cases E:(List.range n)[j]? with
  | none=>rw[E]at k;cases k
  | some j'=>
   obtain⟨l,D⟩:=Z1.1 E;simp at l D;subst D;rw[E]at k;simp only[V4,W0]at k;exact⟨l,k.symm⟩
 by_cases A:rows.length+xr.length<=cap
 ·have L:∀j,j<xr.length*i.size->rows.length*i.size+j<cap*i.size:=λj k=>by
   have:(rows.length+xr.length)*i.size<=cap*i.size:=R6 _ A;rw[Nat.add_mul]at this;omega
  have B:=JH (P:=P) (ty:=ty) ht W (g:=g) (n:=rows.length) (cap:=cap) (c:=c) d (λy hy=>by
    obtain⟨j,k⟩:=List.getElem?_of_mem hy;obtain⟨l,rfl⟩:=Q _ _ _ _ k;exact Y.one l) A (λj k=>by
      have:=a _ (L j (by rw[<-hkx]at k;exact k));exact⟨this.2.1.imp λ_ h=>h.1,this.2.2⟩)
  generalize J:(List.range (xr.length*i.size)).map M=news at B hkx;have U:b8 F w (w.setCells g (rows.length*i.size) news):=nR news _ w (λj k=>(a _ (L j ω)).1);refine⟨_,_,B,U,?_⟩;have hSS:bh S w (w.setCells g (rows.length*i.size) news):=λb o d=>⟨U.cel b o (hSe b o d) (λh'=>hFS b o h' d),ef _ _ _ _ _ _⟩
  have hVV:bh V w (w.setCells g (rows.length*i.size) news):=λb o d=>⟨U.cel b o (R b o d) (λh'=>G b o h' d),ef _ _ _ _ _ _⟩
  have hFF:bh (λb o=>F b o/\¬(b=g/\o<cap*i.size)) w (w.setCells g (rows.length*i.size) news):=λb o d=>⟨fX (λ⟨e1,e2,e3⟩=>d.2 ⟨e1,by
    have:=L (o - rows.length*i.size) ω;omega⟩),ef _ _ _ _ _ _⟩
  have T:=(N.keep hSS hFF).append (Y.keep hSS hVV) (λb o d hv=>G b o d.1 hv);have hex:∀j,j<news.length->∃z,cel w g (rows.length*i.size+j)=some z:=λj k=>(a _ (L j ω)).2.1.imp λ_ h=>h.1
  refine T.own (n:=rows.length+xr.length) (cap:=cap) (by simp) A ω (λq p=>?_) (λq p=>?_) (λb o d=>⟨d.elim (λh=>.inl h.1) (λh=>.inr (.inl h)),λh=>d.elim (λh'=>h'.2 h) (λhv=>?_)⟩)
  ·obtain⟨l,⟨z0,D,h2'⟩,h3⟩:=a q p
   refine⟨.inl l,?_,by rw[ef];exact h3⟩;by_cases E:rows.length*i.size<=q/\q<rows.length*i.size+news.length
   ·have h4:news[q - rows.length*i.size]? = some (M (q - rows.length*i.size)):=by
     rw[<-J,W2,Z5 ω];rfl
    have:=jB hex h4;rw[show rows.length*i.size+(q - rows.length*i.size)=q by omega]at this;exact⟨_,this,Y.one ω⟩
   exact⟨z0,by rw[fX ω];exact D,h2'⟩
  ·rw[Nat.add_mul]at p
   by_cases E:q<rows.length*i.size
   ·rw[CB E,fX ω];exact hu q E
   rw[C9 E];have h4:news[q - rows.length*i.size]? = some (M (q - rows.length*i.size)):=by
    rw[<-J,W2,Z5 ω];rfl
   have:=jB hex h4
   rwa [show rows.length*i.size+(q - rows.length*i.size)=q by omega]at this
  obtain⟨e1,e2⟩:=h;subst e1;exact G _ _ (a o e2).1 hv
 exact grow (some ⟨g,0,none⟩) cap u f ω ⟨by simp,λh=>(by cases h),λad j y had k=>by
   cases had;obtain⟨l,rfl⟩:=Q _ _ _ _ k;rw[gp,C6];exact hu j l⟩ ⟨N.hk,λq p b o d=>(N.hf q p b o d).1,N.hd,N.hc⟩ rfl
end
def fc:List C->(List C->Prop)->Prop
 | [],K=>K []
 | c::cs,K=>fc cs λt=>K (c::t)
theorem cZ:∀(cs:List C)(K:List C->Prop),fc cs K=K cs
 | [],_=>rfl
 | c::cs,K=>by rw[fc,cZ cs]
def chunk(k:Nat):Nat->List C->List (List C)
 | 0,_=>[]
 | n+1,a=>a.take k::chunk k n (a.drop k)
def Qr(k:Nat):Nat->List C->(List (List C)->Prop)->Prop
 | 0,_,K=>K []
 | n+1,a,K=>fc (a.take k) λr=>Qr k n (a.drop k) λb=>K (r::b)
theorem ow(k:Nat):∀(n:Nat)(cs:List C)(K:List (List C)->Prop),Qr k n cs K=K (chunk k n cs)
 | 0,_,_=>rfl
 | n+1,cs,K=>by rw[Qr,cZ,ow k n];rfl
def PU(TE:Nat->Option TI)(flds:List (Nat × Nat))(i:Nat):Option (Nat × Nat):=
 match flds[i]? with
 | some p=>(match TE p.2 with|some a=>some (p.1,a.size)|none=>none)
 | none=>none
def zX(TE:Nat->Option TI):List (Nat × Nat)->Bool
 | []=>true
 | p::l=>(TE p.2).isSome&&zX TE l
def Q7(size i:Nat):Option (Nat × Nat):=some (i*size,size)
def fillP(F:Nat->AV)(c:Nat->Option (Nat × Nat)):List (Nat × Operand)->List C->(List C->Prop)->Prop
 | [],a,K=>K a
 | p::rest,a,K=>match c p.1 with
  | some q=>gM F (lY F p.2) λ_ xs=>bif aW xs&&Nat.beq xs.length q.2&&Nat.ble (q.1+q.2) a.length then fc (splice a q.1 xs) λb=>fillP F c rest b K else False
  | none=>False
def sv(TE:Nat->Option TI)(F:Nat->AV)(T:Nat)(parts:List (Nat × Operand))(K:AV->Prop):Prop:=
 match TE T with
 | some ⟨_,_,zero,.st flds⟩=>bif zX TE flds then fillP F (PU TE flds) parts zero λa=>K (.F .agg a) else False
 | _=>False
def rep(z:List C):Nat->List C
 | 0=>[]
 | n+1=>z++rep z n
def Ep(TE:Nat->Option TI)(T:Nat)(K:Nat->TI->Prop):Prop:=
 match TE T with
 | some ⟨_,_,_,.sl e⟩=>(match TE e with
   | some a=>bif Nat.beq a.zero.length a.size&&Nat.ble 1 a.size then K e a else False
   | none=>False)
 | _=>False
def uK(TE:Nat->Option TI)(F:Nat->AV)(T n:Nat)(parts:List (Nat × Operand))(K:AV->Prop):Prop:=
 Ep TE T λ_ b=>bif Nat.ble (n*b.size) 16777216 then(match n,parts with
   | 0,[]=>K (.F .one [.z])
   | n+1,parts=>fc (rep b.zero (n+1)) λd=>fillP F (Q7 b.size) parts d λc=>Qr b.size (n+1) c λa=>K (.F .one [.s .own a])
   | _,_=>False) else False
inductive Fl(rows:List (List C))(sz by_:Nat)(X:Prop):Prop
 |mk_ (h:(∀r∈rows,r.length=sz/\aW r=true)/\rows.length<=140737488355328/\rows.length*by_<=140737488355328/\X)
theorem Fl.mk{rows:List (List C)}{sz by_:Nat}{X:Prop}(h1:∀r∈rows,r.length=sz/\aW r=true)(a:rows.length<=140737488355328)(b:rows.length*by_<=140737488355328)(c:X):Fl rows sz by_ X:=by refine .mk_ ?_;grind
def Fl.out{rows:List (List C)}{sz by_:Nat}{X:Prop}(h:Fl rows sz by_ X):(∀r∈rows,r.length=sz/\aW r=true)/\rows.length<=140737488355328/\rows.length*by_<=140737488355328/\X:=by obtain⟨h⟩:=h;exact h
def G9(TE:Nat->Option TI)(F:Nat->AV)(T:Nat)(x y:Operand)(K:AV->Prop):Prop:=
 Ep TE T λ_ a=>gM F (lY F x) λb c=>match b,c with
  | none,[.z]=>gM F (lY F y) λag2 cs2=>match ag2,cs2 with
   | none,[.s _ rows]=>Fl rows a.size a.bytes (K (.F .one [.s .own rows]))
   | none,[.z]=>K (.F .one [.z])
   | _,_=>False
  | _,_=>False
section
variable{P:Program}{w0 w w1:World}{M S0 S:ab}{N:dU}{φ:Nat->ab}{F:Nat->AV}{a:Act}{TE:Nat->Option TI}
theorem z9{α:Type}(l xs:List α){p q:Nat}(a:p<=l.length)(b:q=p+xs.length)(j:Nat):(l.take p++xs++l.drop q)[j]? = if j<p then l[j]? else if j<q then xs[j - p]? else l[j]?:=ψ
theorem qQ{off:Nat} : ∀(xs:List Value)(k:Nat)(cells:Array Value),off+k+xs.length<=cells.size->
  ((xs.zipIdx k).foldl (λcs (c,j)=>cs.setIfInBounds (off+j) c) cells).toList=cells.toList.take (off+k)++xs++cells.toList.drop (off+k+xs.length)
 | [],k,cells,_=>by simp
 | x::xs,k,cells,h=>by
  simp only[List.length_cons]at h;simp only[List.zipIdx_cons,List.foldl_cons];rw[qQ xs (k+1) _ (by simp;omega)];apply List.ext_getElem?;intro j;rw[z9 _ _ (by simp;omega) rfl,z9 _ _ (by simp;omega) rfl]
  grind
theorem z7{cs xs:List C}{off:Nat}(h:off+xs.length<=cs.length)(u a:Nat->Value) :
  (List.range (splice cs off xs).length).map (λj=>if off<=j/\j<off+xs.length then a (j - off) else u j)=((List.range cs.length).map u).take off++(List.range xs.length).map a++((List.range cs.length).map u).drop (off+xs.length):=by
 rw[cB h];apply List.ext_getElem?
 grind [z9]
theorem zh{a:Nat->Option (Nat × Nat)}{i:Nat}{q:Nat × Nat}(d:a i=some q){cs xs:List C}{u c:Nat->Value}{cells:Array Value}{v:Value}{rest:List (Nat × Value)}(b:cells.toList=(List.range cs.length).map u)(e:v.cells.toList=(List.range xs.length).map c)(h1:xs.length=q.2)(f:q.1+q.2<=cs.length) :
  ∃cells',Instr.fill a cells ((i,v)::rest)=Instr.fill a cells' rest/\cells'.toList=(List.range (splice cs q.1 xs).length).map (λj=>if q.1<=j/\j<q.1+xs.length then c (j - q.1) else u j):=by
 obtain⟨off,size⟩:=q;simp only at h1 f;have g:v.cells.size=xs.length:=by have:=U0 List.length e;simpa using this
 have h:cells.size=cs.length:=by have:=U0 List.length b;simpa using this
 refine⟨_,by simp only[Instr.fill,d];rw[C9 (by simp;omega)],?_⟩;have:=qQ (off:=off) v.cells.toList 0 cells (by simp;omega)
 grind [Array.toList_zipIdx,z7]
theorem aV.fillP(h:aV w0 M S0 N S φ F a w){o:Nat->Option (Nat × Nat)} : ∀{parts:List (Nat × Operand)}{cs:List C}{K:List C->Prop}{u:Nat->Value}{cells:Array Value},Ab.fillP F o parts cs K->cx w S NO cs u->cells.toList=(List.range cs.length).map u->
  ∃b e cells',K b/\b.length=cs.length/\cx w S NO b e/\Instr.fill o cells (parts.map λp=>(p.1,a.eval p.2))=some cells'/\cells'.toList=(List.range b.length).map e
 | [],cs,K,u,cells,c,f,g=>⟨cs,u,cells,c,rfl,f,rfl,g⟩
 | p::rest,cs,K,u,cells,c,f,g=>by
  simp only[Ab.fillP]at c;split at c
  case h_2=>exact c.elim
  rename_i q r;obtain⟨B,xs,Y,i,t,-⟩:=h.val (h.ev p.2) c;cases d:(aW xs&&Nat.beq xs.length q.2&&Nat.ble (q.1+q.2) cs.length) with
  | false=>grind
  | true=>
   rw[d]at i;simp only[I0]at d;have y:=V1 d.1.2;have A:=Z0 d.2;simp only[cond_true,cZ]at i;obtain⟨D,j,k⟩:=t.cells;obtain⟨cells1,E,l⟩:=zh (rest:=rest.map λp=>(p.1,a.eval p.2)) r g j y A;have n:=(f.join (k.bare (F':=NO) d.1.1) (off:=q.1) ω (λ_ _ h=>h.elim)).mono (F':=NO) (λ_ _ h=>h) ψ;obtain⟨b,e,cells',G,H,J,L,O⟩:=aV.fillP h i n l
   grind [cB]
theorem tP(a:∀t i,TE t=some i->gg P t i):∀{fs:List Field}{flds:List (Nat × Nat)},fs.map (λf=>(f.offset,f.type))=flds->zX TE flds=true->
  ∃pls:List (Nat × Nat),fs.mapM (λf=>(P.info? f.type).map λi=>(f.offset,i.size))=some pls/\∀i,pls[i]? = PU TE flds i
 | [],flds,h,_=>by subst h;exact⟨[],by simp,λi=>by simp[PU]⟩
 | f::fs,flds,h,c=>by
  subst h;simp only[O5,zX,I0]at c;obtain⟨pls,j,k⟩:=tP a (fs:=fs) rfl c.2;cases d:TE f.type with
  | none=>grind
  | some e=>
   have b:=(a _ _ d).size;cases g:P.info? f.type with
   | none=>grind
   | some l=>
    rw[g]at b;simp only[V4,W0]at b;refine⟨(f.offset,e.size)::pls,?_,λi=>?_⟩
    ·simp_all
    grind [PU]
theorem wd(a:∀t i,TE t=some i->gg P t i){T size bytes:Nat}{zero:List C}{flds:List (Nat × Nat)}(c:TE T=some ⟨size,bytes,zero,.st flds⟩)(e:zX TE flds=true){parts:Array (Nat × Value)}{cells':Array Value}(g:∀cells:Array Value,cells.toList=zero.map cval->Instr.fill (PU TE flds) cells parts.toList=some cells'):(Instr.build T parts).run P w=.ok (.agg cells') w:=by
 refine run_build w T parts cells' ?_;have d:=(a _ _ c).1;obtain⟨h,j,b⟩:=(a _ _ c).2.2;obtain⟨pls,k,l⟩:=tP (P:=P) a b e;unfold Program.built;cases f:P.info? T with
 | none=>grind
 | some q=>
  rw[f]at d;simp only[V4,W0,Prod.mk.injEq]at d;cases n:q.zero with
  | none=>grind
  | some z=>
   simp_all
theorem aV.build(h:aV w0 M S0 N S φ F a w)(b:∀t i,TE t=some i->gg P t i){T:Nat}{parts:Array (Nat × Operand)}{K:AV->Prop}(c:sv TE F T parts.toList K) :
  ∃av v,K av/\(Instr.build T (parts.map λ(i,x)=>(i,a.eval x))).run P w=.ok v w/\cu w S F (tvs a) NO av v:=by
 unfold sv at c;split at c
 case h_2=>exact c.elim
 rename_i size bytes zero flds f;cases g:zX TE flds with
 | false=>grind
 | true=>
  rw[g]at c;have e:=(b _ _ f).2.1;have l:∀cells:Array Value,cells.toList=zero.map cval->cells.toList=(List.range zero.length).map (λj=>(zero.map cval).getD j undef):=λcells k=>by
   rw[k];apply List.ext_getElem?
   grind
  obtain⟨d,n,cells',o,u,p,y,q⟩:=h.fillP c (o8 e S) (l ((zero.map cval).toArray) (by simp));refine⟨_,.agg cells',o,wd b f g λcells k=>?_,?_⟩
  ·have:cells=(zero.map cval).toArray:=ψ
   simp_all
  have r:cells'.size=d.length:=by have:=U0 List.length q;simpa using this
  refine bu.slot (ag:=some d.length) (v:=.agg cells') ⟨rfl,n,?_,p⟩;simp only[mkv]
  congr 1
  grind
theorem yr(k:Nat):∀(n:Nat)(cs:List C)(i:Nat),(chunk k n cs)[i]? = if i<n then some ((cs.drop (i*k)).take k) else none
 | 0,_,i=>by simp[chunk]
 | n+1,cs,0=>by simp[chunk]
 | n+1,cs,i+1=>by
  simp only[chunk,List.getElem?_cons_succ];rw[yr k n,List.drop_drop,show k+i*k=(i+1)*k by rw[Nat.add_mul];omega];by_cases h:i<n
  ·rw[CB h,CB ω]
  rw[C9 h,C9 ω]
theorem lU(k:Nat):∀(n:Nat)(cs:List C),(chunk k n cs).length=n
 | 0,_=>rfl
 | n+1,cs=>by simp[chunk,lU k n]
theorem m7(z:List C):∀n,(rep z n).length=n*z.length
 | 0=>by simp[rep]
 | n+1=>by simp[rep,m7 z n,Nat.add_mul];omega
theorem Gj{z:List C} : ∀{n j:Nat},j<n*z.length->(rep z n)[j]? = z[j % z.length]?
 | 0,j,h=>by simp at h
 | n+1,j,h=>by
  rw[Nat.add_mul]at h;simp only[rep];by_cases a:j<z.length
  ·rw[Z3 a,Nat.mod_eq_of_lt a]
  rw[C4 ω,Gj ω];rw[Nat.mod_eq_sub_mod (show j≥z.length by omega)]
theorem cx.els{Y:ab}{cs:List C}{u:Nat->Value}(h:cx w S Y cs u){k n:Nat}(p:cs.length=n*k):∃f,xG w S Y (chunk k n cs) k u f:=by
 obtain⟨f,t,d,e⟩:=h;have a:∀i,i<n->((cs.drop (i*k)).take k).length=k:=λi b=>by
  have:(i+1)*k<=n*k:=R6 k b
  grind
 refine⟨f,λr y=>?_,λq g=>d q (by grind [lU]),λq l g o=>e q l (by grind [lU]) (by grind [lU]),λi j r c b A=>?_⟩
 all_goals grind [List.getElem?_of_mem,yr]
def wI{Y:ab}{cs:List C}{u:Nat->Value}(h:cx w S Y cs u){k n e:Nat}(p:cs.length=n*k)(r:0<n){cells:Array Value}(t:cells.toList=(List.range cs.length).map u)(y:∀b o,S b o->b<w.heap.size)(g:∀b o,Y b o->b<w.heap.size) :
  df (w.alloc (.cells cells e)) S (λb o=>Y b o\/(w.heap.size<=b/\b<(w.alloc (.cells cells e)).heap.size)) (.s .own (chunk k n cs)) (.slice (some ⟨w.heap.size,0,none⟩) n n):=by
 have c:∀j,j<cs.length->(u j).oneCell'=true:=λj A=>h.one A
 obtain⟨f,B⟩:=h.els p;have d:=B.keep (gJ (cT w (.cells cells e)) y) (gJ (cT w (.cells cells e)) g);have a:∀q,q<n*k->cel (w.alloc (.cells cells e)) w.heap.size q=some (u q):=λq i=>by
  rw[iZ,<-Array.getElem?_toList,t,W2,Z5 ω];rfl
 refine d.own (by rw[lU]) (U2 n) r (λq i=>⟨.inr ⟨U2 _,by rw[kj];omega⟩,⟨_,a q i,c q ω⟩,iV _ _ _ _⟩) a (λb o l=>⟨.inl l,λ⟨D,_⟩=>?_⟩);have:=g b o l;omega
theorem sB{z:List C}(a:jD z)(S:ab)(n:Nat):cx w S NO (rep z n) (λj=>(z.map cval).getD (j % z.length) undef):=by
 obtain⟨f,b,-,-⟩:=o8 (w:=w) a S;refine⟨λ_=>NO,λj c d=>?_,λ_ _ _ _ h=>h,λ_ _ _ _ _ _ _ h=>h.elim⟩
 grind [m7,Gj,df.bare,rQ]
theorem gg.info{t:Nat}{i:TI}(h:gg P t i):∃q z,P.info? t=some q/\q.zero=some z/\z.cells.toList=i.zero.map cval/\q.size=i.size/\q.bytes=i.bytes:=by
 have:=h.1;cases a:P.info? t with
 | none=>grind
 | some q=>
  simp_all
theorem i9{T:Nat}{K:Nat->TI->Prop}(b:∀t i,TE t=some i->gg P t i)(h:Ep TE T K) :
  ∃e a q z,K e a/\TE e=some a/\P.underlying T=some (.slice e)/\gg P e a/\a.zero.length=a.size/\0<a.size/\P.info? e=some q/\q.zero=some z/\z.cells.toList=a.zero.map cval/\q.size=a.size/\q.bytes=a.bytes/\z.cells.size=q.size:=by
 unfold Ep at h;split at h
 case h_2=>exact h.elim
 rename_i e g;split at h
 case h_2=>exact h.elim
 rename_i a d;cases c:(Nat.beq a.zero.length a.size&&Nat.ble 1 a.size) with
 | false=>grind
 | true=>
  rw[c]at h;simp only[I0]at c;obtain⟨q,z,j,k,f,l,n⟩:=(b _ _ d).info;have o:=V1 c.1;exact⟨e,a,q,z,h,d,(b _ _ g).2.2,b _ _ d,o,Z0 c.2,j,k,f,l,n,by have:=U0 List.length f;simp at this;omega⟩
def BD{zero:List C}(a:jD zero):∀x∈zero.map cval,x.oneCell'=true:=by
 induction zero with
 | nil=>simp
 | cons c f e=>
  intro x b;rcases List.mem_cons.1 b with rfl|b
  ·cases c with
   | v x=>exact a.1
   | z=>rfl
   | x=>exact a.elim
   | s=>exact a.elim
   | m=>exact a.elim
   | it=>exact a.elim
  exact e (by cases c with|v x=>exact a.2|z=>exact a|x=>exact a.elim|s o d=>exact a.elim|m=>exact a.elim|it=>exact a.elim) x b
theorem tJ{T e:Nat}{q:TypeInfo}(a:P.underlying T=some (.slice e))(b:P.info? e=some q):(Instr.buildSlice T 0 #[]).run P w=.ok (.slice (some ⟨w.heap.size,0,none⟩) 0 0) (w.alloc (.cells #[] e)):=by
 simp[Instr.buildSlice,run_underlying a,sizeOf,typeInfo,b,newRow,Instr.fill,Array.range_zero']
theorem nL{zero:List C}{z:Value}(a:z.cells.toList=zero.map cval)(b:0<zero.length)(m:Nat):((Array.range m).map (z.cells[· % z.cells.size]!)).toList=(List.range m).map (λj=>(zero.map cval).getD (j % zero.length) undef):=by grind [Array.toList_map,List.map_congr_left,Nat.mod_lt]
def fh{Y:ab}{c:C}{v:Value}(h:df w S Y c v){F:Nat->AV}{tv:Nat->Value} : cu w S F tv Y (.F .one [c]) v:=by
 refine⟨NO,Y,λ_ _ h=>h.elim,λ_ _ h=>h,λ_ _ h=>h.elim,rfl,λ_=>Y,λj e a=>?_,λ_ _ _ _ h=>h,λj f a b d=>?_⟩
 ·cases j with
  | zero=>simp at a;subst a;exact h
  | succ j=>simp at a
 simp at a b;omega
theorem aV.buildS(h:aV w0 M S0 N S φ F a w)(k:∀t i,TE t=some i->gg P t i){T n:Nat}{parts:Array (Nat × Operand)}{K:AV->Prop}(H:uK TE F T n parts.toList K) :
  ∃av v w1,K av/\(Instr.buildSlice T n (parts.map λ(i,x)=>(i,a.eval x))).run P w=.ok v w1/\kD w S F a av v w1:=by
 obtain⟨e,l,q,z,f,X,B,J,L,C,D,O,p,g,Q,R⟩:=i9 k H;cases d:Nat.ble (n*l.size) 16777216 with
 | false=>grind
 | true=>
  rw[d]at f;have r:=Z0 d;simp only[cond_true]at f;split at f
  ·rename_i hparts
   have:parts = #[]:=ψ
   subst this;refine⟨_,_,_,f,by rw[Array.map_empty];exact tJ B D,cT _ _,NO,S,λ_ _ h=>h.elim,λ_ _ h=>h,λ_ _ h=>.inl h,λ_ _ h=>h.elim,?_⟩;exact⟨NO,NO,λ_ _ h=>h,λ_ _ h=>h,λ_ _ _ h=>h,rfl,λ_=>NO,λj c u=>(by cases j with|zero=>simp at u;subst u;exact .z _ _|succ j=>simp at u),λ_ _ _ _ h=>h,ψ⟩
  ·rename_i n
   rw[Nat.succ_eq_add_one]at r;rw[cZ]at f;obtain⟨y,Y,cells',E,Z,U,G,V⟩:=h.fillP f (sB J.2.1 S _) (nL p ω (rep l.zero (n+1)).length);rw[ow]at E;have A:y.length=(n+1)*l.size:=by grind [m7]
   refine⟨_,_,_,E,run_buildSlice w T e (n+1) _ cells' q z B D O (by rw[g];omega) ψ ?_,cT _ _,λb _=>w.heap.size<=b/\b<(w.alloc (.cells cells' e)).heap.size,S,ω,λ_ _ h=>h,λ_ _ h=>.inl h,λb o d W=>?_,?_⟩
   ·rw[g,Array.toList_map]
    rw[m7,L]at G;exact G
   ·have:=(h.sup b o W).1;have:=d.1;omega
   have:=(wI (e:=e) U A ω V (λb o d=>(h.sup b o d).1) (λ_ _ h=>h.elim)).mono (F':=λb o=>w.heap.size<=b/\b<(w.alloc (.cells cells' e)).heap.size) (λ_ _ h=>h) (λb o d=>d.elim (λh=>h.elim) id);exact fh this
  exact f.elim
theorem df.flat{Y:ab}{o:du}{rows:List (List C)}{v:Value}(h:df w S Y (.s o rows) v){sz:Nat}(X:∀r∈rows,r.length=sz/\aW r=true) :
  ∃b c u,v=.slice b rows.length c/\ov w b (rows.length*sz) ((List.range (rows.length*sz)).map u)/\xG w S NO rows sz u (λ_=>NO):=by
 have H:∀(g e k:Nat)(u:Nat->Value)(f:Nat->ab),(∀r∈rows,r.length=k)->(∀q,q<rows.length*k->cel w g (e+q)=some (u q))->(∀(i j:Nat)(r:List C)(c:C),rows[i]? = some r->r[j]? = some c->df w S (f (i*k+j)) c (u (i*k+j)))->
   ov w (some ⟨g,e,none⟩) (rows.length*sz) ((List.range (rows.length*sz)).map u)/\xG w S NO rows sz u (λ_=>NO):=λg e k u f l A Q=>by
  have J:rows≠[]->k=sz:=λK=>by
   obtain⟨r,Q⟩:=List.exists_mem_of_ne_nil _ K
   grind
  refine⟨⟨by simp,ψ,λR j y L B=>?_⟩,ψ,ψ,λ_ _ _ _ _ _ _ h=>h.elim,λi j r c Z B=>?_⟩
  ·cases L
   rw[W2]at B;have D:j<rows.length*sz:=ψ
   rw[Z5 D]at B;simp only[V4,W0]at B;subst B;rw[gp];refine A j ?_;rw[J ψ];exact D
  grind [df.bare,pZ]
 generalize d:C.s o rows=c0 at h;cases h with
 | v=>cases d
 | x=>cases d
 | z=>cases d
 | m=>cases d
 | it=>cases d
 | nil F M a N=>
  cases d;exact⟨a,0,λ_=>undef,rfl,⟨by simp,λ_=>by simp,λR j u _ B=>by simp at B⟩,ψ,ψ,ψ,ψ⟩
 | U F g e k n E p u G l t hS A=>
  cases d;subst G;exact⟨_,_,u,rfl,H g e k u (λ_=>NO) l ψ A⟩
 | own F M g k n E p u f N G l t O T P U V A=>
  cases d;subst G;exact⟨_,_,u,rfl,H g 0 k u f l ψ A⟩
 | suf F M g e k n E p u f N G l t T P U V A=>
  cases d;subst G;exact⟨_,_,u,rfl,H g e k u f l (λq W=>(P q W).1) A⟩
def bu.rep1{Y:ab}{c:C}{v:Value}(h:bu w S Y none [c] v):df w S Y c v:=by
 obtain⟨-,u,rfl,f,a,b,-⟩:=h;exact(a 0 c rfl).mono (λ_ _ h=>h) (b 0 (by simp))
def t7{Y:ab}{v:Value}(h:df w S Y .z v):∃b,v=.slice b 0 0:=by
 generalize a:C.z=c at h;cases h with
 | z=>exact⟨_,rfl⟩
 | _=>cases a
def kD.same{av:AV}{v:Value}(b:cu w S F (tvs a) NO av v):kD w S F a av v w:=
 ⟨CV _ _,NO,S,λ_ _ h=>h.elim,λ_ _ h=>h,λ_ _ h=>.inl h,λ_ _ h=>h.elim,b⟩
theorem aV.appP(h:aV w0 M S0 N S φ F a w)(l:∀t i,TE t=some i->gg P t i){T ty:Nat}{x y:Operand}{K:AV->Prop}(L:G9 TE F T x y K) :
  ∃av v w1,K av/\(Builtin.append_ #[T,T] ty #[a.eval x,a.eval y]).run P w=.ok v w1/\kD w S F a av v w1:=by
 obtain⟨e,ie,q,z,d,he,C,O,hl,D,E,Q,n,p,R,r⟩:=i9 l L;obtain⟨U,V,Y,d,W,-⟩:=h.val (h.ev x) d
 match U,V,d with
 | none,[.z],d=>
  obtain⟨b,f⟩:=t7 W.rep1;obtain⟨ag2,cs2,Y2,d,g,-⟩:=h.val (h.ev y) d;rw[f]
  match ag2,cs2,d with
  | none,[.s o rows],d=>
   obtain⟨X,Z,h3,d⟩:=d.out;obtain⟨b2,c2,u2,g,G,H⟩:=g.rep1.flat X;rw[g];have u:∀x∈z.cells.toList,x.oneCell'=true:=by rw[n];exact BD O.2.1
   rw[<-p]at G H;obtain⟨v',J,j,A,k⟩:=uS (P:=P) (ty:=ty) (S:=S) C E Q r u (F:=NO) (rows:=[]) (xr:=rows) (.nil _ _ b trivial) (by simp) H (c:=c2) G (λ_ _ h=>h.elim) (λ_ _ h=>h.elim) (λ_ _ h=>h.elim) (λ_ _ h=>h.elim) (λb o f=>(h.sup b o f).1) (by simpa using Z) ψ;refine⟨_,v',J,d,j,A,λb _=>w.heap.size<=b/\b<J.heap.size,S,ω,λ_ _ h=>h,λ_ _ h=>.inl h,λb o f hS=>by have:=(h.sup b o hS).1;have:=f.1;omega,fh (k.mono (λ_ _ h=>h) (λb o f=>f.elim (λh=>h.elim) (λf=>f.elim (λh=>h.elim) id)))⟩
  | none,[.z],d=>
   obtain⟨b2,B⟩:=t7 g.rep1;rw[B];exact⟨_,_,w,d,tR C E (U2 0),kD.same (fh (Y:=NO) (.z _ _))⟩
end
def zrows(z:List C):Nat->List (List C)
 | 0=>[]
 | n+1=>z::zrows z n
def Ll(z:List C):∀n,zrows z n=List.replicate n z
 | 0=>rfl
 | n+1=>by rw[zrows,Ll z n];rfl
inductive Mk(l c:Int)(by_:Nat)(z:List C)(K:List (List C)->Prop):Prop
 |mk_ (h:∃n:Nat,l=(n:Nat)/\c=(n:Nat)/\n<=140737488355328/\n*by_<=140737488355328/\∃rows,rows=List.replicate n z/\K rows)
theorem Mk.mk{l c:Int}{by_:Nat}{z:List C}{K:List (List C)->Prop}{rows:List (List C)}(n:Nat)(h1:l=(n:Nat))(a:c=(n:Nat))(b:n<=140737488355328)(d:n*by_<=140737488355328)(e:rows=List.replicate n z)(f:K rows):Mk l c by_ z K:=by refine .mk_ ?_;grind
theorem Mk.out{l c:Int}{by_:Nat}{z:List C}{K:List (List C)->Prop}(h:Mk l c by_ z K):∃n:Nat,l=(n:Nat)/\c=(n:Nat)/\n<=140737488355328/\n*by_<=140737488355328/\K (List.replicate n z):=by
 obtain⟨h⟩:=h;grind
def uQ(F:Nat->AV)(x:Operand)(K:Int->Prop):Prop:=En F x λv=>match v with|.int _ n=>K n|_=>False
def Gx(TE:Nat->Option TI)(F:Nat->AV)(T:Nat)(x y:Operand)(K:AV->Prop):Prop:=
 Ep TE T λ_ b=>uQ F x λl=>uQ F y λc=>Mk l c b.bytes b.zero λa=>K (.F .one [.s .own a])
inductive Sl(rows:List (List C))(sz:Nat)(l h:Option Int)(K:List (List C)->Prop):Prop
 |mk_ (h:∃x y:Nat,(l=none/\x=0\/l=some ((x:Nat):Int))/\(h=none/\y=rows.length\/h=some ((y:Nat):Int))/\x<=y/\y<=rows.length/\(∀r∈rows,r.length=sz)/\∃rows',rows'=(rows.take y).drop x/\K rows')
theorem Sl.pre{rows a:List (List C)}{sz:Nat}{h:Int}{K:List (List C)->Prop}(y:Nat)(h1:h=(y:Nat))(b:y<=rows.length)(c:∀r∈rows,r.length=sz)(d:a=rows.take y)(e:K a):Sl rows sz none (some h) K:=by
 refine .mk_ ?_;grind
def CU:type_of% @Sl.pre:=@Sl.pre
theorem Sl.suf{rows a:List (List C)}{sz:Nat}{l:Int}{K:List (List C)->Prop}(x:Nat)(h1:l=(x:Nat))(b:x<=rows.length)(c:∀r∈rows,r.length=sz)(d:a=rows.drop x)(e:K a):Sl rows sz (some l) none K:=by
 refine .mk_ ?_;grind
theorem Sl.out{rows:List (List C)}{sz:Nat}{l h:Option Int}{K:List (List C)->Prop}(a:Sl rows sz l h K):∃x y:Nat,(l=none/\x=0\/l=some ((x:Nat):Int))/\(h=none/\y=rows.length\/h=some ((y:Nat):Int))/\x<=y/\y<=rows.length/\(∀r∈rows,r.length=sz)/\K ((rows.take y).drop x):=by
 obtain⟨a⟩:=a;grind
def Kk(F:Nat->AV)(x:Option Operand)(K:Option Int->Prop):Prop:=
 match x with
 | none=>K none
 | some x=>uQ F x λn=>K (some n)
def KN(TE:Nat->Option TI)(F:Nat->AV)(T:Nat)(x:Operand)(lo c:Option Operand)(K:AV->Prop):Prop:=
 Ep TE T λ_ b=>Kk F lo λl=>Kk F c λh=>gM F (lY F x) λd e=>match d,e with
  | none,[.s .U rows]=>Sl rows b.size l h λa=>K (.F .one [.s .U a])
  | none,[.z]=>Sl [] b.size l h λ_=>K (.F .one [.z])
  | _,_=>False
inductive Sx(s:ByteArray)(n:Int)(K:ByteArray->Prop):Prop
 |mk_ (h:∃(m:Nat)(z:ByteArray),n=m/\m<=s.size/\s.extract 0 m=z/\K z)
def Sx.mk{s z:ByteArray}{n:Int}{K:ByteArray->Prop}(m:Nat)(h1:n=m)(a:m<=s.size)(b:s.extract 0 m=z)(c:K z):Sx s n K:=by refine .mk_ ?_;exact⟨m,z,h1,a,b,c⟩
def Sx.out{s:ByteArray}{n:Int}{K:ByteArray->Prop}(h:Sx s n K):∃(m:Nat)(z:ByteArray),n=m/\m<=s.size/\s.extract 0 m=z/\K z:=by obtain⟨h⟩:=h;exact h
def Po(F:Nat->AV)(x a:Operand)(K:AV->Prop):Prop:=
 En F x λv=>match v with
  | .string s=>uQ F a λn=>Sx s n λz=>K (.F .one [.v (.string z)])
  | _=>False
def FT(TE:Nat->Option TI)(T:Nat):Bool:=match TE T with
 | some ⟨_,_,_,.sc .string⟩=>true
 | _=>false
def nz(TE:Nat->Option TI)(F:Nat->AV)(T:Nat)(x:Operand)(lo a:Option Operand)(K:AV->Prop):Prop:=
 bif FT TE T then(match lo,a with
   | none,some y=>Po F x y K
   | _,_=>False)
 else KN TE F T x lo a K
def NK:Operand->Bool
 | .const (.int .i64 0)=>true
 | _=>false
def Nh(TE:Nat->Option TI)(F:Nat->AV)(T:Nat)(x a b:Operand)(K:AV->Prop):Prop:=
 Ep TE T λ_ _=>bif NK a&&NK b then gM F (lY F x) λc d=>match c,d with
  | none,[.s _ _]=>K (.F .one [.z])
  | none,[.z]=>K (.F .one [.z])
  | _,_=>False
 else False
def pI(TE:Nat->Option TI)(F:Nat->AV)(T:Nat)(x:Operand)(f:Nat)(K:AV->Prop):Prop:=
 match TE T with
 | some ⟨_,_,_,.st flds⟩=>(match flds[f]? with
   | some p=>(match TE p.2 with
     | some i=>gM F (lY F x) λc a=>bif c.isSome&&(i.agg || Nat.beq i.size 1)&&Nat.ble (p.1+i.size) a.length then(bif aW (bt a p.1 i.size) then fc (bt a p.1 i.size) λb=>K (.F (kC (pc i)) b) else False) else False
     | none=>False)
   | none=>False)
 | _=>False
def v5(TE:Nat->Option TI)(F:Nat->AV)(a b:Nat)(x:Operand)(K:AV->Prop):Prop:=
 match TE a,TE b with
 | some _,some ⟨_,_,_,.sc (.int k)⟩=>uQ F x λn=>Wr k n λz=>K (.F .one [.v (.int k z)])
 | _,_=>False
def PX(a:Bool)(F:Nat->AV)(x y:Operand)(K:AV->Prop):Prop:=
 En F x λv=>match v with
  | .int k n=>uQ F y λm=>Ev (if a then(if m > n then m else n) else(if m<n then m else n)) λz=>K (.F .one [.v (.int k z)])
  | _=>False
section
variable{P:Program}{w0 w w1:World}{M S0 S:ab}{N:dU}{φ:Nat->ab}{F:Nat->AV}{a:Act}{TE:Nat->Option TI}
theorem aV.int(h:aV w0 M S0 N S φ F a w){x:Operand}{K:Int->Prop}(b:uQ F x K):∃k n,a.eval x=.int k n/\K n:=by
 obtain⟨c,-⟩:=h.scalar b
 grind
theorem yK(z:List C):∀n,chunk z.length n (rep z n)=List.replicate n z
 | 0=>rfl
 | n+1=>by
  simp only[chunk,rep,List.replicate_succ];rw[List.take_left,List.drop_left,yK z n]
theorem aV.make(h:aV w0 M S0 N S φ F a w)(k:∀t i,TE t=some i->gg P t i){T:Nat}{x y:Operand}{K:AV->Prop}(D:Gx TE F T x y K) :
  ∃av v w1,K av/\(Instr.makeSlice T (a.eval x) (a.eval y)).run P w=.ok v w1/\kD w S F a av v w1:=by
 obtain⟨e,B,q,z,f,Y,E,G,H,C,J,L,p,r,O,Q⟩:=i9 k D;obtain⟨R,l,U,f⟩:=h.int f;obtain⟨V,c,W,f⟩:=h.int f;obtain⟨n,rfl,rfl,Z,h2,f⟩:=f.out;have u:(q.bytes:Int)*(n:Int)<=281474976710656:=ψ
 have d:=run_make (P:=P) w T e q z E J L R V (n:Nat) (n:Nat) ω (T4 _) u ω;simp only[I2]at d;rw[U,W];refine⟨_,_,_,f,d,cT _ _,λb _=>w.heap.size<=b/\b<(w.alloc (.cells (madeCells z.cells (n*q.size)) e)).heap.size,S,ω,λ_ _ h=>h,λ_ _ h=>.inl h,λb o g X=>by have:=(h.sup b o X).1;have:=g.1;omega,fh ?_⟩;rcases Nat.eq_zero_or_pos n with A|A
 ·subst A;exact .nil _ _ _ trivial
 have j:(rep B.zero n).length=n*B.size:=by rw[m7,H]
 have:=(wI (e:=e) (cells:=madeCells z.cells (n*q.size)) (sB (w:=w) G.2.1 S n) j A (by
   have:=nL p ω (n*q.size);rw[j,<-r];exact this) (λb o g=>(h.sup b o g).1) (λ_ _ h=>h.elim)).mono (F':=λb o=>w.heap.size<=b/\b<(w.alloc (.cells (madeCells z.cells (n*q.size)) e)).heap.size) (λ_ _ h=>h) (λb o g=>g.elim (λh=>h.elim) id)
 grind [yK]
theorem vW(h:aV w0 M S0 N S φ F a w){x:Option Operand}{K:Option Int->Prop}(b:Kk F x K):(x=none/\K none)\/∃y k n,x=some y/\a.eval y=.int k n/\K (some n):=by
 cases x with
 | none=>exact .inl ⟨rfl,b⟩
 | some y=>obtain⟨k,n,c,d⟩:=h.int b;grind
theorem lK{T e sz len cap x y:Nat}{ad:Option Addr}{lo d:Option Operand}{l r:Option Int}(q:P.underlying T=some (.slice e))(F:(P.info? e).map (·.size)=some sz)(f:(lo=none/\l=none)\/∃o k n,lo=some o/\a.eval o=.int k n/\l=some n)(c:(d=none/\r=none)\/∃o k n,d=some o/\a.eval o=.int k n/\r=some n)(G:l=none/\x=0\/l=some ((x:Nat):Int))(H:r=none/\y=len\/r=some ((y:Nat):Int))(t:x<=y)(u:y<=len)(A:len<=cap) :
  (Instr.sliceAt T (.slice ad len cap) (lo.map a.eval) (d.map a.eval) none).run P w=.ok (sliced ad x y cap sz) w:=by
 have g:P.elem T=e:=by grind [Go.Program.elem]
 have b:P.underlying T=some (.slice (P.elem T)):=by rw[g];exact q
 have B:(sizeOf (P.elem T)).run P w=.ok sz w:=by grind [jo]
 rw[run_sliceAt_slice w T _ _ _ _ b];rcases f with⟨rfl,rfl⟩|⟨J,p,C,rfl,K,rfl⟩
 ·have h:x=0:=ψ
  subst h;rcases c with⟨rfl,rfl⟩|⟨D,i,j,rfl,E,rfl⟩
  ·have:y=len:=ψ
   subst this;have:=run_slice_all (P:=P) w T ad y cap b
   simp_all
  have:j=(y:Nat):=ψ
  subst this;have:=run_slice_h (P:=P) w T ad len cap b i (y:Nat) ω ω
  simp_all
 have:C=(x:Nat):=ψ
 subst this;rcases c with⟨rfl,rfl⟩|⟨D,i,j,rfl,E,rfl⟩
 ·have:y=len:=ψ
  subst this;have:=run_slice_l (P:=P) w T ad y cap b p (x:Nat) ω ω
  simp_all
 have:j=(y:Nat):=ψ
 subst this;have:=run_slice_lh (P:=P) w T ad len cap b p i (x:Nat) (y:Nat) ω ω ω
 simp_all
theorem Lh{o:Operand}(h:NK o=true):o=.const (.int .i64 0):=by grind [NK]
theorem uP{T e sz len cap:Nat}{ad:Option Addr}(d:P.underlying T=some (.slice e))(f:(P.info? e).map (·.size)=some sz) :
  (Instr.sliceAt T (.slice ad len cap) none (some (.int .i64 0)) (some (.int .i64 0))).run P w=.ok (.slice ad 0 0) w:=by
 have b:P.elem T=e:=by grind [Go.Program.elem]
 have a:P.underlying T=some (.slice (P.elem T)):=by rw[b];exact d
 have c:(sizeOf (P.elem T)).run P w=.ok sz w:=by grind [jo]
 rw[run_sliceAt_slice w T _ _ _ _ a];unfold Instr.slice;rw[Sem.run_bind,run_underlying a];simp[Instr.sliceBounds,Instr.sliceBound,asIntOf,c]
theorem aV.slice0(h:aV w0 M S0 N S φ F a w)(g:∀t i,TE t=some i->gg P t i){T:Nat}{x j k:Operand}{K:AV->Prop}(D:Nh TE F T x j k K) :
  ∃v,K (.F .one [.z])/\(Instr.sliceAt T (a.eval x) none (some (a.eval j)) (some (a.eval k))).run P w=.ok v w/\cu w S F (tvs a) NO (.F .one [.z]) v:=by
 obtain⟨e,O,q,z,c,Q,p,r,-⟩:=i9 g D;cases d:NK j&&NK k with
 | false=>grind
 | true=>
  rw[d]at c;rw[I0]at d;have E:=Lh d.1;have G:=Lh d.2;subst E G;obtain⟨H,J,Y,c,⟨R,u,A,f,B,-⟩,-⟩:=h.val (h.ev x) c
  match H,J,c with
  | none,[.s o rows],c=>
   obtain⟨b,l,L⟩:=(B 0 _ rfl).slice;have n:a.eval x=.slice b rows.length l:=A.trans L;rw[n];exact⟨_,c,uP p r.size,fh (.z _ b)⟩
  | none,[.z],c=>
   have C:=B 0 _ rfl;have:∃b,u 0=.slice b 0 0:=by
    generalize u 0=y at C;cases C;exact⟨_,rfl⟩
   obtain⟨b,d⟩:=this;have n:a.eval x=.slice b 0 0:=A.trans d;rw[n];exact⟨_,c,uP p r.size,fh (.z _ b)⟩
theorem aV.sliceR(h:aV w0 M S0 N S φ F a w)(hTE:∀t i,TE t=some i->gg P t i){T:Nat}{x:Operand}{lo D:Option Operand}{K:AV->Prop}(hp:KN TE F T x lo D K) :
  ∃av v,K av/\(Instr.sliceAt T (a.eval x) (lo.map a.eval) (D.map a.eval) none).run P w=.ok v w/\cu w S F (tvs a) NO av v:=by
 obtain⟨e,A,q,z,d,he,hu,ht,hl,hpos,hi',hz,hzc,hsz,hby,hzs⟩:=i9 hTE hp;have key:∀l r,(gM F (lY F x) λag cs=>match ag,cs with
     | none,[.s .U rows]=>Sl rows A.size l r λp=>K (.F .one [.s .U p])
     | none,[.z]=>Sl [] A.size l r λ_=>K (.F .one [.z])
     | _,_=>False)->((lo=none/\l=none)\/∃o k n,lo=some o/\a.eval o=.int k n/\l=some n)->((D=none/\r=none)\/∃o k n,D=some o/\a.eval o=.int k n/\r=some n)->
   ∃av v,K av/\(Instr.sliceAt T (a.eval x) (lo.map a.eval) (D.map a.eval) none).run P w=.ok v w/\cu w S F (tvs a) NO av v:=by
  intro l r d E G;obtain⟨ag,cs,Y,d,hv,-⟩:=h.val (h.ev x) d
  match ag,cs,d with
  | none,[.s .U rows],d=>
   obtain⟨m,n,W,X,Z,h4,h5,d⟩:=d.out;have hr:=hv.rep1;generalize y:C.s .U rows=c0 at hr;generalize a.eval x=vx at hr;cases hr with
   | v=>cases y
   | x=>cases y
   | z=>cases y
   | m=>cases y
   | it=>cases y
   | own F o' g k n cap p u f ho=>cases y;exact ho.elim
   | suf F o' g H k n cap p u f ho=>cases y;exact ho.elim
   | nil F o' ad ho=>
    cases y;have J:n=0:=by simp at h4;omega
    subst J;have L:m=0:=ω
    subst L;have:=lK (w:=w) (a:=a) (P:=P) (ad:=ad) (cap:=0) (len:=0) hu ht.size E G W (by simpa using X) Z (U2 0) (U2 0);exact⟨_,_,d,this,fh (.nil _ .U _ trivial)⟩
   | U F g H k n' cap p u hn hkk Q hS hc=>
    cases y;subst hn;have:=lK (w:=w) (a:=a) (P:=P) (ad:=some ⟨g,H,none⟩) (cap:=cap) (len:=rows.length) hu ht.size E G W X Z h4 Q;refine⟨_,_,d,this,fh ?_⟩;unfold sliced;by_cases he:cap=m
    ·rw[CB he]
     have hnm:n=m:=ω
     subst hnm;rw[show cap - n=0 by omega,Nat.sub_self];rw[show(rows.take n).drop n=[] by simp];exact .nil _ _ _ trivial
    rw[C9 he];simp only[V4,gp];have R:((rows.take n).drop m).length=n - m:=by simp;omega
    have U:∀(i:Nat)(r:List C),((rows.take n).drop m)[i]? = some r->rows[m+i]? = some r:=ψ
    have V:rows≠[]->k=A.size:=λB=>by grind [List.exists_mem_of_ne_nil]
    refine .U _ g (H+m*A.size) A.size (n - m) (cap - m) _ (λq=>u (m*A.size+q)) R (λr hr=>?_) ω (λq hq=>?_) (λi j r c D hj=>?_)
    ·grind
    ·have B:rows≠[]:=ψ
     have O:=V B;subst O;rw[Nat.add_assoc];refine hS _ ?_;have:(n - m)*A.size+m*A.size<=rows.length*A.size:=by rw[<-Nat.add_mul];exact R6 A.size ω
     omega
    have hi':=U i r D;have B:rows≠[]:=ψ
    have O:=V B;subst O
    grind
  | none,[.z],d=>
   obtain⟨m,n,W,X,Z,h4,h5,d⟩:=d.out;obtain⟨b,hb⟩:=t7 hv.rep1;have J:n=0:=by simp at h4;omega
   subst J;have L:m=0:=ω
   subst L;have:=lK (w:=w) (a:=a) (P:=P) (ad:=b) (cap:=0) (len:=0) hu ht.size E G W (by simpa using X) Z (U2 0) (U2 0);rw[hb];exact⟨_,_,d,this,fh (.z _ _)⟩
 rcases vW h d with⟨e1,d⟩|⟨o1,k1,n1,e1,e2,d⟩
 ·rcases vW h d with⟨e3,d⟩|⟨o2,k2,n2,e3,e4,d⟩
  ·exact key _ _ d ψ ψ
  exact key _ _ d ψ ψ
 rcases vW h d with⟨e3,d⟩|⟨o2,k2,n2,e3,e4,d⟩
 ·exact key _ _ d ψ ψ
 exact key _ _ d ψ ψ
def NA{T:Nat}{s:ByteArray}{k:IntKind}{m:Nat}(a:P.underlying T=some .string)(b:m<=s.size) :
  (Instr.sliceAt T (.string s) none (some (.int k m)) none).run P w=.ok (.string (s.extract 0 m)) w:=by
 have c:(0:Int)<=(m:Int)/\(m:Int)<=(s.size:Nat):=ω
 unfold Instr.sliceAt Instr.slice;simp[Instr.sliceBounds,Instr.sliceBound,asIntOf];rw[run_underlying a,Result.andThen_ok];dsimp only;rw[Sem.run_bind,run_underlying a,Result.andThen_ok];simp only[CB b]
 rfl
def aV.slice(h:aV w0 M S0 N S φ F a w)(c:∀t i,TE t=some i->gg P t i){T:Nat}{x:Operand}{lo f:Option Operand}{K:AV->Prop}(b:nz TE F T x lo f K) :
  ∃av v,K av/\(Instr.sliceAt T (a.eval x) (lo.map a.eval) (f.map a.eval) none).run P w=.ok v w/\cu w S F (tvs a) NO av v:=by
 unfold nz at b;cases d:FT TE T with
 | false=>rw[d]at b;exact h.sliceR c b
 | true=>
  rw[d]at b;have g:P.underlying T=some .string:=by
   unfold FT at d;split at d
   ·rename_i j;exact(c _ _ j).2.2.1
   cases d
  match lo,f,b with
  | none,some y,b=>
   obtain⟨e,r⟩:=h.scalar (show Po F x y K from b);generalize a.eval x=l at e;cases l with
   | string s=>
    obtain⟨k,n,o,e⟩:=h.int e;obtain⟨m,z,rfl,p,rfl,q⟩:=e.out;refine⟨_,_,q,?_,fh (.v _ _ rfl)⟩;simp only[Option.map_none,V4,o];exact NA g p
   | _=>exact e.elim
theorem JD{T:Nat}{i:TI}(c:gg P T i)(e:(i.agg || Nat.beq i.size 1)=true){cells:Array Value}{off:Nat}{u:Nat->Value}(f:∀d,d<i.size->cells[off+d]? = some (u d)) :
  (part T cells off).run P w=.ok (mkv (pc i) u) w:=by
 have b:=c.isAgg (w:=w);unfold part pc;cases a:i.agg with
 | true=>
  rw[a]at b;have g:cells.extract off (off+i.size)=((List.range i.size).map u).toArray:=by
   apply Array.ext';apply List.ext_getElem?
   grind
  simp[b,jo c.size,mkv,g]
 | false=>
  rw[a]at b e;have h:i.size=1:=by simpa using e
  have:=f 0 ω;simp only[Nat.add_zero]at this;simp[b,this,mkv]
theorem aV.field(h:aV w0 M S0 N S φ F a w)(c:∀t i,TE t=some i->gg P t i){T f:Nat}{x:Operand}{K:AV->Prop}(b:pI TE F T x f K) :
  ∃av v,K av/\(Instr.field T (a.eval x) f).run P w=.ok v w/\cu w S F (tvs a) NO av v:=by
 unfold pI at b;split at b
 case h_2=>exact b.elim
 rename_i flds G;split at b
 case h_2=>exact b.elim
 rename_i p H;split at b
 case h_2=>exact b.elim
 rename_i i J;obtain⟨C,l,Y,e,L,-⟩:=h.val (h.ev x) b;cases n:(C.isSome&&(i.agg || Nat.beq i.size 1)&&Nat.ble (p.1+i.size) l.length) with
 | false=>grind
 | true=>
  rw[n]at e;simp only[cond_true]at e;simp only[I0]at n;obtain⟨⟨o,q⟩,r⟩:=n;have O:=Z0 r;cases D:aW (bt l p.1 i.size) with
  | false=>grind
  | true=>
   rw[D]at e;simp only[cond_true,cZ]at e;obtain⟨Q,R,U⟩:=(c _ _ G).2.2;have y:=c _ _ J;cases C with
   | none=>cases o
   | some m=>
    obtain⟨E,u,A,V⟩:=L;simp only[Option.getD_some]at E;subst E;have g:bu w S Y (pc i) (bt l p.1 i.size) (mkv (pc i) λd=>u (p.1+d)):=⟨by grind [o9,bt],_,rfl,V.part p.1 _⟩
    refine⟨_,_,e,?_,(g.bare D).slot⟩;obtain⟨k,j,B⟩ : ∃k,Q[f]? = some k/\(k.offset,k.type)=p:=ψ
    subst B;rw[A];simp only[Instr.field,Sem.run_bind,run_underlying R,Result.andThen_ok,j,mkv,asAgg,Sem.run_pure];exact JD y q ψ
theorem aV.conv(h:aV w0 M S0 N S φ F a w)(b:∀t i,TE t=some i->gg P t i){e l:Nat}{x:Operand}{K:AV->Prop}(c:v5 TE F e l x K) :
  ∃v,K (.F .one [.v v])/\v.oneCell'=true/\(Go.convert e l (a.eval x)).run P w=.ok v w:=by
 unfold v5 at c;split at c
 ·rename_i r _ _ _ k o p
  obtain⟨u,n,q,f⟩:=h.int c;obtain⟨z,rfl,f⟩:=f.out;have g:=(b _ _ p).2.2.1;obtain⟨d,j⟩ : ∃d,P.underlying e=some d:=by
   have:=(b _ _ o).2.2
   grind
  refine⟨_,f,rfl,?_⟩;rw[q];simp[Go.convert,run_underlying j,run_underlying g,Conv.intToInt]
 exact c.elim
def aV.mm(h:aV w0 M S0 N S φ F a w){c:Bool}{x y:Operand}{ts:Array TypeId}{ty:Nat}{K:AV->Prop}(e:PX c F x y K) :
  ∃v,K (.F .one [.v v])/\v.oneCell'=true/\(if c then(Builtin.max_ ts ty #[a.eval x,a.eval y]) else(Builtin.min_ ts ty #[a.eval x,a.eval y])).run P w=.ok v w:=by
 obtain⟨d,-⟩:=h.scalar e;cases f:a.eval x<;>rw[f]at d<;>try exact d.elim
 obtain⟨k,m,g,b⟩:=h.int d;obtain⟨z,rfl,b⟩:=b.out;rw[g];cases c with
 | true=>exact⟨_,b,rfl,by simp[run_max_int2]⟩
 | false=>exact⟨_,b,rfl,by simp[run_min_int2]⟩
end
def mlook:List (Int × Value)->Int->Value->Value
 | [],_,d=>d
 | p::es,k,d=>if p.1=k then p.2 else mlook es k d
def mput:List (Int × Value)->Int->Value->List (Int × Value)
 | [],k,v=>[(k,v)]
 | p::es,k,v=>if p.1=k then(k,v)::es else p::mput es k v
inductive Ml(es:List (Int × Value))(k:Int)(d:Value)(K:Value->Prop):Prop
 |mk_ (h:∃v,mlook es k d=v/\K v)
def Ml.mk{a:List (Int × Value)}{k:Int}{d v:Value}{K:Value->Prop}(h:mlook a k d=v)(b:K v):Ml a k d K:=.mk_ ⟨v,h,b⟩
def Ml.out{a:List (Int × Value)}{k:Int}{d:Value}{K:Value->Prop}(h:Ml a k d K):K (mlook a k d):=by
 obtain⟨v,rfl,h⟩:=h;exact h
inductive Mu(es:List (Int × Value))(k:Int)(v:Value)(K:List (Int × Value)->Prop):Prop
 |mk_ (h:∃es',es'=mput es k v/\K es')
def Mu.mk{a es':List (Int × Value)}{k:Int}{v:Value}{K:List (Int × Value)->Prop}(h:es'=mput a k v)(b:K es'):Mu a k v K:=.mk_ ⟨es',h,b⟩
def Mu.out{a:List (Int × Value)}{k:Int}{v:Value}{K:List (Int × Value)->Prop}(h:Mu a k v K):K (mput a k v):=by
 obtain⟨v,rfl,h⟩:=h;exact h
def qE(TE:Nat->Option TI)(T:Nat)(r:Option Operand)(K:AV->Prop):Prop:=
 match TE T,r with
 | some ⟨_,_,_,.mp _ _ _⟩,none=>K (.F .one [.m []])
 | _,_=>False
def we(TE:Nat->Option TI)(F:Nat->AV)(T:Nat)(x y:Operand)(ok:Bool)(K:AV->Prop):Prop:=
 match TE T with
 | some ⟨_,_,_,.mp _ _ d⟩=>bif ok then False else gM F (lY F x) λa b=>match a,b with
  | none,[.m es]=>En F y λv=>match v with
   | .int .i64 z=>Ml es z d λc=>K (.F .one [.v c])
   | _=>False
  | _,_=>False
 | _=>False
def putMap(F:Nat->AV)(t off:Nat)(z:Int)(v:Value)(K:(Nat->AV)->Prop):Prop:=
 match F t with
 | .F k c=>match c[off]? with
  | some (.m es)=>Mu es z v λa=>fc (splice c off [.m a]) λb=>K (updH F t k b)
  | _=>False
 | _=>False
def mO(TE:Nat->Option TI)(F:Nat->AV)(T:Nat)(x y v:Operand)(K:(Nat->AV)->Prop):Prop:=
 match TE T with
 | some ⟨_,_,_,.mp _ _ _⟩=>En F y λb=>En F v λa=>match b with
  | .int .i64 z=>(match x with
    | .tmp s=>(match F s with
      | .c3 t off [] none=>putMap F t off z a K
      | .F .one _=>putMap F s 0 z a K
      | _=>False)
    | _=>False)
  | _=>False
 | _=>False
def mfind:List (Int × Value)->Int->Nat->Option (Nat × Value)
 | [],_,_=>none
 | p::es,k,i=>if p.1=k then some (i,p.2) else mfind es k (i+1)
section
variable{P:Program}{w0 w w1:World}{M S0 S:ab}{N:dU}{φ:Nat->ab}{F:Nat->AV}{a:Act}{TE:Nat->Option TI}
theorem qm(z:Int):∀(l:List MapEntry)(a:List (Int × Value))(i:Nat),l.map (λe=>(e.key,e.val))=a.map (λp=>(Value.int .i64 p.1,p.2))->Instr.findNow (.int .i64) (.int .i64 z) l i=some (mfind a z i)
 | [],a,i,h=>by
  cases a with
  | nil=>rfl
  | cons _ _=>simp at h
 | e::l,a,i,h=>by
  cases a with
  | nil=>simp at h
  | cons p a=>
   simp only[O5,List.cons.injEq,Prod.mk.injEq]at h;obtain⟨⟨c,d⟩,b⟩:=h;have f:=qm z l a (i+1) b
   grind [Go.Instr.findNow,Go.Instr.sameNow,mfind]
def wy(d:Value):∀(a:List (Int × Value))(z:Int)(i:Nat),mlook a z d=((mfind a z i).map (·.2)).getD d
 | [],z,i=>rfl
 | p::a,z,i=>by
  simp only[mlook,mfind];split
  ·rfl
  exact wy d a z (i+1)
theorem oC{b:Nat}{c:Array MapEntry}{a:Nat}(h:mp w b=some (.map c a)):w.heap[b]? = some (.map c a):=by grind [mp]
theorem A4{b s c:Nat}{m:Option Nat}{seen:Array Nat}(h:mp w b=some (.mapIter m s seen c)):w.heap[b]? = some (.mapIter m s seen c):=by grind [mp]
theorem LK{T i g:Nat}{d:Value}(k:P.underlying T=some (.map i g))(l:P.underlying i=some (.int .i64))(j:(P.info? g).bind (·.zero)=some d){b c:Nat}{a:Array MapEntry}{f:List (Int × Value)}(u:mp w b=some (.map a c))(y:a.toList.map (λe=>(e.key,e.val))=f.map (λp=>(Value.int .i64 p.1,p.2)))(z:Int):(Instr.lookup T (.map (some b)) (.int .i64 z) false).run P w=.ok (mlook f z d) w:=by
 have n:=MapKept.run_getObj_map (P:=P) (oC u);have o:∀e,(Instr.checkKey e 10000 i (.int .i64 z)).run P w=.ok () w:=λe=>MapKept.run_checkKey l (show MapKept.IsKey (.int .i64) (.int .i64 z) from rfl) e 9999
 have h:=MapKept.run_findKey (P:=P) (w:=w) l (qm z a.toList f 0 y);have A:(zeroValue g).run P w=.ok d w:=by
  cases r:P.info? g with
  | none=>grind
  | some q=>rw[r]at j;simp only[Option.bind_some]at j;simp[zeroValue,typeInfo,r,j]
 rw[wy d f z 0];cases t:mfind f z 0 with
 | none=>rw[t]at h;simp[Instr.lookup,run_underlying k,n,o,h,A,Result.andThen]
 | some p=>rw[t]at h;simp[Instr.lookup,run_underlying k,n,o,h,Result.andThen]
theorem yS{d:Value}(b:d.oneCell'=true):∀{a:List (Int × Value)}(z:Int),(∀p∈a,p.2.oneCell'=true)->(mlook a z d).oneCell'=true
 | [],_,_=>b
 | p::a,z,h=>by
  simp only[mlook];split
  ·grind
  exact yS b z ψ
def stamps(a:Array MapEntry)(n:Nat):Prop:=(a.toList.map (·.born)).Nodup/\∀x∈a.toList,x.born<n
theorem Bj{a:Array MapEntry}{n:Nat}(h:stamps a n)(k v:Value):stamps (a.push {key:=k,val:=v,born:=n}) (n+1):=by
 obtain⟨b,c⟩:=h;refine⟨?_,λy d=>?_⟩
 all_goals grind
theorem td{g:MapEntry->MapEntry}(a:∀e,(g e).born=e.born):∀(l:List MapEntry)(i:Nat),(l.modify i g).map (·.born)=l.map (·.born)
 | [],i=>by cases i<;>rfl
 | e::l,0=>by rw[List.modify_zero_cons,O5,O5,a]
 | e::l,i+1=>by rw[List.modify_succ_cons,O5,O5,td a l i]
theorem Eb{a ents':Array MapEntry}{n:Nat}(h:stamps a n)(b:ents'.toList.map (·.born)=a.toList.map (·.born)):stamps ents' n:=by
 refine⟨by rw[b];exact h.1,λy d=>?_⟩;have:y.born∈a.toList.map (·.born):=ψ
 obtain⟨z,c,e⟩:=X3.1 this;rw[<-e];exact h.2 z c
def KP{Y:ab}{f:List (Int × Value)}{v:Value}(h:df w S Y (.m f) v):∃b a d,v=.map (some b)/\(∀o,Y b o)/\mp w b=some (.map d a)/\d.toList.map (λe=>(e.key,e.val))=f.map (λp=>(Value.int .i64 p.1,p.2))/\(∀p∈f,p.2.oneCell'=true)/\stamps d a:=by
 generalize i:C.m f=c at h;cases h with
 | m _ b a j d k l n q g=>cases i;exact⟨b,a,d,rfl,k,l,n,q,g⟩
 | _=>cases i
theorem aV.look(h:aV w0 M S0 N S φ F a w)(d:∀t i,TE t=some i->gg P t i){T:Nat}{x y:Operand}{ok:Bool}{K:AV->Prop}(c:we TE F T x y ok K) :
  ∃v,K (.F .one [.v v])/\v.oneCell'=true/\(Instr.lookup T (a.eval x) (a.eval y) ok).run P w=.ok v w:=by
 unfold we at c;split at c
 case h_2=>exact c.elim
 rename_i o;obtain⟨A,B,C,p⟩:=(d _ _ o).2.2;cases ok with
 | true=>exact c.elim
 | false=>
  obtain⟨q,r,Y,e,u,-⟩:=h.val (h.ev x) c
  match q,r,e with
  | none,[.m es],e=>
   obtain⟨f,-⟩:=h.scalar e;cases g:a.eval y with
   | int k z=>
    rw[g]at f;cases k with
    | i64=>
     obtain⟨b,j,n,D,-,E,G,l,-⟩:=KP u.rep1;exact⟨_,f.out,yS p z l,by grind [LK]⟩
    | _=>exact f.elim
   | _=>grind
theorem qI{b:Nat}{o:Obj}(c:b<w.heap.size)(a:Nat):({w with heap:=w.heap.setIfInBounds b o} : World).heap[a]? = if a=b then some o else w.heap[a]?:=ψ
theorem Ds(z:Int)(v:Value)(a:Nat):∀(l:List MapEntry)(b:List (Int × Value))(i:Nat),l.map (λe=>(e.key,e.val))=b.map (λp=>(Value.int .i64 p.1,p.2))->
  (match mfind b z i with
    | some p=>i<=p.1/\p.1 - i<l.length/\(l[p.1 - i]?).map (·.key)=some (.int .i64 z)/\(l.modify (p.1 - i) λe=>{e with key:=.int .i64 z,val:=v}).map (λe=>(e.key,e.val))=(mput b z v).map (λp=>(Value.int .i64 p.1,p.2))
    | none=>(l++[({key:=.int .i64 z,val:=v,born:=a} : MapEntry)]).map (λe=>(e.key,e.val))=(mput b z v).map (λp=>(Value.int .i64 p.1,p.2)))
 | [],b,i,h=>by
  cases b with
  | nil=>rfl
  | cons _ _=>simp at h
 | e::l,b,i,h=>by
  cases b with
  | nil=>simp at h
  | cons p b=>
   simp only[O5,List.cons.injEq,Prod.mk.injEq]at h;obtain⟨⟨d,f⟩,c⟩:=h;have g:=Ds z v a l b (i+1) c
   grind [mfind,mput]
theorem Nv{T j y:Nat}(l:P.underlying T=some (.map j y))(n:P.underlying j=some (.int .i64)){b a:Nat}{c:Array MapEntry}{f:List (Int × Value)}(A:mp w b=some (.map c a))(o:c.toList.map (λe=>(e.key,e.val))=f.map (λp=>(Value.int .i64 p.1,p.2)))(d:stamps c a)(z:Int)(v:Value):∃ents' clock',stamps ents' clock'/\(Instr.mapUpdate T (.map (some b)) (.int .i64 z) v).run P w=.ok () {w with heap:=w.heap.setIfInBounds b (.map ents' clock')}/\
   ents'.toList.map (λe=>(e.key,e.val))=(mput f z v).map (λp=>(Value.int .i64 p.1,p.2)):=by
 have k:=oC A;have r:=MapKept.run_getObj_map (P:=P) k;have t:∀e,(Instr.checkKey e 10000 j (.int .i64 z)).run P w=.ok () w:=λe=>MapKept.run_checkKey n (show MapKept.IsKey (.int .i64) (.int .i64 z) from rfl) e 9999
 have i:=MapKept.run_findKey (P:=P) (w:=w) n (qm z c.toList f 0 o);have g:=Ds z v a c.toList f 0 o;cases u:mfind f z 0 with
 | none=>
  rw[u]at i g;simp only at g;refine⟨c.push {key:=.int .i64 z,val:=v,born:=a},a+1,Bj d _ _,?_,ψ⟩;simp[Instr.mapUpdate,run_underlying l,r,t,i,Result.andThen,MapKept.run_setObj_map _ k]
 | some q=>
  rw[u]at i g;simp only[Nat.sub_zero]at g;obtain⟨-,B,C,D⟩:=g;refine⟨c.modify q.1 λe=>{e with key:=.int .i64 z,val:=v},a,Eb d (by grind [td]),?_,ψ⟩;have h:((c[q.1]?).map (·.key)).getD (.int .i64 z)=.int .i64 z:=ψ
  have d:(Instr.keyThatStays (.int .i64 z) (.int .i64 z)).run P w=.ok (.int .i64 z) w:=by
   have:Instr.sameBits 10000 (.int .i64 z) (.int .i64 z)=true:=by grind [Go.Instr.sameBits]
   simp[Instr.keyThatStays,this]
  simp[Instr.mapUpdate,run_underlying l,r,t,i,Result.andThen,h,d,MapKept.run_setObj_map _ k]
theorem BY{v:Value}(c:v.oneCell'=true):∀{b:List (Int × Value)}(z:Int),(∀p∈b,p.2.oneCell'=true)->∀p∈mput b z v,p.2.oneCell'=true
 | [],z,_,p,a=>by grind [mput]
 | q::b,z,h,p,a=>by
  simp only[mput]at a;split at a
  ·grind
  rcases List.mem_cons.1 a with rfl|a
  ·grind
  exact BY c z ψ p a
def aV.putMap(h:aV w0 M S0 N S φ F a w){T kt et:Nat}(hT:P.underlying T=some (.map kt et))(hk:P.underlying kt=some (.int .i64)){t off:Nat}{z:Int}{v:Value}(hv:v.oneCell'=true){K:(Nat->AV)->Prop}(y:Ab.putMap F t off z v K){x:Value}(hx:∀k B,F t=.F k B->x=cb w k (tvs a t) off):∃F' w1,K F'/\(Instr.mapUpdate T x (.int .i64 z) v).run P w=.ok () w1/\St w0 M S0 N F' a w1:=by
 unfold Ab.putMap at y;split at y
 case h_2=>exact y.elim
 rename_i k B U;split at y
 case h_2=>exact y.elim
 rename_i es hc;have hK:=y.out;simp only[cZ]at hK;have i:=(Z1.1 hc).1;have hs:=h.slot t;rw[U]at hs;obtain⟨V,Y,e1,D,e3,e4,f,f1,A,f3⟩:=hs;obtain⟨b,W,ents,E,l,O,he,Z,hst⟩:=KP (f1 off _ hc);obtain⟨ents',clock',G,H,he'⟩:=Nv (P:=P) hT hk O he hst z v;have hlt:b<w.heap.size:=(h.ex t b 0 (D _ _ (A off i _ _ (l 0)))).1;have Q:=λd=>qI (w:=w) (b:=b) (o:=.map ents' clock') hlt d
 let w1:World:={w with heap:=w.heap.setIfInBounds b (.map ents' clock')}
 have hother:∀d,d≠b->∀o,cel w1 d o=cel w d o/\fro w1 d o=fro w d o:=λd hne o=>by
  have g:w1.heap[d]? = w.heap[d]?:=(Q d).trans (C9 hne);refine⟨?_,Prod.ext ?_ ?_⟩
  ·show World.cell? w1 _=World.cell? w _
   unfold World.cell?;simp only[g]
  ·show World.frozen? w1 _=World.frozen? w _
   unfold World.frozen?;simp only[g]
  show mp w1 d=mp w d;unfold mp;rw[g]
 have u:∀o,cel w1 b o=cel w b o:=λo=>by
  have h1:w1.heap[b]? = some (.map ents' clock'):=(Q b).trans (CB rfl);have h2:=oC O;show World.cell? w1 _=World.cell? w _;unfold World.cell?;simp[h1,h2]
 have hk1:b8 (φ t) w w1:=by
  refine⟨rfl,rfl,rfl,by simp[w1],λd g R=>(Q d).trans (C9 λe=>?_),λd o g R=>?_,λd o g R=>?_⟩
  ·subst e;exact R 0 (D _ _ (A off i _ _ (l 0)))
  ·by_cases e:d=b
   ·subst e;exact u o
   exact(hother d e o).1
  by_cases e:d=b
  ·subst e;exact absurd (D _ _ (A off i _ _ (l o))) R
  exact(hother d e o).2
 have n:∀X:ab,(∀d o,X d o->d≠b)->bh X w w1:=λX hX d o g=>hother d (hX d o g) o
 have J:bh V w w1:=n V λd o g e=>by subst e;exact e3 d o g (A off i _ _ (l o))
 have hS1:bh S w w1:=n S λd o g e=>by subst e;exact h.disS t _ _ (D _ _ (A off i _ _ (l o))) g
 have r:=jW e4 J;have hsl:(splice B off [.m (mput es z v)]).length=B.length:=cB (by simp;omega);refine⟨_,w1,hK,?_,S,_,h.upd (X:=φ t) hk1 U (λb o O=>.inl O) ⟨V,Y,e1,D,e3,?_,f,λj c p=>?_,λj p=>A j ω,λj j' p hj'=>f3 j j' ω ω⟩⟩
 ·rw[hx k B U,E];exact H
 ·rw[hsl]
  exact e4.keep J (λ_ _ h=>h)
 rw[iI (by simp;omega)]at p;by_cases q:off<=j/\j<off+[C.m (mput es z v)].length
 ·rw[CB q]at p
  simp only[List.length_cons,List.length_nil]at q;obtain rfl:j=off:=ω
  simp only[Nat.sub_self,List.getElem?_cons_zero,W0]at p;subst p;rw[r j i,E];exact .m _ b clock' _ ents' l (by show mp w1 b=_;unfold mp;rw[(Q b).trans (CB rfl)]) he' (BY hv z Z) G
 rw[C9 q]at p;have L:=(Z1.1 p).1;rw[r j L];simp only[List.length_cons,List.length_nil]at q;exact(f1 j c p).keep hS1 (n (f j) λd o g e=>by subst e;exact f3 j off L i ω _ _ g (l o))
def aV.mapUpd(h:aV w0 M S0 N S φ F a w)(l:∀t i,TE t=some i->gg P t i){T:Nat}{x y v:Operand}{K:(Nat->AV)->Prop}(g:mO TE F T x y v K) :
  ∃F' w1,K F'/\(Instr.mapUpdate T (a.eval x) (a.eval y) (a.eval v)).run P w=.ok () w1/\St w0 M S0 N F' a w1:=by
 unfold mO at g;split at g
 case h_2=>exact g.elim
 rename_i q;obtain⟨o,p,-,-⟩:=(l _ _ q).2.2;obtain⟨u,-⟩:=h.scalar g;obtain⟨b,c⟩:=h.scalar u;cases d:a.eval y with
 | int k z=>
  rw[d]at b;cases k with
  | i64=>
   simp only at b;cases x with
   | tmp s=>
    simp only at b;have f:=h.slot s;split at b
    ·rename_i t A n
     rw[n]at f;obtain⟨k,B,r,j,C,H,J,D⟩:=f;refine h.putMap o p c b λE G e=>?_
     rw[C]at e;cases e;exact D
    ·rename_i B n
     refine h.putMap o p c b λE G e=>?_
     rw[n]at e;cases e
     rfl
    exact b.elim
   | _=>exact b.elim
  | _=>exact b.elim
 | _=>rw[d]at b;exact b.elim
theorem aV.makeMap(h:aV w0 M S0 N S φ F a w)(_hTE:∀t i,TE t=some i->gg P t i){T:Nat}{r:Option Operand}{K:AV->Prop}(c:qE TE T r K) :
  ∃av v w1,K av/\(Instr.makeMap T (r.map a.eval)).run P w=.ok v w1/\kD w S F a av v w1:=by
 unfold qE at c;split at c
 case h_2=>exact c.elim
 refine⟨_,_,_,c,run_makeMap T w,cT w _,λb _=>b=w.heap.size,S,λb o e=>⟨by simp_all,ω⟩,λ_ _ h=>h,λ_ _ h=>.inl h,λb o e d=>?_,?_⟩
 ·have:=(h.sup b o d).1;omega
 refine fh (.m _ w.heap.size 0 [] #[] (λ_=>rfl) ?_ rfl ψ ψ)
 grind [Go.heap_alloc_new,mp]
end
end Go.Proofs.YtifeilefdakapaaGreatDoor.Ab
