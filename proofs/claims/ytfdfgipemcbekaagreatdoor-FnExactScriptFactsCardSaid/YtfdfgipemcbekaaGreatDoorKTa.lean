/- Abstract cells: data as trees, what it means that a value of the model's memory holds such a tree, and how that lasts. No condition. -/
import Derived.RowKit3
import Derived.WalkKit
import Derived.Handy
import Derived.Laws.Cells
import Derived.Laws.IdiomCopy
import Derived.Maps.RangeRun
import Derived.Test.YtfdfgipemcbekaaGreatDoorProg
import Derived.Below
import Derived.Test.YtfdfgipemcbekaaGreatDoorTabM
import Derived.Laws.MakeOwn
import Derived.Laws.Append
import Derived.Laws.AppendOwn
import Derived.Laws.Tables
import Derived.Great.BuildSlice
import Derived.Laws.Slices
import Derived.Laws.Small
import Derived.MapKept
import Derived.Carry
set_option linter.unusedVariables false
set_option linter.defProp false
set_option linter.unusedSimpArgs false
set_option linter.constructorNameAsVariable false
namespace Go.Proofs.YtfdfgipemcbekaaGreatDoor.Ab
def ω{P:Prop}(h:P:=by omega):P:=h
theorem qs{P:Prop}(h:P:=by decide):P:=h
theorem kd{P:Prop}(h:P:=by simp;omega):P:=h
theorem ψ{P:Prop}(h:P:=by grind):P:=h
def CQ:type_of% @And.intro:=@And.intro
def CI:type_of% @if_neg:=@if_neg
def CJ:type_of% @if_pos:=@if_pos
def C0:type_of% @decide_eq_true_eq:=@decide_eq_true_eq
def I0:type_of% @Bool.and_eq_true:=@Bool.and_eq_true
def O0:type_of% @decide_eq_true:=@decide_eq_true
theorem Z0:type_of% @decide_eq_false:=@decide_eq_false
def C1:type_of% @Nat.zero_le:=@Nat.zero_le
def I1:type_of% @congrArg:=@congrArg
def O1:type_of% @Option.some.injEq:=@Option.some.injEq
theorem Z1:type_of% @List.length_map:=@List.length_map
def C2:type_of% @Nat.le_of_ble_eq_true:=@Nat.le_of_ble_eq_true
def I2:type_of% @List.mem_singleton:=@List.mem_singleton
def O2:type_of% @List.length_set:=@List.length_set
theorem Z2:type_of% @List.length_take:=@List.length_take
theorem C3:type_of% @List.mem_cons_self:=@List.mem_cons_self
def I3:type_of% @List.mem_of_getElem?:=@List.mem_of_getElem?
theorem O3:type_of% @Nat.eq_of_beq_eq_true:=@Nat.eq_of_beq_eq_true
def Z3:type_of% @List.getElem?_eq_getElem:=@List.getElem?_eq_getElem
def C4:type_of% @List.getElem?_eq_some_iff:=@List.getElem?_eq_some_iff
def I4:type_of% @List.getElem?_eq_none:=@List.getElem?_eq_none
def O4:type_of% @List.getD_eq_getElem?_getD:=@List.getD_eq_getElem?_getD
def Z4:type_of% @Int.toNat_natCast:=@Int.toNat_natCast
def C5:type_of% @Int.eq_ofNat_of_zero_le:=@Int.eq_ofNat_of_zero_le
def I5:type_of% @List.mem_append:=@List.mem_append
def O5:type_of% @Nat.le_refl:=@Nat.le_refl
def Z5:type_of% @List.getElem?_map:=@List.getElem?_map
def C6:type_of% @List.length_append:=@List.length_append
def I6:type_of% @List.length_drop:=@List.length_drop
def O6:type_of% @Array.getElem?_eq_some_iff:=@Array.getElem?_eq_some_iff
def Z6:type_of% @List.getElem?_set_self:=@List.getElem?_set_self
def C7:type_of% @List.length_replicate:=@List.length_replicate
theorem I7:type_of% @Nat.lt_of_lt_of_le:=@Nat.lt_of_lt_of_le
def O7:type_of% @List.any_eq_true:=@List.any_eq_true
def S7:type_of% @List.all_eq_true:=@List.all_eq_true
def Z7:type_of% @not_not_intro:=@not_not_intro
theorem C8:type_of% @List.map_take:=@List.map_take
theorem I8:type_of% @List.map_drop:=@List.map_drop
def O8:type_of% @List.mem_map:=@List.mem_map
def S8:type_of% @List.mem_filter:=@List.mem_filter
def Z8:type_of% @List.getElem?_append_left:=@List.getElem?_append_left
theorem C9:type_of% @List.getElem?_append_right:=@List.getElem?_append_right
def I9:type_of% @decide_eq_false_iff_not:=@decide_eq_false_iff_not
def O9:type_of% @Bool.eq_iff_iff:=@Bool.eq_iff_iff
def S9:type_of% @Nat.le_trans:=@Nat.le_trans
def Z9:type_of% @Int.le_refl:=@Int.le_refl
def CA:type_of% @List.take_length:=@List.take_length
def IA:type_of% @Option.map_some:=@Option.map_some
def OA:type_of% @List.mem_cons_of_mem:=@List.mem_cons_of_mem
def SA:type_of% @Bool.not_eq_true:=@Bool.not_eq_true
theorem ZA:type_of% @List.take_add_one:=@List.take_add_one
def CB:type_of% @List.append_assoc:=@List.append_assoc
def IB:type_of% @List.map_append:=@List.map_append
theorem OB:type_of% @Function.comp_def:=@Function.comp_def
def SB:type_of% @List.map_cons:=@List.map_cons
def ZB:type_of% @List.count_append:=@List.count_append
theorem CC:type_of% @List.map_set:=@List.map_set
def IC:type_of% @Bool.or_eq_true:=@Bool.or_eq_true
def OC:type_of% @Array.getElem?_eq_getElem:=@Array.getElem?_eq_getElem
def SC:type_of% @List.mem_or_eq_of_mem_set:=@List.mem_or_eq_of_mem_set
def ZC:type_of% @Array.getD_eq_getD_getElem?:=@Array.getD_eq_getD_getElem?
def CD:type_of% @List.flatMap_cons:=@List.flatMap_cons
def ID:type_of% @List.getElem?_range:=@List.getElem?_range
def OD:type_of% @Nat.zero_add:=@Nat.zero_add
theorem SD:type_of% @List.findIdx?_eq_some_iff_getElem:=@List.findIdx?_eq_some_iff_getElem
theorem ZD:type_of% @List.take_of_length_le:=@List.take_of_length_le
theorem CE:type_of% @Nat.mul_le_mul_right:=@Nat.mul_le_mul_right
def IE:type_of% @List.eq_nil_of_length_eq_zero:=@List.eq_nil_of_length_eq_zero
open Go.RowKit
def tV1:True:=⟨⟩
inductive ek where
 |R
 |own
 |tag (v:Value)
 |suf
 |tagS (v:Value)
def ek.mine:ek->Bool
 | .R=>false
 | .own=>true
 | .tag _=>true
 | .suf=>true
 | .tagS _=>true
def ek.ok:ek->Value->Prop
 | .R,_=>False
 | .own,_=>True
 | .tag v',v=>v'=v
 | .suf,_=>False
 | .tagS _,_=>False
def ek.okS:ek->Value->Prop
 | .suf,_=>True
 | .tagS v',v=>v'=v
 | _,_=>False
def ek.okN:ek->Value->Prop
 | .tag v',v=>v'=v
 | .tagS v',v=>v'=v
 | _,_=>True
inductive C where
 |v (x:Value)
 |s (o:ek) (rows:List (List C))
 |x
 |z
 |m (es:List (Int × Value))
 |it (cur:Option Int) (left:List Int)
 |hd (n:Nat)
instance:Inhabited C:=⟨.x⟩
abbrev af:=Nat->Nat->Prop
def NO:af:=λ_ _=>False
abbrev cel(w:World)(b o:Nat):Option Value:=w.cell? ⟨b,o,none⟩
def mp(w:World)(b:Nat):Option Obj:=
 match w.heap[b]? with
 | some (.map es clock)=>some (.map es clock)
 | some (.mapIter m since seen clock)=>some (.mapIter m since seen clock)
 | some (.cells c _ fr)=>if fr.1<=c.size/\c.size<fr.2 then some (.cells #[] 0 (0,0)) else none
 | _=>none
theorem LJ(w:World)(a:Addr)(v:Value)(b:Nat):mp (w.setCell a v) b=mp w b:=by grind [mp,Go.World.setCell]
def mU(b:Nat):∀(g o:Nat)(vs:List Value)(w:World),mp (w.setCells g o vs) b=mp w b
 | _,_,[],_=>rfl
 | g,o,v::vs,w=>by rw[World.setCells,mU b g (o+1) vs,LJ]
abbrev fro(w:World)(b o:Nat):Bool × Option Obj:=(w.frozen? ⟨b,o,none⟩,mp w b)
abbrev NF:Bool × Option Obj:=(false,none)
def b8(X:af)(w a:World):Prop:=∀b o,X b o->cel a b o=cel w b o/\fro a b o=fro w b o
inductive cU(w:World)(S:af):af->C->Value->Prop
 |v (F:af) (x:Value) (h1:x.oneCell'=true):cU w S F (.v x) x
 |x (F:af) (u:Value) (h1:u.oneCell'=true):cU w S F .x u
 |hd (F:af) (a:Option Addr) (n c:Nat):cU w S F (.hd n) (.slice a n c)
 |z (F:af) (a:Option Addr):cU w S F .z (.slice a 0 0)
 |nil (F:af) (o:ek) (a:Option Addr) (ho:o.okN (.slice a 0 0)):cU w S F (.s o []) (.slice a 0 0)
 |R (F:af) (g off k n cap:Nat) (rows:List (List C)) (u:Nat->Value) (hn:rows.length=n) (hk:∀r∈rows,r.length=k) (hcap:n<=cap)
   (hS:∀q,q<n*k->S g (off+q)/\cel w g (off+q)=some (u q))
   (hc:∀i j r c,rows[i]? = some r->r[j]? = some c->cU w S NO c (u (i*k+j))) :
   cU w S F (.s .R rows) (.slice (some ⟨g,off,none⟩) n cap)
 |own (F:af) (o:ek) (g k n cap:Nat) (rows:List (List C)) (u:Nat->Value) (f:Nat->af) (ho:o.ok (.slice (some ⟨g,0,none⟩) n cap)) (hn:rows.length=n) (hk:∀r∈rows,r.length=k) (hcap:n<=cap) (hpos:0<n)
   (hF:∀q,q<cap*k->F g q/\(∃z,cel w g q=some z/\z.oneCell'=true)/\fro w g q=NF)
   (hu:∀q,q<n*k->cel w g q=some (u q))
   (hf:∀q,q<n*k->∀b o,f q b o->F b o/\¬(b=g/\o<cap*k))
   (hd:∀q q',q<n*k->q'<n*k->q≠q'->∀b o,f q b o->¬f q' b o)
   (hc:∀i j r c,rows[i]? = some r->r[j]? = some c->cU w S (f (i*k+j)) c (u (i*k+j))) :
   cU w S F (.s o rows) (.slice (some ⟨g,0,none⟩) n cap)
 |suf (F:af) (o:ek) (g off k n cap:Nat) (rows:List (List C)) (u:Nat->Value) (f:Nat->af) (ho:o.okS (.slice (some ⟨g,off,none⟩) n cap)) (hn:rows.length=n) (hk:∀r∈rows,r.length=k) (hcap:n<=cap)
   (hF:∀q,q<n*k->F g (off+q)/\fro w g (off+q)=NF)
   (hu:∀q,q<n*k->cel w g (off+q)=some (u q)/\(u q).oneCell'=true)
   (hf:∀q,q<n*k->∀b o,f q b o->F b o/\¬(b=g/\off<=o/\o<off+n*k))
   (hd:∀q q',q<n*k->q'<n*k->q≠q'->∀b o,f q b o->¬f q' b o)
   (hc:∀i j r c,rows[i]? = some r->r[j]? = some c->cU w S (f (i*k+j)) c (u (i*k+j))) :
   cU w S F (.s o rows) (.slice (some ⟨g,off,none⟩) n cap)
 |m (F:af) (b clock:Nat) (es:List (Int × Value)) (ents:Array MapEntry) (hF:∀o,F b o) (hb:mp w b=some (.map ents clock)) (he:ents.toList.map (λe=>(e.key,e.val))=es.map (λp=>(.int .i64 p.1,p.2))) (hv:∀p∈es,p.2.oneCell'=true) (hst:(ents.toList.map (·.born)).Nodup/\∀x∈ents.toList,x.born<clock) :
   cU w S F (.m es) (.map (some b))
 |it (F:af) (r b since c0 clock:Nat) (seen:Array Nat) (ents:Array MapEntry) (cur:Option Int) (left:List Int) (hF:∀o,F r o/\F b o) (hr:mp w r=some (.mapIter (some b) since seen c0)) (hb:mp w b=some (.map ents clock))
   (hst:(ents.toList.map (·.born)).Nodup/\∀x∈ents.toList,x.born<since) (hc:since<=c0/\since<=clock) (hv:∀x∈ents.toList,x.val.oneCell'=true) (hl:(leftOf ents seen).toList.map (·.key)=left.map (Value.int .i64)) (hcur:∀k,cur=some k->c0=clock/\∃e∈ents.toList,∃s':Array Nat,seen=s'.push e.born/\e.key=.int .i64 k) :
   cU w S F (.it cur left) (.pointer (some ⟨r,0,none⟩))
variable{i j k n:Nat}
theorem cJ(a:i<n)(b:j<k):i*k+j<n*k:=by
 have:(i+1)*k<=n*k:=CE k a
 grind
variable{c:C}{rows:List (List C)}
theorem nG{r:List C}(a:rows.length=n)(b:∀r∈rows,r.length=k)(d:rows[i]? = some r)(e:r[j]? = some c):i<n/\j<k:=ψ
variable{v:Value}{S F:af}{w:World}
def cU.one(h:cU w S F c v):v.oneCell'=true:=by
 cases h<;>first|assumption|rfl
theorem cU.keep{X:World}(h:cU w S F c v):b8 S w X->b8 F w X->cU X S F c v:=by
 induction h with
 | v F x Q=>exact λ_ _=>.v F x Q
 | x F u Q=>exact λ_ _=>.x F u Q
 | hd F a n c=>exact λ_ _=>.hd F a n c
 | z F a=>exact λ_ _=>.z F a
 | nil F o a R=>exact λ_ _=>.nil F o a R
 | R F g A k n B e u G H d Y W T=>
  intro P _;exact .R F g A k n B e u G H d (λq t=>⟨(Y q t).1,(P _ _ (Y q t).1).1.trans (Y q t).2⟩)
   (λi j r c J K=>T i j r c J K P (λ_ _ h=>h.elim))
 | own F o g k n B e u f R G H d U y Z E hd W T=>
  intro P l;refine .own F o g k n B e u f R G H d U (λq t=>?_) (λq t=>?_) E hd (λi j r c J K=>T i j r c J K P λb o L=>?_)
  ·obtain⟨Q,h2,h3⟩:=y q t
   have h4:=l g q Q
   grind
  ·rw[(l g q (y q (I7 t (CE k d))).1).1];exact Z q t
  obtain⟨M,N⟩:=nG G H J K;exact l b o (E _ (cJ M N) b o L).1
 | suf F o g A k n B e u f R G H d y Z E hd W T=>
  intro P l;refine .suf F o g A k n B e u f R G H d (λq t=>?_) (λq t=>?_) E hd (λi j r c J K=>T i j r c J K P λb o L=>?_)
  ·have h4:=l g (A+q) (y q t).1
   grind
  ·rw[(l g (A+q) (y q t).1).1];exact Z q t
  obtain⟨M,N⟩:=nG G H J K;exact l b o (E _ (cJ M N) b o L).1
 | m F b p es D y L he hv O=>exact λ_ E=>.m F b p es D y ((I1 Prod.snd (E b 0 (y 0)).2).trans L) he hv O
 | it F r b since c0 p seen D cur left y hr L O W hv hl V=>exact λ_ E=>.it F r b since c0 p seen D cur left y ((I1 Prod.snd (E r 0 (y 0).1).2).trans hr) ((I1 Prod.snd (E b 0 (y 0).2).2).trans L) O W hv hl V
theorem cU.mono{S' F':af}(h:cU w S F c v):(∀b o,S b o->S' b o)->(∀b o,F b o->F' b o)->cU w S' F' c v:=by
 induction h generalizing F' with
 | v F x H=>exact λ_ _=>.v _ x H
 | x F u H=>exact λ_ _=>.x _ u H
 | hd F a n c=>exact λ_ _=>.hd _ a n c
 | z F a=>exact λ_ _=>.z _ a
 | nil F o a y=>exact λ_ _=>.nil _ o a y
 | R F g p k n j d u A B e W G N=>
  intro O _;exact .R _ g p k n j d u A B e ψ ψ
 | own F o g k n j d u f y A B e D J K P hd G N=>
  intro O q;exact .own _ o g k n j d u f y A B e D ψ K ψ hd
   ψ
 | suf F o g p k n j d u f y A B e J K P hd G N=>
  intro O q;exact .suf _ o g p k n j d u f y A B e ψ K ψ hd ψ
 | m F b i Q l J L R M t=>exact λ_ q=>.m _ b i Q l ψ L R M t
 | it F r b since T i seen l cur left J U L t G M V E=>exact λ_ q=>.it _ r b since T i seen l cur left ψ U L t G M V E
mutual
def fz:C->C
 | .v x=>.v x
 | .s _ a=>.s .R (fzR a)
 | .x=>.x
 | .z=>.z
 | .m _=>.x
 | .it _ _=>.x
 | .hd n=>.hd n
def fzR:List (List C)->List (List C)
 | []=>[]
 | r::rs=>dw r::fzR rs
def dw:List C->List C
 | []=>[]
 | c::cs=>fz c::dw cs
end
theorem bU(cs:List C):dw cs=cs.map fz:=by
 induction cs with
 | nil=>rfl
 | cons c cs a=>simp[dw,a]
theorem VN(rs:List (List C)):fzR rs=rs.map (·.map fz):=by
 induction rs with
 | nil=>rfl
 | cons c a b=>grind [bU,fzR]
@[simp] def YZ(x:Value):fz (.v x)=.v x:=by simp[fz]
@[simp] def Za:fz .x=.x:=by simp[fz]
@[simp] def Zb:fz .z=.z:=by simp[fz]
@[simp] def YO(n:Nat):fz (.hd n)=.hd n:=by simp[fz]
@[simp] def Zi(es:List (Int × Value)):fz (.m es)=.x:=by simp[fz]
@[simp] def YU(cur:Option Int)(left:List Int):fz (.it cur left)=.x:=by simp[fz]
@[simp] def MX(o:ek)(rows:List (List C)):fz (.s o rows)=.s .R (rows.map (·.map fz)):=by simp[fz,VN]
theorem cU.freeze(h:cU w S F c v):cU w (λb o=>S b o\/F b o) NO (fz c) v:=by
 induction h with
 | v F x M=>simpa using .v _ x M
 | x F u M=>simpa using .x _ u M
 | hd F a n c=>simpa using .hd _ a n c
 | z F a=>simpa using .z _ a
 | nil F o a P=>simpa using .nil _ _ a tV1
 | R F g D k n A l u E L p Y Q J=>
  rw[MX];refine .R _ g D k n A _ u (by simpa using E) (λr R=>?_) p ψ (λi j r c t y=>?_)
  ·grind
  rw[Z5]at t;cases d:l[i]? with
  | none=>grind
  | some B=>
   rw[d]at t;simp only[IA,O1]at t;subst t;rw[Z5]at y;cases e:B[j]? with
   | none=>grind
   | some K=>
    rw[e]at y;simp only[IA,O1]at y;subst y;exact(J i j B K d e).mono (λ_ _ h=>h.elim .inl (λh=>h.elim)) (λ_ _ h=>h)
 | own F o g k n A l u f P E L p T U W N hd Q J=>
  rw[MX];refine .R _ g 0 k n A _ u (by simpa using E) (λr R=>?_) p (λq X=>?_) (λi j r c t y=>?_)
  ·grind
  ·grind [I7,CE]
  rw[Z5]at t;cases d:l[i]? with
  | none=>grind
  | some B=>
   rw[d]at t;simp only[IA,O1]at t;subst t;rw[Z5]at y;cases e:B[j]? with
   | none=>grind
   | some K=>
    rw[e]at y;simp only[IA,O1]at y;subst y;obtain⟨G,H⟩:=nG E L d e;exact(J i j B K d e).mono (λb o h=>h.elim .inl (λh=>.inr (N _ (cJ G H) b o h).1)) (λ_ _ h=>h)
 | suf F o g D k n A l u f P E L p U W N hd Q J=>
  rw[MX];refine .R _ g D k n A _ u (by simpa using E) (λr R=>?_) p (λq X=>?_) (λi j r c t y=>?_)
  ·grind
  ·grind
  rw[Z5]at t;cases d:l[i]? with
  | none=>grind
  | some B=>
   rw[d]at t;simp only[IA,O1]at t;subst t;rw[Z5]at y;cases e:B[j]? with
   | none=>grind
   | some K=>
    rw[e]at y;simp only[IA,O1]at y;subst y;obtain⟨G,H⟩:=nG E L d e;exact(J i j B K d e).mono (λb o h=>h.elim .inl (λh=>.inr (N _ (cJ G H) b o h).1)) (λ_ _ h=>h)
 | m F b O Z V U hb he hv=>simpa using .x _ _ rfl
 | it=>simpa using .x _ _ rfl
def cw(w:World)(S F:af)(cs:List C)(u:Nat->Value):Prop:=
 ∃f:Nat->af,(∀j c,cs[j]? = some c->cU w S (f j) c (u j))/\(∀j,j<cs.length->∀b o,f j b o->F b o)/\
  (∀j a,j<cs.length->a<cs.length->j≠a->∀b o,f j b o->¬f a b o)
variable{u:Nat->Value}{cs:List C}
theorem cw.keep{a:World}(h:cw w S F cs u)(d:b8 S w a)(e:b8 F w a):cw a S F cs u:=by
 obtain⟨f,g,i,k⟩:=h;exact⟨f,λj c l=>(g j c l).keep d (λb o n=>e b o ψ),i,k⟩
theorem cw.mono{S' F':af}(h:cw w S F cs u)(a:∀b o,S b o->S' b o)(i:∀b o,F b o->F' b o):cw w S' F' cs u:=by
 obtain⟨f,d,k,e⟩:=h;exact⟨f,λj c g=>(d j c g).mono a (λ_ _ h=>h),ψ,e⟩
theorem cw.congr{a:Nat->Value}(h:cw w S F cs u)(d:∀j,j<cs.length->a j=u j):cw w S F cs a:=by
 obtain⟨f,e,b,c⟩:=h;exact⟨f,ψ,b,c⟩
theorem cw.nil(w:World)(S F:af)(u:Nat->Value):cw w S F [] u:=⟨λ_=>NO,ψ,ψ,ψ⟩
theorem cw.freeze(h:cw w S F cs u):cw w (λb o=>S b o\/F b o) NO (dw cs) u:=by
 obtain⟨f,e,i,k⟩:=h;rw[bU];refine⟨λ_=>NO,λj c d=>?_,λj _ b o h=>h,λj l _ _ _ b o h=>h.elim⟩;rw[Z5]at d;cases a:cs[j]? with
 | none=>grind
 | some g=>
  rw[a]at d;simp only[IA,O1]at d;subst d;exact(e j g a).freeze.mono ψ (λ_ _ h=>h)
theorem cw.one(h:cw w S F cs u)(b:j<cs.length):(u j).oneCell'=true:=by
 obtain⟨f,a,-,-⟩:=h;exact(a j cs[j] ψ).one
theorem cw.part(h:cw w S F cs u)(a n:Nat):cw w S F ((cs.drop a).take n) (λj=>u (a+j)):=by
 obtain⟨f,b,d,e⟩:=h;have g:∀j,j<((cs.drop a).take n).length->a+j<cs.length:=ψ
 refine⟨λj=>f (a+j),λj c i=>?_,ψ,ψ⟩
 grind
abbrev cN:=List (Nat × Nat × Nat)
def cr:List C->Nat->cN->Option (List C × Nat)
 | b,a,[]=>some (b,a)
 | b,a,(i,k,j)::st=>
  match b[a]? with
  | some (.s _ rows)=>match rows[i]? with
   | some r=>if r.length=k then cr r j st else none
   | none=>none
  | _=>none
def lH:List C->Nat->cN->Prop
 | _,_,[]=>True
 | b,a,(i,_,j)::st=>
  match b[a]? with
  | some (.s o rows)=>o≠.R/\(match rows[i]? with|some r=>lH r j st|none=>False)
  | _=>False
def gh:List C->Nat->cN->List C->List C
 | _,_,[],c=>c
 | b,a,(i,_,j)::d,c=>
  match b[a]? with
  | some (.s o rows)=>match rows[i]? with
   | some r=>b.set a (.s o (rows.set i (gh r j d c)))
   | none=>b
  | _=>b
def plc(w:World):(Nat->Value)->Option (Nat × Nat)->Nat->cN->Option (Nat × Nat)
 | _,top,a,[]=>top.map λp=>(p.1,p.2+a)
 | u,_,a,(i,k,j)::st=>
  match u a with
  | .slice (some ⟨g,o,none⟩) _ _=>plc w (λd=>(cel w g (o+i*k+d)).getD undef) (some (g,o+i*k)) j st
  | _=>none
def cellv(w:World):(Nat->Value)->Nat->cN->Nat->Value
 | u,a,[],d=>u (a+d)
 | u,a,(i,k,j)::st,d=>
  match u a with
  | .slice (some ⟨g,o,none⟩) _ _=>cellv w (λd=>(cel w g (o+i*k+d)).getD undef) j st d
  | _=>undef
theorem cU.row{o:ek}(h:cU w S F (.s o rows) v){r:List C}(L:rows[i]? = some r) :
  ∃g b n cap,v=.slice (some ⟨g,b,none⟩) n cap/\i<n/\rows.length=n/\(∀r'∈rows,r'.length=r.length)/\
   (∀d,d<r.length->(∃z,cel w g (b+i*r.length+d)=some z)/\(S g (b+i*r.length+d)\/F g (b+i*r.length+d)))/\∃F',(∀b o,F' b o->F b o)/\
   cw w S F' r (λd=>(cel w g (b+i*r.length+d)).getD undef):=by
 cases h with
 | nil=>simp at L
 | R _ g p k n cap _ u y G q N H=>
  have A:r.length=k:=ψ
  have a:i<n:=ψ
  have e:∀d,d<r.length->cel w g (p+i*r.length+d)=some (u (i*k+d)):=λd l=>by grind [cJ]
  refine⟨g,p,n,cap,rfl,a,y,ψ,λd l=>⟨⟨_,e d l⟩,.inl (by grind [cJ])⟩,NO,λ_ _ h=>h.elim,λ_=>NO,λj c t=>?_,λ_ _ _ _ h=>h,λ_ _ _ _ _ _ _ h=>h.elim⟩
  grind
 | own _ _ g k n cap _ u f _ y G q _ J K B l H=>
  have A:r.length=k:=ψ
  have a:i<n:=ψ
  have e:∀d,d<r.length->cel w g (0+i*r.length+d)=some (u (i*k+d)):=λd l=>by grind [cJ]
  refine⟨g,0,n,cap,rfl,a,y,ψ,λd l=>⟨⟨_,e d l⟩,.inr (by grind [cJ])⟩,F,λ_ _ h=>h,λj=>f (i*k+j),λj c t=>?_,λj t b o h=>(B _ (cJ a ω) b o h).1,
    λj M t D E=>l _ _ (cJ a ω) (cJ a ω) ω⟩
  grind
 | suf _ _ g p k n cap _ u f _ y G q J K B l H=>
  have A:r.length=k:=ψ
  have a:i<n:=ψ
  have e:∀d,d<r.length->cel w g (p+i*r.length+d)=some (u (i*k+d)):=λd l=>by
   have:=(K (i*k+d) (cJ a ω)).1;rw[A,Nat.add_assoc];exact this
  refine⟨g,p,n,cap,rfl,a,y,ψ,λd l=>⟨⟨_,e d l⟩,.inr (by
    have:=(J (i*k+d) (cJ a ω)).1;rw[A,Nat.add_assoc];exact this)⟩,F,λ_ _ h=>h,λj=>f (i*k+j),λj c t=>?_,λj t b o h=>(B _ (cJ a ω) b o h).1,
    λj M t D E=>l _ _ (cJ a ω) (cJ a ω) ω⟩
  grind
theorem cw.at_{w:World}{S:af} : ∀(st:cN){F:af}{cs:List C}{u:Nat->Value}{off:Nat}{r:List C}{j:Nat}(top:Option (Nat × Nat)),cw w S F cs u->cr cs off st=some (r,j)->
  ∃F' p,(∀b o,F' b o->F b o)/\cw w S F' r p/\(∀d,cellv w u off st d=p (j+d))/\(st=[]->p=u)/\
   (st≠[]->∃g b,plc w u top off st=some (g,b+j)/\∀d,d<r.length->cel w g (b+d)=some (p d))
 | [],F,cs,u,off,r,j,top,h,a=>by
  simp only[cr,O1,Prod.mk.injEq]at a;obtain⟨rfl,rfl⟩:=a;exact⟨F,u,λ_ _ h=>h,h,λ_=>rfl,λ_=>rfl,ψ⟩
 | (i,k,Q)::st,F,cs,u,off,r,j,top,h,a=>by
  simp only[cr]at a;cases q:cs[off]? with
  | none=>grind
  | some c=>
   rw[q]at a;cases c with
   | v x=>cases a
   | x=>cases a
   | hd=>cases a
   | z=>cases a
   | m R=>cases a
   | it=>cases a
   | s o e=>
    simp only at a;cases t:e[i]? with
    | none=>grind
    | some y=>
     rw[t]at a;simp only at a;split at a
     ·rename_i D
      subst D;obtain⟨f,E,T,U⟩:=h;have A:=(C4.1 q).1;obtain⟨g,b,n,G,H,J,V,-,B,F',K,l⟩:=(E off _ q).row t;obtain⟨L,M,W,N,X,Y,O⟩:=cw.at_ st (some (g,b+i*y.length)) l a;refine⟨L,M,ψ,N,λd=>?_,ψ,λ_=>?_⟩
      ·grind [cellv]
      simp only[plc,H];cases st with
      | nil=>
       simp only[cr,O1,Prod.mk.injEq]at a;obtain⟨rfl,rfl⟩:=a;refine⟨g,b+i*y.length,rfl,λd hd=>?_⟩
       grind
      | cons s P=>exact O (by simp)
     cases a
theorem cw.last{w p:World}{S:af}(J:b8 S w p):∀(st:cN){F:af}{cs:List C}{u l:Nat->Value}{off:Nat}{r:List C}{j:Nat}(top:Option (Nat × Nat)),cw w S F cs u->cr cs off st=some (r,j)->b8 F w p->(∀x,x<cs.length->l x=u x)->
  plc p l top off st=plc w u top off st/\∀d,j+d<r.length->cellv p l off st d=cellv w u off st d
 | [],F,cs,u,l,off,r,j,top,h,a,B,D=>by
  simp only[cr,O1,Prod.mk.injEq]at a;obtain⟨rfl,rfl⟩:=a;exact⟨rfl,λd hd=>D _ hd⟩
 | (i,k,U)::st,F,cs,u,l,off,r,j,top,h,a,B,D=>by
  simp only[cr]at a;cases E:cs[off]? with
  | none=>grind
  | some c=>
   rw[E]at a;cases c with
   | v x=>cases a
   | x=>cases a
   | hd=>cases a
   | z=>cases a
   | m V=>cases a
   | it=>cases a
   | s o q=>
    simp only at a;cases K:q[i]? with
    | none=>grind
    | some L=>
     rw[K]at a;simp only at a;split at a
     case isFalse=>cases a
     rename_i N;subst N;obtain⟨f,O,P,W⟩:=h;have e:=(C4.1 E).1;obtain⟨g,b,n,G,M,Q,X,-,t,Y,R,y⟩:=(O off _ E).row K;have H:l off=.slice (some ⟨g,b,none⟩) n G:=(D off e).trans M;simp only[plc,cellv,M,H];refine cw.last J st _ y a (λb o Z=>B b o ψ) (λx T=>?_);obtain⟨-,A⟩:=t x T;have:cel p g (b+i*L.length+x)=cel w g (b+i*L.length+x):=A.elim (λh=>(J _ _ h).1) (λh=>(B _ _ (P off e _ _ h)).1);rw[this]
theorem cU.own_set{t:World}{G F1:af}{o:ek}{g cap:Nat}{f:Nat->af}(Z:o.ok (.slice (some ⟨g,0,none⟩) n cap))(V:rows.length=n)(hk:∀r∈rows,r.length=k)(l:n<=cap)(hF:∀q,q<cap*k->F g q/\(∃z,cel w g q=some z/\z.oneCell'=true)/\fro w g q=NF)(hu:∀q,q<n*k->cel w g q=some (u q))(hf:∀q,q<n*k->∀b o,f q b o->F b o/\¬(b=g/\o<cap*k))(hd:∀q a,q<n*k->a<n*k->q≠a->∀b o,f q b o->¬f a b o)(hc:∀i j r c,rows[i]? = some r->r[j]? = some c->cU w S (f (i*k+j)) c (u (i*k+j)))(i:Nat)(hi:i<n)(r':List C)(hr':r'.length=k)(u2:Nat->Value)(D:∀b o,F1 b o->∃j,j<k/\f (i*k+j) b o)(hS:b8 S w t)(y:∀b o,F b o->¬F1 b o->¬(b=g/\i*k<=o/\o<i*k+k)->cel t b o=cel w b o/\fro t b o=fro w b o)(A:∀d,d<k->cel t g (i*k+d)=some (u2 d)/\fro t g (i*k+d)=NF)(E:cw t S G r' u2)(hG:∀b o,G b o->F1 b o\/¬F b o) :
  cU t S (λb o=>(F b o/\¬F1 b o)\/G b o) (.s o (rows.set i r')) (.slice (some ⟨g,0,none⟩) n cap):=by
 obtain⟨W,e1,e2,e3⟩:=E;have hik:i*k+k<=n*k:=by
  have:(i+1)*k<=n*k:=CE k hi
  grind
 have hnk:n*k<=cap*k:=CE k l;have O:∀o,o<cap*k->¬F1 g o:=ψ
 have P:∀q,(i*k<=q/\q<i*k+k)->q - i*k<k:=λq h=>ω
 refine .own _ o g k n cap _ (λq=>if i*k<=q/\q<i*k+k then u2 (q - i*k) else u q) (λq=>if i*k<=q/\q<i*k+k then W (q - i*k) else f q)
  Z (by simpa using V) (λr hr=>?_) l ω (λq p=>?_) (λq p=>?_) (λq p b o M=>?_) (λq a p H hne b o M J=>?_) (λB Q r c e K=>?_)
 ·grind
 ·obtain⟨N,h2,h3⟩:=hF q p
  by_cases R:i*k<=q/\q<i*k+k
  ·obtain⟨X,Y⟩:=A (q - i*k) (P q R)
   have he:i*k+(q - i*k)=q:=ω
   rw[he]at X Y;have hlt:q - i*k<r'.length:=ω
   exact⟨.inl ⟨N,O q p⟩,⟨_,X,(e1 (q - i*k) r'[q - i*k] ψ).one⟩,Y⟩
  grind
 ·grind
 ·grind
 ·have hx:∀q a,q<n*k->(i*k<=q/\q<i*k+k)->a<n*k->¬(i*k<=a/\a<i*k+k)->∀b o,W (q - i*k) b o->¬f a b o:=by
   intro q a p h H h' b o M J;rcases hG b o ψ with N|N
   ·obtain⟨j,hj,L⟩:=D b o N
    exact hd (i*k+j) a ω H ω b o L J
   grind
  grind
 rw[List.getElem?_set]at e;by_cases T:i=B
 ·grind
 rw[CI T]at e;obtain⟨a1,a2⟩:=nG V hk e K;have p:¬(i*k<=B*k+Q/\B*k+Q<i*k+k):=by
  rcases Nat.lt_or_ge i B with h|h
  ·have:(i+1)*k<=B*k:=CE k h
   grind
  have:(B+1)*k<=i*k:=CE k ω
  grind
 simp only[CI p];have U:=cJ a1 a2;refine(hc B Q r c e K).keep hS (λb o M=>y b o (hf _ U b o M).1 (λh=>?_) ψ) |>.mono (λ_ _ h=>h) (λ_ _ h=>h)
 obtain⟨j,hj,L⟩:=D b o h
 grind
theorem cU.suf_set{L:World}{G F1:af}{o:ek}{g z cap:Nat}{f:Nat->af}(ho:o.okS (.slice (some ⟨g,z,none⟩) n cap))(hn:rows.length=n)(hk:∀r∈rows,r.length=k)(Q:n<=cap)(Y:∀q,q<n*k->F g (z+q)/\fro w g (z+q)=NF)(hu:∀q,q<n*k->cel w g (z+q)=some (u q)/\(u q).oneCell'=true)(R:∀q,q<n*k->∀b o,f q b o->F b o/\¬(b=g/\z<=o/\o<z+n*k))(Z:∀q p,q<n*k->p<n*k->q≠p->∀b o,f q b o->¬f p b o)(hc:∀i j r c,rows[i]? = some r->r[j]? = some c->cU w S (f (i*k+j)) c (u (i*k+j)))(i:Nat)(hi:i<n)(r':List C)(hr':r'.length=k)(u2:Nat->Value)(E:∀b o,F1 b o->∃j,j<k/\f (i*k+j) b o)(hS:b8 S w L)(e:∀b o,F b o->¬F1 b o->¬(b=g/\z+i*k<=o/\o<z+i*k+k)->cel L b o=cel w b o/\fro L b o=fro w b o)(y:∀d,d<k->cel L g (z+i*k+d)=some (u2 d)/\fro L g (z+i*k+d)=NF)(T:cw L S G r' u2)(hG:∀b o,G b o->F1 b o\/¬F b o) :
  cU L S (λb o=>(F b o/\¬F1 b o)\/G b o) (.s o (rows.set i r')) (.slice (some ⟨g,z,none⟩) n cap):=by
 obtain⟨f2,e1,e2,e3⟩:=T;have hik:i*k+k<=n*k:=by
  have:(i+1)*k<=n*k:=CE k hi
  grind
 have H:∀q,q<n*k->¬F1 g (z+q):=λq l h=>by
  obtain⟨j,hj,h⟩:=E _ _ h;exact(R _ ω _ _ h).2 ⟨rfl,ω,ω⟩
 have A:∀q,(i*k<=q/\q<i*k+k)->q - i*k<k:=λq h=>ω
 refine .suf _ o g z k n cap _ (λq=>if i*k<=q/\q<i*k+k then u2 (q - i*k) else u q) (λq=>if i*k<=q/\q<i*k+k then f2 (q - i*k) else f q)
  ho (by simpa using hn) (λr hr=>?_) Q (λq l=>?_) (λq l=>?_) (λq l b o t=>?_) (λq p l M hne b o t N=>?_) (λK X r c J U=>?_)
 ·grind
 ·obtain⟨B,P⟩:=Y q l
  refine⟨.inl ⟨B,H q l⟩,?_⟩;by_cases a:i*k<=q/\q<i*k+k
  ·have c2:=(y (q - i*k) (A q a)).2
   rwa [show z+i*k+(q - i*k)=z+q by omega]at c2
  rw[(e g (z+q) B (H q l) ω).2];exact P
 ·obtain⟨B,P⟩:=Y q l
  by_cases a:i*k<=q/\q<i*k+k
  ·have c1:=(y (q - i*k) (A q a)).1
   rw[show z+i*k+(q - i*k)=z+q by omega]at c1;rw[CJ a];have hlt:q - i*k<r'.length:=by have:=A q a;omega
   exact⟨c1,(e1 (q - i*k) r'[q - i*k] (Z3 hlt)).one⟩
  rw[CI a,(e g (z+q) B (H q l) ω).1];exact hu q l
 ·by_cases a:i*k<=q/\q<i*k+k
  ·rw[CJ a]at t
   have V:=e2 (q - i*k) (by have:=A q a;omega) b o t;refine⟨.inr V,λh=>?_⟩;obtain⟨rfl,B,h2⟩:=h;have W:=(Y (o - z) ω).1;rw[show z+(o - z)=o by omega]at W;rcases hG b o V with P|P
   ·exact H (o - z) ω (by rw[show z+(o - z)=o by omega];exact P)
   exact P W
  rw[CI a]at t;obtain⟨B,h2⟩:=R q l b o t;refine⟨.inl ⟨B,λh=>?_⟩,h2⟩;obtain⟨j,hj,D⟩:=E b o h;exact Z q (i*k+j) l ω ω b o t D
 ·have hx:∀q p,q<n*k->(i*k<=q/\q<i*k+k)->p<n*k->¬(i*k<=p/\p<i*k+k)->∀b o,f2 (q - i*k) b o->¬f p b o:=by
   intro q p l h M h' b o t N;rcases hG b o (e2 _ (by have:=A q h;omega) b o t) with B|B
   ·obtain⟨j,hj,D⟩:=E b o B
    exact Z (i*k+j) p ω M ω b o D N
   exact B (R p M b o N).1
  grind
 rw[List.getElem?_set]at J;by_cases hii:i=K
 ·grind
 rw[CI hii]at J;obtain⟨a1,a2⟩:=nG hn hk J U;have l:¬(i*k<=K*k+X/\K*k+X<i*k+k):=by
  rcases Nat.lt_or_ge i K with h|h
  ·have:(i+1)*k<=K*k:=CE k h
   grind
  have:(K+1)*k<=i*k:=CE k ω
  grind
 simp only[CI l];have O:=cJ a1 a2;refine(hc K X r c J U).keep hS (λb o t=>e b o (R _ O b o t).1 (λh=>?_) (λh=>(R _ O b o t).2 ⟨h.1,ω,ω⟩)) |>.mono (λ_ _ h=>h) (λ_ _ h=>h)
 obtain⟨j,hj,D⟩:=E b o h;exact Z (K*k+X) (i*k+j) O ω ω b o t D
theorem cw.focus{w:World}{S:af} : ∀(st:cN){F:af}{cs:List C}{u:Nat->Value}{off:Nat}{r:List C}{j:Nat}(top:Option (Nat × Nat)),st≠[]->cw w S F cs u->cr cs off st=some (r,j)->lH cs off st->
  ∃g b F' u',(∀b o,F' b o->F b o)/\cw w S F' r u'/\plc w u top off st=some (g,b+j)/\
   (∀d,d<r.length->F g (b+d)/\¬F' g (b+d)/\cel w g (b+d)=some (u' d)/\fro w g (b+d)=NF)/\
   ∀(D:World)(r':List C)(u2:Nat->Value)(G:af),b8 S w D->(∀b' o,F b' o->¬F' b' o->¬(b'=g/\b<=o/\o<b+r.length)->cel D b' o=cel w b' o/\fro D b' o=fro w b' o)->
    (∀d,d<r.length->cel D g (b+d)=some (u2 d)/\fro D g (b+d)=NF)->r'.length=r.length->cw D S G r' u2->(∀b o,G b o->F' b o\/¬F b o)->
    cw D S (λb o=>(F b o/\¬F' b o)\/G b o) (gh cs off st r') u
 | [],_,_,_,_,_,_,_,h,_,_,_=>absurd rfl h
 | (i,k,j0)::st,F,cs,u,off,r,j,top,_,h,M,ho=>by
  simp only[cr]at M;simp only[lH]at ho;cases hc:cs[off]? with
  | none=>grind
  | some c=>
   rw[hc]at M ho;cases c with
   | v x=>cases M
   | x=>cases M
   | hd=>cases M
   | z=>cases M
   | m es=>cases M
   | it=>cases M
   | s o rows=>
    simp only at M ho;obtain⟨hoi,ho⟩:=ho;cases hi:rows[i]? with
    | none=>grind
    | some a=>
     rw[hi]at M ho;simp only at M ho;split at M
     case isFalse=>cases M
     rename_i hk1;subst hk1;obtain⟨f,h1,O,h3⟩:=h;have p:=(C4.1 hc).1;have hrep:=h1 off _ hc;have hup:∀r',gh cs off ((i,a.length,j0)::st) r'=cs.set off (.s o (rows.set i (gh a j0 st r'))):=λr'=>by grind [gh]
     have back:∀(D:World)(c':C)(X G:af),b8 S w D->(∀j c,j≠off->cs[j]? = some c->b8 (f j) w D)->(∀b o,X b o->f off b o)->cU D S (λb o=>(f off b o/\¬X b o)\/G b o) c' (u off)->(∀b o,G b o->X b o\/¬F b o)->
       cw D S (λb o=>(F b o/\¬X b o)\/G b o) (cs.set off c') u:=by
      intro D c' X G Y E hF2 hrep' Z;refine⟨λj=>if j=off then(λb o=>(f off b o/\¬X b o)\/G b o) else f j,λj c P=>?_,λj P b o q=>?_,λj j' P A hne b o q hb'=>?_⟩
      ·grind [cU.keep]
      ·simp only[O2]at P
       simp only at q;split at q
       all_goals grind
      simp only[O2]at P A;simp only at q hb';by_cases e:j=off
      ·rw[CJ e]at q
       grind
      rw[CI e]at q;by_cases e':j'=off
      ·rw[CJ e']at hb'
       grind
      grind
     generalize hv:u off=v at hrep;cases hrep with
     | nil=>simp at hi
     | R=>grind
     | own _ _ g k n cap _ u1 f1 hoo hn hk L hpos hF hu hf hd hcr=>
      have hr1:a.length=k:=ψ
      subst hr1;have Q:i<n:=ψ
      have hik:i*a.length+a.length<=n*a.length:=by
       have:(i+1)*a.length<=n*a.length:=CE _ Q
       grind
      have hnk:n*a.length<=cap*a.length:=CE _ L
      let F1:af:=λb o=>∃j,j<a.length/\f1 (i*a.length+j) b o
      have t:∀b o,F1 b o->f off b o/\¬(b=g/\o<cap*a.length):=ψ
      have hcel:∀d,d<a.length->cel w g (i*a.length+d)=some (u1 (i*a.length+d)):=ψ
      have H:cw w S F1 a (λd=>u1 (i*a.length+d)):=
       ⟨λj=>f1 (i*a.length+j),ψ,ψ,λj j' P A hne=>hd _ _ ω ω ω⟩
      have R:cw w S F1 a (λd=>(cel w g (0+i*a.length+d)).getD undef):=H.congr ψ;cases st with
      | nil=>
       simp only[cr,O1,Prod.mk.injEq]at M;obtain⟨rfl,rfl⟩:=M;refine⟨g,i*a.length,F1,λd=>u1 (i*a.length+d),ψ,H,by grind [plc],λd hd=>?_,?_⟩
       ·exact⟨O off p _ _ (hF _ ω).1,λh=>(t _ _ h).2 ⟨rfl,ω⟩,hcel d hd,(hF _ ω).2.2⟩
       intro D r' u2 G Y l B J K Z;rw[hup];simp only[gh];refine back D _ F1 G Y (λj c P T b o q=>?_) ψ ?_ Z
       ·have A:=(C4.1 T).1
        refine l b o (O j A b o q) ψ (λh=>?_)
        grind
       rw[hv];exact cU.own_set (F1:=F1) hoo hn hk L hF hu hf hd hcr i Q r' J u2 (λb o h=>h) Y (λb o q y U=>l b o ψ y U) B K (λb o q=>(Z b o q).imp id ψ)
      | cons s st'=>
       obtain⟨g2,b2,X,u2,e1,e2,e3,e4,e5⟩:=cw.focus (s::st') (some (g,0+i*a.length)) (by simp) R M ho;refine⟨g2,b2,X,u2,λb o q=>O off p b o (t b o (e1 b o q)).1,e2,by grind [plc],λd hd=>?_,?_⟩
       ·obtain⟨a1,a2,a3,a4⟩:=e4 d hd
        grind
       intro D r' u3 G Y l B J K Z;have V:=e5 D r' u3 G Y (λb o q y U=>l b o (O off p b o (t b o q).1) y U) B J K (λb o q=>(Z b o q).imp id (λh h'=>h (O off p b o (t b o h').1)));rw[hup];have N:∀o,b2<=o->o<b2+r.length->F1 g2 o:=λo ho1 ho2=>by
        have:=(e4 (o - b2) ω).1
        rwa [show b2+(o - b2)=o by omega]at this
       have E:∀b o,f off b o->¬F1 b o->cel D b o=cel w b o/\fro D b o=fro w b o:=λb o q y=>
        l b o (O off p b o q) (λh=>y (e1 b o h)) (λh=>y (by rw[h.1];exact N o h.2.1 h.2.2))
       refine back D _ X G Y (λj c P T b o q=>?_) (λb o h=>(t b o (e1 b o h)).1) ?_ Z
       ·have A:=(C4.1 T).1
        refine l b o (O j A b o q) (λh=>h3 off j p A (Ne.symm P) b o (t b o (e1 b o h)).1 q) (λh=>?_);exact h3 off j p A (Ne.symm P) b o (t b o (by rw[h.1];exact N o h.2.1 h.2.2)).1 q
       rw[hv];have W:(gh a j0 (s::st') r').length=a.length:=by
        obtain⟨i',k',j'⟩:=s;simp only[gh];split
        ·split<;>simp
        rfl
       refine(cU.own_set (F1:=F1) (G:=λb o=>(F1 b o/\¬X b o)\/G b o) hoo hn hk L hF hu hf hd hcr i Q _ W (λd=>u1 (i*a.length+d)) (λb o h=>h) Y (λb o q y _=>E b o q y) (λd hd=>?_) (V.congr λd hd=>?_) (λb o q=>q.elim (λh=>.inl h.1) (λh=>(Z b o h).imp (e1 b o) (λh h'=>h (O off p b o h'))))).mono (λ_ _ h=>h) (λb o q=>q.elim (λh=>.inl ⟨h.1,λh'=>h.2 (e1 b o h')⟩) (λh=>h.imp (λh=>⟨(t b o h.1).1,h.2⟩) id))
       ·have hnf:¬F1 g (i*a.length+d):=λh=>(t _ _ h).2 ⟨rfl,ω⟩
        have:=E g (i*a.length+d) (hF _ ω).1 hnf
        grind
       grind
     | suf _ _ g z k n cap _ u1 f1 hoo hn hk L hF hu hf hd hcr=>
      have hr1:a.length=k:=ψ
      subst hr1;have Q:i<n:=ψ
      have hik:i*a.length+a.length<=n*a.length:=by
       have:(i+1)*a.length<=n*a.length:=CE _ Q
       grind
      let F1:af:=λb o=>∃j,j<a.length/\f1 (i*a.length+j) b o
      have t:∀b o,F1 b o->f off b o/\¬(b=g/\z<=o/\o<z+n*a.length):=λb o ⟨j,P,h⟩=>hf _ ω b o h
      have hcel:∀d,d<a.length->cel w g (z+i*a.length+d)=some (u1 (i*a.length+d)):=λd hd=>by rw[Nat.add_assoc];exact(hu _ ω).1
      have H:cw w S F1 a (λd=>u1 (i*a.length+d)):=
       ⟨λj=>f1 (i*a.length+j),ψ,ψ,λj j' P A hne=>hd _ _ ω ω ω⟩
      have R:cw w S F1 a (λd=>(cel w g (z+i*a.length+d)).getD undef):=H.congr ψ;cases st with
      | nil=>
       simp only[cr,O1,Prod.mk.injEq]at M;obtain⟨rfl,rfl⟩:=M;refine⟨g,z+i*a.length,F1,λd=>u1 (i*a.length+d),ψ,H,by grind [plc],λd hd=>?_,?_⟩
       ·have hq:=hF (i*a.length+d) ω
        rw[<-Nat.add_assoc]at hq;exact⟨O off p _ _ hq.1,λh=>(t _ _ h).2 ⟨rfl,ω,ω⟩,hcel d hd,hq.2⟩
       intro D r' u2 G Y l B J K Z;rw[hup];simp only[gh];refine back D _ F1 G Y (λj c P T b o q=>?_) ψ ?_ Z
       ·have A:=(C4.1 T).1
        refine l b o (O j A b o q) ψ (λh=>?_);obtain⟨rfl,q1,q2⟩:=h;have hq:=(hF (o - z) ω).1;rw[show z+(o - z)=o by omega]at hq;exact h3 off j p A (Ne.symm P) _ _ hq q
       rw[hv];exact cU.suf_set (F1:=F1) hoo hn hk L hF hu hf hd hcr i Q r' J u2 (λb o h=>h) Y (λb o q y U=>l b o ψ y U) B K (λb o q=>(Z b o q).imp id ψ)
      | cons s st'=>
       obtain⟨g2,b2,X,u2,e1,e2,e3,e4,e5⟩:=cw.focus (s::st') (some (g,z+i*a.length)) (by simp) R M ho;refine⟨g2,b2,X,u2,λb o q=>O off p b o (t b o (e1 b o q)).1,e2,by grind [plc],λd hd=>?_,?_⟩
       ·obtain⟨a1,a2,a3,a4⟩:=e4 d hd
        grind
       intro D r' u3 G Y l B J K Z;have V:=e5 D r' u3 G Y (λb o q y U=>l b o (O off p b o (t b o q).1) y U) B J K (λb o q=>(Z b o q).imp id (λh h'=>h (O off p b o (t b o h').1)));rw[hup];have N:∀o,b2<=o->o<b2+r.length->F1 g2 o:=λo ho1 ho2=>by
        have:=(e4 (o - b2) ω).1
        rwa [show b2+(o - b2)=o by omega]at this
       have E:∀b o,f off b o->¬F1 b o->cel D b o=cel w b o/\fro D b o=fro w b o:=λb o q y=>
        l b o (O off p b o q) (λh=>y (e1 b o h)) (λh=>y (by rw[h.1];exact N o h.2.1 h.2.2))
       refine back D _ X G Y (λj c P T b o q=>?_) (λb o h=>(t b o (e1 b o h)).1) ?_ Z
       ·have A:=(C4.1 T).1
        refine l b o (O j A b o q) (λh=>h3 off j p A (Ne.symm P) b o (t b o (e1 b o h)).1 q) (λh=>?_);exact h3 off j p A (Ne.symm P) b o (t b o (by rw[h.1];exact N o h.2.1 h.2.2)).1 q
       rw[hv];have W:(gh a j0 (s::st') r').length=a.length:=by
        obtain⟨i',k',j'⟩:=s;simp only[gh];split
        ·split<;>simp
        rfl
       refine(cU.suf_set (F1:=F1) (G:=λb o=>(F1 b o/\¬X b o)\/G b o) hoo hn hk L hF hu hf hd hcr i Q _ W (λd=>u1 (i*a.length+d)) (λb o h=>h) Y (λb o q y _=>E b o q y) (λd hd=>?_) (V.congr λd hd=>?_) (λb o q=>q.elim (λh=>.inl h.1) (λh=>(Z b o h).imp (e1 b o) (λh h'=>h (O off p b o h'))))).mono (λ_ _ h=>h) (λb o q=>q.elim (λh=>.inl ⟨h.1,λh'=>h.2 (e1 b o h')⟩) (λh=>h.imp (λh=>⟨(t b o h.1).1,h.2⟩) id))
       ·have hnf:¬F1 g (z+i*a.length+d):=λh=>(t _ _ h).2 ⟨rfl,ω,ω⟩
        have hq:=hF (i*a.length+d) ω;rw[<-Nat.add_assoc]at hq;have:=E g (z+i*a.length+d) hq.1 hnf
        grind
       grind
structure bu(M:af)(w w':World):Prop where
 os:w'.os=w.os
 tape:w'.tape=w.tape
 output:w'.output=w.output
 size:w.heap.size<=w'.heap.size
 blk:∀b,b<w.heap.size->(∀o,¬M b o)->w'.heap[b]? = w.heap[b]?
 cel:∀b o,b<w.heap.size->¬M b o->cel w' b o=cel w b o
 fro:∀b o,b<w.heap.size->¬M b o->fro w' b o=fro w b o
def bu.refl(M:af)(w:World):bu M w w:=⟨rfl,rfl,rfl,O5 _,λ_ _ _=>rfl,λ_ _ _ _=>rfl,λ_ _ _ _=>rfl⟩
def Cj:type_of% @bu.refl:=@bu.refl
variable{a:World}
theorem bu.trans{M i:af}{b c:World}(h:bu M a b)(h':bu i b c)(j:∀x o,i x o->a.heap.size<=x\/M x o):bu M a c:=by
 have g:∀x o,x<a.heap.size->¬M x o->¬i x o:=ψ
 have e:∀x,x<a.heap.size->x<b.heap.size:=λx d=>I7 d h.size
 exact⟨h'.os.trans h.os,h'.tape.trans h.tape,h'.output.trans h.output,S9 h.size h'.size,λx d f=>(h'.blk x (e x d) ψ).trans (h.blk x d f),
   λx o d f=>(h'.cel x o (e x d) (g x o d f)).trans (h.cel x o d f),λx o d f=>(h'.fro x o (e x d) (g x o d f)).trans (h.fro x o d f)⟩
variable{w:World}
theorem bu.of_below{c:World}(h:Below w.heap.size w c)(M:af):bu M w c:=
 ⟨h.os,h.tape,h.output,h.size,λb a _=>h.block b a,λ_ _ a _=>h.cell a,λb o a _=>Prod.ext (h.frozen a) (by grind [Go.RowKit.Below.block,mp])⟩
def bu.below(h:bu NO w a):Below w.heap.size w a:=⟨h.os,h.tape,h.output,h.size,λb c=>h.blk b c (λ_ h=>h)⟩
structure Tb(w:World)(S:af):Prop where
 max:Tbl.MaxV w
 alm:∀o,S 0 o
variable{S:af}{w1:World}
def Tb.keep{S1 V:af}(h:Tb w S)(c:bu V w w1)(d:∀b o,V b o->¬S b o)(e:∀b o,S b o->S1 b o):Tb w1 S1:=
 {max:=Tbl.max_blk h.max (c.blk _ (Tbl.max_lt h.max) λo a=>d _ o a (h.alm o)),alm:=λo=>e _ _ (h.alm o)}
inductive Kd where
 |one
 |agg
 |tup (sh:List (Option Nat))
 |box
inductive AV where
 |dead
 |Y (k:Kd) (cs:List C)
 |ref (t off:Nat) (st:cN)
 |c5 (t off:Nat) (st:cN) (ag:Option Nat)
 |iref (r:List C) (off:Nat)
 |fn (f:FuncId) (caps:List Nat)
 |fv (Ok:af->World->Value->Prop)
instance:Inhabited AV:=⟨.dead⟩
def AV.uses(d:Nat):AV->Bool
 | .ref t _ _=>Nat.beq t d
 | .c5 t _ _ _=>Nat.beq t d
 | .fn _ caps=>caps.any (Nat.beq · d)
 | _=>false
def kl(d:Nat):AV->AV
 | .ref t off st=>bif Nat.beq t d then .dead else .ref t off st
 | .c5 t off st ag=>bif Nat.beq t d then .dead else .c5 t off st ag
 | .fn f caps=>bif caps.any (Nat.beq · d) then .dead else .fn f caps
 | .Y k cs=>.Y k cs
 | .iref r off=>.iref r off
 | .fv Ok=>.fv Ok
 | .dead=>.dead
theorem EV(d:Nat)(v:AV):kl d v=bif v.uses d then .dead else v:=by cases v<;>rfl
def put(F:Nat->AV)(d:Nat)(v:AV):Nat->AV:=λt=>bif Nat.beq t d then v else kl d (F t)
def j8:Value->List Value
 | .tuple vs=>vs.toList.flatMap λv=>v.cells.toList
 | _=>[]
def co(w:World):Kd->Value->Nat->Value
 | .one,v=>λ_=>v
 | .agg,v=>λj=>v.cells.toList.getD j undef
 | .tup _,v=>λj=>(j8 v).getD j undef
 | .box,.pointer (some a)=>λj=>(cel w a.block (a.off+j)).getD undef
 | .box,_=>λ_=>undef
def rp:Kd->Value->Option (Nat × Nat)
 | .box,.pointer (some a)=>some (a.block,a.off)
 | _,_=>none
def mkv:Option Nat->(Nat->Value)->Value
 | none,u=>u 0
 | some n,u=>.agg ((List.range n).map u).toArray
def uN:List (Option Nat)->Nat
 | []=>0
 | none::sh=>1+uN sh
 | some n::sh=>n+uN sh
def yd:List (Option Nat)->List Value->Prop
 | [],[]=>True
 | none::sh,v::vs=>v.cells = #[v]/\yd sh vs
 | some n::sh,v::vs=>(∃arr,v=.agg arr/\arr.size=n)/\yd sh vs
 | _,_=>False
def fZ(w:World)(X:af):Kd->Nat->Value->Prop
 | .one,n,_=>n=1
 | .agg,n,v=>∃arr,v=.agg arr/\arr.size=n
 | .tup sh,n,v=>∃a,v=.tuple a/\yd sh a.toList/\uN sh=n
 | .box,n,v=>∃g o,v=.pointer (some ⟨g,o,none⟩)/\∀j,j<n->X g (o+j)/\(∃z,cel w g (o+j)=some z)/\fro w g (o+j)=NF
def cP(w:World)(S:af)(F:Nat->AV)(tv:Nat->Value)(X:af):AV->Value->Prop
 | .dead,_=>True
 | .Y k a,v=>∃c Y:af,(∀b o,c b o->X b o)/\(∀b o,Y b o->X b o)/\(∀b o,c b o->¬Y b o)/\fZ w c k a.length v/\cw w S Y a (co w k v)
 | .ref t off st,v=>∃k a r j g o,F t=.Y k a/\cr a off st=some (r,j)/\plc w (co w k (tv t)) (rp k (tv t)) off st=some (g,o)/\v=.pointer (some ⟨g,o,none⟩)
 | .c5 t off st ag,v=>∃k a r j,F t=.Y k a/\cr a off st=some (r,j)/\j+ag.getD 1<=r.length/\v=mkv ag (cellv w (co w k (tv t)) off st)
 | .iref r off,v=>∃g b u,v=.pointer (some ⟨g,b+off,none⟩)/\(∀d,d<r.length->S g (b+d)/\cel w g (b+d)=some (u d))/\cw w S NO r u
 | .fn f caps,v=>v=.func (.func f) #[] (caps.map tv).toArray
 | .fv Ok,v=>∃(S1:af)(w1:World),(∀b o,S1 b o->S b o)/\b8 S1 w1 w/\Ok S1 w1 v
variable{n:Nat}{v:Value}
theorem mc{k:Kd}{X:af}(h:fZ w X k n v)(b:b8 X w a):∀x,x<n->co a k v x=co w k v x:=by
 intro x c;cases k with
 | box=>
  obtain⟨g,o,rfl,d⟩:=h;simp only[co];rw[(b _ _ (d x c).1).1]
 | _=>rfl
theorem fZ.keep{X c:af}{k:Kd}(h:fZ w X k n v)(d:b8 X w a)(l:∀b o,X b o->c b o):fZ a c k n v:=by
 cases k with
 | box=>
  obtain⟨g,o,rfl,e⟩:=h;refine⟨g,o,rfl,λj f=>?_⟩;obtain⟨i,p,q⟩:=e j f;have:=d _ _ i
  grind
 | _=>exact h
variable{tv:Nat->Value}
theorem cP.keep{D:World}{S':af}{F F':Nat->AV}{y:Nat->Value}{X R:af}{φ:Nat->af}{av:AV}(h:cP w S F tv X av v)(T:∀t k cs,F t=.Y k cs->cP w S F tv (φ t) (F t) (tv t))(U:∀t,av.uses t=true->(∀k cs,F t=.Y k cs->F' t=.Y k cs)/\y t=tv t/\b8 (φ t) w D)(E:b8 X w D)(l:b8 S w D)(hm:∀b o,X b o->R b o)(p:∀b o,S b o->S' b o):cP D S' F' y R av v:=by
 cases av with
 | dead=>trivial
 | Y k cs=>
  obtain⟨G,Y,c,e,i,q,V⟩:=h;refine⟨G,Y,ψ,ψ,i,q.keep (λb o a=>E _ _ (c b o a)) (λ_ _ h=>h),?_⟩;exact((V.keep l (λb o a=>E _ _ (e b o a))).mono p (λ_ _ h=>h)).congr λj W=>mc q (λb o a=>E _ _ (c b o a)) j W
 | ref t A H=>
  obtain⟨k,cs,r,j,g,o,c,e,i,q⟩:=h;obtain⟨J,K,B⟩:=U t (by simp[AV.uses]);have C:=T t k cs c;rw[c]at C;obtain⟨G,Y,L,M,Z,N,O⟩:=C;refine⟨k,cs,r,j,g,o,J k cs c,e,?_,q⟩;rw[K];exact(cw.last l H _ O e (λb o a=>B _ _ (M b o a)) (λx P=>mc N (λb o a=>B _ _ (L b o a)) x P)).1.trans i
 | c5 t A H ag=>
  obtain⟨k,cs,r,j,c,e,i,q⟩:=h;obtain⟨J,K,B⟩:=U t (by simp[AV.uses]);have C:=T t k cs c;rw[c]at C;obtain⟨G,Y,L,M,Z,N,O⟩:=C;refine⟨k,cs,r,j,J k cs c,e,i,?_⟩;rw[q,K];have hl:=(cw.last l H none O e (λb o a=>B _ _ (M b o a)) (λx P=>mc N (λb o a=>B _ _ (L b o a)) x P)).2;cases ag with
  | none=>exact(hl 0 (by simp at i;omega)).symm
  | some n=>
   grind [List.map_congr_left,mkv]
 | iref r A=>
  obtain⟨g,b,u,c,e,i⟩:=h;exact⟨g,b,u,c,λd Q=>⟨p _ _ (e d Q).1,(l _ _ (e d Q).1).1.trans (e d Q).2⟩,(i.keep l (λ_ _ h=>h.elim)).mono p (λ_ _ h=>h)⟩
 | fn f caps=>
  refine h.trans ?_
  grind [List.map_congr_left,Nat.beq_refl,AV.uses]
 | fv Ok=>
  obtain⟨S1,w1,c,e,i⟩:=h;exact⟨S1,w1,ψ,λb o a=>⟨(l b o (c b o a)).1.trans (e b o a).1,(l b o (c b o a)).2.trans (e b o a).2⟩,i⟩
theorem WU{b o:Nat}{z:Value}(h:cel w b o=some z):b<w.heap.size:=by grind [Go.World.cell?]
def tvs(a:Act)(t:Nat):Value:=a.tmps.getD t undef
structure fF where
 n:Nat
 kp:List (Nat × Value)
 mo:List (Nat × List Nat):=[]
def fF.free(N:fF)(d:Nat):Bool:=Nat.blt d N.n&&!N.kp.any λp=>Nat.beq p.1 d
variable{d:Nat}
theorem fF.free_lt{N:fF}(h:N.free d=true):d<N.n:=by grind [Nat.blt_eq,fF.free]
theorem fF.free_ne{N:fF}(h:N.free d=true){p:Nat × Value}(a:p∈N.kp):p.1≠d:=λe=>by grind [Nat.beq_refl,fF.free]
structure bj(w0:World)(M S0:af)(N:fF)(S:af)(φ:Nat->af)(F:Nat->AV)(a:Act)(w:World):Prop where
 slot:∀t,cP w S F (tvs a) (φ t) (F t) (tvs a t)
 dis:∀t t',t≠t'->∀b o,φ t b o->¬φ t' b o
 disS:∀t b o,φ t b o->¬S b o
 ex:∀t b o,φ t b o->b<w.heap.size/\(w0.heap.size<=b\/M b o)
 sub:∀b o,S0 b o->S b o
 sup:∀b o,S b o->b<w.heap.size/\(S0 b o\/w0.heap.size<=b\/M b o)
 old:bu M w0 w
 size:a.tmps.size=N.n
 defers:a.defers=[]
 par:(∀p,p∈N.kp->tvs a p.1=p.2)/\Tb w S
def St(w0:World)(M S0:af)(N:fF)(F:Nat->AV)(a:Act)(w:World):Prop:=∃S φ,bj w0 M S0 N S φ F a w
theorem Vj(a:Act)(d:Nat)(v:Value)(t:Nat)(b:d<a.tmps.size):tvs (a.put (some d) v) t=if t=d then v else tvs a t:=by
 simp only[tvs,Act.put,ZC,Array.getElem?_setIfInBounds]
 grind
theorem qK(F:Nat->AV)(d:Nat)(v:AV):put F d v d=v:=by simp[put]
theorem jr(F:Nat->AV){t:Nat}(v:AV)(h:t≠d):put F d v t=kl d (F t):=by grind [Nat.beq_eq,put]
theorem Gk(d:Nat)(k:Kd)(cs:List C):kl d (.Y k cs)=.Y k cs:=rfl
section
variable{w0 w w1:World}{M S0 S:af}{N:fF}{φ:Nat->af}{F:Nat->AV}{a:Act}
theorem bj.put_gen(h:bj w0 M S0 N S φ F a w)(i:bu NO w w1){d:Nat}(C:N.free d=true){av:AV}{v:Value}{X:af}(D:cP w1 S F (tvs a) X av v)(E:av.uses d=false)(q:∀b o,X b o->b<w1.heap.size/\(w0.heap.size<=b\/M b o))(G:∀t,t≠d->∀b o,X b o->¬φ t b o)(r:∀b o,X b o->¬S b o) :
  bj w0 M S0 N S (λt=>if t=d then X else φ t) (put F d av) (a.put (some d) v) w1:=by
 have H:=h.size;have e:∀X:af,(∀b o,X b o->b<w.heap.size)->b8 X w w1:=λX q b o c=>⟨i.cel b o (q b o c) (λh=>h),i.fro b o (q b o c) (λh=>h)⟩
 have f:∀t,b8 (φ t) w w1:=λt=>e _ λb o c=>(h.ex t b o c).1
 have j:b8 S w w1:=e _ λb o c=>(h.sup b o c).1
 have u:∀t,tvs (a.put (some d) v) t=if t=d then v else tvs a t:=λt=>Vj a d v t (by have:=fF.free_lt C;omega)
 refine⟨λt=>?_,λt y l b o c n=>?_,λt b o c=>?_,λt b o c=>?_,h.sub,λb o c=>⟨I7 (h.sup b o c).1 i.size,(h.sup b o c).2⟩,h.old.trans i (λ_ _ h=>h.elim),by grind [Go.Act.put],h.defers,λp O=>by have:=h.par.1;grind [fF.free_ne],h.par.2.keep i (λ_ _ h=>h.elim) (λ_ _ h=>h)⟩
 ·rw[u]
  by_cases g:t=d
  ·rw[CJ g,CJ g,g,qK]
   refine D.keep (φ:=φ) (λt k J K=>?_) (λt B=>?_) (λ_ _ _=>⟨rfl,rfl⟩) (λ_ _ _=>⟨rfl,rfl⟩) (λ_ _ h=>h) (λ_ _ h=>h)
   ·refine(h.slot t).keep (φ:=φ) (λt _ _ _=>h.slot t) (λt B=>?_) (f t) j (λ_ _ h=>h) (λ_ _ h=>h)
    grind
   have l:t≠d:=ψ
   refine⟨λk J K=>by grind [jr,Gk],ψ,λ_ _ _=>⟨rfl,rfl⟩⟩
  rw[jr _ _ g,CI g,CI g];rw[EV];cases B:(F t).uses d with
  | true=>trivial
  | false=>
   simp only[cond_false];refine(h.slot t).keep (φ:=φ) (λt _ _ _=>h.slot t) (λy L=>?_) (f t) j (λ_ _ h=>h) (λ_ _ h=>h)
   grind [jr,Gk]
 ·by_cases g:t=d
  ·grind
  rw[CI g]at c;by_cases A:y=d
  ·grind
  rw[CI A]at n;exact h.dis t y l b o c n
 ·split at c
  ·exact r b o c
  exact h.disS t b o c
 split at c
 ·exact q b o c
 exact⟨I7 (h.ex t b o c).1 i.size,(h.ex t b o c).2⟩
def U7(d:Nat):AV->AV
 | .ref t off st=>bif Nat.beq t d then .dead else .ref t off st
 | .c5 t off st ag=>bif Nat.beq t d then .dead else .c5 t off st ag
 | .fn f caps=>.fn f caps
 | .Y k cs=>.Y k cs
 | .iref r off=>.iref r off
 | .fv Ok=>.fv Ok
 | .dead=>.dead
def kill(F:Nat->AV)(d:Nat):Nat->AV:=λt=>bif Nat.beq t d then .dead else U7 d (F t)
theorem rW(F:Nat->AV)(d:Nat):kill F d d=.dead:=by simp[kill]
theorem my(F:Nat->AV){d t:Nat}(h:t≠d):kill F d t=U7 d (F t):=by grind [Nat.beq_eq,kill]
theorem bj.forget(h:bj w0 M S0 N S φ F a w)(d:Nat):bj w0 M S0 N S (λt=>if t=d then NO else φ t) (kill F d) a w:=by
 refine⟨λt=>?_,λt n g b o c i=>?_,λt b o c=>?_,λt b o c=>?_,h.sub,h.sup,h.old,h.size,h.defers,h.par⟩
 ·by_cases p:t=d
  ·subst p;rw[rW];trivial
  rw[my _ p,CI p];have l:U7 d (F t)=kl d (F t)->cP w S (kill F d) (tvs a) (φ t) (U7 d (F t)) (tvs a t):=λe=>by
   rw[e,EV];cases y:(F t).uses d with
   | true=>trivial
   | false=>
    simp only[cond_false];refine(h.slot t).keep (φ:=φ) (λt _ _ _=>h.slot t) (λn r=>?_) (λ_ _ _=>⟨rfl,rfl⟩) (λ_ _ _=>⟨rfl,rfl⟩) (λ_ _ h=>h) (λ_ _ h=>h);have g:n≠d:=ψ
    exact⟨λk A u=>by rw[my _ g,u];rfl,rfl,λ_ _ _=>⟨rfl,rfl⟩⟩
  cases j:F t with
  | fn f caps=>have q:=h.slot t;rw[j]at q;exact q
  | _=>rw[<-j];exact l (by rw[j];rfl)
 ·split at c
  ·exact c.elim
  split at i
  ·exact i.elim
  exact h.dis t n g b o c i
 ·split at c
  ·exact c.elim
  exact h.disS t b o c
 split at c
 ·exact c.elim
 exact h.ex t b o c
end
inductive TK where
 |st (flds:List (Nat × Nat))
 |sl (elem:Nat)
 |sc (d:TypeDesc)
 |mp (key elem:Nat) (z:Value)
structure TI where
 size:Nat
 bytes:Nat
 zero:List C
 kind:TK
instance:Inhabited TI:=⟨⟨0,0,[],.st []⟩⟩
def TI.agg(i:TI):Bool:=match i.kind with|.st _=>true|_=>false
def cval:C->Value
 | .v x=>x
 | .z=>.slice none 0 0
 | _=>undef
def lG:List C->Prop
 | []=>True
 | .v x::cs=>x.oneCell'=true/\lG cs
 | .z::cs=>lG cs
 | _=>False
def ix(P:Program)(t:Nat)(i:TI):Prop:=
 (P.info? t).map (λx=>(x.zero.map (·.cells.toList),x.size,x.bytes))=some (some (i.zero.map cval),i.size,i.bytes)/\lG i.zero/\
 match i.kind with
 | .st flds=>∃a,P.underlying t=some (.struct a)/\a.toList.map (λf=>(f.offset,f.type))=flds
 | .sl e=>P.underlying t=some (.slice e)
 | .sc d=>P.underlying t=some d/\(match d with|.struct _|.array _ _=>False|_=>True)
 | .mp k e z=>P.underlying t=some (.map k e)/\P.underlying k=some (.int .i64)/\(P.info? e).bind (·.zero)=some z/\z.oneCell'=true
def eR:C->Bool
 | .s .own _=>true
 | .s (.tag _) _=>true
 | .s .suf _=>true
 | .s (.tagS _) _=>true
 | .m _=>true
 | .it _ _=>true
 | _=>false
def br:List C->Bool
 | []=>true
 | c::cs=>bif eR c then false else br cs
def bP(cs:List C)(off n:Nat):List C:=(cs.drop off).take n
def qM:Value->C
 | .slice none 0 0=>.z
 | v=>.v v
def nS:Value->AV
 | .agg arr=>bif arr.all (·.oneCell') then .Y .agg (arr.toList.map qM) else .dead
 | .tuple _=>.dead
 | .pointer (some _)=>.dead
 | v=>.Y .one [qM v]
def oN(F:Nat->AV):Operand->AV
 | .tmp t=>F t
 | .const v=>nS v
 | .global _=>.dead
 | .func f=>.fn f []
inductive Rw(cs:List C)(off:Nat)(st:cN)(K:List C->Nat->Prop):Prop
 |mk_ (h:∃r j,cr cs off st=some (r,j)/\K r j)
variable{r cs:List C}{st:cN}{off:Nat}
theorem Rw.mk{K:List C->Nat->Prop}{j:Nat}(h:cr cs off st=some (r,j))(a:K r j):Rw cs off st K:=by refine .mk_ ?_;grind
theorem Rw.out{K:List C->Nat->Prop}(h:Rw cs off st K):∃r j,cr cs off st=some (r,j)/\K r j:=by obtain⟨h⟩:=h;exact h
inductive Wr(k:IntKind)(x:Int)(K:Int->Prop):Prop
 |mk_ (h:∃z,k.wrap x=z/\K z)
variable{K:Int->Prop}{x:Int}
theorem Wr.mk{k:IntKind}{z:Int}(h:k.wrap x=z)(a:K z):Wr k x K:=by refine .mk_ ?_;grind
def CR:type_of% @Wr.mk:=@Wr.mk
def Wr.out{k:IntKind}(h:Wr k x K):∃z,k.wrap x=z/\K z:=by obtain⟨h⟩:=h;exact h
inductive Ev(x:Int)(K:Int->Prop):Prop
 |mk_ (h:∃z,x=z/\K z)
theorem Ev.mk{z:Int}(h:x=z)(a:K z):Ev x K:=by refine .mk_ ?_;grind
def CY:type_of% @Ev.mk:=@Ev.mk
def Ev.out(h:Ev x K):∃z,x=z/\K z:=by obtain⟨h⟩:=h;exact h
inductive Ln(x:Nat)(K:Nat->Prop):Prop
 |mk_ (h:∃z,x=z/\K z)
theorem Ln.mk{x z:Nat}{K:Nat->Prop}(h:x=z)(a:K z):Ln x K:=by refine .mk_ ?_;grind
def CV:type_of% @Ln.mk:=@Ln.mk
theorem Ln.out{x:Nat}{K:Nat->Prop}(h:Ln x K):K x:=by obtain⟨h⟩:=h;grind
inductive Cd(p:Prop)(X:Prop):Prop
 |mk_ (h:p/\X)
variable{p X:Prop}
def Cd.mk(h:p)(a:X):Cd p X:=by refine .mk_ ?_;exact⟨h,a⟩
def CT:type_of% @Cd.mk:=@Cd.mk
def Cd.out(h:Cd p X):p/\X:=by obtain⟨h⟩:=h;exact h
inductive Ix(rows:List (List C))(i:Int)(K:List C->Prop):Prop
 |mk_ (h:0<=i/\∃r,rows[i.toNat]? = some r/\K r)
variable{rows:List (List C)}
theorem Ix.mk{i:Int}{K:List C->Prop}(a:0<=i)(h:rows[i.toNat]? = some r)(b:K r):Ix rows i K:=by refine .mk_ ?_;grind
def CO:type_of% @Ix.mk:=@Ix.mk
def Ix.nat{i:Nat}{K:List C->Prop}(h:rows[i]? = some r)(a:K r):Ix rows (i:Int) K:=CO ω h a
def CH:type_of% @Ix.nat:=@Ix.nat
def Ix.out{i:Int}{K:List C->Prop}(h:Ix rows i K):0<=i/\∃r,rows[i.toNat]? = some r/\K r:=by obtain⟨h⟩:=h;exact h
inductive Bf(b:Bool)(X Y:Prop):Prop
 |mk_ (h:bif b then X else Y)
variable{Y:Prop}{b:Bool}
theorem Bf.out(h:Bf b X Y):bif b then X else Y:=by obtain⟨h⟩:=h;exact h
theorem Bf.in_(h:bif b then X else Y):Bf b X Y:=by refine .mk_ ?_;exact h
theorem Bf.t(h:b=true)(a:X):Bf b X Y:=by grind [Bf.in_]
theorem Bf.f(h:b=false)(a:Y):Bf b X Y:=by grind [Bf.in_]
theorem Bf.P(h1:b=true->X)(h2:b=false->Y):Bf b X Y:=by cases b;all_goals grind [Bf.f,Bf.t]
theorem Bf.D[Decidable p](h1:p->X)(h2:¬p->Y):Bf (decide p) X Y:=.P ψ ψ
theorem Bf.E{a b:Int}(h1:a=b->X)(h2:a≠b->Y):Bf (a == b) X Y:=.P ψ ψ
theorem Bf.N{a b:Int}(h1:a≠b->X)(h2:a=b->Y):Bf (a != b) X Y:=.P ψ ψ
theorem Bf.not(h:Bf b Y X):Bf (!b) X Y:=by grind [Bf.in_,Bf.out]
def yI(F:Nat->AV)(t off:Nat)(st:cN)(K:List C->Nat->Prop):Prop:=
 match F t with
 | .Y _ cs=>match st with
  | []=>K cs off
  | s::st=>Rw cs off (s::st) K
 | _=>False
def jj(F:Nat->AV):AV->(Option Nat->List C->Prop)->Prop
 | .Y .one cs,K=>K none cs
 | .Y .agg cs,K=>K (some cs.length) cs
 | .c5 t off st ag,K=>yI F t off st λr j=>K ag (bP r j (ag.getD 1))
 | .fn f [],K=>K none [.v (.func (.func f) #[] #[])]
 | _,_=>False
def bm(w:World)(S Y:af)(ag:Option Nat)(cs:List C)(v:Value):Prop:=
 cs.length=ag.getD 1/\∃u,v=mkv ag u/\cw w S Y cs u
theorem rQ{F:Nat->AV}{t:Nat}{K:List C->Nat->Prop}(h:yI F t off st K):∃k cs r j,F t=.Y k cs/\cr cs off st=some (r,j)/\K r j:=by
 unfold yI at h;cases a:F t with
 | Y k cs=>
  rw[a]at h;cases st with
  | nil=>exact⟨k,cs,cs,off,rfl,rfl,h⟩
  | cons s st=>grind [Rw.out]
 | _=>grind
theorem pR(arr:Array Value):Value.agg arr=mkv (some arr.size) (λj=>arr.toList.getD j undef):=by
 simp only[mkv]
 congr 1
 grind
variable{u:Nat->Value}{ag:Option Nat}
theorem ko{a:Nat->Value}(h:∀j,j<ag.getD 1->u j=a j):mkv ag u=mkv ag a:=by
 cases ag with
 | none=>exact h 0 (by simp)
 | some n=>grind [List.map_congr_left,mkv]
section
variable{P:Program}{w0 w w1:World}{M S0 S:af}{N:fF}{φ:Nat->af}{F:Nat->AV}{a:Act}
theorem ug(S F:af){v:Value}(h:v.oneCell'=true):cU w S F (qM v) v:=by
 unfold qM;split
 ·exact .z _ _
 exact .v _ _ h
theorem Qj(v:Value):cP w S F (tvs a) NO (nS v) v:=by
 cases v with
 | agg arr=>
  cases d:arr.all (·.oneCell') with
  | false=>
   have e:nS (.agg arr)=.dead:=by grind [nS]
   rw[e];trivial
  | true=>
   have e:nS (.agg arr)=.Y .agg (arr.toList.map qM):=by grind [nS]
   rw[e];refine⟨NO,NO,λ_ _ h=>h,λ_ _ h=>h,λ_ _ _ h=>h,⟨arr,rfl,by simp⟩,λ_=>NO,λj c b=>?_,λ_ _ _ _ h=>h,λ_ _ _ _ _ _ _ h=>h.elim⟩;rw[Z5,Array.getElem?_toList]at b
   grind [ug,co,Go.Value.cells]
 | tuple _=>trivial
 | pointer p=>cases p with
  | some _=>trivial
  | none=>exact⟨NO,NO,λ_ _ h=>h,λ_ _ h=>h,λ_ _ _ h=>h,rfl,λ_=>NO,λj c b=>by cases j with|zero=>simp at b;subst b;exact ug _ _ rfl|succ j=>simp at b,λ_ _ _ _ h=>h,ψ⟩
 | _=>exact⟨NO,NO,λ_ _ h=>h,λ_ _ h=>h,λ_ _ _ h=>h,rfl,λ_=>NO,λj c b=>by cases j with|zero=>simp at b;subst b;exact ug _ _ rfl|succ j=>simp at b,λ_ _ _ _ h=>h,λ_ _ _ _ _ _ _ h=>h.elim⟩
def Y9(φ:Nat->af):Operand->af
 | .tmp t=>φ t
 | _=>NO
def bj.ev(h:bj w0 M S0 N S φ F a w)(x:Operand):cP w S F (tvs a) (Y9 φ x) (oN F x) (a.eval x):=by
 cases x with
 | tmp t=>exact h.slot t
 | const v=>exact Qj v
 | global g=>trivial
 | func f=>rfl
theorem bj.place(h:bj w0 M S0 N S φ F a w){t off:Nat}{st:cN}{k:Kd}{cs r:List C}{j:Nat}(l:F t=.Y k cs)(c:cr cs off st=some (r,j)) :
  ∃Y u,(∀b o,Y b o->φ t b o)/\cw w S Y r u/\(∀d,cellv w (co w k (tvs a t)) off st d=u (j+d))/\
   (∀g o,plc w (co w k (tvs a t)) (rp k (tvs a t)) off st=some (g,o)->∃b,o=b+j/\∀d,d<r.length->cel w g (b+d)=some (u d)):=by
 have i:=h.slot t;rw[l]at i;obtain⟨E,Y,G,H,J,n,p⟩:=i;obtain⟨q,y,K,A,B,D,L⟩:=cw.at_ st (rp k (tvs a t)) p c;refine⟨q,y,ψ,A,B,λg o O=>?_⟩;by_cases e:st=[]
 ·subst e
  simp only[cr,O1,Prod.mk.injEq]at c;obtain⟨rfl,rfl⟩:=c;rw[D rfl];cases k with
  | box=>
   obtain⟨P,Q,R,f⟩:=n
   grind [plc,rp,co]
  | _=>grind [plc,rp]
 grind
theorem bj.val(h:bj w0 M S0 N S φ F a w){av:AV}{v:Value}{X:af}{K:Option Nat->List C->Prop}(n:cP w S F (tvs a) X av v)(e:jj F av K) :
  ∃ag cs Y,K ag cs/\bm w S Y ag cs v/\∀b o,Y b o->X b o\/∃t,φ t b o:=by
 cases av with
 | Y k cs=>
  obtain⟨P,Y,Q,R,T,A,B⟩:=n;cases k with
  | one=>exact⟨none,cs,Y,e,⟨A,_,rfl,B⟩,ψ⟩
  | agg=>
   obtain⟨arr,rfl,p⟩:=A;exact⟨some cs.length,cs,Y,e,⟨rfl,co w .agg (.agg arr),by have:=pR arr;rw[p]at this;exact this,B⟩,ψ⟩
  | _=>exact e.elim
 | c5 t q H ag=>
  replace e:yI F t q H (λr j=>K ag (bP r j (ag.getD 1))):=e;obtain⟨k,cs,r,j,D,E,J⟩:=rQ e;obtain⟨U,L,V,W,g,i,G,Z⟩:=n;rw[D]at g;simp only[AV.Y.injEq]at g;obtain⟨rfl,rfl⟩:=g;rw[E]at i;simp only[O1,Prod.mk.injEq]at i;obtain⟨rfl,rfl⟩:=i;obtain⟨Y,u,hY,l,O,-⟩:=h.place D E;refine⟨ag,_,Y,J,⟨by simp[bP];omega,λd=>u (j+d),?_,l.part j _⟩,ψ⟩
  grind [ko]
 | fn f caps=>
  cases caps with
  | cons c cs=>exact e.elim
  | nil=>
   refine⟨none,_,NO,e,⟨rfl,λ_=>v,rfl,λ_=>NO,λj c y=>?_,λ_ _ _ _ h=>h,ψ⟩,λ_ _ h=>h.elim⟩;cases j with
   | zero=>simp at y;subst y;rw[show v=.func (.func f) #[] #[] from n];exact .v _ _ rfl
   | succ j=>simp at y
 | _=>exact e.elim
end
def DS(P:Program)(o:Oper)(a:Act)(w:World)(R:Value->World->Prop):Prop:=
 ∀(Kc:Act->World->Prop)(Q:Exit->Act->World->Prop),(∀v w1,R v w1->Kc (a.put o.dst v) w1)->o.wp P a w Kc Q
variable{R:Value->World->Prop}{o:Oper}
theorem DS.value{P:Program}{a:Act}(h:(execOp a.eval o).run P w=.ok (.value v) w1)(b:R v w1):DS P o a w R:=by
 intro Kc Q c
 grind [Go.Oper.upon_value,Go.Oper.wp]
theorem DS.skip{P:Program}{a:Act}(h:(execOp a.eval o).run P w=.ok .skip w1)(b:R undef w1):DS P o a w R:=by
 intro Kc Q c
 grind [Go.Oper.upon_skip,Go.Oper.wp]
theorem DS.enter{P:Program}{a:Act}{f:FuncId}{args:Array Value}(h:(execOp a.eval o).run P w=.ok (.enter f args) w)(b:Calls P f args w λe w1=>∃v,e=.returned v/\R v w1):DS P o a w R:=by
 intro Kc Q c
 grind [Go.Oper.upon_enter,Go.Calls.mono,Go.Oper.wp]
def mR(w:World)(S:af)(F:Nat->AV)(a:Act)(av:AV)(v:Value)(w1:World):Prop:=
 bu NO w w1/\∃X S1:af,(∀b o,X b o->b<w1.heap.size/\w.heap.size<=b)/\(∀b o,S b o->S1 b o)/\(∀b o,S1 b o->S b o\/(b<w1.heap.size/\w.heap.size<=b))/\(∀b o,X b o->¬S1 b o)/\cP w1 S1 F (tvs a) X av v
variable{F:af}
theorem cU.bare{F':af}{c:C}(h:cU w S F c v)(e:eR c=false):cU w S F' c v:=by
 induction h with
 | v F x q=>exact .v _ x q
 | x F u q=>exact .x _ u q
 | hd F a n c=>exact .hd _ a n c
 | z F a=>exact .z _ a
 | nil F o a j=>exact .nil _ o a j
 | R F g l k n i d u A B p D r _=>exact .R _ g l k n i d u A B p D r
 | own F o g k n i d u f j=>cases o with|R=>exact j.elim|own=>cases e|tag v=>cases e|suf=>cases e|tagS v=>cases e
 | suf F o g l k n i d u f j=>cases o with|R=>exact j.elim|own=>cases e|tag v=>cases e|suf=>cases e|tagS v=>cases e
 | m F b t G y H J K L E=>cases e
 | it=>cases e
theorem tF:∀{cs:List C},br cs=true->∀(j:Nat)(c:C),cs[j]? = some c->eR c=false
 | [],_,j,c,h=>by simp at h
 | a::cs,h,j,c,b=>by
  simp only[br]at h;cases d:eR a with
  | true=>grind
  | false=>
   rw[d]at h;cases j with
   | zero=>grind
   | succ j=>exact tF h j c (by simpa using b)
def cw.bare{F':af}(h:cw w S F cs u)(b:br cs=true):cw w S F' cs u:=by
 obtain⟨f,d,-,-⟩:=h;exact⟨λ_=>NO,λj c a=>(d j c a).bare (tF b j c a),λ_ _ _ _ h=>h.elim,λ_ _ _ _ _ _ _ h=>h.elim⟩
theorem KR{j:Nat}(a:j<n):co w .agg (mkv (some n) u) j=u j:=by grind [co,mkv,Go.Value.cells]
def kZ:Option Nat->Kd
 | none=>.one
 | some _=>.agg
theorem bm.slot{Y:af}{F:Nat->AV}(h:bm w S Y ag cs v):cP w S F tv Y (.Y (kZ ag) cs) v:=by
 obtain⟨a,u,rfl,b⟩:=h;cases ag with
 | none=>
  refine⟨NO,Y,λ_ _ h=>h.elim,λ_ _ h=>h,λ_ _ h=>h.elim,a,b.congr λj c=>?_⟩;have:j=0:=by simp at a;omega
  subst this;rfl
 | some n=>
  simp only[Option.getD_some]at a;exact⟨NO,Y,λ_ _ h=>h.elim,λ_ _ h=>h,λ_ _ h=>h.elim,⟨_,rfl,by simp[a]⟩,b.congr λj c=>KR ω⟩
theorem bm.bare{Y a:af}(h:bm w S Y ag cs v)(b:br cs=true):bm w S a ag cs v:=
 ⟨h.1,h.2.choose,h.2.choose_spec.1,h.2.choose_spec.2.bare b⟩
def bN(F:Nat->AV)(x:Operand)(K:AV->Prop):Prop:=
 match x with
 | .tmp t=>match F t with
  | .Y .box _=>K (.ref t 0 [])
  | .Y .one cs=>bif br cs then K (.Y .one cs) else K (.c5 t 0 [] none)
  | .Y .agg cs=>bif br cs then K (.Y .agg cs) else K (.c5 t 0 [] (some cs.length))
  | .Y (.tup sh) cs=>bif br cs then K (.Y (.tup sh) cs) else False
  | .ref t off st=>K (.ref t off st)
  | .c5 t off st ag=>K (.c5 t off st ag)
  | .iref r off=>K (.iref r off)
  | .fn f caps=>K (.fn f caps)
  | .fv Ok=>K (.fv Ok)
  | .dead=>K .dead
 | .const v=>K (nS v)
 | .global _=>K .dead
 | .func f=>K (.fn f [])
section
variable{P:Program}{w0 w w1:World}{M S0 S:af}{N:fF}{φ:Nat->af}{F:Nat->AV}{a:Act}
variable{K:AV->Prop}
theorem bj.move(h:bj w0 M S0 N S φ F a w){x:Operand}(c:bN F x K):∃av,K av/\cP w S F (tvs a) NO av (a.eval x):=by
 have b:=h.ev x;cases x with
 | tmp t=>
  simp only[bN]at c;simp only[oN,Y9]at b;show ∃av,K av/\cP w S F (tvs a) NO av (tvs a t)
  replace b:cP w S F (tvs a) (φ t) (F t) (tvs a t):=b;cases d:F t with
  | Y k e=>
   rw[d]at c b;obtain⟨r,Y,u,y,A,l,p⟩:=b;cases k with
   | box=>
    obtain⟨g,o,n,-⟩:=l;exact⟨_,c,.box,e,e,0,g,o,d,rfl,by rw[n];rfl,n⟩
   | one=>
    simp only at c;cases i:br e with
    | true=>rw[i]at c;exact⟨_,c,NO,NO,λ_ _ h=>h,λ_ _ h=>h,λ_ _ h=>h.elim,l,p.bare i⟩
    | false=>
     rw[i]at c;exact⟨_,c,.one,e,e,0,d,rfl,by simp[show e.length=1 from l],rfl⟩
   | agg=>
    simp only at c;cases i:br e with
    | true=>rw[i]at c;exact⟨_,c,NO,NO,λ_ _ h=>h,λ_ _ h=>h,λ_ _ h=>h.elim,l,p.bare i⟩
    | false=>
     rw[i]at c;refine⟨_,c,.agg,e,e,0,d,rfl,by simp,?_⟩;obtain⟨arr,n,q⟩:=l;rw[n,pR,q];refine ko λj B=>?_
     show _=co w .agg _ (0+j)
     grind [KR]
   | tup C=>
    simp only at c;cases i:br e with
    | true=>rw[i]at c;exact⟨_,c,NO,NO,λ_ _ h=>h,λ_ _ h=>h,λ_ _ h=>h.elim,l,p.bare i⟩
    | false=>grind
  | dead=>rw[d]at c;exact⟨_,c,tV1⟩
  | ref=>rw[d]at c b;exact⟨_,c,b⟩
  | c5=>rw[d]at c b;exact⟨_,c,b⟩
  | iref=>rw[d]at c b;exact⟨_,c,b⟩
  | fn=>rw[d]at c b;exact⟨_,c,b⟩
  | fv=>rw[d]at c b;exact⟨_,c,b⟩
 | const v=>exact⟨_,c,b⟩
 | global g=>exact⟨_,c,b⟩
 | func f=>exact⟨_,c,b⟩
def DS.same{o:Oper}{av:AV}{v:Value}(h:(execOp a.eval o).run P w=.ok (.value v) w)(b:cP w S F (tvs a) NO av v):DS P o a w (mR w S F a av):=
 .value h ⟨Cj _ _,NO,S,λ_ _ h=>h.elim,λ_ _ h=>h,λ_ _ h=>.inl h,λ_ _ h=>h.elim,b⟩
def sD(i:TI):Option Nat:=bif i.agg then some i.size else none
def W9(F:Nat->AV)(i:TI)(t off:Nat)(st:cN)(K:AV->Prop):Prop:=
 yI F t off st λr j=>bif Nat.beq (bP r j i.size).length i.size then(bif br (bP r j i.size) then K (.Y (kZ (sD i)) (bP r j i.size)) else K (.c5 t off st (sD i))) else False
def xM(TE:Nat->Option TI)(F:Nat->AV)(T:Nat)(x:Operand)(K:AV->Prop):Prop:=
 match TE T with
 | none=>False
 | some i=>bif i.agg || Nat.beq i.size 1 then(match x with
   | .tmp t=>match F t with
     | .Y .box _=>W9 F i t 0 [] K
     | .ref t a st=>W9 F i t a st K
     | .iref r a=>bif Nat.beq (bP r a i.size).length i.size then K (.Y (kZ (sD i)) (bP r a i.size)) else False
     | _=>False
   | _=>False) else False
theorem iV(g o j:Nat):(⟨g,o,none⟩ : Addr).add j = ⟨g,o+j,none⟩:=by grind [Go.Addr.add]
variable{i:TI}
theorem ix.size{t:Nat}(h:ix P t i):(P.info? t).map (·.size)=some i.size:=by
 have:=h.1;cases a:P.info? t with
 | none=>grind
 | some q=>grind
def ix.isAgg{t:Nat}{i:TI}(h:ix P t i):(isAgg t).run P w=.ok i.agg w:=by
 have:=h.2.2;unfold Go.isAgg TI.agg;cases a:i.kind with
 | st flds=>rw[a]at this;obtain⟨f,b,-⟩:=this;simp[run_underlying b]
 | sl e=>rw[a]at this;simp[run_underlying this]
 | sc d=>rw[a]at this;obtain⟨b,c⟩:=this;simp[run_underlying b];cases d<;>first|exact c.elim|rfl
 | mp k e z=>rw[a]at this;simp[run_underlying this.1]
theorem ll{t n:Nat}(h:(P.info? t).map (·.size)=some n):(sizeOf t).run P w=.ok n w:=by
 cases a:P.info? t with
 | none=>grind
 | some q=>rw[a]at h;simp only[IA,O1]at h;simp[sizeOf,typeInfo,a,h]
variable{T:Nat}
theorem B1(c:ix P T i)(e:(i.agg || Nat.beq i.size 1)=true){g o:Nat}{u:Nat->Value}(f:∀d,d<i.size->cel w g (o+d)=some (u d)) :
  (Instr.loadAt T (.pointer (some ⟨g,o,none⟩))).run P w=.ok (mkv (sD i) u) w:=by
 have b:=c.isAgg (w:=w);unfold Instr.loadAt Instr.sureAddr loadVar sD;cases a:i.agg with
 | true=>
  rw[a]at b;have:=run_loadCells (P:=P) w ⟨g,o,none⟩ i.size u (λj h=>by grind [iV]);simp[b,ll c.size,this,mkv]
 | false=>
  rw[a]at b e;have k:i.size=1:=by simpa using e
  have:=f 0 ω;simp only[Nat.add_zero]at this;simp[b,this,mkv]
theorem EN{r:List C}{j n:Nat}(h:Nat.beq (bP r j n).length n=true):n=0\/j+n<=r.length:=by grind [O3,bP]
theorem qZ(a:(i.agg || Nat.beq i.size 1)=true):(sD i).getD 1=i.size:=by
 unfold sD;cases h:i.agg with
 | true=>rfl
 | false=>simp_all
theorem bj.ld(h:bj w0 M S0 N S φ F a w)(G:ix P T i)(H:(i.agg || Nat.beq i.size 1)=true){t off:Nat}{st:cN}{k:Kd}{cs r:List C}{j g o:Nat}(A:F t=.Y k cs)(B:cr cs off st=some (r,j))(D:plc w (co w k (tvs a t)) (rp k (tvs a t)) off st=some (g,o))(J:W9 F i t off st K) :
  ∃av v,K av/\(Instr.loadAt T (.pointer (some ⟨g,o,none⟩))).run P w=.ok v w/\cP w S F (tvs a) NO av v:=by
 obtain⟨Y,u,U,p,L,f⟩:=h.place A B;obtain⟨V,O,W,X,l,n,y⟩:=rQ J;rw[A]at l;simp only[AV.Y.injEq]at l;obtain⟨rfl,rfl⟩:=l;rw[B]at n;simp only[O1,Prod.mk.injEq]at n;obtain⟨rfl,rfl⟩:=n;cases c:Nat.beq (bP r j i.size).length i.size with
 | false=>grind
 | true=>
  rw[c]at y;simp only[cond_true]at y;obtain⟨b,rfl,Z⟩:=f g o D;have Q:=EN c;have q:=B1 (w:=w) G H (g:=g) (o:=b+j) (u:=λd=>u (j+d)) ψ;have E:bm w S Y (sD i) (bP r j i.size) (mkv (sD i) λd=>u (j+d)):=⟨by grind [qZ,O3],_,rfl,p.part j _⟩
  cases R:br (bP r j i.size) with
  | true=>
   grind [bm.slot,bm.bare]
  | false=>
   rw[R]at y;have h0:i.size≠0:=λe=>by grind [bP,br]
   refine⟨_,_,y,q,k,cs,r,j,A,B,by grind [qZ],?_⟩
   grind [ko]
theorem bj.load(h:bj w0 M S0 N S φ F a w){TE:Nat->Option TI}(p:∀t i,TE t=some i->ix P t i){x:Operand}(c:xM TE F T x K) :
  ∃av v,K av/\(Instr.loadAt T (a.eval x)).run P w=.ok v w/\cP w S F (tvs a) NO av v:=by
 unfold xM at c;cases C:TE T with
 | none=>grind
 | some i=>
  rw[C]at c;have D:=p T i C;simp only at c;cases q:(i.agg || Nat.beq i.size 1) with
  | false=>grind
  | true=>
   rw[q]at c;cases x with
   | tmp t=>
    have l:=h.slot t;show ∃av v,K av/\(Instr.loadAt T (tvs a t)).run P w=.ok v w/\_
    simp only[cond_true]at c;cases n:F t with
    | Y k H=>
     rw[n]at c l;cases k with
     | box=>
      obtain⟨L,Y,y,E,A,⟨g,o,G,-⟩,O⟩:=l;have B:plc w (co w .box (tvs a t)) (rp .box (tvs a t)) 0 []=some (g,o):=by rw[G];rfl
      rw[G];exact h.ld D q n rfl B c
     | _=>exact c.elim
    | ref Q e R=>
     rw[n]at c l;obtain⟨k,H,r,j,g,o,y,E,A,U⟩:=l
     grind [bj.ld]
    | iref r e=>
     rw[n]at c l;simp only at c;obtain⟨g,b,u,y,E,A⟩:=l;cases f:Nat.beq (bP r e i.size).length i.size with
     | false=>grind
     | true=>
      rw[f]at c;simp only[cond_true]at c;have J:=EN f;rw[y];refine⟨_,_,c,B1 D q (u:=λd=>u (e+d)) ψ,?_⟩;exact bm.slot ⟨by grind [qZ,O3],_,rfl,A.part e _⟩
    | dead=>grind
    | c5=>grind
    | fn=>grind
    | fv=>grind
   | _=>exact c.elim
theorem bj.more(h:bj w0 M S0 N S φ F a w){S1:af}(h1:∀b o,S b o->S1 b o)(h2:∀b o,S1 b o->S b o\/(b<w1.heap.size/\w.heap.size<=b))(f:bu NO w w1):bj w0 M S0 N S1 φ F a w1:=by
 have d:∀X:af,(∀b o,X b o->b<w.heap.size)->b8 X w w1:=λX i b o c=>⟨f.cel b o (i b o c) (λh=>h),f.fro b o (i b o c) (λh=>h)⟩
 have g:∀t,b8 (φ t) w w1:=λt=>d _ λb o c=>(h.ex t b o c).1
 refine⟨λt=>(h.slot t).keep (φ:=φ) (λt _ _ _=>h.slot t) ψ (g t) (d _ λb o c=>(h.sup b o c).1) (λ_ _ h=>h) h1,h.dis,λt b o c j=>?_,λt b o c=>⟨I7 (h.ex t b o c).1 f.size,(h.ex t b o c).2⟩,
   λb o c=>h1 b o (h.sub b o c),λb o c=>?_,h.old.trans f (λ_ _ h=>h.elim),h.size,h.defers,h.par.1,h.par.2.keep f (λ_ _ h=>h.elim) h1⟩
 ·rcases h2 b o j with e|e
  ·exact h.disS t b o c e
  have:=(h.ex t b o c).1;omega
 rcases h2 b o c with e|e
 ·exact⟨I7 (h.sup b o e).1 f.size,(h.sup b o e).2⟩
 exact⟨e.1,.inr (.inl (S9 h.old.size e.2))⟩
theorem bj.put_newR(h:bj w0 M S0 N S φ F a w){d:Nat}(i:N.free d=true){av:AV}{v:Value}(j:mR w S F a av v w1)(c:av.uses d=false):St w0 M S0 N (put F d av) (a.put (some d) v) w1:=by
 obtain⟨k,X,S1,g,l,n,p,q⟩:=j;have r:=h.more l n k;exact⟨S1,_,r.put_gen (Cj _ _) i q c (λb o e=>⟨(g b o e).1,.inl (S9 h.old.size (g b o e).2)⟩)
   (λt _ b o e f=>by have:=(h.ex t b o f).1;grind) p⟩
end
def lR:cN->Nat->cN
 | [],_=>[]
 | [(i,k,j)],o=>[(i,k,j+o)]
 | s::a::st,o=>s::lR (a::st) o
def sY(off:Nat):cN->Nat->Nat
 | [],o=>off+o
 | _::_,_=>off
theorem Ft:∀(st:cN){cs:List C}{off:Nat}{r:List C}{j:Nat}(o:Nat),cr cs off st=some (r,j)->cr cs (sY off st o) (lR st o)=some (r,j+o)
 | [],cs,off,r,j,o,h=>by
  simp only[cr,O1,Prod.mk.injEq]at h;obtain⟨rfl,rfl⟩:=h
  rfl
 | [(i,k,a)],cs,off,r,j,o,h=>by
  simp only[cr]at h
  grind [sY,lR,cr]
 | s::b::st,cs,off,r,j,o,h=>by
  obtain⟨i,k,a⟩:=s;rw[cr]at h;simp only[sY,lR];rw[cr];split at h
  ·split at h
   ·split at h
    ·rename_i c
     rw[CJ c];have:=Ft (b::st) o h
     grind [sY]
    cases h
   cases h
  cases h
theorem N1{w:World} : ∀(st:cN){u:Nat->Value}{top:Option (Nat × Nat)}{off g x:Nat}(o:Nat),plc w u top off st=some (g,x)->plc w u top (sY off st o) (lR st o)=some (g,x+o)
 | [],u,top,off,g,x,o,h=>by
  cases top with
  | none=>cases h
  | some p=>
   grind [plc,sY,lR]
 | [(i,k,a)],u,top,off,g,x,o,h=>by grind [plc,sY,lR]
 | s::b::st,u,top,off,g,x,o,h=>by
  obtain⟨i,k,a⟩:=s;rw[plc]at h;simp only[sY,lR];rw[plc];split at h
  ·have:=N1 (b::st) o h
   grind [sY]
  cases h
def qD(F:Nat->AV)(x:Operand)(o:Nat)(K:AV->Prop):Prop:=
 match x with
 | .tmp t=>match F t with
  | .Y .box _=>K (.ref t o [])
  | .ref t a b=>K (.ref t (sY a b o) (lR b o))
  | .iref r a=>K (.iref r (a+o))
  | _=>False
 | _=>False
def jf(TE:Nat->Option TI)(F:Nat->AV)(T:Nat)(x:Operand)(f:Nat)(K:AV->Prop):Prop:=
 match TE T with
 | some ⟨_,_,_,.st flds⟩=>match flds[f]? with
  | some (o,a)=>match TE a with
   | some b=>bif Nat.beq b.size 0 then False else qD F x o K
   | none=>False
  | none=>False
 | _=>False
def tK(st:cN)(s:Nat × Nat × Nat):cN:=st++[s]
theorem B8:∀(st:cN){cs:List C}{off:Nat}{r:List C}{j i k:Nat}{o:ek}{rows:List (List C)}{r':List C},cr cs off st=some (r,j)->r[j]? = some (.s o rows)->rows[i]? = some r'->r'.length=k->
  cr cs off (tK st (i,k,0))=some (r',0)
 | [],cs,off,r,j,i,k,o,rows,r',h,a,b,c=>by grind [cr,tK]
 | (e,f,g)::st,cs,off,r,j,i,k,o,rows,r',h,a,b,c=>by
  simp only[cr]at h;simp only[tK,List.cons_append,cr];split at h
  ·split at h
   ·split at h
    ·rename_i d
     rw[CJ d];exact B8 st h a b c
    cases h
   cases h
  cases h
theorem J0{w:World} : ∀(st:cN){u:Nat->Value}{top:Option (Nat × Nat)}{off i k g b n cap:Nat},cellv w u off st 0=.slice (some ⟨g,b,none⟩) n cap->plc w u top off (tK st (i,k,0))=some (g,b+i*k)
 | [],u,top,off,i,k,g,b,n,cap,h=>by grind [cellv,tK,plc]
 | (a,c,d)::st,u,top,off,i,k,g,b,n,cap,h=>by
  simp only[cellv]at h;simp only[tK,List.cons_append,plc];split at h
  ·exact J0 st h
  cases h
def JE(F:Nat->AV)(x:Operand)(K:Value->Prop):Prop:=jj F (oN F x) λa b=>match a,b with|none,[.v z]=>K z|_,_=>False
def LB(size:Nat)(t off:Nat)(st:cN)(c:C)(i:Int)(K:AV->Prop):Prop:=
 match c with
 | .s o rows=>Ix rows i λr=>bif Nat.beq r.length size then(bif o.mine then K (.ref t off (tK st (i.toNat,size,0))) else K (.iref r 0)) else False
 | _=>False
def pj(F:Nat->AV)(size:Nat)(x:Operand)(i:Int)(K:AV->Prop):Prop:=
 match x with
 | .tmp t=>match F t with
  | .Y .one [c]=>LB size t 0 [] c i K
  | .c5 t off st none=>yI F t off st λr j=>match r[j]? with|some c=>LB size t off st c i K|none=>False
  | _=>False
 | _=>False
def jg(TE:Nat->Option TI)(F:Nat->AV)(T:Nat)(x y:Operand)(K:AV->Prop):Prop:=
 match TE T with
 | some ⟨_,_,_,.sl e⟩=>match TE e with
  | some a=>JE F y λv=>match v with
   | .int _ i=>pj F a.size x i K
   | _=>False
  | none=>False
 | _=>False
section
variable{P:Program}{w0 w w1:World}{M S0 S:af}{N:fF}{φ:Nat->af}{F:Nat->AV}{a:Act}
variable{K:Value->Prop}{x:Operand}
theorem bj.scalar(h:bj w0 M S0 N S φ F a w)(d:JE F x K):K (a.eval x)/\(a.eval x).oneCell'=true:=by
 obtain⟨g,i,Y,b,⟨l,u,j,f,k,-⟩,-⟩:=h.val (h.ev x) d
 match g,i,b with
 | none,[.v z],b=>
  have c:=k 0 _ rfl;have e:u 0=z/\z.oneCell'=true:=by
   generalize u 0=y at c;cases c
   grind
  have:a.eval x=z:=by rw[j];exact e.1
  rw[this];exact⟨b,e.2⟩
variable{T:Nat}{TE:Nat->Option TI}
theorem bj.fieldAddr(h:bj w0 M S0 N S φ F a w)(p:∀t i,TE t=some i->ix P t i){f:Nat}{K:AV->Prop}(c:jf TE F T x f K) :
  ∃av v,K av/\(Instr.fieldAt T (a.eval x) f).run P w=.ok v w/\cP w S F (tvs a) NO av v:=by
 unfold jf at c;split at c
 case h_2=>exact c.elim
 rename_i Z by_ z flds O;split at c
 case h_2=>exact c.elim
 rename_i o Q hf;split at c
 case h_2=>exact c.elim
 rename_i J E;cases R:Nat.beq J.size 0 with
 | true=>grind
 | false=>
  rw[R]at c;simp only[cond_false]at c;unfold qD at c;obtain⟨U,V,W⟩:=(p _ _ O).2.2;have l:∃d,U[f]? = some d/\d.offset=o/\d.type=Q:=ψ
  obtain⟨d,l,rfl,rfl⟩:=l;have G:J.size≠0:=λe=>by simp_all
  have H:=ll (w:=w) (p _ _ E).size;have run:∀g b,(Instr.fieldAt T (.pointer (some ⟨g,b,none⟩)) f).run P w=.ok (.pointer (some ⟨g,b+d.offset,none⟩)) w:=λg b=>by
   simp[Instr.fieldAt,run_underlying V,l,Instr.sureAddr,fieldPlace,H,G,iV]
  cases x with
  | tmp t=>
   have n:=h.slot t;show ∃av v,K av/\(Instr.fieldAt T (tvs a t) f).run P w=.ok v w/\_
   simp only at c;cases y:F t with
   | Y k A=>
    rw[y]at c n;cases k with
    | box=>
     obtain⟨X1,Y,B,C,D,⟨g,b,X,-⟩,h5⟩:=n;exact⟨_,_,c,ψ,.box,A,A,d.offset,g,b+d.offset,y,rfl,by rw[X];rfl,rfl⟩
    | _=>exact c.elim
   | ref t' q L=>
    rw[y]at c n;obtain⟨k,A,r,j,g,b,B,C,D,h4⟩:=n;exact⟨_,_,c,ψ,k,A,r,j+d.offset,g,b+d.offset,B,Ft L _ C,N1 L _ D,rfl⟩
   | iref r q=>
    rw[y]at c n;obtain⟨g,b,u,B,C,D⟩:=n;exact⟨_,_,c,by rw[B];exact run g (b+q),g,b,u,by rw[Nat.add_assoc],C,D⟩
   | dead=>grind
   | c5=>grind
   | fn=>grind
   | fv=>grind
  | _=>exact c.elim
theorem cU.rowImm{w:World}{S F:af}{rows:List (List C)}{v:Value}(h:cU w S F (.s .R rows) v){i:Nat}{r:List C}(A:rows[i]? = some r) :
  ∃g b n cap u,v=.slice (some ⟨g,b,none⟩) n cap/\i<n/\(∀d,d<r.length->S g (b+i*r.length+d)/\cel w g (b+i*r.length+d)=some (u d))/\cw w S NO r u:=by
 generalize e:C.s .R rows=c at h
 induction h with
 | v=>cases e
 | x=>cases e
 | hd=>cases e
 | z=>cases e
 | m=>cases e
 | it=>cases e
 | nil F o a l=>grind
 | own F o g k n cap rows u f l=>cases e;exact l.elim
 | suf F o g j k n cap rows u f l=>cases e;exact l.elim
 | R F g j k n cap p u B D t E y _=>
  cases e;have G:r.length=k:=ψ
  have q:i<n:=ψ
  refine⟨g,j,n,cap,λd=>u (i*k+d),rfl,q,λd hd=>?_,λ_=>NO,ψ,λ_ _ _ _ h=>h,λ_ _ _ _ _ _ _ h=>h.elim⟩
  grind [cJ]
theorem yn{e sz g b n cap:Nat}{i:Int}{k:IntKind}(c:P.underlying T=some (.slice e))(d:(P.info? e).map (·.size)=some sz)(f:0<=i)(h:i.toNat<n) :
  (Instr.indexAt T (.slice (some ⟨g,b,none⟩) n cap) (.int k i)).run P w=.ok (.pointer (some ⟨g,b+i.toNat*sz,none⟩)) w:=by
 have a:i<n:=ω
 simp[Instr.indexAt,run_underlying c,asIntOf,f,a,ll d,iV]
theorem bj.indexAddr(h:bj w0 M S0 N S φ F a w)(V:∀t i,TE t=some i->ix P t i){y:Operand}{K:AV->Prop}(O:jg TE F T x y K) :
  ∃av v,K av/\(Instr.indexAt T (a.eval x) (a.eval y)).run P w=.ok v w/\cP w S F (tvs a) NO av v:=by
 unfold jg at O;split at O
 case h_2=>exact O.elim
 rename_i sz by_ z e hT;split at O
 case h_2=>exact O.elim
 rename_i W hei;obtain⟨l,-⟩:=h.scalar O;generalize a.eval y=vy at l;have hu:P.underlying T=some (.slice e):=(V _ _ hT).2.2;have hsz:=(V _ _ hei).size;cases vy with
 | int k i=>
  have go:∀(t p:Nat)(q:cN)(A:Kd)(B r:List C)(j:Nat)(c:C)(v:Value)(Y:af),F t=.Y A B->cr B p q=some (r,j)->r[j]? = some c->v=cellv w (co w A (tvs a t)) p q 0->cU w S Y c v->LB W.size t p q c i K->
    ∃av v',K av/\(Instr.indexAt T v (.int k i)).run P w=.ok v' w/\cP w S F (tvs a) NO av v':=by
   intro t p q A B r j c v Y E X hj hv D Z;cases c with
   | s o rows=>
    obtain⟨h0,r',G,Q⟩:=Ix.out Z;cases hl:Nat.beq r'.length W.size with
    | false=>grind
    | true=>
     rw[hl]at Q;simp only[cond_true]at Q;have hl':=O3 hl;cases R:o.mine with
     | true=>
      rw[R]at Q;obtain⟨g,b,n,cap,hv',hin,-⟩:=D.row G;refine⟨_,_,Q,by grind [yn],A,B,r',0,g,b+i.toNat*W.size,E,B8 q X hj G hl',J0 q (by rw[<-hv,hv']),rfl⟩
     | false=>
      rw[R]at Q;have:o=.R:=by cases o with|R=>rfl|own=>cases R|tag v=>cases R|suf=>cases R|tagS v=>cases R
      subst this;obtain⟨g,b,n,cap,u,hv',hin,hcell,hrow⟩:=D.rowImm G;refine⟨_,_,Q,by grind [yn],g,b+i.toNat*W.size,u,rfl,λd hd=>?_,hrow⟩
      grind
   | _=>exact Z.elim
  simp only at l;unfold pj at l;cases x with
  | tmp t=>
   have U:=h.slot t;show ∃av v,K av/\(Instr.indexAt T (tvs a t) (.int k i)).run P w=.ok v w/\_
   simp only at l;cases E:F t with
   | Y A B=>
    rw[E]at l U;cases A with
    | one=>
     match B,l,U,E with
     | [c],l,U,E=>
      obtain⟨X1,Y,h1,h2,h3,h4,f,h5,-⟩:=U;exact go t 0 [] .one [c] [c] 0 c (tvs a t) _ E rfl rfl rfl (h5 0 c rfl) l
    | _=>exact l.elim
   | c5 t' p q ag=>
    rw[E]at l U;cases ag with
    | none=>
     replace l:yI F t' p q λr j=>match r[j]? with|some c=>LB W.size t' p q c i K|none=>False:=l
     obtain⟨A,B,r,j,H,X,l⟩:=rQ l;obtain⟨k1,cs1,r1,j1,J,L,hlen,hv⟩:=U;rw[H]at J;simp only[AV.Y.injEq]at J;obtain⟨rfl,rfl⟩:=J;rw[X]at L;simp only[O1,Prod.mk.injEq]at L;obtain⟨rfl,rfl⟩:=L;obtain⟨Y,u,hY,⟨f,hf,-⟩,hcv,-⟩:=h.place H X;cases hc:r[j]? with
     | none=>grind
     | some c=>
      rw[hc]at l;refine go t' p q A B r j c _ (f j) H X hc hv ?_ l;rw[hv];show cU w S (f j) c (cellv w _ p q 0)
      grind
    | some n=>exact l.elim
   | dead=>grind
   | ref=>grind
   | iref=>grind
   | fn=>grind
   | fv=>grind
  | _=>exact l.elim
 | _=>exact l.elim
def iY:IntKind->IntKind->Bool
 | .i64,.i64=>true
 | .u8,.u8=>true
 | .u64,.u64=>true
 | .u32,.u32=>true
 | .i32,.i32=>true
 | .u16,.u16=>true
 | .i16,.i16=>true
 | .i8,.i8=>true
 | _,_=>false
theorem TX{k a:IntKind}(h:iY k a=true):k=a:=by cases k<;>cases a<;>first|rfl|cases h
def Gv(c:BinOp)(x y:Value)(K:Value->Prop):Prop:=
 match x,y with
 | .int k a,.int k' b=>
  match c with
  | .add=>bif iY k k' then Wr k (a+b) λz=>K (.int k z) else False
  | .sub=>bif iY k k' then Wr k (a - b) λz=>K (.int k z) else False
  | .mul=>bif iY k k' then Wr k (a*b) λz=>K (.int k z) else False
  | .quo=>bif iY k k' then Cd (b≠0) (Wr k (a.tdiv b) λz=>K (.int k z)) else False
  | .rem=>bif iY k k' then Cd (b≠0) (Ev (a.tmod b) λz=>K (.int k z)) else False
  | .and=>bif iY k k' then Wr k (BitVec.ofInt k.bits a &&& BitVec.ofInt k.bits b).toNat λz=>K (.int k z) else False
  | .or=>bif iY k k' then Wr k (BitVec.ofInt k.bits a ||| BitVec.ofInt k.bits b).toNat λz=>K (.int k z) else False
  | .xor=>bif iY k k' then Wr k (BitVec.ofInt k.bits a ^^^ BitVec.ofInt k.bits b).toNat λz=>K (.int k z) else False
  | .andNot=>bif iY k k' then Wr k (BitVec.ofInt k.bits a &&& ~~~BitVec.ofInt k.bits b).toNat λz=>K (.int k z) else False
  | .shl=>Cd (0<=b) (Wr k (a*2 ^ (min b.toNat k.bits)) λz=>K (.int k z))
  | .shr=>Cd (0<=b) (Ev (a.fdiv (2 ^ (min b.toNat k.bits))) λz=>K (.int k z))
  | .eql=>bif iY k k' then K (.bool (a == b)) else False
  | .neq=>bif iY k k' then K (.bool (a != b)) else False
  | .lss=>bif iY k k' then K (.bool (decide (a<b))) else False
  | .leq=>bif iY k k' then K (.bool (decide (a<=b))) else False
  | .gtr=>bif iY k k' then K (.bool (decide (a > b))) else False
  | .geq=>bif iY k k' then K (.bool (decide (a≥b))) else False
 | _,_=>False
theorem Uk{f:BinOp}{g i:Value}{y:Operand}(c:Gv f g i K):∃v,K v/\v.oneCell'=true/\(do eqGuard f T x y g i;binOp f T g i:Sem Value).run P w=.ok v w:=by
 cases g<;>cases i<;>try exact c.elim
 rename_i k a j b;have l:(eqGuard f T x y (.int k a) (.int j b)).run P w=.ok () w:=by
  unfold eqGuard;split<;>rfl
 rw[Sem.run_bind,l];have d:∀{X:Prop},(bif iY k j then X else False)->k=j/\X:=fun {X} h=>by grind [TX]
 cases f<;>simp only[Gv]at c
 case add=>obtain⟨rfl,h⟩:=d c;obtain⟨z,rfl,h⟩:=h.out;exact⟨_,h,rfl,by simp[binOp,Op.intArith]⟩
 case sub=>obtain⟨rfl,h⟩:=d c;obtain⟨z,rfl,h⟩:=h.out;exact⟨_,h,rfl,by simp[binOp,Op.intArith]⟩
 case mul=>obtain⟨rfl,h⟩:=d c;obtain⟨z,rfl,h⟩:=h.out;exact⟨_,h,rfl,by simp[binOp,Op.intArith]⟩
 case quo=>obtain⟨rfl,h⟩:=d c;obtain⟨e,h⟩:=h.out;obtain⟨z,rfl,h⟩:=h.out;exact⟨_,h,rfl,by simp[binOp,Op.intDiv,e]⟩
 case rem=>obtain⟨rfl,h⟩:=d c;obtain⟨e,h⟩:=h.out;obtain⟨z,rfl,h⟩:=h.out;exact⟨_,h,rfl,by simp[binOp,Op.intDiv,e]⟩
 case and=>obtain⟨rfl,h⟩:=d c;obtain⟨z,rfl,h⟩:=h.out;exact⟨_,h,rfl,by simp[binOp,Op.intBits]⟩
 case or=>obtain⟨rfl,h⟩:=d c;obtain⟨z,rfl,h⟩:=h.out;exact⟨_,h,rfl,by simp[binOp,Op.intBits]⟩
 case xor=>obtain⟨rfl,h⟩:=d c;obtain⟨z,rfl,h⟩:=h.out;exact⟨_,h,rfl,by simp[binOp,Op.intBits]⟩
 case andNot=>obtain⟨rfl,h⟩:=d c;obtain⟨z,rfl,h⟩:=h.out;exact⟨_,h,rfl,by simp[binOp,Op.intBits]⟩
 case shl=>obtain⟨e,h⟩:=c.out;obtain⟨z,rfl,h⟩:=h.out;exact⟨_,h,rfl,by simp[binOp,Op.shift,Int.not_lt.2 e]⟩
 case shr=>obtain⟨e,h⟩:=c.out;obtain⟨z,rfl,h⟩:=h.out;exact⟨_,h,rfl,by simp[binOp,Op.shift,Int.not_lt.2 e]⟩
 case eql=>obtain⟨rfl,h⟩:=d c;exact⟨_,h,rfl,by simp[binOp,Op.intCmp]⟩
 case neq=>obtain⟨rfl,h⟩:=d c;exact⟨_,h,rfl,by simp[binOp,Op.intCmp]⟩
 case lss=>obtain⟨rfl,h⟩:=d c;exact⟨_,h,rfl,by simp[binOp,Op.intCmp]⟩
 case leq=>obtain⟨rfl,h⟩:=d c;exact⟨_,h,rfl,by simp[binOp,Op.intCmp]⟩
 case gtr=>obtain⟨rfl,h⟩:=d c;exact⟨_,h,rfl,by simp[binOp,Op.intCmp]⟩
 case geq=>obtain⟨rfl,h⟩:=d c;exact⟨_,h,rfl,by simp[binOp,Op.intCmp]⟩
theorem jS{v:Value}(h:v.oneCell'=true):cP w S F (tvs a) NO (.Y .one [.v v]) v:=
 ⟨NO,NO,λ_ _ h=>h,λ_ _ h=>h,λ_ _ _ h=>h,rfl,λ_=>NO,λj c b=>by cases j with|zero=>simp at b;subst b;exact .v _ _ h|succ j=>simp at b,λ_ _ _ _ h=>h,ψ⟩
end
def Ak(TE:Nat->Option TI)(T:Nat)(K:AV->Prop):Prop:=
 match TE T with
 | some i=>K (.Y .box i.zero)
 | none=>False
def Vn(F:Nat->AV)(x:Operand)(K:AV->Prop):Prop:=
 jj F (oN F x) λ_ a=>bif br a then K (.Y .box a) else False
section
variable{P:Program}{w0 w w1:World}{M S0 S:af}{N:fF}{φ:Nat->af}{F:Nat->AV}{a:Act}
theorem kL(w:World)(cells:Array Value)(e:TypeId)(j:Nat):cel (w.alloc (.cells cells e)) w.heap.size j=cells[j]?:=
 cell_of_row (w.alloc (.cells cells e)) w.heap.size j cells e (0,0) (heap_alloc_new w _)
theorem iO(w:World)(cells:Array Value)(e:TypeId)(j:Nat):fro (w.alloc (.cells cells e)) w.heap.size j=NF:=by grind [Go.heap_alloc_new,mp,Go.World.frozen?]
def cQ(w:World)(o:Obj):bu NO w (w.alloc o):=bu.of_below ((Below.refl _ _).alloc (O5 _) o) NO
theorem mG(w:World)(o:Obj):(w.alloc o).heap.size=w.heap.size+1:=by simp_all
def je{X:af}(a:bu NO w w1)(c:∀b o,X b o->b<w.heap.size):b8 X w w1:=λb o d=>⟨a.cel b o (c b o d) (λh=>h),a.fro b o (c b o d) (λh=>h)⟩
variable{u:Nat->Value}
theorem bj.newBox(h:bj w0 M S0 N S φ F a w){cells:Array Value}{e:TypeId}{cs:List C}(i:cs.length=cells.size)(k:∀j,j<cs.length->cells[j]? = some (u j))(d:cw w S NO cs u) :
  mR w S F a (.Y .box cs) (.pointer (some ⟨w.heap.size,0,none⟩)) (w.alloc (.cells cells e)):=by
 refine⟨cQ w _,λb o=>b=w.heap.size/\o<cs.length,S,λb o c=>⟨by simp_all,ω⟩,λ_ _ h=>h,λ_ _ h=>.inl h,λb o c f=>by have:=(h.sup b o f).1;omega,?_⟩;refine⟨λb o=>b=w.heap.size/\o<cs.length,NO,λ_ _ h=>h,λ_ _ h=>h.elim,λ_ _ _ h=>h,⟨_,_,rfl,λj g=>⟨⟨rfl,ω⟩,?_,?_⟩⟩,?_⟩
 ·simp_all
 ·grind [iO]
 refine(d.keep (je (cQ w _) λb o c=>(h.sup b o c).1) (λ_ _ h=>h.elim)).congr λj g=>?_
 grind [kL,co]
theorem wm:∀{cs:List C},lG cs->∀c∈cs,eR c=false
 | [],_,c,h=>by simp at h
 | b::cs,h,c,d=>by
  rcases List.mem_cons.1 d with rfl|e
  ·cases c with|s o a=>exact h.elim|m f=>exact h.elim|it=>exact h.elim|_=>rfl
  exact wm (cs:=cs) (by cases b with|v x=>exact h.2|z=>exact h|x=>exact h.elim|s o a=>exact h.elim|m f=>exact h.elim|it=>exact h.elim|hd=>exact h.elim) c e
theorem qG:∀{cs:List C},lG cs->∀(S:af),cw w S NO cs (λj=>(cs.map cval).getD j undef)
 | [],_,S=>cw.nil _ _ _ _
 | c::cs,h,S=>by
  refine⟨λ_=>NO,λj g b=>?_,λ_ _ _ _ h=>h,λ_ _ _ _ _ _ _ h=>h.elim⟩;cases j with
  | zero=>
   simp only[List.getElem?_cons_zero,O1]at b;subst b;cases c with
   | v x=>exact .v _ x h.1
   | z=>exact .z _ none
   | x=>exact h.elim
   | hd=>exact h.elim
   | s o a=>exact h.elim
   | m d=>exact h.elim
   | it=>exact h.elim
  | succ j=>
   have e:lG cs:=by cases c with|v x=>exact h.2|z=>exact h|x=>exact h.elim|s o a=>exact h.elim|m d=>exact h.elim|it=>exact h.elim|hd=>exact h.elim
   obtain⟨f,i,-,-⟩:=qG (cs:=cs) e S
   grind [wm,cU.bare]
theorem ix.zero{t:Nat}{i:TI}(h:ix P t i):∃z,(zeroValue t).run P w=.ok z w/\z.cells.toList=i.zero.map cval:=by
 have:=h.1;cases a:P.info? t with
 | none=>grind
 | some q=>
  rw[a]at this;simp only[IA,O1,Prod.mk.injEq]at this;cases b:q.zero with
  | none=>grind
  | some z=>rw[b]at this;exact⟨z,by simp[zeroValue,typeInfo,a,b],by simpa using this.1⟩
variable{K:AV->Prop}{T:Nat}{TE:Nat->Option TI}
theorem bj.alloc(h:bj w0 M S0 N S φ F a w)(c:∀t i,TE t=some i->ix P t i)(b:Ak TE T K) :
  ∃av v w1,K av/\(Instr.alloc T true (.tuple #[])).run P w=.ok v w1/\mR w S F a av v w1:=by
 unfold Ak at b;split at b
 case h_2=>exact b.elim
 rename_i i f;have e:=c _ _ f;obtain⟨z,g,d⟩:=e.zero (w:=w);refine⟨_,_,w.alloc (.cells z.cells T),b,?_,h.newBox (u:=λj=>(i.zero.map cval).getD j undef) ?_ (λj k=>?_) (qG e.2.1 S)⟩
 ·simp[Instr.alloc,g,newVar,newRow]
 ·have:=I1 List.length d;grind
 grind
variable{ag:Option Nat}
theorem rV(h1:ag=none->(u 0).oneCell'=true):(mkv ag u).cells.toList=(List.range (ag.getD 1)).map u:=by
 cases ag with
 | none=>
  have:=h1 rfl;show(u 0).cells.toList=_;cases a:u 0<;>first|(rw[a]at this;cases this;done)|simp[Value.cells,a,List.range_succ]
 | some n=>grind [mkv,Go.Value.cells]
def bm.cells{Y:af}{cs:List C}{v:Value}(h:bm w S Y ag cs v):∃u,v.cells.toList=(List.range cs.length).map u/\cw w S Y cs u:=by
 obtain⟨a,u,rfl,b⟩:=h;refine⟨u,?_,b⟩;rw[rV (λe=>by subst e;exact b.one (by simp at a;omega)),a]
variable{x:Operand}
theorem bj.box(h:bj w0 M S0 N S φ F a w)(e:Vn F x K) :
  ∃av v w1,K av/\(Instr.box T (a.eval x)).run P w=.ok v w1/\mR w S F a av v w1:=by
 obtain⟨l,f,Y,b,g,-⟩:=h.val (h.ev x) e;cases c:br f with
 | false=>grind
 | true=>
  rw[c]at b;obtain⟨u,d,i⟩:=g.cells;refine⟨_,_,w.alloc (.cells (a.eval x).cells T),b,by simp[Instr.box,newVar,newRow],h.newBox (u:=u) ?_ (λj k=>?_) (i.bare c)⟩
  ·have:=I1 List.length d;grind
  rw[<-Array.getElem?_toList,d];simp[k]
def Ni(F:Nat->AV)(c x y:Operand)(K:AV->Prop):Prop:=
 JE F c λv=>match v with|.bool b=>Bf b (bN F x K) (bN F y K)|_=>False
theorem bj.pick(h:bj w0 M S0 N S φ F a w){c y:Operand}(d:Ni F c x y K) :
  ∃av b,K av/\a.eval c=.bool b/\cP w S F (tvs a) NO av (if b then a.eval x else a.eval y):=by
 obtain⟨e,-⟩:=h.scalar d
 grind [bj.move,Bf.out]
def VS(a:UnOp)(x:Value)(K:Value->Prop):Prop:=
 match a,x with
 | .not,.bool b=>K (.bool !b)
 | .neg,.int k n=>Wr k (0 - n) λz=>K (.int k z)
 | _,_=>False
def UF{b:UnOp}{x:Value}{K:Value->Prop}(a:VS b x K):∃v,K v/\v.oneCell'=true/\(Op.unary b x).run P w=.ok v w:=by
 unfold VS at a;split at a
 ·exact⟨_,a,rfl,rfl⟩
 ·obtain⟨z,rfl,h⟩:=a.out;exact⟨_,h,rfl,rfl⟩
 exact a.elim
def ML(TE:Nat->Option TI)(F:Nat->AV)(T:Nat)(x:Operand)(K:AV->Prop):Prop:=
 match TE T with
 | some ⟨_,_,_,.sl _⟩=>jj F (oN F x) λa b=>match a,b with
  | none,[.s _ rows]=>Ln rows.length λn=>K (.Y .one [.v (.int .i64 (n:Nat))])
  | none,[.z]=>K (.Y .one [.v (.int .i64 0)])
  | none,[.hd n]=>Ln n λn=>K (.Y .one [.v (.int .i64 (n:Nat))])
  | _,_=>False
 | some ⟨_,_,_,.sc .string⟩=>JE F x λv=>match v with
  | .string s=>Ln s.size λn=>K (.Y .one [.v (.int .i64 (n:Nat))])
  | _=>False
 | _=>False
theorem cU.slice{F:af}{o:ek}{rows:List (List C)}{v:Value}(h:cU w S F (.s o rows) v):∃b cap,v=.slice b rows.length cap:=by
 generalize a:C.s o rows=c at h;cases h with
 | v=>cases a
 | x=>cases a
 | hd=>cases a
 | z=>cases a
 | m=>cases a
 | it=>cases a
 | nil=>grind
 | own=>grind
 | suf=>simp_all
 | R=>simp_all
def bj.len(h:bj w0 M S0 N S φ F a w)(e:∀t i,TE t=some i->ix P t i){ty:Nat}(g:ML TE F T x K) :
  ∃v,K (.Y .one [.v v])/\v.oneCell'=true/\(Builtin.len_ #[T] ty #[a.eval x]).run P w=.ok v w:=by
 unfold ML at g;split at g
 ·rename_i p
  have j:=(e _ _ p).2.2;obtain⟨C,D,Y,d,⟨G,u,k,f,q,-⟩,-⟩:=h.val (h.ev x) g
  match C,D,d with
  | none,[.s o rows],d=>
   obtain⟨b,r,E⟩:=(q 0 _ rfl).slice;have:a.eval x=.slice b rows.length r:=k.trans E;rw[this];exact⟨_,Ln.out d,rfl,by simp[Builtin.len_,run_underlying j,goInt]⟩
  | none,[.z],d=>
   have l:=q 0 _ rfl;have:∃b,u 0=.slice b 0 0:=by
    generalize u 0=y at l;cases l;exact⟨_,rfl⟩
   obtain⟨b,A⟩:=this;have:a.eval x=.slice b 0 0:=k.trans A;rw[this];exact⟨_,d,rfl,by simp[Builtin.len_,run_underlying j,goInt]⟩
  | none,[.hd n],d=>
   have l:=q 0 _ rfl;have:∃b c,u 0=.slice b n c:=by
    generalize u 0=y at l;cases l;exact⟨_,_,rfl⟩
   obtain⟨b,c,A⟩:=this;have:a.eval x=.slice b n c:=k.trans A;rw[this];exact⟨_,Ln.out d,rfl,by simp[Builtin.len_,run_underlying j,goInt]⟩
 ·rename_i p
  have j:=(e _ _ p).2.2.1;obtain⟨B,-⟩:=h.scalar g;cases k:a.eval x<;>rw[k]at B<;>try exact B.elim
  exact⟨_,Ln.out B,rfl,by simp[Builtin.len_,run_underlying j,goInt]⟩
 exact g.elim
end
def wc(t:Nat):AV->AV
 | .c5 t' off st ag=>bif Nat.beq t' t then .dead else .c5 t' off st ag
 | .ref t' off (s::st)=>bif Nat.beq t' t then .dead else .ref t' off (s::st)
 | .ref t' off []=>.ref t' off []
 | .Y k cs=>.Y k cs
 | .iref r off=>.iref r off
 | .fn f caps=>.fn f caps
 | .fv Ok=>.fv Ok
 | .dead=>.dead
def updH(F:Nat->AV)(t:Nat)(k:Kd)(cs:List C):Nat->AV:=λs=>bif Nat.beq s t then .Y k cs else wc t (F s)
def splice(cs:List C)(off:Nat)(xs:List C):List C:=cs.take off++xs++cs.drop (off+xs.length)
theorem kw{xs:List C}(h:off+xs.length<=cs.length)(j:Nat):(splice cs off xs)[j]? = if off<=j/\j<off+xs.length then xs[j - off]? else cs[j]?:=by grind [C9,splice]
theorem db{xs:List C}(h:off+xs.length<=cs.length):(splice cs off xs).length=cs.length:=by grind [splice]
theorem jw(F:Nat->AV)(t:Nat)(k:Kd)(cs:List C):updH F t k cs t=.Y k cs:=by simp[updH]
theorem ig(F:Nat->AV){t s:Nat}(k:Kd)(cs:List C)(h:s≠t):updH F t k cs s=wc t (F s):=by grind [Nat.beq_eq,updH]
section
variable{P:Program}{w0 w w1:World}{M S0 S:af}{N:fF}{φ:Nat->af}{F:Nat->AV}{a:Act}
variable{cs:List C}
theorem bj.upd{t:Nat}(h:bj w0 M S0 N S φ F a w)(u:bu (φ t) w w1){k:Kd}{n:List C}(T:F t=.Y k cs){X:af}(E:∀b o,X b o->φ t b o\/((∀d,d≠t->¬φ d b o)/\¬S b o/\b<w.heap.size/\(w0.heap.size<=b\/M b o)))(U:cP w1 S F (tvs a) X (.Y k n) (tvs a t)):bj w0 M S0 N S (λs=>if s=t then X else φ s) (updH F t k n) a w1:=by
 have G:∀d,d≠t->b8 (φ d) w w1:=λd y b o c=>⟨u.cel b o (h.ex d b o c).1 (h.dis d t y b o c),u.fro b o (h.ex d b o c).1 (h.dis d t y b o c)⟩
 have H:b8 S w w1:=λb o c=>⟨u.cel b o (h.sup b o c).1 (λJ=>h.disS t b o J c),u.fro b o (h.sup b o c).1 (λJ=>h.disS t b o J c)⟩
 have holdsame:∀d,d≠t->∀k cs,F d=.Y k cs->updH F t k n d=.Y k cs:=by
  intro d y P cs2 V;rw[ig _ _ _ y,V];rfl
 refine⟨λs=>?_,λs K L b o c p=>?_,λs b o c=>?_,λs b o c=>?_,h.sub,λb o c=>⟨I7 (h.sup b o c).1 u.size,(h.sup b o c).2⟩,h.old.trans u (λb o c=>(h.ex t b o c).2),h.size,h.defers,h.par.1,h.par.2.keep u (λb o c=>h.disS t b o c) (λ_ _ h=>h)⟩
 ·by_cases i:s=t
  ·subst i
   rw[jw,CJ rfl];exact U
  rw[ig _ _ _ i,CI i];have l:=h.slot s;have keep:(F s).uses t=false->cP w1 S (updH F t k n) (tvs a) (φ s) (F s) (tvs a s):=λhu=>
   l.keep (φ:=φ) (λt _ _ _=>h.slot t) (λd W=>by grind [ig]) (G s i) H (λ_ _ h=>h) (λ_ _ h=>h)
  cases q:F s with
  | dead=>trivial
  | Y P cs2=>rw[q]at keep;exact keep rfl
  | iref r B=>rw[q]at keep;exact keep rfl
  | fn f caps=>rw[q]at l;exact l
  | fv Ok=>rw[q]at l;obtain⟨S1,Y,O,Q,Z⟩:=l;exact⟨S1,Y,O,λb o c=>⟨(H b o (O b o c)).1.trans (Q b o c).1,(H b o (O b o c)).2.trans (Q b o c).2⟩,Z⟩
  | c5 d B D ag=>
   rw[q]at keep;by_cases y:d=t
   ·subst y;simp[wc,cP]
   have c:Nat.beq d t=false:=by grind [Nat.beq_eq]
   simp only[wc,c,cond_false];exact keep c
  | ref d B D=>
   rw[q]at keep l;by_cases y:d=t
   ·subst y
    cases D with
    | cons s D=>simp[wc,cP]
    | nil=>
     obtain⟨P,cs2,r,j,g,o,e,R,h3,h4⟩:=l;rw[T]at e;simp only[AV.Y.injEq]at e;obtain⟨rfl,rfl⟩:=e;exact⟨k,n,n,B,g,o,jw _ _ _ _,rfl,h3,h4⟩
   have c:Nat.beq d t=false:=by grind [Nat.beq_eq]
   cases D with
   | nil=>exact keep c
   | cons s D=>
    simp only[wc,c,cond_false];exact keep c
 ·by_cases i:s=t
  ·rw[CJ i]at c
   rw[CI ω]at p;rcases E b o c with e|⟨e,-⟩
   ·exact h.dis t K ω b o e p
   grind
  rw[CI i]at c;by_cases A:K=t
  ·rw[CJ A]at p
   rcases E b o p with e|⟨e,-⟩
   ·exact h.dis t s (Ne.symm i) b o e c
   grind
  rw[CI A]at p;exact h.dis s K L b o c p
 ·split at c
  ·rcases E b o c with e|⟨-,e,-⟩
   ·exact h.disS t b o e
   exact e
  exact h.disS s b o c
 split at c
 ·rcases E b o c with e|⟨-,-,e,R⟩
  ·exact⟨I7 (h.ex t b o e).1 u.size,(h.ex t b o e).2⟩
  exact⟨I7 e u.size,R⟩
 exact⟨I7 (h.ex s b o c).1 u.size,(h.ex s b o c).2⟩
theorem cw.split{Y:af}{cs:List C}{u:Nat->Value}(h:cw w S Y cs u){off n:Nat}(r:off+n<=cs.length) :
  ∃l p:af,(∀b o,l b o->Y b o)/\(∀b o,p b o->Y b o)/\(∀b o,l b o->¬p b o)/\cw w S l (splice cs off (List.replicate n .x)) u/\cw w S p (bP cs off n) (λj=>u (off+j)):=by
 have g:=λj a=>h.one (j:=j) a
 obtain⟨f,B,D,t⟩:=h;have d:off+(List.replicate n C.x).length<=cs.length:=by simpa using r
 refine⟨λb o=>∃j,j<cs.length/\¬(off<=j/\j<off+n)/\f j b o,λb o=>∃j,off<=j/\j<off+n/\f j b o,ψ,ψ,
   ψ,⟨λj=>if off<=j/\j<off+n then NO else f j,λj c a=>?_,λj a b o e=>?_,λj y a i q b o e k=>?_⟩,
   ⟨λj=>f (off+j),λj c a=>?_,λj a b o e=>⟨off+j,ω,by grind [bP],e⟩,λj y a i q=>t _ _ (by grind [bP]) (by grind [bP]) ω⟩⟩
 ·rw[kw d,C7]at a
  by_cases A:off<=j/\j<off+n
  ·rw[CJ A,List.getElem?_replicate,CJ ω]at a
   simp only[O1]at a;subst a;exact .x _ _ (g j ω)
  grind
 ·rw[db d]at a
  split at e
  ·exact e.elim
  grind
 ·rw[db d]at a i
  split at e
  ·exact e.elim
  split at k
  ·exact k.elim
  grind
 grind [bP]
variable{off:Nat}{u:Nat->Value}
theorem cw.join{a d:af}{xs:List C}{u2:Nat->Value}(h:cw w S a cs u)(h':cw w S d xs u2)(t:off+xs.length<=cs.length)(y:∀b o,a b o->¬d b o) :
  cw w S (λb o=>a b o\/d b o) (splice cs off xs) (λj=>if off<=j/\j<off+xs.length then u2 (j - off) else u j):=by
 obtain⟨f,A,B,D⟩:=h;obtain⟨g,i,k,l⟩:=h';refine⟨λj=>if off<=j/\j<off+xs.length then g (j - off) else f j,λj c e=>?_,λj e b o n=>?_,λj E e p q b o n r=>?_⟩
 all_goals grind [kw,db]
theorem bj.take(h:bj w0 M S0 N S φ F a w){t:Nat}{k:Kd}(c:F t=.Y k cs){n:Nat}(d:off+n<=cs.length) :
  ∃V X:af,(∀b o,V b o->φ t b o)/\(∀b o,V b o->¬X b o)/\(∀b o,X b o->φ t b o)/\cw w S V (bP cs off n) (λj=>co w k (tvs a t) (off+j))/\
   bj w0 M S0 N S (λs=>if s=t then X else φ s) (updH F t k (splice cs off (List.replicate n .x))) a w:=by
 have e:=h.slot t;rw[c]at e;obtain⟨f,Y,u,y,A,B,i⟩:=e;obtain⟨g,l,D,E,G,p,q⟩:=i.split d;have r:off+(List.replicate n C.x).length<=cs.length:=by simpa using d
 refine⟨l,λb o=>f b o\/g b o,ψ,ψ,ψ,q,?_⟩;refine h.upd (Cj _ _) c ψ ⟨f,g,λ_ _ h=>.inl h,λ_ _ h=>.inr h,ψ,?_,p⟩
 grind [db]
theorem bj.store(h:bj w0 M S0 N S φ F a w){t:Nat}{H:List C}(hF:F t=.Y .box H)(hl:off+cs.length<=H.length){V:af}(hr:cw w S V cs u)(hV:∀b o,V b o->(∀t',¬φ t' b o)/\¬S b o/\b<w.heap.size/\(w0.heap.size<=b\/M b o)){T:Nat}(J:(P.info? T).map (·.size)=some cs.length){v:Value}(hv:v.cells.toList=(List.range cs.length).map u){g o:Nat}(K:plc w (co w .box (tvs a t)) (rp .box (tvs a t)) off []=some (g,o)) :
  ∃w1,(Instr.storeAt T (.pointer (some ⟨g,o,none⟩)) v).run P w=.ok () w1/\St w0 M S0 N (updH F t .box (splice H off cs)) a w1:=by
 have hs:=h.slot t;rw[hF]at hs;obtain⟨L,Y,h1,h2,h3,⟨c,d,r,i⟩,h5⟩:=hs;rw[r]at K h5;simp only[plc,rp,IA,O1,Prod.mk.injEq]at K;obtain⟨rfl,rfl⟩:=K;have O:v.cells.toList.length=cs.length:=by rw[hv];simp
 have n:∀j,j<cs.length->L c (d+off+j)/\(∃z,cel w c (d+off+j)=some z)/\fro w c (d+off+j)=NF:=λj y=>by
  have:=i (off+j) ω
  grind
 have A:∀x∈v.cells.toList,x.oneCell'=true:=λx hx=>by grind [cw.one]
 have B:=run_storeCells_cells (P:=P) c (d+off) v.cells.toList 0 w ψ
  ψ A
 simp only[Nat.add_zero]at B;refine⟨w.setCells c (d+off) v.cells.toList,?_,?_⟩
 ·have Q:v.cells.size=cs.length:=by simpa using O
  simp[Instr.storeAt,Instr.sureAddr,storeVar,ll J,Q,B]
 have k:∀b o,¬(b=c/\d+off<=o/\o<d+off+cs.length)->cel (w.setCells c (d+off) v.cells.toList) b o=cel w b o:=λb o G=>
  World.cell?_setCells_out c v.cells.toList (d+off) w ⟨b,o,none⟩ ψ
 have e:∀b o,fro (w.setCells c (d+off) v.cells.toList) b o=fro w b o:=λb o=>Prod.ext (World.frozen?_setCells c _ _ w ⟨b,o,none⟩) (mU _ _ _ _ _)
 have D:∀j,j<cs.length->cel (w.setCells c (d+off) v.cells.toList) c (d+off+j)=some (u j):=λj y=>by grind [Go.World.cell?_setCells_in]
 have p:bu (φ t) w (w.setCells c (d+off) v.cells.toList):=by
  have q:∀(l:List Value)(o:Nat)(w:World),(w.setCells c o l).os=w.os/\(w.setCells c o l).tape=w.tape/\(w.setCells c o l).output=w.output/\(w.setCells c o l).heap.size=w.heap.size/\∀b,b≠c->(w.setCells c o l).heap[b]? = w.heap[b]?:=by
   intro l
   induction l with
   | nil=>exact λ_ _=>⟨rfl,rfl,rfl,rfl,λ_ _=>rfl⟩
   | cons x l ih=>
    intro o w;obtain⟨R,U,W,i4,Z⟩:=ih (o+1) (w.setCell ⟨c,o,none⟩ x);exact⟨R,U,W,i4.trans (by simp_all),λb f=>(Z b f).trans (Below.heap_setCell w ⟨c,o,none⟩ x b f)⟩
  obtain⟨R,U,W,i4,Z⟩:=q v.cells.toList (d+off) w;refine⟨R,U,W,ω,λb f G=>?_,λb o f G=>k b o (λ⟨e1,e2,e3⟩=>G ?_),ψ⟩
  ·by_cases he:b=c
   ·subst he
    by_cases h0:cs.length=0
    ·have:v.cells.toList=[]:=ψ
     rw[this];rfl
    exact absurd (h1 _ _ (n 0 ω).1) (G _)
   exact Z b he
  subst e1;have:=(n (o - (d+off)) ω).1
  grind
 have E:b8 S w (w.setCells c (d+off) v.cells.toList):=λb o f=>⟨p.cel b o (h.sup b o f).1 (λh'=>h.disS t b o h' f),e b o⟩
 have hYY:b8 Y w (w.setCells c (d+off) v.cells.toList):=λb o f=>⟨k b o (λ⟨e1,e2,e3⟩=>by
   subst e1;have:=(n (o - (d+off)) ω).1
   grind),e b o⟩
 have hVV:b8 V w (w.setCells c (d+off) v.cells.toList):=λb o f=>⟨p.cel b o (hV b o f).2.2.1 ((hV b o f).1 t),e b o⟩
 have y:=(h5.keep E hYY).join (hr.keep E hVV) hl ψ;refine⟨S,_,h.upd p hF (X:=λb o=>L b o\/Y b o\/V b o) (λb o f=>?_) ⟨L,λb o=>Y b o\/V b o,λ_ _ h=>.inl h,λ_ _ h=>.inr h,ψ,⟨c,d,r,λj y=>?_⟩,?_⟩⟩
 ·grind
 ·rw[db hl]at y
  obtain⟨a1,⟨z,hz⟩,a3⟩:=i j y;refine⟨a1,?_,by rw[e];exact a3⟩;by_cases hjr:off<=j/\j<off+cs.length
  ·have:=D (j - off) ω
   grind
  grind
 grind [cw.congr,co]
end
mutual
def Nq:C->Prop
 | .s o rows=>(o≠.R\/rows=[])/\Lz rows
 | .v _=>True
 | .x=>True
 | .hd _=>True
 | .z=>True
 | .m _=>True
 | .it _ _=>True
def Lz:List (List C)->Prop
 | []=>True
 | r::rs=>fy r/\Lz rs
def fy:List C->Prop
 | []=>True
 | c::cs=>Nq c/\fy cs
end
theorem yP:∀{cs:List C}{j:Nat}{c:C},fy cs->cs[j]? = some c->Nq c
 | [],j,c,_,h=>by simp at h
 | b::cs,j,c,h,a=>by
  simp only[fy]at h;cases j with
  | zero=>grind
  | succ j=>exact yP h.2 (by simpa using a)
theorem GV:∀{rs:List (List C)}{j:Nat}{r:List C},Lz rs->rs[j]? = some r->fy r
 | [],j,c,_,h=>by simp at h
 | b::cs,j,c,h,a=>by
  simp only[Lz]at h;cases j with
  | zero=>grind
  | succ j=>exact GV h.2 (by simpa using a)
theorem ay{a b:List C}(e:fy a)(d:fy b):fy (a++b):=by
 induction a with
 | nil=>exact d
 | cons c f g=>grind [fy]
theorem aZ{α:Type}(f:α->List C)(l:List α)(h:∀x∈l,fy (f x)):Lz (l.map f):=by
 induction l with
 | nil=>simp[Lz]
 | cons a l b=>grind [Lz]
theorem cU.fresh{c:C}(h:cU w S F c v):Nq c->cU w NO F c v:=by
 induction h with
 | v F x P=>exact λ_=>.v _ x P
 | x F u P=>exact λ_=>.x _ u P
 | hd F a n c=>exact λ_=>.hd _ a n c
 | z F a=>exact λ_=>.z _ a
 | nil F o a E=>exact λ_=>.nil _ o a E
 | R F g y k n p e u G H l Z N O=>
  intro D;simp only[Nq]at D;rcases D.1 with h|rfl
  ·exact absurd rfl h
  subst G;exact .R _ g y k 0 p [] u rfl H (C1 _) ω ψ
 | own F o g k n p e u f E G H l J A Q D hd N O=>
  intro q;simp only[Nq]at q;exact .own _ o g k n p e u f E G H l J A Q D hd λi j r c K L=>O i j r c K L (yP (GV q.2 K) L)
 | suf F o g y k n p e u f E G H l A Q D hd N O=>
  intro q;simp only[Nq]at q;exact .suf _ o g y k n p e u f E G H l A Q D hd λi j r c K L=>O i j r c K L (yP (GV q.2 K) L)
 | m F b d U t A R V T B=>exact λ_=>.m _ b d U t A R V T B
 | it F r b since W d seen t cur left A X R B N T Y M=>exact λ_=>.it _ r b since W d seen t cur left A X R B N T Y M
def cw.fresh(h:cw w S F cs u)(b:fy cs):cw w NO F cs u:=by
 obtain⟨f,d,e,g⟩:=h;exact⟨f,λj c a=>(d j c a).fresh (yP b a),e,g⟩
def Free(w0:World)(M S:af)(φ:Nat->af)(w:World)(V:af):Prop:=∀b o,V b o->(∀t,¬φ t b o)/\¬S b o/\b<w.heap.size/\(w0.heap.size<=b\/M b o)
section
variable{P:Program}{w0 w w1:World}{M S0 S:af}{N:fF}{φ:Nat->af}{F:Nat->AV}{a:Act}
variable{V:af}
theorem bj.world(h:bj w0 M S0 N S φ F a w)(e:bu V w w1)(f:Free w0 M S φ w V):bj w0 M S0 N S φ F a w1:=by
 have g:∀t,b8 (φ t) w w1:=λt b o c=>⟨e.cel b o (h.ex t b o c).1 (λd=>(f b o d).1 t c),e.fro b o (h.ex t b o c).1 (λd=>(f b o d).1 t c)⟩
 have i:b8 S w w1:=λb o c=>⟨e.cel b o (h.sup b o c).1 (λd=>(f b o d).2.1 c),e.fro b o (h.sup b o c).1 (λd=>(f b o d).2.1 c)⟩
 refine⟨λt=>(h.slot t).keep (φ:=φ) (λt _ _ _=>h.slot t) ψ (g t) i (λ_ _ h=>h) (λ_ _ h=>h),h.dis,h.disS,λt b o c=>⟨I7 (h.ex t b o c).1 e.size,(h.ex t b o c).2⟩,h.sub,
   λb o c=>⟨I7 (h.sup b o c).1 e.size,(h.sup b o c).2⟩,h.old.trans e (λb o d=>(f b o d).2.2.2),h.size,h.defers,h.par.1,h.par.2.keep e (λb o d=>(f b o d).2.1) (λ_ _ h=>h)⟩
def Free.less{φ':Nat->af}(h:Free w0 M S φ w V)(c:∀t b o,φ' t b o->φ t b o):Free w0 M S φ' w V:=λb o a=>⟨λt d=>(h b o a).1 t (c t b o d),(h b o a).2⟩
def Free.or{V':af}(h:Free w0 M S φ w V)(h':Free w0 M S φ w V'):Free w0 M S φ w (λb o=>V b o\/V' b o):=λb o a=>a.elim (h b o) (h' b o)
def Free.grow(h:Free w0 M S φ w V)(c:w.heap.size<=w1.heap.size):Free w0 M S φ w1 V:=λb o a=>⟨(h b o a).1,(h b o a).2.1,I7 (h b o a).2.2.1 c,(h b o a).2.2.2⟩
variable{cs:List C}{k:Kd}
theorem bj.relTop(h:bj w0 M S0 N S φ F a w){t:Nat}(d:F t=.Y k cs) :
  ∃c Y:af,(∀b o,c b o->φ t b o)/\(∀b o,Y b o->φ t b o)/\(∀b o,c b o->¬Y b o)/\cw w S Y cs (co w k (tvs a t))/\
   ∀(r':List C)(G:af),r'.length=cs.length->cw w S G r' (co w k (tvs a t))->(∀b o,G b o->Y b o\/((∀f,¬φ f b o)/\¬S b o/\b<w.heap.size/\(w0.heap.size<=b\/M b o)))->
    bj w0 M S0 N S (λs=>if s=t then(λb o=>c b o\/G b o) else φ s) (updH F t k r') a w:=by
 have e:=h.slot t;rw[d]at e;obtain⟨c,Y,g,i,j,l,n⟩:=e;refine⟨c,Y,g,i,j,n,λr' G p q u=>?_⟩;refine h.upd (Cj _ _) d (λb o r=>?_) ⟨c,G,λ_ _ h=>.inl h,λ_ _ h=>.inr h,λb o r y=>?_,by rw[p];exact l,q⟩
 all_goals grind
variable{st:cN}{off j:Nat}{r:List C}
theorem bj.focus(h:bj w0 M S0 N S φ F a w){t:Nat}(E:F t=.Y k cs)(l:st≠[])(H:cr cs off st=some (r,j))(W:lH cs off st) :
  ∃g b n Y,(∀x o,Y x o->φ t x o)/\cw w S Y r n/\(∀d,j+d<r.length->cellv w (co w k (tvs a t)) off st d=n (j+d))/\plc w (co w k (tvs a t)) (rp k (tvs a t)) off st=some (g,b+j)/\
   (∀d,d<r.length->φ t g (b+d)/\¬Y g (b+d)/\cel w g (b+d)=some (n d)/\fro w g (b+d)=NF)/\
   ∀(w1:World)(r':List C)(u2:Nat->Value)(G V:af),bu V w w1->(∀x o,V x o->Y x o\/(x=g/\b<=o/\o<b+r.length))->(∀d,d<r.length->cel w1 g (b+d)=some (u2 d)/\fro w1 g (b+d)=NF)->r'.length=r.length->cw w1 S G r' u2->
    (∀x o,G x o->Y x o\/((∀X,¬φ X x o)/\¬S x o/\x<w.heap.size/\(w0.heap.size<=x\/M x o)))->
    bj w0 M S0 N S (λs=>if s=t then(λx o=>(φ t x o/\¬Y x o)\/G x o) else φ s) (updH F t k (gh cs off st r')) a w1:=by
 have J:=h.slot t;rw[E]at J;obtain⟨K,u,L,O,h3,h4,P⟩:=J;obtain⟨g,b,Y,n,e1,Z,Q,e4,e5⟩:=cw.focus st (rp k (tvs a t)) l P H W;obtain⟨F2,u2',c1,c2,c3,-,c4⟩:=cw.at_ st (rp k (tvs a t)) P H;obtain⟨g2,b2,y,p2⟩:=c4 l;rw[Q]at y;simp only[O1,Prod.mk.injEq]at y;obtain⟨rfl,hb2⟩:=y;have A:b=b2:=ω
 subst A;refine⟨g,b,n,Y,ψ,Z,λd R=>?_,Q,λd R=>?_,λw1 r' u2 G V e hV f p q hG=>?_⟩
 ·grind
 ·grind
 have T:∀o,b<=o->o<b+r.length->u g o/\¬Y g o:=λo ho1 ho2=>by
  have:=e4 (o - b) ω
  simp_all
 have hV0:∀x o,V x o->u x o:=ψ
 have B:bu (φ t) w w1:=⟨e.os,e.tape,e.output,e.size,λx c U=>e.blk x c ψ,λx o c U=>e.cel x o c ψ,λx o c U=>e.fro x o c ψ⟩
 have hS:b8 S w w1:=λx o c=>⟨e.cel x o (h.sup x o c).1 (λhv=>h.disS t x o ψ c),e.fro x o (h.sup x o c).1 (λhv=>h.disS t x o ψ c)⟩
 have hX1:b8 K w w1:=λx o c=>⟨e.cel x o (h.ex t x o (L x o c)).1 ψ,e.fro x o (h.ex t x o (L x o c)).1 ψ⟩
 have i:=e5 w1 r' u2 G hS (λx o c hny hnc=>⟨e.cel x o (h.ex t x o (O x o c)).1 ψ,e.fro x o (h.ex t x o (O x o c)).1 ψ⟩) f p q ψ;have D:(gh cs off st r').length=cs.length:=by
  cases st with
  | nil=>grind
  | cons s st=>
   obtain⟨i',k',j'⟩:=s;simp only[gh]
   grind
 refine h.upd B E (λx o c=>?_) ⟨K,λx o=>(u x o/\¬Y x o)\/G x o,ψ,ψ,λx o c hy=>?_,by grind [fZ.keep],i.congr λd R=>?_⟩
 ·grind
 all_goals grind [mc]
def y5{n:Nat}(h:j+n<=r.length):(splice r j (List.replicate n C.x)).length=r.length:=db (by simpa using h)
theorem bj.lend(h:bj w0 M S0 N S φ F a w){t:Nat}{n:Nat}(B:F t=.Y k cs)(q:cr cs off st=some (r,j))(K:lH cs off st)(u:j+n<=r.length) :
  ∃V φ',cw w S V (bP r j n) (λd=>cellv w (co w k (tvs a t)) off st d)/\bj w0 M S0 N S φ' (updH F t k (gh cs off st (splice r j (List.replicate n .x)))) a w/\Free w0 M S φ' w V/\(∀s b o,φ' s b o->φ s b o)/\(∀b o,V b o->φ t b o):=by
 have fin:∀(Y X V:af)(y:Nat->AV),(∀b o,X b o->φ t b o)->(∀b o,V b o->¬X b o)->(∀b o,V b o->φ t b o)->cw w S V (bP r j n) (λd=>cellv w (co w k (tvs a t)) off st d)->bj w0 M S0 N S (λs=>if s=t then X else φ s) y a w->
   ∃V φ',cw w S V (bP r j n) (λd=>cellv w (co w k (tvs a t)) off st d)/\bj w0 M S0 N S φ' y a w/\Free w0 M S φ' w V/\(∀s b o,φ' s b o->φ s b o)/\(∀b o,V b o->φ t b o):=by
  intro Y X V y T L i f c;refine⟨V,_,f,c,λb o l=>⟨λs p=>?_,h.disS t b o (i b o l),h.ex t b o (i b o l)⟩,λs b o l=>?_,i⟩
  ·replace p:(if s=t then X else φ s) b o:=p
   by_cases e:s=t
   ·grind
   rw[CI e]at p;exact h.dis s t e b o p (i b o l)
  grind
 by_cases c:st=[]
 ·subst c
  simp only[cr,O1,Prod.mk.injEq]at q;obtain⟨rfl,rfl⟩:=q;obtain⟨V,X,D,A,E,G,H⟩:=h.take B u;exact fin NO X V _ E A D G H
 obtain⟨g,b,O,Y,D,A,E,G,H,P⟩:=h.focus B c q K;obtain⟨J,Q,U,W,Z,R,f5⟩:=A.split u;refine fin Y (λx o=>(φ t x o/\¬Y x o)\/J x o) Q _ ψ ψ ψ ?_
  (P w _ O J NO (Cj _ _) (λ_ _ h=>h.elim) ψ (y5 u) R ψ)
 grind [cw.congr,bP]
theorem bj.back(h:bj w0 M S0 N S φ F a w){t:Nat}{out:List C}(A:F t=.Y k cs)(q:cr cs off st=some (r,j))(G:lH cs off st)(n:j+out.length<=r.length)(p:Free w0 M S φ w V)(c:cw w S V out (λd=>cellv w (co w k (tvs a t)) off st d)) :
  ∃φ',bj w0 M S0 N S φ' (updH F t k (gh cs off st (splice r j out))) a w/\∀s b o,φ' s b o->φ s b o\/V b o:=by
 by_cases l:st=[]
 ·subst l
  simp only[cr,O1,Prod.mk.injEq]at q;obtain⟨rfl,rfl⟩:=q;obtain⟨H,Y,B,u,J,D,E⟩:=h.relTop A;refine⟨_,E (splice cs off out) (λb o=>Y b o\/V b o) (db n) ((D.join c n (λb o f y=>(p b o y).1 t (u b o f))).congr λd K=>?_) (λb o f=>f.imp id (p b o)),λs b o f=>?_⟩
  ·grind [cellv]
  replace f:(if s=t then(λb o=>H b o\/(Y b o\/V b o)) else φ s) b o:=f;by_cases e:s=t
  ·subst e
   grind
  grind
 obtain⟨g,b,L,Y,B,u,J,D,E,O⟩:=h.focus A l q G;refine⟨_,O w (splice r j out) L (λx o=>Y x o\/V x o) NO (Cj _ _) (λ_ _ h=>h.elim) ψ (db n) ((u.join c n (λx o i y=>(p x o y).1 t (B x o i))).congr λd K=>?_) (λx o i=>i.imp id (p x o)),λs x o i=>?_⟩
 ·grind
 replace i:(if s=t then(λx o=>(φ t x o/\¬Y x o)\/(Y x o\/V x o)) else φ s) x o:=i;by_cases e:s=t
 ·subst e
  grind
 grind
def bj.cellv_same(h:bj w0 M S0 N S φ F a w){t:Nat}(n:F t=.Y k cs)(p:cr cs off st=some (r,j))(g:bu V w w1)(i:Free w0 M S φ w V) :
  ∀d,j+d<r.length->cellv w1 (co w1 k (tvs a t)) off st d=cellv w (co w k (tvs a t)) off st d:=by
 have l:=h.slot t;rw[n]at l;obtain⟨E,G,q,u,H,y,A⟩:=l;have e:b8 (φ t) w w1:=λb o c=>⟨g.cel b o (h.ex t b o c).1 (λf=>(i b o f).1 t c),g.fro b o (h.ex t b o c).1 (λf=>(i b o f).1 t c)⟩
 have B:b8 S w w1:=λb o c=>⟨g.cel b o (h.sup b o c).1 (λf=>(i b o f).2.1 c),g.fro b o (h.sup b o c).1 (λf=>(i b o f).2.1 c)⟩
 exact(cw.last B st none A p (λb o c=>e b o (u b o c)) (λx D=>mc y (λb o c=>e b o (q b o c)) x D)).2
end
section
variable{P:Program}{w0 w w1:World}{M S0 S:af}{N:fF}{φ:Nat->af}{F:Nat->AV}{a:Act}{TE:Nat->Option TI}
def qb(w:World)(b:Option Addr)(n:Nat)(news:List Value):Prop:=news.length=n/\(b=none->n=0)/\∀a j u,b=some a->news[j]? = some u->w.cell? (a.add j)=some u
variable{news:List Value}{c m:Nat}{b:Option Addr}
theorem w8{size:Nat}(h:qb w b (m*size) news):(Builtin.firstCells size m (.slice b m c)).run P w=.ok news.toArray w:=by
 obtain⟨a,d,e⟩:=h;cases b with
 | none=>
  have:news=[]:=ψ
  subst this
  rfl
 | some f=>
  grind [Go.run_firstCells_some]
variable{g:Nat}
theorem eI{X:af} : ∀(vs:List Value)(o:Nat)(w:World),(∀j,j<vs.length->X g (o+j))->bu X w (w.setCells g o vs):=by
 have a:∀(vs:List Value)(o:Nat)(w:World),(w.setCells g o vs).os=w.os/\(w.setCells g o vs).tape=w.tape/\(w.setCells g o vs).output=w.output/\(w.setCells g o vs).heap.size=w.heap.size/\∀b,b≠g->(w.setCells g o vs).heap[b]? = w.heap[b]?:=by
  intro vs
  induction vs with
  | nil=>exact λ_ _=>⟨rfl,rfl,rfl,rfl,λ_ _=>rfl⟩
  | cons x vs r=>
   intro o w;obtain⟨f,h,i,l,k⟩:=r (o+1) (w.setCell ⟨g,o,none⟩ x);exact⟨f,h,i,l.trans (by simp_all),λb d=>(k b d).trans (Below.heap_setCell w ⟨g,o,none⟩ x b d)⟩
 intro vs o w n;obtain⟨f,h,i,l,k⟩:=a vs o w;refine⟨f,h,i,ω,λb d p=>?_,λb c d p=>?_,λb c _ _=>Prod.ext (World.frozen?_setCells g _ _ w ⟨b,c,none⟩) (mU _ _ _ _ _)⟩
 ·by_cases q:b=g
  ·subst q
   cases vs with
   | nil=>rfl
   | cons x vs=>exact absurd (n 0 (by simp)) (p _)
  exact k b q
 refine World.cell?_setCells_out g vs o w ⟨b,c,none⟩ (λe _=>?_);simp only at e |-;subst e;by_cases t:c<o
 ·exact .inl t
 by_cases u:o+vs.length<=c
 ·exact .inr u
 have:=n (c - o) ω
 grind
variable{q:Nat}{vs:List Value}
theorem bi{o:Nat}{w:World}{b:Nat}(h:¬(b=g/\o<=q/\q<o+vs.length)):cel (w.setCells g o vs) b q=cel w b q:=
 World.cell?_setCells_out g vs o w ⟨b,q,none⟩ ψ
theorem bx{o:Nat}{w:World}{j:Nat}{x:Value}(h:∀j,j<vs.length->∃z,cel w g (o+j)=some z)(a:vs[j]? = some x):cel (w.setCells g o vs) g (o+j)=some x:=by grind [Go.World.cell?_setCells_in]
theorem bW(g o:Nat)(vs:List Value)(w:World)(b q:Nat):fro (w.setCells g o vs) b q=fro w b q:=Prod.ext (World.frozen?_setCells g _ _ w ⟨b,q,none⟩) (mU _ _ _ _ _)
variable{n cap ty e:Nat}{i:TypeInfo}
theorem RK{t:Nat}(h:P.underlying t=some (.slice e))(k:P.info? e=some i)(h1:qb w b (m*i.size) news)(d:∀u∈news,u.oneCell'=true)(a:n+m<=cap)(o:∀j,j<news.length->(∃z,cel w g (n*i.size+j)=some z)/\fro w g (n*i.size+j)=NF) :
  (Builtin.append_ #[t,t] ty #[.slice (some ⟨g,0,none⟩) n cap,.slice b m c]).run P w=.ok (.slice (some ⟨g,0,none⟩) (n+m) cap) (w.setCells g (n*i.size) news):=by
 have l:=w8 (P:=P) (c:=c) h1;have f:=run_storeCells_cells (P:=P) g (n*i.size) news 0 w ψ ψ d;simp only[Nat.add_zero]at f;simp[Builtin.append_,run_underlying h,sizeOf,typeInfo,k,Builtin.lenOf,a,l,iV,f]
def x6{t:Nat}(f:P.underlying t=some (.slice e))(g:P.info? e=some i){d:Option Addr}(a:n<=cap) :
  (Builtin.append_ #[t,t] ty #[.slice d n cap,.slice b 0 c]).run P w=.ok (.slice d n cap) w:=by
 have h:(Builtin.firstCells i.size 0 (.slice b 0 c)).run P w=.ok #[] w:=by cases b<;>simp[Builtin.firstCells,loadCells,loadCellsFrom]
 cases d<;>simp[Builtin.append_,run_underlying f,sizeOf,typeInfo,g,Builtin.lenOf,a,h,storeCells]
theorem QZ{t:Nat}{z:Value}(h:P.underlying t=some (.slice e))(j:P.info? e=some i)(k:i.zero=some z){f:Option Addr}{olds:List Value}(l:qb w f (n*i.size) olds)(h1:qb w b (m*i.size) news)(o:cap<n+m)(p:n+m<=140737488355328)(q:(n+m)*i.bytes<=140737488355328) :
  (Builtin.append_ #[t,t] ty #[.slice f n cap,.slice b m c]).run P w =
   .ok (.slice (some ⟨w.heap.size,0,none⟩) (n+m) (grownCap w (n+m) cap e)) (w.drew.alloc (.cells (olds.toArray++news.toArray++Builtin.zeroCells z.cells (grownCap w (n+m) cap e - (n+m))) e)):=by
 have r:¬(n+m<=cap):=ω
 have a:¬(9223372036854775807<((n:Int)+(m:Int))):=ω
 have d:¬(281474976710656<Builtin.nextslicecap (n+m) cap*i.bytes):=by have:=growslice_fits o q;omega
 have u:=w8 (P:=P) (w:=w.drew) (c:=c) (show qb w.drew b (m*i.size) news from h1);have g:=w8 (P:=P) (w:=w.drew) (c:=cap) (show qb w.drew f (n*i.size) olds from l);simp[Builtin.append_,run_underlying h,sizeOf,typeInfo,zeroValue,j,k,Builtin.lenOf,r,a,d,Question.forced,u,g,newRow,grownCap]
 grind
structure Eu(w:World)(S V:af)(rows:List (List C))(k:Nat)(u:Nat->Value)(f:Nat->af):Prop where
 hk:∀r∈rows,r.length=k
 hf:∀q,q<rows.length*k->∀b o,f q b o->V b o
 hd:∀q q',q<rows.length*k->q'<rows.length*k->q≠q'->∀b o,f q b o->¬f q' b o
 hc:∀(i j:Nat)(r:List C)(c:C),rows[i]? = some r->r[j]? = some c->cU w S (f (i*k+j)) c (u (i*k+j))
variable{k:Nat}
theorem Ng(h:q<n*k):q / k<n/\q % k<k/\q / k*k+q % k=q:=by
 have a:0<k:=ψ
 exact⟨Nat.div_lt_of_lt_mul ψ,Nat.mod_lt _ a,by grind [Nat.div_add_mod]⟩
variable{u:Nat->Value}{rows:List (List C)}{V:af}
theorem Eu.one{f:Nat->af}(h:Eu w S V rows k u f)(b:q<rows.length*k):(u q).oneCell'=true:=by
 obtain⟨e,g,c⟩:=Ng b;have a:rows[q / k]? = some rows[q / k]:=ψ
 have i:=h.hk _ (I3 a);have d:(rows[q / k])[q % k]? = some (rows[q / k])[q % k]:=ψ
 have:=(h.hc _ _ _ _ a d).one
 rwa [c]at this
theorem Eu.keep{a:World}{f:Nat->af}(h:Eu w S V rows k u f)(g:b8 S w a)(l:b8 V w a):Eu a S V rows k u f:=
 ⟨h.hk,h.hf,h.hd,λi j r c d e=>(h.hc i j r c d e).keep g λb o n=>l b o (h.hf _ (by
   have p:=(C4.1 d).1;have q:=(C4.1 e).1;have t:=h.hk r ψ;exact cJ p ω) b o n)⟩
theorem Eu.append{V':af}{rows':List (List C)}{A:Nat->Value}{f B:Nat->af}(h:Eu w S V rows k u f)(h':Eu w S V' rows' k A B)(hd:∀b o,V b o->¬V' b o) :
  Eu w S (λb o=>V b o\/V' b o) (rows++rows') k (λq=>if q<rows.length*k then u q else A (q - rows.length*k)) (λq=>if q<rows.length*k then f q else B (q - rows.length*k)):=by
 have l:(rows++rows').length*k=rows.length*k+rows'.length*k:=ψ
 refine⟨λr D=>(I5.1 D).elim (h.hk r) (h'.hk r),λq p b o e=>?_,λq n p t y b o e a=>?_,λi j r c E G=>?_⟩
 ·rw[l]at p
  by_cases g:q<rows.length*k
  ·rw[CJ g]at e;exact .inl (h.hf q g b o e)
  rw[CI g]at e;exact .inr (h'.hf _ ω b o e)
 ·rw[l]at p t
  by_cases g:q<rows.length*k
  ·rw[CJ g]at e
   by_cases d:n<rows.length*k
   ·rw[CJ d]at a;exact h.hd q n g d y b o e a
   rw[CI d]at a;exact hd b o (h.hf q g b o e) (h'.hf _ ω b o a)
  rw[CI g]at e;by_cases d:n<rows.length*k
  ·rw[CJ d]at a;exact hd b o (h.hf n d b o a) (h'.hf _ ω b o e)
  rw[CI d]at a;exact h'.hd _ _ ω ω ω b o e a
 by_cases g:i<rows.length
 ·grind [Eu.hk,cJ,Eu.hc]
 rw[C9 ω]at E;have F:rows.length*k<=i*k:=CE k ω
 grind [Eu.hc,Nat.sub_mul]
def Eu.own{f:Nat->af}(h:Eu w S V rows k u f){X:af}(d:rows.length=n)(a:n<=cap)(c:0<n)(e:∀q,q<cap*k->X g q/\(∃z,cel w g q=some z/\z.oneCell'=true)/\fro w g q=NF)(i:∀q,q<n*k->cel w g q=some (u q))(j:∀b o,V b o->X b o/\¬(b=g/\o<cap*k)):cU w S X (.s .own rows) (.slice (some ⟨g,0,none⟩) n cap):=by
 subst d;exact .own _ .own g k _ cap rows u f tV1 rfl h.hk a c e i (λq l b o p=>j b o (h.hf q l b o p)) h.hd h.hc
theorem cU.els{F:af}{o:ek}(e:o≠.R/\o≠.suf/\∀z,o≠.tagS z){v:Value}(h:cU w S F (.s o rows) v)(B:∀r∈rows,r.length=k) :
  (rows=[]/\∃D,v=.slice D 0 0)\/∃g cap u f,v=.slice (some ⟨g,0,none⟩) rows.length cap/\0<rows.length/\rows.length<=cap/\(∀q,q<cap*k->F g q/\(∃z,cel w g q=some z/\z.oneCell'=true)/\fro w g q=NF)/\(∀q,q<rows.length*k->cel w g q=some (u q))/\
   Eu w S (λb o=>F b o/\¬(b=g/\o<cap*k)) rows k u f:=by
 generalize d:C.s o rows=c at h
 induction h with
 | v=>cases d
 | x=>cases d
 | hd=>cases d
 | z=>cases d
 | m=>cases d
 | it=>cases d
 | R=>grind
 | suf F o g E k n cap rows u f i=>cases d;cases o with|R=>exact i.elim|own=>exact i.elim|tag v=>exact i.elim|suf=>exact absurd rfl e.2.1|tagS v=>exact absurd rfl (e.2.2 v)
 | nil F o a i=>grind
 | own F o g G n cap p u f i H t j l J K L hd y _=>
  cases d;subst H;have A:G=k:=by
   have M:rows[0]? = some rows[0]:=ψ
   rw[<-t _ (I3 M),B _ ψ]
  subst A;exact .inr ⟨g,cap,u,f,rfl,l,j,J,K,B,L,hd,y⟩
def tJ{t:Nat}{z:Value}(ht:P.underlying t=some (.slice e))(T:P.info? e=some i)(hz:i.zero=some z)(U:z.cells.size=i.size)(hz1:∀x∈z.cells.toList,x.oneCell'=true){F:af}{xr:List (List C)}{v0:Value}(h:cU w S F (.s .own rows) v0)(hk:∀r∈rows,r.length=i.size){u2:Nat->Value}{f2:Nat->af}(W:Eu w S V xr i.size u2 f2)(d:qb w b (xr.length*i.size) ((List.range (xr.length*i.size)).map u2))(G:∀b o,F b o->¬V b o)(hFS:∀b o,F b o->¬S b o)(X:∀b o,F b o->b<w.heap.size)(O:∀b o,V b o->b<w.heap.size)(Y:∀b o,S b o->b<w.heap.size)(h63:rows.length+xr.length<=140737488355328)(hby:(rows.length+xr.length)*i.bytes<=140737488355328) :
  ∃Z K,(Builtin.append_ #[t,t] ty #[v0,.slice b xr.length c]).run P w=.ok Z K/\bu F w K/\cU K S (λb o=>F b o\/V b o\/(w.heap.size<=b/\b<K.heap.size)) (.s .own (rows++xr)) Z:=by
 have hkx:xr.length*i.size=((List.range (xr.length*i.size)).map u2).length:=by simp
 have grow:∀(a0:Option Addr)(cap:Nat)(u:Nat->Value)(f:Nat->af),cap<rows.length+xr.length->qb w a0 (rows.length*i.size) ((List.range (rows.length*i.size)).map u)->Eu w S F rows i.size u f->v0=.slice a0 rows.length cap->
   ∃Z K,(Builtin.append_ #[t,t] ty #[v0,.slice b xr.length c]).run P w=.ok Z K/\bu F w K/\cU K S (λb o=>F b o\/V b o\/(w.heap.size<=b/\b<K.heap.size)) (.s .own (rows++xr)) Z:=by
  intro a0 cap u f hlt E hE hv;have B:=QZ (P:=P) (ty:=ty) ht T hz E d hlt h63 hby (c:=c);have hge:=grownCap_ge w (rows.length+xr.length) cap e;refine⟨_,_,by rw[hv];exact B,bu.of_below (((Below.refl _ _).drew).alloc (O5 _) _) F,?_⟩;generalize hcells:((List.range (rows.length*i.size)).map u).toArray++((List.range (xr.length*i.size)).map u2).toArray++Builtin.zeroCells z.cells (grownCap w (rows.length+xr.length) cap e - (rows.length+xr.length))=cells;generalize grownCap w (rows.length+xr.length) cap e=c' at hge hcells;have hlen:cells.size=c'*i.size:=by
   rw[<-hcells];simp only[Array.size_append,List.size_toArray,Z1,List.length_range,size_zeroCells,U,<-Nat.add_mul]
   congr 1;omega
  have hk':bu NO w (w.drew.alloc (.cells cells e)):=bu.of_below (((Below.refl _ _).drew).alloc (O5 _) _) NO;have Q:=((hE.append W G).keep (je hk' Y) (je hk' λb o d=>d.elim (X b o) (O b o)))
  have M:∀q,cel (w.drew.alloc (.cells cells e)) w.heap.size q=cells[q]?:=λq=>kL w.drew cells e q
  have hq1:∀q,q<(rows.length+xr.length)*i.size->cells[q]? = some (if q<rows.length*i.size then u q else u2 (q - rows.length*i.size)):=λq p=>by
   rw[Nat.add_mul]at p;rw[<-hcells,Array.append_assoc];by_cases l:q<rows.length*i.size
   ·rw[Array.getElem?_append_left (by simpa using l),CJ l];simp[l]
   rw[Array.getElem?_append_right (by simpa using Nat.le_of_not_lt l),CI l,Array.getElem?_append_left kd];simp only[List.size_toArray,Z1,List.length_range,List.getElem?_toArray,Z5];rw[ID ω];rfl
  refine Q.own (n:=rows.length+xr.length) (cap:=c') (by simp) hge ω (λq p=>?_) (λq p=>by rw[M];exact hq1 q p) (λb o d=>⟨d.elim .inl (λh=>.inr (.inl h)),λh=>by have:=d.elim (X b o) (O b o);omega⟩);refine⟨.inr (.inr ⟨O5 _,by rw[mG];exact Nat.lt_succ_self _⟩),?_,iO w.drew cells e q⟩;rw[M];have H:q<cells.size:=by rw[hlen];exact p
  refine⟨cells[q],OC H,?_⟩;by_cases l:q<(rows.length+xr.length)*i.size
  ·have D:=hq1 q l
   rw[OC H]at D;simp only[O1]at D;rw[D];have:=(hE.append W G).one (q:=q) (by simpa using l);exact this
  have hmem:cells[q]∈z.cells.toList:=by
   have D:cells[q]? = (Builtin.zeroCells z.cells (c' - (rows.length+xr.length)))[q - (rows.length+xr.length)*i.size]?:=by
    rw[<-hcells];rw[Array.getElem?_append_right (by simp[<-Nat.add_mul];omega)];simp[<-Nat.add_mul]
   rw[OC H]at D;have h3:q - (rows.length+xr.length)*i.size<(c' - (rows.length+xr.length))*z.cells.size:=by
    rw[U,Nat.sub_mul];omega
   have hz0:0<z.cells.size:=by rcases Nat.eq_zero_or_pos z.cells.size with h|h;rw[h]at h3;simp at h3;exact h
   simp only[Builtin.zeroCells]at D;rw[OC (by simpa using h3)]at D;simp only[Array.getElem_map,Array.getElem_range,O1]at D;rw[D];have h4:(q - (rows.length+xr.length)*i.size) % z.cells.size<z.cells.size:=Nat.mod_lt _ hz0;rw[getElem!_pos z.cells _ h4];simp
  exact hz1 _ hmem
 rcases h.els (by simp) hk with⟨rfl,a0,rfl⟩|⟨g,cap,u,f,rfl,hpos,hcap,a,hu,hE⟩
 ·by_cases hm:xr.length=0
  ·have:xr=[]:=IE hm
   subst this;exact⟨_,w,x6 ht T (O5 0),Cj _ _,.nil _ _ _ tV1⟩
  exact grow a0 0 (λ_=>undef) (λ_=>NO) kd ⟨by simp,λ_=>by simp,λad j u _ k=>by simp at k⟩ ⟨λr E=>by simp at E,λq p=>by simp at p,λq q' p=>by simp at p,λi j r c T=>by simp at T⟩ rfl
 have N:∀(n j:Nat)(y:Value)(uu:Nat->Value),((List.range n).map uu)[j]? = some y->j<n/\y=uu j:=λn j y uu k=>by
  rw[Z5]at k;cases E:(List.range n)[j]? with
  | none=>rw[E]at k;cases k
  | some j'=>
   obtain⟨l,D⟩:=C4.1 E;simp at l D;subst D;rw[E]at k;simp only[IA,O1]at k;exact⟨l,k.symm⟩
 by_cases A:rows.length+xr.length<=cap
 ·have L:∀j,j<xr.length*i.size->rows.length*i.size+j<cap*i.size:=λj k=>by
   have:(rows.length+xr.length)*i.size<=cap*i.size:=CE _ A;rw[Nat.add_mul]at this;omega
  have B:=RK (P:=P) (ty:=ty) ht T (g:=g) (n:=rows.length) (cap:=cap) (c:=c) d (λy hy=>by
    obtain⟨j,k⟩:=List.getElem?_of_mem hy;obtain⟨l,rfl⟩:=N _ _ _ _ k;exact W.one l) A (λj k=>by
      have:=a _ (L j (by rw[<-hkx]at k;exact k));exact⟨this.2.1.imp λ_ h=>h.1,this.2.2⟩)
  generalize J:(List.range (xr.length*i.size)).map u2=news at B hkx;have R:bu F w (w.setCells g (rows.length*i.size) news):=eI news _ w (λj k=>(a _ (L j ω)).1);refine⟨_,_,B,R,?_⟩;have hSS:b8 S w (w.setCells g (rows.length*i.size) news):=λb o d=>⟨R.cel b o (Y b o d) (λh'=>hFS b o h' d),bW _ _ _ _ _ _⟩
  have hVV:b8 V w (w.setCells g (rows.length*i.size) news):=λb o d=>⟨R.cel b o (O b o d) (λh'=>G b o h' d),bW _ _ _ _ _ _⟩
  have hFF:b8 (λb o=>F b o/\¬(b=g/\o<cap*i.size)) w (w.setCells g (rows.length*i.size) news):=λb o d=>⟨bi (λ⟨e1,e2,e3⟩=>d.2 ⟨e1,by
    have:=L (o - rows.length*i.size) ω;omega⟩),bW _ _ _ _ _ _⟩
  have Q:=(hE.keep hSS hFF).append (W.keep hSS hVV) (λb o d hv=>G b o d.1 hv);have hex:∀j,j<news.length->∃z,cel w g (rows.length*i.size+j)=some z:=λj k=>(a _ (L j ω)).2.1.imp λ_ h=>h.1
  refine Q.own (n:=rows.length+xr.length) (cap:=cap) (by simp) A ω (λq p=>?_) (λq p=>?_) (λb o d=>⟨d.elim (λh=>.inl h.1) (λh=>.inr (.inl h)),λh=>d.elim (λh'=>h'.2 h) (λhv=>?_)⟩)
  ·obtain⟨l,⟨z0,D,h2'⟩,h3⟩:=a q p
   refine⟨.inl l,?_,by rw[bW];exact h3⟩;by_cases E:rows.length*i.size<=q/\q<rows.length*i.size+news.length
   ·have h4:news[q - rows.length*i.size]? = some (u2 (q - rows.length*i.size)):=by
     rw[<-J,Z5,ID ω];rfl
    have:=bx hex h4;rw[show rows.length*i.size+(q - rows.length*i.size)=q by omega]at this;exact⟨_,this,W.one ω⟩
   exact⟨z0,by rw[bi ω];exact D,h2'⟩
  ·rw[Nat.add_mul]at p
   by_cases E:q<rows.length*i.size
   ·rw[CJ E,bi ω];exact hu q E
   rw[CI E];have h4:news[q - rows.length*i.size]? = some (u2 (q - rows.length*i.size)):=by
    rw[<-J,Z5,ID ω];rfl
   have:=bx hex h4
   rwa [show rows.length*i.size+(q - rows.length*i.size)=q by omega]at this
  obtain⟨e1,e2⟩:=h;subst e1;exact G _ _ (a o e2).1 hv
 exact grow (some ⟨g,0,none⟩) cap u f ω ⟨by simp,λh=>(by cases h),λad j y had k=>by
   cases had;obtain⟨l,rfl⟩:=N _ _ _ _ k;rw[iV,OD];exact hu j l⟩ ⟨hE.hk,λq p b o d=>(hE.hf q p b o d).1,hE.hd,hE.hc⟩ rfl
end
def fc:List C->(List C->Prop)->Prop
 | [],K=>K []
 | c::cs,K=>fc cs λt=>K (c::t)
theorem d9:∀(cs:List C)(K:List C->Prop),fc cs K=K cs
 | [],_=>rfl
 | c::cs,K=>by rw[fc,d9 cs]
def chunk(k:Nat):Nat->List C->List (List C)
 | 0,_=>[]
 | n+1,a=>a.take k::chunk k n (a.drop k)
def XX(k:Nat):Nat->List C->(List (List C)->Prop)->Prop
 | 0,_,K=>K []
 | n+1,a,K=>fc (a.take k) λr=>XX k n (a.drop k) λb=>K (r::b)
theorem rr(k:Nat):∀(n:Nat)(cs:List C)(K:List (List C)->Prop),XX k n cs K=K (chunk k n cs)
 | 0,_,_=>rfl
 | n+1,cs,K=>by rw[XX,d9,rr k n];rfl
def X9(TE:Nat->Option TI)(flds:List (Nat × Nat))(i:Nat):Option (Nat × Nat):=
 match flds[i]? with
 | some p=>(match TE p.2 with|some a=>some (p.1,a.size)|none=>none)
 | none=>none
def HF(TE:Nat->Option TI):List (Nat × Nat)->Bool
 | []=>true
 | p::l=>(TE p.2).isSome&&HF TE l
def Yx(size i:Nat):Option (Nat × Nat):=some (i*size,size)
def fillP(F:Nat->AV)(c:Nat->Option (Nat × Nat)):List (Nat × Operand)->List C->(List C->Prop)->Prop
 | [],a,K=>K a
 | p::rest,a,K=>match c p.1 with
  | some q=>jj F (oN F p.2) λ_ xs=>bif br xs&&Nat.beq xs.length q.2&&Nat.ble (q.1+q.2) a.length then fc (splice a q.1 xs) λb=>fillP F c rest b K else False
  | none=>False
def wt(TE:Nat->Option TI)(F:Nat->AV)(T:Nat)(parts:List (Nat × Operand))(K:AV->Prop):Prop:=
 match TE T with
 | some ⟨_,_,zero,.st flds⟩=>bif HF TE flds then fillP F (X9 TE flds) parts zero λa=>K (.Y .agg a) else False
 | _=>False
def rep(z:List C):Nat->List C
 | 0=>[]
 | n+1=>z++rep z n
def L9(TE:Nat->Option TI)(T:Nat)(K:Nat->TI->Prop):Prop:=
 match TE T with
 | some ⟨_,_,_,.sl e⟩=>(match TE e with
   | some a=>bif Nat.beq a.zero.length a.size&&Nat.ble 1 a.size then K e a else False
   | none=>False)
 | _=>False
def yV(TE:Nat->Option TI)(F:Nat->AV)(T n:Nat)(parts:List (Nat × Operand))(K:AV->Prop):Prop:=
 L9 TE T λ_ b=>bif Nat.ble (n*b.size) 16777216 then(match n,parts with
   | 0,[]=>K (.Y .one [.z])
   | n+1,parts=>fc (rep b.zero (n+1)) λd=>fillP F (Yx b.size) parts d λc=>XX b.size (n+1) c λa=>K (.Y .one [.s .own a])
   | _,_=>False) else False
inductive Fl(rows:List (List C))(sz by_:Nat)(X:Prop):Prop
 |mk_ (h:(∀r∈rows,r.length=sz/\br r=true)/\rows.length<=140737488355328/\rows.length*by_<=140737488355328/\X)
variable{sz by_:Nat}
theorem Fl.mk(h1:∀r∈rows,r.length=sz/\br r=true)(h2:rows.length<=140737488355328)(a:rows.length*by_<=140737488355328)(b:X):Fl rows sz by_ X:=by refine .mk_ ?_;grind
def Fl.out(h:Fl rows sz by_ X):(∀r∈rows,r.length=sz/\br r=true)/\rows.length<=140737488355328/\rows.length*by_<=140737488355328/\X:=by obtain⟨h⟩:=h;exact h
def NK(TE:Nat->Option TI)(F:Nat->AV)(T:Nat)(x y:Operand)(K:AV->Prop):Prop:=
 L9 TE T λ_ a=>jj F (oN F x) λb c=>match b,c with
  | none,[.z]=>jj F (oN F y) λag2 cs2=>match ag2,cs2 with
   | none,[.s _ rows]=>Fl rows a.size a.bytes (K (.Y .one [.s .own rows]))
   | none,[.z]=>K (.Y .one [.z])
   | _,_=>False
  | _,_=>False
section
variable{P:Program}{w0 w w1:World}{M S0 S:af}{N:fF}{φ:Nat->af}{F:Nat->AV}{a:Act}{TE:Nat->Option TI}
theorem GN{α:Type}(l xs:List α){p q:Nat}(a:p<=l.length)(b:q=p+xs.length)(j:Nat):(l.take p++xs++l.drop q)[j]? = if j<p then l[j]? else if j<q then xs[j - p]? else l[j]?:=ψ
theorem vQ{off:Nat} : ∀(xs:List Value)(k:Nat)(cells:Array Value),off+k+xs.length<=cells.size->
  ((xs.zipIdx k).foldl (λcs (c,j)=>cs.setIfInBounds (off+j) c) cells).toList=cells.toList.take (off+k)++xs++cells.toList.drop (off+k+xs.length)
 | [],k,cells,_=>by simp
 | x::xs,k,cells,h=>by
  simp only[List.length_cons]at h;simp only[List.zipIdx_cons,List.foldl_cons];rw[vQ xs (k+1) _ kd];apply List.ext_getElem?;intro j;rw[GN _ _ kd rfl,GN _ _ kd rfl]
  grind
variable{cs:List C}
theorem FN{xs:List C}{off:Nat}(h:off+xs.length<=cs.length)(u u2:Nat->Value) :
  (List.range (splice cs off xs).length).map (λj=>if off<=j/\j<off+xs.length then u2 (j - off) else u j)=((List.range cs.length).map u).take off++(List.range xs.length).map u2++((List.range cs.length).map u).drop (off+xs.length):=by
 rw[db h];apply List.ext_getElem?
 grind [GN]
variable{v:Value}{u:Nat->Value}
theorem F6{a:Nat->Option (Nat × Nat)}{i:Nat}{q:Nat × Nat}(c:a i=some q){xs:List C}{u2:Nat->Value}{cells:Array Value}{rest:List (Nat × Value)}(b:cells.toList=(List.range cs.length).map u)(d:v.cells.toList=(List.range xs.length).map u2)(h1:xs.length=q.2)(h2:q.1+q.2<=cs.length) :
  ∃cells',Instr.fill a cells ((i,v)::rest)=Instr.fill a cells' rest/\cells'.toList=(List.range (splice cs q.1 xs).length).map (λj=>if q.1<=j/\j<q.1+xs.length then u2 (j - q.1) else u j):=by
 obtain⟨off,size⟩:=q;simp only at h1 h2;have e:v.cells.size=xs.length:=by have:=I1 List.length d;simpa using this
 have f:cells.size=cs.length:=by have:=I1 List.length b;simpa using this
 refine⟨_,by simp only[Instr.fill,c];rw[CI kd],?_⟩;have:=vQ (off:=off) v.cells.toList 0 cells kd
 grind [Array.toList_zipIdx,FN]
theorem bj.fillP(h:bj w0 M S0 N S φ F a w){o:Nat->Option (Nat × Nat)} : ∀{parts:List (Nat × Operand)}{cs:List C}{K:List C->Prop}{u:Nat->Value}{cells:Array Value},Ab.fillP F o parts cs K->cw w S NO cs u->cells.toList=(List.range cs.length).map u->
  ∃b e cells',K b/\b.length=cs.length/\cw w S NO b e/\Instr.fill o cells (parts.map λp=>(p.1,a.eval p.2))=some cells'/\cells'.toList=(List.range b.length).map e
 | [],cs,K,u,cells,c,f,g=>⟨cs,u,cells,c,rfl,f,rfl,g⟩
 | p::rest,cs,K,u,cells,c,f,g=>by
  simp only[Ab.fillP]at c;split at c
  case h_2=>exact c.elim
  rename_i q r;obtain⟨B,xs,Y,i,t,-⟩:=h.val (h.ev p.2) c;cases d:(br xs&&Nat.beq xs.length q.2&&Nat.ble (q.1+q.2) cs.length) with
  | false=>grind
  | true=>
   rw[d]at i;simp only[I0]at d;have y:=O3 d.1.2;have A:=C2 d.2;simp only[cond_true,d9]at i;obtain⟨D,j,k⟩:=t.cells;obtain⟨cells1,E,l⟩:=F6 (rest:=rest.map λp=>(p.1,a.eval p.2)) r g j y A;have n:=(f.join (k.bare (F':=NO) d.1.1) (off:=q.1) ω (λ_ _ h=>h.elim)).mono (F':=NO) (λ_ _ h=>h) ψ;obtain⟨b,e,cells',G,H,J,L,O⟩:=bj.fillP h i n l
   grind [db]
theorem xY(a:∀t i,TE t=some i->ix P t i):∀{fs:List Field}{flds:List (Nat × Nat)},fs.map (λf=>(f.offset,f.type))=flds->HF TE flds=true->
  ∃pls:List (Nat × Nat),fs.mapM (λf=>(P.info? f.type).map λi=>(f.offset,i.size))=some pls/\∀i,pls[i]? = X9 TE flds i
 | [],flds,h,_=>by subst h;exact⟨[],by simp,λi=>by simp[X9]⟩
 | f::fs,flds,h,c=>by
  subst h;simp only[SB,HF,I0]at c;obtain⟨pls,j,k⟩:=xY a (fs:=fs) rfl c.2;cases d:TE f.type with
  | none=>grind
  | some e=>
   have b:=(a _ _ d).size;cases g:P.info? f.type with
   | none=>grind
   | some l=>
    rw[g]at b;simp only[IA,O1]at b;refine⟨(f.offset,e.size)::pls,?_,λi=>?_⟩
    ·simp_all
    grind [X9]
variable{T:Nat}
theorem BW(a:∀t i,TE t=some i->ix P t i){size bytes:Nat}{zero:List C}{flds:List (Nat × Nat)}(c:TE T=some ⟨size,bytes,zero,.st flds⟩)(e:HF TE flds=true){parts:Array (Nat × Value)}{cells':Array Value}(g:∀cells:Array Value,cells.toList=zero.map cval->Instr.fill (X9 TE flds) cells parts.toList=some cells'):(Instr.build T parts).run P w=.ok (.agg cells') w:=by
 refine run_build w T parts cells' ?_;have d:=(a _ _ c).1;obtain⟨h,j,b⟩:=(a _ _ c).2.2;obtain⟨pls,k,l⟩:=xY (P:=P) a b e;unfold Program.built;cases f:P.info? T with
 | none=>grind
 | some q=>
  rw[f]at d;simp only[IA,O1,Prod.mk.injEq]at d;cases n:q.zero with
  | none=>grind
  | some z=>
   simp_all
variable{K:AV->Prop}{parts:Array (Nat × Operand)}
theorem bj.build(h:bj w0 M S0 N S φ F a w)(b:∀t i,TE t=some i->ix P t i)(c:wt TE F T parts.toList K) :
  ∃av v,K av/\(Instr.build T (parts.map λ(i,x)=>(i,a.eval x))).run P w=.ok v w/\cP w S F (tvs a) NO av v:=by
 unfold wt at c;split at c
 case h_2=>exact c.elim
 rename_i size bytes zero flds f;cases g:HF TE flds with
 | false=>grind
 | true=>
  rw[g]at c;have e:=(b _ _ f).2.1;have l:∀cells:Array Value,cells.toList=zero.map cval->cells.toList=(List.range zero.length).map (λj=>(zero.map cval).getD j undef):=λcells k=>by
   rw[k];apply List.ext_getElem?
   grind
  obtain⟨d,n,cells',o,u,p,y,q⟩:=h.fillP c (qG e S) (l ((zero.map cval).toArray) (by simp));refine⟨_,.agg cells',o,BW b f g λcells k=>?_,?_⟩
  ·have:cells=(zero.map cval).toArray:=ψ
   simp_all
  have r:cells'.size=d.length:=by have:=I1 List.length q;simpa using this
  refine bm.slot (ag:=some d.length) (v:=.agg cells') ⟨rfl,n,?_,p⟩;simp only[mkv]
  congr 1
  grind
theorem EL(k:Nat):∀(n:Nat)(cs:List C)(i:Nat),(chunk k n cs)[i]? = if i<n then some ((cs.drop (i*k)).take k) else none
 | 0,_,i=>by simp[chunk]
 | n+1,cs,0=>by simp[chunk]
 | n+1,cs,i+1=>by
  simp only[chunk,List.getElem?_cons_succ];rw[EL k n,List.drop_drop,show k+i*k=(i+1)*k by rw[Nat.add_mul];omega];by_cases h:i<n
  ·rw[CJ h,CJ ω]
  rw[CI h,CI ω]
theorem ot(k:Nat):∀(n:Nat)(cs:List C),(chunk k n cs).length=n
 | 0,_=>rfl
 | n+1,cs=>by simp[chunk,ot k n]
theorem pn(z:List C):∀n,(rep z n).length=n*z.length
 | 0=>by simp[rep]
 | n+1=>by simp[rep,pn z n,Nat.add_mul];omega
theorem Pw{z:List C} : ∀{n j:Nat},j<n*z.length->(rep z n)[j]? = z[j % z.length]?
 | 0,j,h=>by simp at h
 | n+1,j,h=>by
  rw[Nat.add_mul]at h;simp only[rep];by_cases a:j<z.length
  ·rw[Z8 a,Nat.mod_eq_of_lt a]
  rw[C9 ω,Pw ω];rw[Nat.mod_eq_sub_mod (show j≥z.length by omega)]
variable{n:Nat}{Y:af}
theorem cw.els(h:cw w S Y cs u){k:Nat}(p:cs.length=n*k):∃f,Eu w S Y (chunk k n cs) k u f:=by
 obtain⟨f,t,d,e⟩:=h;have a:∀i,i<n->((cs.drop (i*k)).take k).length=k:=λi b=>by
  have:(i+1)*k<=n*k:=CE k b
  grind
 refine⟨f,λr y=>?_,λq g=>d q (by grind [ot]),λq l g o=>e q l (by grind [ot]) (by grind [ot]),λi j r c b A=>?_⟩
 all_goals grind [List.getElem?_of_mem,EL]
def vC(h:cw w S Y cs u){k e:Nat}(p:cs.length=n*k)(r:0<n){cells:Array Value}(t:cells.toList=(List.range cs.length).map u)(y:∀b o,S b o->b<w.heap.size)(g:∀b o,Y b o->b<w.heap.size) :
  cU (w.alloc (.cells cells e)) S (λb o=>Y b o\/(w.heap.size<=b/\b<(w.alloc (.cells cells e)).heap.size)) (.s .own (chunk k n cs)) (.slice (some ⟨w.heap.size,0,none⟩) n n):=by
 have c:∀j,j<cs.length->(u j).oneCell'=true:=λj A=>h.one A
 obtain⟨f,hE⟩:=h.els p;have d:=hE.keep (je (cQ w (.cells cells e)) y) (je (cQ w (.cells cells e)) g);have a:∀q,q<n*k->cel (w.alloc (.cells cells e)) w.heap.size q=some (u q):=λq i=>by
  rw[kL,<-Array.getElem?_toList,t,Z5,ID ω];rfl
 refine d.own (by rw[ot]) (O5 n) r (λq i=>⟨.inr ⟨O5 _,by rw[mG];omega⟩,⟨_,a q i,c q ω⟩,iO _ _ _ _⟩) a (λb o l=>⟨.inl l,λ⟨B,_⟩=>?_⟩);have:=g b o l;omega
theorem wH{z:List C}(a:lG z)(S:af)(n:Nat):cw w S NO (rep z n) (λj=>(z.map cval).getD (j % z.length) undef):=by
 obtain⟨f,b,-,-⟩:=qG (w:=w) a S;refine⟨λ_=>NO,λj c d=>?_,λ_ _ _ _ h=>h,λ_ _ _ _ _ _ _ h=>h.elim⟩
 grind [pn,Pw,cU.bare,wm]
theorem ix.info{t:Nat}{i:TI}(h:ix P t i):∃q z,P.info? t=some q/\q.zero=some z/\z.cells.toList=i.zero.map cval/\q.size=i.size/\q.bytes=i.bytes:=by
 have:=h.1;cases a:P.info? t with
 | none=>grind
 | some q=>
  simp_all
theorem jA{K:Nat->TI->Prop}(b:∀t i,TE t=some i->ix P t i)(h:L9 TE T K) :
  ∃e a q z,K e a/\TE e=some a/\P.underlying T=some (.slice e)/\ix P e a/\a.zero.length=a.size/\0<a.size/\P.info? e=some q/\q.zero=some z/\z.cells.toList=a.zero.map cval/\q.size=a.size/\q.bytes=a.bytes/\z.cells.size=q.size:=by
 unfold L9 at h;split at h
 case h_2=>exact h.elim
 rename_i e g;split at h
 case h_2=>exact h.elim
 rename_i a d;cases c:(Nat.beq a.zero.length a.size&&Nat.ble 1 a.size) with
 | false=>grind
 | true=>
  rw[c]at h;simp only[I0]at c;obtain⟨q,z,j,k,f,l,n⟩:=(b _ _ d).info;have o:=O3 c.1;exact⟨e,a,q,z,h,d,(b _ _ g).2.2,b _ _ d,o,C2 c.2,j,k,f,l,n,by have:=I1 List.length f;simp at this;omega⟩
def HQ{zero:List C}(a:lG zero):∀x∈zero.map cval,x.oneCell'=true:=by
 induction zero with
 | nil=>simp
 | cons c f e=>
  intro x b;rcases List.mem_cons.1 b with rfl|b
  ·cases c with
   | v x=>exact a.1
   | z=>rfl
   | x=>exact a.elim
   | hd=>exact a.elim
   | s=>exact a.elim
   | m=>exact a.elim
   | it=>exact a.elim
  exact e (by cases c with|v x=>exact a.2|z=>exact a|x=>exact a.elim|s o d=>exact a.elim|m=>exact a.elim|it=>exact a.elim|hd=>exact a.elim) x b
theorem yl{e:Nat}{q:TypeInfo}(a:P.underlying T=some (.slice e))(b:P.info? e=some q):(Instr.buildSlice T 0 #[]).run P w=.ok (.slice (some ⟨w.heap.size,0,none⟩) 0 0) (w.alloc (.cells #[] e)):=by
 simp[Instr.buildSlice,run_underlying a,sizeOf,typeInfo,b,newRow,Instr.fill,Array.range_zero']
theorem rk{zero:List C}{z:Value}(a:z.cells.toList=zero.map cval)(b:0<zero.length)(m:Nat):((Array.range m).map (z.cells[· % z.cells.size]!)).toList=(List.range m).map (λj=>(zero.map cval).getD (j % zero.length) undef):=by grind [Array.toList_map,List.map_congr_left,Nat.mod_lt]
def gH{c:C}(h:cU w S Y c v){F:Nat->AV}{tv:Nat->Value} : cP w S F tv Y (.Y .one [c]) v:=by
 refine⟨NO,Y,λ_ _ h=>h.elim,λ_ _ h=>h,λ_ _ h=>h.elim,rfl,λ_=>Y,λj e a=>?_,λ_ _ _ _ h=>h,λj f a b d=>?_⟩
 ·cases j with
  | zero=>simp at a;subst a;exact h
  | succ j=>simp at a
 simp at a b;omega
theorem bj.buildS(h:bj w0 M S0 N S φ F a w)(k:∀t i,TE t=some i->ix P t i)(H:yV TE F T n parts.toList K) :
  ∃av v w1,K av/\(Instr.buildSlice T n (parts.map λ(i,x)=>(i,a.eval x))).run P w=.ok v w1/\mR w S F a av v w1:=by
 obtain⟨e,l,q,z,f,X,B,J,L,C,D,O,p,g,Q,R⟩:=jA k H;cases d:Nat.ble (n*l.size) 16777216 with
 | false=>grind
 | true=>
  rw[d]at f;have r:=C2 d;simp only[cond_true]at f;split at f
  ·rename_i hparts
   have:parts = #[]:=ψ
   subst this;refine⟨_,_,_,f,by rw[Array.map_empty];exact yl B D,cQ _ _,NO,S,λ_ _ h=>h.elim,λ_ _ h=>h,λ_ _ h=>.inl h,λ_ _ h=>h.elim,?_⟩;exact⟨NO,NO,λ_ _ h=>h,λ_ _ h=>h,λ_ _ _ h=>h,rfl,λ_=>NO,λj c u=>(by cases j with|zero=>simp at u;subst u;exact .z _ _|succ j=>simp at u),λ_ _ _ _ h=>h,ψ⟩
  ·rename_i n
   rw[Nat.succ_eq_add_one]at r;rw[d9]at f;obtain⟨y,Y,cells',E,Z,U,G,V⟩:=h.fillP f (wH J.2.1 S _) (rk p ω (rep l.zero (n+1)).length);rw[rr]at E;have A:y.length=(n+1)*l.size:=by grind [pn]
   refine⟨_,_,_,E,run_buildSlice w T e (n+1) _ cells' q z B D O (by rw[g];omega) ψ ?_,cQ _ _,λb _=>w.heap.size<=b/\b<(w.alloc (.cells cells' e)).heap.size,S,ω,λ_ _ h=>h,λ_ _ h=>.inl h,λb o d W=>?_,?_⟩
   ·rw[g,Array.toList_map]
    rw[pn,L]at G;exact G
   ·have:=(h.sup b o W).1;have:=d.1;omega
   have:=(vC (e:=e) U A ω V (λb o d=>(h.sup b o d).1) (λ_ _ h=>h.elim)).mono (F':=λb o=>w.heap.size<=b/\b<(w.alloc (.cells cells' e)).heap.size) (λ_ _ h=>h) (λb o d=>d.elim (λh=>h.elim) id);exact gH this
  exact f.elim
theorem cU.flat{o:ek}{rows:List (List C)}(h:cU w S Y (.s o rows) v){sz:Nat}(W:∀r∈rows,r.length=sz/\br r=true) :
  ∃b c u,v=.slice b rows.length c/\qb w b (rows.length*sz) ((List.range (rows.length*sz)).map u)/\Eu w S NO rows sz u (λ_=>NO):=by
 have H:∀(g e k:Nat)(u:Nat->Value)(f:Nat->af),(∀r∈rows,r.length=k)->(∀q,q<rows.length*k->cel w g (e+q)=some (u q))->(∀(i j:Nat)(r:List C)(c:C),rows[i]? = some r->r[j]? = some c->cU w S (f (i*k+j)) c (u (i*k+j)))->
   qb w (some ⟨g,e,none⟩) (rows.length*sz) ((List.range (rows.length*sz)).map u)/\Eu w S NO rows sz u (λ_=>NO):=λg e k u f l A Q=>by
  have J:rows≠[]->k=sz:=λK=>by
   obtain⟨r,Q⟩:=List.exists_mem_of_ne_nil _ K
   grind
  refine⟨⟨by simp,ψ,λR j y L B=>?_⟩,ψ,ψ,λ_ _ _ _ _ _ _ h=>h.elim,λi j r c X B=>?_⟩
  ·cases L
   rw[Z5]at B;have D:j<rows.length*sz:=ψ
   rw[ID D]at B;simp only[IA,O1]at B;subst B;rw[iV];refine A j ?_;rw[J ψ];exact D
  grind [cU.bare,tF]
 generalize d:C.s o rows=c0 at h;cases h with
 | v=>cases d
 | x=>cases d
 | hd=>cases d
 | z=>cases d
 | m=>cases d
 | it=>cases d
 | nil F M a N=>
  cases d;exact⟨a,0,λ_=>undef,rfl,⟨by simp,λ_=>by simp,λR j u _ B=>by simp at B⟩,ψ,ψ,ψ,ψ⟩
 | R F g e k n E p u G l t Z A=>
  cases d;subst G;exact⟨_,_,u,rfl,H g e k u (λ_=>NO) l ψ A⟩
 | own F M g k n E p u f N G l t O T P U hd A=>
  cases d;subst G;exact⟨_,_,u,rfl,H g 0 k u f l ψ A⟩
 | suf F M g e k n E p u f N G l t T P U hd A=>
  cases d;subst G;exact⟨_,_,u,rfl,H g e k u f l (λq V=>(P q V).1) A⟩
def bm.rep1{c:C}(h:bm w S Y none [c] v):cU w S Y c v:=by
 obtain⟨-,u,rfl,f,a,b,-⟩:=h;exact(a 0 c rfl).mono (λ_ _ h=>h) (b 0 (by simp))
def xB(h:cU w S Y .z v):∃b,v=.slice b 0 0:=by
 generalize a:C.z=c at h;cases h with
 | z=>exact⟨_,rfl⟩
 | _=>cases a
def mR.same{av:AV}(b:cP w S F (tvs a) NO av v):mR w S F a av v w:=
 ⟨Cj _ _,NO,S,λ_ _ h=>h.elim,λ_ _ h=>h,λ_ _ h=>.inl h,λ_ _ h=>h.elim,b⟩
theorem bj.appP(h:bj w0 M S0 N S φ F a w)(l:∀t i,TE t=some i->ix P t i){ty:Nat}{x y:Operand}(J:NK TE F T x y K) :
  ∃av v w1,K av/\(Builtin.append_ #[T,T] ty #[a.eval x,a.eval y]).run P w=.ok v w1/\mR w S F a av v w1:=by
 obtain⟨e,ie,q,z,d,he,C,L,hl,D,E,O,n,p,Q,r⟩:=jA l J;obtain⟨R,U,Y,d,V,-⟩:=h.val (h.ev x) d
 match R,U,d with
 | none,[.z],d=>
  obtain⟨b,f⟩:=xB V.rep1;obtain⟨ag2,cs2,Y2,d,g,-⟩:=h.val (h.ev y) d;rw[f]
  match ag2,cs2,d with
  | none,[.s o rows],d=>
   obtain⟨W,X,h3,d⟩:=d.out;obtain⟨Z,c2,u2,g,G,hE⟩:=g.rep1.flat W;rw[g];have u:∀x∈z.cells.toList,x.oneCell'=true:=by rw[n];exact HQ L.2.1
   rw[<-p]at G hE;obtain⟨v',H,j,A,k⟩:=tJ (P:=P) (ty:=ty) (S:=S) C E O r u (F:=NO) (rows:=[]) (xr:=rows) (.nil _ _ b tV1) (by simp) hE (c:=c2) G (λ_ _ h=>h.elim) (λ_ _ h=>h.elim) (λ_ _ h=>h.elim) (λ_ _ h=>h.elim) (λb o f=>(h.sup b o f).1) (by simpa using X) ψ;refine⟨_,v',H,d,j,A,λb _=>w.heap.size<=b/\b<H.heap.size,S,ω,λ_ _ h=>h,λ_ _ h=>.inl h,λb o f hS=>by have:=(h.sup b o hS).1;have:=f.1;omega,gH (k.mono (λ_ _ h=>h) (λb o f=>f.elim (λh=>h.elim) (λf=>f.elim (λh=>h.elim) id)))⟩
  | none,[.z],d=>
   obtain⟨Z,B⟩:=xB g.rep1;rw[B];exact⟨_,_,w,d,x6 C E (O5 0),mR.same (gH (Y:=NO) (.z _ _))⟩
end
def zrows(z:List C):Nat->List (List C)
 | 0=>[]
 | n+1=>z::zrows z n
def RR(z:List C):∀n,zrows z n=List.replicate n z
 | 0=>rfl
 | n+1=>by rw[zrows,RR z n];rfl
inductive Mk(l c:Int)(by_:Nat)(z:List C)(K:List (List C)->Prop):Prop
 |mk_ (h:∃n:Nat,l=(n:Nat)/\c=(n:Nat)/\n<=140737488355328/\n*by_<=140737488355328/\∃rows,rows=List.replicate n z/\K rows)
variable{l:Int}
theorem Mk.mk{c:Int}{z:List C}{K:List (List C)->Prop}(n:Nat)(h1:l=(n:Nat))(h2:c=(n:Nat))(a:n<=140737488355328)(b:n*by_<=140737488355328)(d:rows=List.replicate n z)(e:K rows):Mk l c by_ z K:=by refine .mk_ ?_;grind
theorem Mk.out{c:Int}{z:List C}{K:List (List C)->Prop}(h:Mk l c by_ z K):∃n:Nat,l=(n:Nat)/\c=(n:Nat)/\n<=140737488355328/\n*by_<=140737488355328/\K (List.replicate n z):=by
 obtain⟨h⟩:=h;grind
def Dd(F:Nat->AV)(x:Operand)(K:Int->Prop):Prop:=JE F x λv=>match v with|.int _ n=>K n|_=>False
def Px(TE:Nat->Option TI)(F:Nat->AV)(T:Nat)(x y:Operand)(K:AV->Prop):Prop:=
 L9 TE T λ_ b=>Dd F x λl=>Dd F y λc=>Mk l c b.bytes b.zero λa=>K (.Y .one [.s .own a])
inductive Sl(rows:List (List C))(sz:Nat)(l h:Option Int)(K:List (List C)->Prop):Prop
 |mk_ (h:∃x y:Nat,(l=none/\x=0\/l=some ((x:Nat):Int))/\(h=none/\y=rows.length\/h=some ((y:Nat):Int))/\x<=y/\y<=rows.length/\(∀r∈rows,r.length=sz)/\∃rows',rows'=(rows.take y).drop x/\K rows')
variable{rows':List (List C)}
theorem Sl.pre{h:Int}{K:List (List C)->Prop}(y:Nat)(h1:h=(y:Nat))(h2:y<=rows.length)(a:∀r∈rows,r.length=sz)(b:rows'=rows.take y)(c:K rows'):Sl rows sz none (some h) K:=by
 refine .mk_ ?_;grind
def Ca:type_of% @Sl.pre:=@Sl.pre
theorem Sl.suf{K:List (List C)->Prop}(x:Nat)(h1:l=(x:Nat))(h2:x<=rows.length)(a:∀r∈rows,r.length=sz)(b:rows'=rows.drop x)(c:K rows'):Sl rows sz (some l) none K:=by
 refine .mk_ ?_;grind
def Ci:type_of% @Sl.suf:=@Sl.suf
theorem Sl.mid{h:Int}{K:List (List C)->Prop}(x y:Nat)(a:l=(x:Nat))(h1:h=(y:Nat))(h2:x<=y)(b:y<=rows.length)(c:∀r∈rows,r.length=sz)(d:rows'=(rows.take y).drop x)(e:K rows'):Sl rows sz (some l) (some h) K:=by
 refine .mk_ ?_;grind
theorem Sl.out{l h:Option Int}{K:List (List C)->Prop}(a:Sl rows sz l h K):∃x y:Nat,(l=none/\x=0\/l=some ((x:Nat):Int))/\(h=none/\y=rows.length\/h=some ((y:Nat):Int))/\x<=y/\y<=rows.length/\(∀r∈rows,r.length=sz)/\K ((rows.take y).drop x):=by
 obtain⟨a⟩:=a;grind
def M1(F:Nat->AV)(x:Option Operand)(K:Option Int->Prop):Prop:=
 match x with
 | none=>K none
 | some x=>Dd F x λn=>K (some n)
def Ts(TE:Nat->Option TI)(F:Nat->AV)(T:Nat)(x:Operand)(lo c:Option Operand)(K:AV->Prop):Prop:=
 L9 TE T λ_ b=>M1 F lo λl=>M1 F c λh=>jj F (oN F x) λd e=>match d,e with
  | none,[.s .R rows]=>Sl rows b.size l h λa=>K (.Y .one [.s .R a])
  | none,[.z]=>Sl [] b.size l h λ_=>K (.Y .one [.z])
  | _,_=>False
inductive Sx(s:ByteArray)(l h:Option Int)(K:ByteArray->Prop):Prop
 |mk_ (h:∃(x y:Nat)(z:ByteArray),(l=none/\x=0\/l=some ((x:Nat):Int))/\(h=none/\y=s.size\/h=some ((y:Nat):Int))/\x<=y/\y<=s.size/\s.extract x y=z/\K z)
variable{s:ByteArray}
def Sx.mid{z:ByteArray}{n a:Int}{K:ByteArray->Prop}(x y:Nat)(h1:n=x)(h2:a=y)(b:x<=y)(c:y<=s.size)(d:s.extract x y=z)(e:K z):Sx s (some n) (some a) K:=by refine .mk_ ?_;exact⟨x,y,z,.inr (I1 some h1),.inr (I1 some h2),b,c,d,e⟩
def Sx.out{l h:Option Int}{K:ByteArray->Prop}(a:Sx s l h K):∃(x y:Nat)(z:ByteArray),(l=none/\x=0\/l=some ((x:Nat):Int))/\(h=none/\y=s.size\/h=some ((y:Nat):Int))/\x<=y/\y<=s.size/\s.extract x y=z/\K z:=by obtain⟨h⟩:=a;exact h
def WR(F:Nat->AV)(x:Operand)(lo a:Option Operand)(K:AV->Prop):Prop:=
 JE F x λv=>match v with
  | .string s=>M1 F lo λl=>M1 F a λh=>Sx s l h λz=>K (.Y .one [.v (.string z)])
  | _=>False
def byt(s:ByteArray)(i:Nat):Nat:=(s.data.getD i 0).toNat
inductive Sb(s:ByteArray)(n:Int)(K:Int->Prop):Prop
 |mk_ (h:∃i:Nat,n=i/\i<s.size/\K (byt s i))
def Sb.mk{n:Int}(i:Nat)(h1:n=i)(h2:i<s.size)(a:K (byt s i)):Sb s n K:=by refine .mk_ ?_;exact⟨i,h1,h2,a⟩
def Cg:type_of% @Sb.mk:=@Sb.mk
def Sb.out{n:Int}(h:Sb s n K):∃i:Nat,n=i/\i<s.size/\K (byt s i):=by obtain⟨h⟩:=h;exact h
def yr(TE:Nat->Option TI)(T:Nat):Bool:=match TE T with
 | some ⟨_,_,_,.sc .string⟩=>true
 | _=>false
def qA(TE:Nat->Option TI)(F:Nat->AV)(T:Nat)(x:Operand)(lo a:Option Operand)(K:AV->Prop):Prop:=
 bif yr TE T then WR F x lo a K else Ts TE F T x lo a K
def Nb(TE:Nat->Option TI)(F:Nat->AV)(T:Nat)(x y:Operand)(K:AV->Prop):Prop:=
 bif yr TE T then JE F x λv=>match v with
  | .string s=>Dd F y λn=>Sb s n λb=>K (.Y .one [.v (.int .u8 b)])
  | _=>False
 else False
def Wt:Operand->Bool
 | .const (.int .i64 0)=>true
 | _=>false
def VO(TE:Nat->Option TI)(F:Nat->AV)(T:Nat)(x a b:Operand)(K:AV->Prop):Prop:=
 L9 TE T λ_ _=>bif Wt a&&Wt b then jj F (oN F x) λc d=>match c,d with
  | none,[.s _ _]=>K (.Y .one [.z])
  | none,[.z]=>K (.Y .one [.z])
  | _,_=>False
 else False
def tn(TE:Nat->Option TI)(F:Nat->AV)(T:Nat)(x:Operand)(f:Nat)(K:AV->Prop):Prop:=
 match TE T with
 | some ⟨_,_,_,.st flds⟩=>(match flds[f]? with
   | some p=>(match TE p.2 with
     | some i=>jj F (oN F x) λc a=>bif c.isSome&&(i.agg || Nat.beq i.size 1)&&Nat.ble (p.1+i.size) a.length then(bif br (bP a p.1 i.size) then fc (bP a p.1 i.size) λb=>K (.Y (kZ (sD i)) b) else False) else False
     | none=>False)
   | none=>False)
 | _=>False
def zw(TE:Nat->Option TI)(F:Nat->AV)(a b:Nat)(x:Operand)(K:AV->Prop):Prop:=
 match TE a,TE b with
 | some _,some ⟨_,_,_,.sc (.int k)⟩=>Dd F x λn=>Wr k n λz=>K (.Y .one [.v (.int k z)])
 | _,_=>False
def XY(a:Bool)(F:Nat->AV)(x y:Operand)(K:AV->Prop):Prop:=
 JE F x λv=>match v with
  | .int k n=>Dd F y λm=>Ev (if a then(if m > n then m else n) else(if m<n then m else n)) λz=>K (.Y .one [.v (.int k z)])
  | _=>False
section
variable{P:Program}{w0 w w1:World}{M S0 S:af}{N:fF}{φ:Nat->af}{F:Nat->AV}{a:Act}{TE:Nat->Option TI}
variable{x:Operand}
theorem bj.int(h:bj w0 M S0 N S φ F a w){K:Int->Prop}(b:Dd F x K):∃k n,a.eval x=.int k n/\K n:=by
 obtain⟨c,-⟩:=h.scalar b
 grind
theorem EX(z:List C):∀n,chunk z.length n (rep z n)=List.replicate n z
 | 0=>rfl
 | n+1=>by
  simp only[chunk,rep,List.replicate_succ];rw[List.take_left,List.drop_left,EX z n]
variable{K:AV->Prop}{y:Operand}{T:Nat}
theorem bj.make(h:bj w0 M S0 N S φ F a w)(k:∀t i,TE t=some i->ix P t i)(D:Px TE F T x y K) :
  ∃av v w1,K av/\(Instr.makeSlice T (a.eval x) (a.eval y)).run P w=.ok v w1/\mR w S F a av v w1:=by
 obtain⟨e,B,q,z,f,Y,E,G,H,C,J,L,p,r,O,Q⟩:=jA k D;obtain⟨R,l,U,f⟩:=h.int f;obtain⟨V,c,W,f⟩:=h.int f;obtain⟨n,rfl,rfl,Z,h2,f⟩:=f.out;have u:(q.bytes:Int)*(n:Int)<=281474976710656:=ψ
 have d:=run_make (P:=P) w T e q z E J L R V (n:Nat) (n:Nat) ω (Z9 _) u ω;simp only[Z4]at d;rw[U,W];refine⟨_,_,_,f,d,cQ _ _,λb _=>w.heap.size<=b/\b<(w.alloc (.cells (madeCells z.cells (n*q.size)) e)).heap.size,S,ω,λ_ _ h=>h,λ_ _ h=>.inl h,λb o g X=>by have:=(h.sup b o X).1;have:=g.1;omega,gH ?_⟩;rcases Nat.eq_zero_or_pos n with A|A
 ·subst A;exact .nil _ _ _ tV1
 have j:(rep B.zero n).length=n*B.size:=by rw[pn,H]
 have:=(vC (e:=e) (cells:=madeCells z.cells (n*q.size)) (wH (w:=w) G.2.1 S n) j A (by
   have:=rk p ω (n*q.size);rw[j,<-r];exact this) (λb o g=>(h.sup b o g).1) (λ_ _ h=>h.elim)).mono (F':=λb o=>w.heap.size<=b/\b<(w.alloc (.cells (madeCells z.cells (n*q.size)) e)).heap.size) (λ_ _ h=>h) (λb o g=>g.elim (λh=>h.elim) id)
 grind [EX]
theorem oH(h:bj w0 M S0 N S φ F a w){x:Option Operand}{K:Option Int->Prop}(b:M1 F x K):(x=none/\K none)\/∃y k n,x=some y/\a.eval y=.int k n/\K (some n):=by
 cases x with
 | none=>exact .inl ⟨rfl,b⟩
 | some y=>obtain⟨k,n,c,d⟩:=h.int b;grind
variable{l r:Option Int}{lo:Option Operand}{ad:Option Addr}{e:Nat}
theorem ou{sz len cap x y:Nat}{d:Option Operand}(q:P.underlying T=some (.slice e))(F:(P.info? e).map (·.size)=some sz)(f:(lo=none/\l=none)\/∃o k n,lo=some o/\a.eval o=.int k n/\l=some n)(c:(d=none/\r=none)\/∃o k n,d=some o/\a.eval o=.int k n/\r=some n)(G:l=none/\x=0\/l=some ((x:Nat):Int))(H:r=none/\y=len\/r=some ((y:Nat):Int))(t:x<=y)(u:y<=len)(A:len<=cap) :
  (Instr.sliceAt T (.slice ad len cap) (lo.map a.eval) (d.map a.eval) none).run P w=.ok (sliced ad x y cap sz) w:=by
 have g:P.elem T=e:=by grind [Go.Program.elem]
 have b:P.underlying T=some (.slice (P.elem T)):=by rw[g];exact q
 have B:(sizeOf (P.elem T)).run P w=.ok sz w:=by grind [ll]
 rw[run_sliceAt_slice w T _ _ _ _ b];rcases f with⟨rfl,rfl⟩|⟨J,p,C,rfl,K,rfl⟩
 ·have h:x=0:=ψ
  subst h;rcases c with⟨rfl,rfl⟩|⟨D,i,j,rfl,E,rfl⟩
  ·have:y=len:=ψ
   subst this;have:=run_slice_all (P:=P) w T ad y cap b
   simp_all
  have:j=(y:Nat):=ψ
  subst this;have:=run_slice_h (P:=P) w T ad len cap b i (y:Nat) ω ω
  simp_all
 have:C=(x:Nat):=ψ
 subst this;rcases c with⟨rfl,rfl⟩|⟨D,i,j,rfl,E,rfl⟩
 ·have:y=len:=ψ
  subst this;have:=run_slice_l (P:=P) w T ad y cap b p (x:Nat) ω ω
  simp_all
 have:j=(y:Nat):=ψ
 subst this;have:=run_slice_lh (P:=P) w T ad len cap b p i (x:Nat) (y:Nat) ω ω ω
 simp_all
theorem RG{o:Operand}(h:Wt o=true):o=.const (.int .i64 0):=by grind [Wt]
theorem Av{sz len cap:Nat}(d:P.underlying T=some (.slice e))(f:(P.info? e).map (·.size)=some sz) :
  (Instr.sliceAt T (.slice ad len cap) none (some (.int .i64 0)) (some (.int .i64 0))).run P w=.ok (.slice ad 0 0) w:=by
 have b:P.elem T=e:=by grind [Go.Program.elem]
 have a:P.underlying T=some (.slice (P.elem T)):=by rw[b];exact d
 have c:(sizeOf (P.elem T)).run P w=.ok sz w:=by grind [ll]
 rw[run_sliceAt_slice w T _ _ _ _ a];unfold Instr.slice;rw[Sem.run_bind,run_underlying a];simp[Instr.sliceBounds,Instr.sliceBound,asIntOf,c]
theorem bj.slice0(h:bj w0 M S0 N S φ F a w)(g:∀t i,TE t=some i->ix P t i){j k:Operand}(D:VO TE F T x j k K) :
  ∃v,K (.Y .one [.z])/\(Instr.sliceAt T (a.eval x) none (some (a.eval j)) (some (a.eval k))).run P w=.ok v w/\cP w S F (tvs a) NO (.Y .one [.z]) v:=by
 obtain⟨e,O,q,z,c,Q,p,r,-⟩:=jA g D;cases d:Wt j&&Wt k with
 | false=>grind
 | true=>
  rw[d]at c;rw[I0]at d;have E:=RG d.1;have G:=RG d.2;subst E G;obtain⟨H,J,Y,c,⟨R,u,A,f,B,-⟩,-⟩:=h.val (h.ev x) c
  match H,J,c with
  | none,[.s o rows],c=>
   obtain⟨b,l,L⟩:=(B 0 _ rfl).slice;have n:a.eval x=.slice b rows.length l:=A.trans L;rw[n];exact⟨_,c,Av p r.size,gH (.z _ b)⟩
  | none,[.z],c=>
   have C:=B 0 _ rfl;have:∃b,u 0=.slice b 0 0:=by
    generalize u 0=y at C;cases C;exact⟨_,rfl⟩
   obtain⟨b,d⟩:=this;have n:a.eval x=.slice b 0 0:=A.trans d;rw[n];exact⟨_,c,Av p r.size,gH (.z _ b)⟩
theorem bj.sliceR(h:bj w0 M S0 N S φ F a w)(hTE:∀t i,TE t=some i->ix P t i){D:Option Operand}(hp:Ts TE F T x lo D K) :
  ∃av v,K av/\(Instr.sliceAt T (a.eval x) (lo.map a.eval) (D.map a.eval) none).run P w=.ok v w/\cP w S F (tvs a) NO av v:=by
 obtain⟨e,A,q,z,d,he,hu,ht,hl,hpos,hi',hz,hzc,hsz,hby,hzs⟩:=jA hTE hp;have key:∀l r,(jj F (oN F x) λag cs=>match ag,cs with
     | none,[.s .R rows]=>Sl rows A.size l r λy=>K (.Y .one [.s .R y])
     | none,[.z]=>Sl [] A.size l r λ_=>K (.Y .one [.z])
     | _,_=>False)->((lo=none/\l=none)\/∃o k n,lo=some o/\a.eval o=.int k n/\l=some n)->((D=none/\r=none)\/∃o k n,D=some o/\a.eval o=.int k n/\r=some n)->
   ∃av v,K av/\(Instr.sliceAt T (a.eval x) (lo.map a.eval) (D.map a.eval) none).run P w=.ok v w/\cP w S F (tvs a) NO av v:=by
  intro l r d E G;obtain⟨ag,cs,Y,d,hv,-⟩:=h.val (h.ev x) d
  match ag,cs,d with
  | none,[.s .R rows],d=>
   obtain⟨m,n,W,X,Z,h4,h5,d⟩:=d.out;have hr:=hv.rep1;generalize p:C.s .R rows=c0 at hr;generalize a.eval x=vx at hr;cases hr with
   | v=>cases p
   | x=>cases p
   | hd=>cases p
   | z=>cases p
   | m=>cases p
   | it=>cases p
   | own F o' g k n cap y u f ho=>cases p;exact ho.elim
   | suf F o' g H k n cap y u f ho=>cases p;exact ho.elim
   | nil F o' ad ho=>
    cases p;have J:n=0:=by simp at h4;omega
    subst J;have L:m=0:=ω
    subst L;have:=ou (w:=w) (a:=a) (P:=P) (ad:=ad) (cap:=0) (len:=0) hu ht.size E G W (by simpa using X) Z (O5 0) (O5 0);exact⟨_,_,d,this,gH (.nil _ .R _ tV1)⟩
   | R F g H k n' cap y u hn hkk Q hS hc=>
    cases p;subst hn;have:=ou (w:=w) (a:=a) (P:=P) (ad:=some ⟨g,H,none⟩) (cap:=cap) (len:=rows.length) hu ht.size E G W X Z h4 Q;refine⟨_,_,d,this,gH ?_⟩;unfold sliced;by_cases he:cap=m
    ·rw[CJ he]
     have hnm:n=m:=ω
     subst hnm;rw[show cap - n=0 by omega,Nat.sub_self];rw[show(rows.take n).drop n=[] by simp];exact .nil _ _ _ tV1
    rw[CI he];simp only[IA,iV];have R:((rows.take n).drop m).length=n - m:=by simp;omega
    have U:∀(i:Nat)(r:List C),((rows.take n).drop m)[i]? = some r->rows[m+i]? = some r:=ψ
    have V:rows≠[]->k=A.size:=λB=>by grind [List.exists_mem_of_ne_nil]
    refine .R _ g (H+m*A.size) A.size (n - m) (cap - m) _ (λq=>u (m*A.size+q)) R (λr hr=>?_) ω (λq hq=>?_) (λi j r c D hj=>?_)
    ·grind
    ·have B:rows≠[]:=ψ
     have O:=V B;subst O;rw[Nat.add_assoc];refine hS _ ?_;have:(n - m)*A.size+m*A.size<=rows.length*A.size:=by rw[<-Nat.add_mul];exact CE A.size ω
     omega
    have hi':=U i r D;have B:rows≠[]:=ψ
    have O:=V B;subst O
    grind
  | none,[.z],d=>
   obtain⟨m,n,W,X,Z,h4,h5,d⟩:=d.out;obtain⟨b,hb⟩:=xB hv.rep1;have J:n=0:=by simp at h4;omega
   subst J;have L:m=0:=ω
   subst L;have:=ou (w:=w) (a:=a) (P:=P) (ad:=b) (cap:=0) (len:=0) hu ht.size E G W (by simpa using X) Z (O5 0) (O5 0);rw[hb];exact⟨_,_,d,this,gH (.z _ _)⟩
 rcases oH h d with⟨e1,d⟩|⟨o1,k1,n1,e1,e2,d⟩
 ·rcases oH h d with⟨e3,d⟩|⟨o2,k2,n2,e3,e4,d⟩
  ·exact key _ _ d ψ ψ
  exact key _ _ d ψ ψ
 rcases oH h d with⟨e3,d⟩|⟨o2,k2,n2,e3,e4,d⟩
 ·exact key _ _ d ψ ψ
 exact key _ _ d ψ ψ
variable{s:ByteArray}
theorem VB{b:Option Operand}{x y:Nat}(e:P.underlying T=some .string)(c:(lo=none/\l=none)\/∃o k n,lo=some o/\a.eval o=.int k n/\l=some n)(d:(b=none/\r=none)\/∃o k n,b=some o/\a.eval o=.int k n/\r=some n)(h:l=none/\x=0\/l=some ((x:Nat):Int))(i:r=none/\y=s.size\/r=some ((y:Nat):Int))(f:x<=y)(g:y<=s.size) :
  (Instr.sliceAt T (.string s) (lo.map a.eval) (b.map a.eval) none).run P w=.ok (.string (s.extract x y)) w:=by
 rw[run_sliceAt_string w T _ _ _ _ e];have j:x<=s.size:=ω
 rcases c with⟨rfl,rfl⟩|⟨p,q,t,rfl,u,rfl⟩<;>rcases d with⟨rfl,rfl⟩|⟨A,B,C,rfl,D,rfl⟩<;>simp_all[Instr.slice,Instr.sliceBounds,Instr.sliceBound,asIntOf,run_underlying e]
def EP{TE:Nat->Option TI}(a:∀t i,TE t=some i->ix P t i)(b:yr TE T=true):P.underlying T=some .string:=by
 unfold yr at b;split at b
 ·rename_i c;exact(a _ _ c).2.2.1
 cases b
theorem bj.slice(h:bj w0 M S0 N S φ F a w)(d:∀t i,TE t=some i->ix P t i){c:Option Operand}(e:qA TE F T x lo c K) :
  ∃av v,K av/\(Instr.sliceAt T (a.eval x) (lo.map a.eval) (c.map a.eval) none).run P w=.ok v w/\cP w S F (tvs a) NO av v:=by
 unfold qA at e;cases g:yr TE T with
 | false=>rw[g]at e;exact h.sliceR d e
 | true=>
  rw[g]at e;obtain⟨f,p⟩:=h.scalar (show WR F x lo c K from e);generalize a.eval x=q at f;cases q with
  | string s=>
   have key:∀(l r:Option Int),Sx s l r (λz=>K (.Y .one [.v (.string z)]))->((lo=none/\l=none)\/∃o k n,lo=some o/\a.eval o=.int k n/\l=some n)->((c=none/\r=none)\/∃o k n,c=some o/\a.eval o=.int k n/\r=some n)->
     ∃av v,K av/\(Instr.sliceAt T (.string s) (lo.map a.eval) (c.map a.eval) none).run P w=.ok v w/\cP w S F (tvs a) NO av v:=λl r f p u=>by
    obtain⟨x,y,z,A,B,C,D,rfl,b⟩:=f.out;exact⟨_,_,b,VB (EP d g) p u A B C D,gH (.v _ _ rfl)⟩
   rcases oH h f with⟨E,b⟩|⟨O,Q,R,E,U,b⟩
   ·rcases oH h b with⟨j,b⟩|⟨G,H,J,j,L,b⟩
    ·exact key _ _ b ψ ψ
    exact key _ _ b ψ ψ
   rcases oH h b with⟨j,b⟩|⟨G,H,J,j,L,b⟩
   ·exact key _ _ b ψ ψ
   exact key _ _ b ψ ψ
  | _=>exact f.elim
def Vx{i:Nat}(a:i<s.size):∃b:UInt8,s[i]? = some b/\b.toNat=byt s i:=by
 refine⟨s[i],getElem?_pos s i a,?_⟩;unfold byt;rw[ZC,OC a]
 rfl
def bj.idx(h:bj w0 M S0 N S φ F a w)(e:∀t i,TE t=some i->ix P t i)(c:Nb TE F T x y K) :
  ∃v,K (.Y .one [.v v])/\v.oneCell'=true/\(Instr.index T (a.eval x) (a.eval y)).run P w=.ok v w:=by
 unfold Nb at c;cases f:yr TE T with
 | false=>rw[f]at c;exact c.elim
 | true=>
  rw[f]at c;obtain⟨d,-⟩:=h.scalar c;generalize a.eval x=g at d;cases g with
  | string s=>
   obtain⟨k,n,j,d⟩:=h.int d;obtain⟨i,rfl,l,o⟩:=d.out;obtain⟨b,p,q⟩:=Vx l;refine⟨_,o,rfl,?_⟩;rw[j,<-q];simp[Instr.index,asIntOf,run_underlying (EP e f),p]
  | _=>exact d.elim
theorem Re{i:TI}(c:ix P T i)(e:(i.agg || Nat.beq i.size 1)=true){cells:Array Value}{off:Nat}{u:Nat->Value}(f:∀d,d<i.size->cells[off+d]? = some (u d)) :
  (part T cells off).run P w=.ok (mkv (sD i) u) w:=by
 have b:=c.isAgg (w:=w);unfold part sD;cases a:i.agg with
 | true=>
  rw[a]at b;have g:cells.extract off (off+i.size)=((List.range i.size).map u).toArray:=by
   apply Array.ext';apply List.ext_getElem?
   grind
  simp[b,ll c.size,mkv,g]
 | false=>
  rw[a]at b e;have h:i.size=1:=by simpa using e
  have:=f 0 ω;simp only[Nat.add_zero]at this;simp[b,this,mkv]
theorem bj.field(h:bj w0 M S0 N S φ F a w)(c:∀t i,TE t=some i->ix P t i){f:Nat}(b:tn TE F T x f K) :
  ∃av v,K av/\(Instr.field T (a.eval x) f).run P w=.ok v w/\cP w S F (tvs a) NO av v:=by
 unfold tn at b;split at b
 case h_2=>exact b.elim
 rename_i flds G;split at b
 case h_2=>exact b.elim
 rename_i p H;split at b
 case h_2=>exact b.elim
 rename_i i J;obtain⟨C,l,Y,e,L,-⟩:=h.val (h.ev x) b;cases n:(C.isSome&&(i.agg || Nat.beq i.size 1)&&Nat.ble (p.1+i.size) l.length) with
 | false=>grind
 | true=>
  rw[n]at e;simp only[cond_true]at e;simp only[I0]at n;obtain⟨⟨o,q⟩,r⟩:=n;have O:=C2 r;cases D:br (bP l p.1 i.size) with
  | false=>grind
  | true=>
   rw[D]at e;simp only[cond_true,d9]at e;obtain⟨Q,R,U⟩:=(c _ _ G).2.2;have y:=c _ _ J;cases C with
   | none=>cases o
   | some m=>
    obtain⟨E,u,A,V⟩:=L;simp only[Option.getD_some]at E;subst E;have g:bm w S Y (sD i) (bP l p.1 i.size) (mkv (sD i) λd=>u (p.1+d)):=⟨by grind [qZ,bP],_,rfl,V.part p.1 _⟩
    refine⟨_,_,e,?_,(g.bare D).slot⟩;obtain⟨k,j,B⟩ : ∃k,Q[f]? = some k/\(k.offset,k.type)=p:=ψ
    subst B;rw[A];simp only[Instr.field,Sem.run_bind,run_underlying R,Result.andThen_ok,j,mkv,asAgg,Sem.run_pure];exact Re y q ψ
theorem bj.conv(h:bj w0 M S0 N S φ F a w)(b:∀t i,TE t=some i->ix P t i){l:Nat}(c:zw TE F e l x K) :
  ∃v,K (.Y .one [.v v])/\v.oneCell'=true/\(Go.convert e l (a.eval x)).run P w=.ok v w:=by
 unfold zw at c;split at c
 ·rename_i r _ _ _ k o p
  obtain⟨u,n,q,f⟩:=h.int c;obtain⟨z,rfl,f⟩:=f.out;have g:=(b _ _ p).2.2.1;obtain⟨d,j⟩ : ∃d,P.underlying e=some d:=by
   have:=(b _ _ o).2.2
   grind
  refine⟨_,f,rfl,?_⟩;rw[q];simp[Go.convert,run_underlying j,run_underlying g,Conv.intToInt]
 exact c.elim
def bj.mm(h:bj w0 M S0 N S φ F a w){c:Bool}{ts:Array TypeId}{ty:Nat}(e:XY c F x y K) :
  ∃v,K (.Y .one [.v v])/\v.oneCell'=true/\(if c then(Builtin.max_ ts ty #[a.eval x,a.eval y]) else(Builtin.min_ ts ty #[a.eval x,a.eval y])).run P w=.ok v w:=by
 obtain⟨d,-⟩:=h.scalar e;cases f:a.eval x<;>rw[f]at d<;>try exact d.elim
 obtain⟨k,m,g,b⟩:=h.int d;obtain⟨z,rfl,b⟩:=b.out;rw[g];cases c with
 | true=>exact⟨_,b,rfl,by simp[run_max_int2]⟩
 | false=>exact⟨_,b,rfl,by simp[run_min_int2]⟩
end
def mlook:List (Int × Value)->Int->Value->Value
 | [],_,d=>d
 | p::es,k,d=>if p.1=k then p.2 else mlook es k d
def mput:List (Int × Value)->Int->Value->List (Int × Value)
 | [],k,v=>[(k,v)]
 | p::es,k,v=>if p.1=k then(k,v)::es else p::mput es k v
inductive Ml(es:List (Int × Value))(k:Int)(d:Value)(K:Value->Prop):Prop
 |mk_ (h:∃v,mlook es k d=v/\K v)
variable{k:Int}
def Ml.mk{a:List (Int × Value)}{d:Value}{K:Value->Prop}(h:mlook a k d=v)(b:K v):Ml a k d K:=.mk_ ⟨v,h,b⟩
def Ml.out{a:List (Int × Value)}{d:Value}{K:Value->Prop}(h:Ml a k d K):K (mlook a k d):=by
 obtain⟨v,rfl,h⟩:=h;exact h
inductive Mu(es:List (Int × Value))(k:Int)(v:Value)(K:List (Int × Value)->Prop):Prop
 |mk_ (h:∃es',es'=mput es k v/\K es')
def Mu.mk{a es':List (Int × Value)}{K:List (Int × Value)->Prop}(h:es'=mput a k v)(b:K es'):Mu a k v K:=.mk_ ⟨es',h,b⟩
def Mu.out{a:List (Int × Value)}{K:List (Int × Value)->Prop}(h:Mu a k v K):K (mput a k v):=by
 obtain⟨v,rfl,h⟩:=h;exact h
def vY(TE:Nat->Option TI)(T:Nat)(r:Option Operand)(K:AV->Prop):Prop:=
 match TE T,r with
 | some ⟨_,_,_,.mp _ _ _⟩,none=>K (.Y .one [.m []])
 | _,_=>False
def AZ(TE:Nat->Option TI)(F:Nat->AV)(T:Nat)(x y:Operand)(ok:Bool)(K:AV->Prop):Prop:=
 match TE T with
 | some ⟨_,_,_,.mp _ _ d⟩=>bif ok then False else jj F (oN F x) λa b=>match a,b with
  | none,[.m es]=>JE F y λv=>match v with
   | .int .i64 z=>Ml es z d λc=>K (.Y .one [.v c])
   | _=>False
  | _,_=>False
 | _=>False
def putMap(F:Nat->AV)(t off:Nat)(z:Int)(v:Value)(K:(Nat->AV)->Prop):Prop:=
 match F t with
 | .Y k c=>match c[off]? with
  | some (.m es)=>Mu es z v λa=>fc (splice c off [.m a]) λb=>K (updH F t k b)
  | _=>False
 | _=>False
def pZ(TE:Nat->Option TI)(F:Nat->AV)(T:Nat)(x y v:Operand)(K:(Nat->AV)->Prop):Prop:=
 match TE T with
 | some ⟨_,_,_,.mp _ _ _⟩=>JE F y λb=>JE F v λa=>match b with
  | .int .i64 z=>(match x with
    | .tmp s=>(match F s with
      | .c5 t off [] none=>putMap F t off z a K
      | .Y .one _=>putMap F s 0 z a K
      | _=>False)
    | _=>False)
  | _=>False
 | _=>False
def mfind:List (Int × Value)->Int->Nat->Option (Nat × Value)
 | [],_,_=>none
 | p::es,k,i=>if p.1=k then some (i,p.2) else mfind es k (i+1)
section
variable{P:Program}{w0 w w1:World}{M S0 S:af}{N:fF}{φ:Nat->af}{F:Nat->AV}{a:Act}{TE:Nat->Option TI}
theorem uf(z:Int):∀(l:List MapEntry)(a:List (Int × Value))(i:Nat),l.map (λe=>(e.key,e.val))=a.map (λp=>(Value.int .i64 p.1,p.2))->Instr.findNow (.int .i64) (.int .i64 z) l i=some (mfind a z i)
 | [],a,i,h=>by
  cases a with
  | nil=>rfl
  | cons _ _=>simp at h
 | e::l,a,i,h=>by
  cases a with
  | nil=>simp at h
  | cons p a=>
   simp only[SB,List.cons.injEq,Prod.mk.injEq]at h;obtain⟨⟨c,d⟩,b⟩:=h;have f:=uf z l a (i+1) b
   grind [Go.Instr.findNow,Go.Instr.sameNow,mfind]
def Bg(d:Value):∀(a:List (Int × Value))(z:Int)(i:Nat),mlook a z d=((mfind a z i).map (·.2)).getD d
 | [],z,i=>rfl
 | p::a,z,i=>by
  simp only[mlook,mfind];split
  ·rfl
  exact Bg d a z (i+1)
variable{c:Array MapEntry}{b:Nat}
theorem rO{a:Nat}(h:mp w b=some (.map c a)):w.heap[b]? = some (.map c a):=by grind [mp]
theorem Gy{s c:Nat}{m:Option Nat}{seen:Array Nat}(h:mp w b=some (.mapIter m s seen c)):w.heap[b]? = some (.mapIter m s seen c):=by grind [mp]
variable{T:Nat}
theorem Uf{i g:Nat}{d:Value}(k:P.underlying T=some (.map i g))(l:P.underlying i=some (.int .i64))(j:(P.info? g).bind (·.zero)=some d){c:Nat}{a:Array MapEntry}{f:List (Int × Value)}(u:mp w b=some (.map a c))(y:a.toList.map (λe=>(e.key,e.val))=f.map (λp=>(Value.int .i64 p.1,p.2)))(z:Int):(Instr.lookup T (.map (some b)) (.int .i64 z) false).run P w=.ok (mlook f z d) w:=by
 have n:=MapKept.run_getObj_map (P:=P) (rO u);have o:∀e,(Instr.checkKey e 10000 i (.int .i64 z)).run P w=.ok () w:=λe=>MapKept.run_checkKey l (show MapKept.IsKey (.int .i64) (.int .i64 z) from rfl) e 9999
 have h:=MapKept.run_findKey (P:=P) (w:=w) l (uf z a.toList f 0 y);have A:(zeroValue g).run P w=.ok d w:=by
  cases r:P.info? g with
  | none=>grind
  | some q=>rw[r]at j;simp only[Option.bind_some]at j;simp[zeroValue,typeInfo,r,j]
 rw[Bg d f z 0];cases t:mfind f z 0 with
 | none=>rw[t]at h;simp[Instr.lookup,run_underlying k,n,o,h,A,Result.andThen]
 | some p=>rw[t]at h;simp[Instr.lookup,run_underlying k,n,o,h,Result.andThen]
theorem E2{d:Value}(b:d.oneCell'=true):∀{a:List (Int × Value)}(z:Int),(∀p∈a,p.2.oneCell'=true)->(mlook a z d).oneCell'=true
 | [],_,_=>b
 | p::a,z,h=>by
  simp only[mlook];split
  ·grind
  exact E2 b z ψ
def stamps(a:Array MapEntry)(n:Nat):Prop:=(a.toList.map (·.born)).Nodup/\∀x∈a.toList,x.born<n
theorem Kp{a:Array MapEntry}{n:Nat}(h:stamps a n)(k v:Value):stamps (a.push {key:=k,val:=v,born:=n}) (n+1):=by
 obtain⟨b,c⟩:=h;refine⟨?_,λy d=>?_⟩
 all_goals grind
theorem yp{g:MapEntry->MapEntry}(a:∀e,(g e).born=e.born):∀(l:List MapEntry)(i:Nat),(l.modify i g).map (·.born)=l.map (·.born)
 | [],i=>by cases i<;>rfl
 | e::l,0=>by rw[List.modify_zero_cons,SB,SB,a]
 | e::l,i+1=>by rw[List.modify_succ_cons,SB,SB,yp a l i]
theorem Ka{a ents':Array MapEntry}{n:Nat}(h:stamps a n)(b:ents'.toList.map (·.born)=a.toList.map (·.born)):stamps ents' n:=by
 refine⟨by rw[b];exact h.1,λy d=>?_⟩;have:y.born∈a.toList.map (·.born):=ψ
 obtain⟨z,c,e⟩:=O8.1 this;rw[<-e];exact h.2 z c
def R8{Y:af}{f:List (Int × Value)}{v:Value}(h:cU w S Y (.m f) v):∃b a d,v=.map (some b)/\(∀o,Y b o)/\mp w b=some (.map d a)/\d.toList.map (λe=>(e.key,e.val))=f.map (λp=>(Value.int .i64 p.1,p.2))/\(∀p∈f,p.2.oneCell'=true)/\stamps d a:=by
 generalize i:C.m f=c at h;cases h with
 | m _ b a j d k l n q g=>cases i;exact⟨b,a,d,rfl,k,l,n,q,g⟩
 | _=>cases i
theorem bj.look(h:bj w0 M S0 N S φ F a w)(d:∀t i,TE t=some i->ix P t i){x y:Operand}{ok:Bool}{K:AV->Prop}(c:AZ TE F T x y ok K) :
  ∃v,K (.Y .one [.v v])/\v.oneCell'=true/\(Instr.lookup T (a.eval x) (a.eval y) ok).run P w=.ok v w:=by
 unfold AZ at c;split at c
 case h_2=>exact c.elim
 rename_i o;obtain⟨A,B,C,p⟩:=(d _ _ o).2.2;cases ok with
 | true=>exact c.elim
 | false=>
  obtain⟨q,r,Y,e,u,-⟩:=h.val (h.ev x) c
  match q,r,e with
  | none,[.m es],e=>
   obtain⟨f,-⟩:=h.scalar e;cases g:a.eval y with
   | int k z=>
    rw[g]at f;cases k with
    | i64=>
     obtain⟨b,j,n,D,-,E,G,l,-⟩:=R8 u.rep1;exact⟨_,f.out,E2 p z l,by grind [Uf]⟩
    | _=>exact f.elim
   | _=>grind
theorem ux{o:Obj}(c:b<w.heap.size)(a:Nat):({w with heap:=w.heap.setIfInBounds b o} : World).heap[a]? = if a=b then some o else w.heap[a]?:=ψ
theorem Ke(z:Int)(v:Value)(a:Nat):∀(l:List MapEntry)(b:List (Int × Value))(i:Nat),l.map (λe=>(e.key,e.val))=b.map (λp=>(Value.int .i64 p.1,p.2))->
  (match mfind b z i with
    | some p=>i<=p.1/\p.1 - i<l.length/\(l[p.1 - i]?).map (·.key)=some (.int .i64 z)/\(l.modify (p.1 - i) λe=>{e with key:=.int .i64 z,val:=v}).map (λe=>(e.key,e.val))=(mput b z v).map (λp=>(Value.int .i64 p.1,p.2))
    | none=>(l++[({key:=.int .i64 z,val:=v,born:=a} : MapEntry)]).map (λe=>(e.key,e.val))=(mput b z v).map (λp=>(Value.int .i64 p.1,p.2)))
 | [],b,i,h=>by
  cases b with
  | nil=>rfl
  | cons _ _=>simp at h
 | e::l,b,i,h=>by
  cases b with
  | nil=>simp at h
  | cons p b=>
   simp only[SB,List.cons.injEq,Prod.mk.injEq]at h;obtain⟨⟨d,f⟩,c⟩:=h;have g:=Ke z v a l b (i+1) c
   grind [mfind,mput]
theorem UT{j y:Nat}(l:P.underlying T=some (.map j y))(n:P.underlying j=some (.int .i64)){a:Nat}{f:List (Int × Value)}(A:mp w b=some (.map c a))(o:c.toList.map (λe=>(e.key,e.val))=f.map (λp=>(Value.int .i64 p.1,p.2)))(d:stamps c a)(z:Int)(v:Value):∃ents' clock',stamps ents' clock'/\(Instr.mapUpdate T (.map (some b)) (.int .i64 z) v).run P w=.ok () {w with heap:=w.heap.setIfInBounds b (.map ents' clock')}/\
   ents'.toList.map (λe=>(e.key,e.val))=(mput f z v).map (λp=>(Value.int .i64 p.1,p.2)):=by
 have k:=rO A;have r:=MapKept.run_getObj_map (P:=P) k;have t:∀e,(Instr.checkKey e 10000 j (.int .i64 z)).run P w=.ok () w:=λe=>MapKept.run_checkKey n (show MapKept.IsKey (.int .i64) (.int .i64 z) from rfl) e 9999
 have i:=MapKept.run_findKey (P:=P) (w:=w) n (uf z c.toList f 0 o);have g:=Ke z v a c.toList f 0 o;cases u:mfind f z 0 with
 | none=>
  rw[u]at i g;simp only at g;refine⟨c.push {key:=.int .i64 z,val:=v,born:=a},a+1,Kp d _ _,?_,ψ⟩;simp[Instr.mapUpdate,run_underlying l,r,t,i,Result.andThen,MapKept.run_setObj_map _ k]
 | some q=>
  rw[u]at i g;simp only[Nat.sub_zero]at g;obtain⟨-,B,C,D⟩:=g;refine⟨c.modify q.1 λe=>{e with key:=.int .i64 z,val:=v},a,Ka d (by grind [yp]),?_,ψ⟩;have h:((c[q.1]?).map (·.key)).getD (.int .i64 z)=.int .i64 z:=ψ
  have d:(Instr.keyThatStays (.int .i64 z) (.int .i64 z)).run P w=.ok (.int .i64 z) w:=by
   have:Instr.sameBits 10000 (.int .i64 z) (.int .i64 z)=true:=by grind [Go.Instr.sameBits]
   simp[Instr.keyThatStays,this]
  simp[Instr.mapUpdate,run_underlying l,r,t,i,Result.andThen,h,d,MapKept.run_setObj_map _ k]
theorem J4{v:Value}(c:v.oneCell'=true):∀{b:List (Int × Value)}(z:Int),(∀p∈b,p.2.oneCell'=true)->∀p∈mput b z v,p.2.oneCell'=true
 | [],z,_,p,a=>by grind [mput]
 | q::b,z,h,p,a=>by
  simp only[mput]at a;split at a
  ·grind
  rcases List.mem_cons.1 a with rfl|a
  ·grind
  exact J4 c z ψ p a
def bj.putMap(h:bj w0 M S0 N S φ F a w){kt et:Nat}(hT:P.underlying T=some (.map kt et))(hk:P.underlying kt=some (.int .i64)){t off:Nat}{z:Int}{v:Value}(hv:v.oneCell'=true){K:(Nat->AV)->Prop}(y:Ab.putMap F t off z v K){x:Value}(hx:∀k B,F t=.Y k B->x=co w k (tvs a t) off):∃F' w1,K F'/\(Instr.mapUpdate T x (.int .i64 z) v).run P w=.ok () w1/\St w0 M S0 N F' a w1:=by
 unfold Ab.putMap at y;split at y
 case h_2=>exact y.elim
 rename_i k B U;split at y
 case h_2=>exact y.elim
 rename_i es hc;have hK:=y.out;simp only[d9]at hK;have i:=(C4.1 hc).1;have hs:=h.slot t;rw[U]at hs;obtain⟨V,Y,e1,D,e3,e4,f,f1,A,f3⟩:=hs;obtain⟨b,W,ents,E,l,O,he,Z,hst⟩:=R8 (f1 off _ hc);obtain⟨ents',clock',G,H,he'⟩:=UT (P:=P) hT hk O he hst z v;have hlt:b<w.heap.size:=(h.ex t b 0 (D _ _ (A off i _ _ (l 0)))).1;have Q:=λd=>ux (w:=w) (b:=b) (o:=.map ents' clock') hlt d
 let w1:World:={w with heap:=w.heap.setIfInBounds b (.map ents' clock')}
 have hother:∀d,d≠b->∀o,cel w1 d o=cel w d o/\fro w1 d o=fro w d o:=λd hne o=>by
  have g:w1.heap[d]? = w.heap[d]?:=(Q d).trans (CI hne);refine⟨?_,Prod.ext ?_ ?_⟩
  ·show World.cell? w1 _=World.cell? w _
   unfold World.cell?;simp only[g]
  ·show World.frozen? w1 _=World.frozen? w _
   unfold World.frozen?;simp only[g]
  show mp w1 d=mp w d;unfold mp;rw[g]
 have u:∀o,cel w1 b o=cel w b o:=λo=>by
  have h1:w1.heap[b]? = some (.map ents' clock'):=(Q b).trans (CJ rfl);have h2:=rO O;show World.cell? w1 _=World.cell? w _;unfold World.cell?;simp[h1,h2]
 have hk1:bu (φ t) w w1:=by
  refine⟨rfl,rfl,rfl,by simp[w1],λd g R=>(Q d).trans (CI λe=>?_),λd o g R=>?_,λd o g R=>?_⟩
  ·subst e;exact R 0 (D _ _ (A off i _ _ (l 0)))
  ·by_cases e:d=b
   ·subst e;exact u o
   exact(hother d e o).1
  by_cases e:d=b
  ·subst e;exact absurd (D _ _ (A off i _ _ (l o))) R
  exact(hother d e o).2
 have n:∀X:af,(∀d o,X d o->d≠b)->b8 X w w1:=λX hX d o g=>hother d (hX d o g) o
 have J:b8 V w w1:=n V λd o g e=>by subst e;exact e3 d o g (A off i _ _ (l o))
 have hS1:b8 S w w1:=n S λd o g e=>by subst e;exact h.disS t _ _ (D _ _ (A off i _ _ (l o))) g
 have r:=mc e4 J;have hsl:(splice B off [.m (mput es z v)]).length=B.length:=db kd;refine⟨_,w1,hK,?_,S,_,h.upd (X:=φ t) hk1 U (λb o O=>.inl O) ⟨V,Y,e1,D,e3,?_,f,λj c p=>?_,λj p=>A j ω,λj j' p hj'=>f3 j j' ω ω⟩⟩
 ·rw[hx k B U,E];exact H
 ·rw[hsl]
  exact e4.keep J (λ_ _ h=>h)
 rw[kw kd]at p;by_cases q:off<=j/\j<off+[C.m (mput es z v)].length
 ·rw[CJ q]at p
  simp only[List.length_cons,List.length_nil]at q;obtain rfl:j=off:=ω
  simp only[Nat.sub_self,List.getElem?_cons_zero,O1]at p;subst p;rw[r j i,E];exact .m _ b clock' _ ents' l (by show mp w1 b=_;unfold mp;rw[(Q b).trans (CJ rfl)]) he' (J4 hv z Z) G
 rw[CI q]at p;have L:=(C4.1 p).1;rw[r j L];simp only[List.length_cons,List.length_nil]at q;exact(f1 j c p).keep hS1 (n (f j) λd o g e=>by subst e;exact f3 j off L i ω _ _ g (l o))
def bj.mapUpd(h:bj w0 M S0 N S φ F a w)(l:∀t i,TE t=some i->ix P t i){x y v:Operand}{K:(Nat->AV)->Prop}(g:pZ TE F T x y v K) :
  ∃F' w1,K F'/\(Instr.mapUpdate T (a.eval x) (a.eval y) (a.eval v)).run P w=.ok () w1/\St w0 M S0 N F' a w1:=by
 unfold pZ at g;split at g
 case h_2=>exact g.elim
 rename_i q;obtain⟨o,p,-,-⟩:=(l _ _ q).2.2;obtain⟨u,-⟩:=h.scalar g;obtain⟨b,c⟩:=h.scalar u;cases d:a.eval y with
 | int k z=>
  rw[d]at b;cases k with
  | i64=>
   simp only at b;cases x with
   | tmp s=>
    simp only at b;have f:=h.slot s;split at b
    ·rename_i t A n
     rw[n]at f;obtain⟨k,B,r,j,C,H,J,D⟩:=f;refine h.putMap o p c b λE G e=>?_
     rw[C]at e;cases e;exact D
    ·rename_i B n
     refine h.putMap o p c b λE G e=>?_
     rw[n]at e;cases e
     rfl
    exact b.elim
   | _=>exact b.elim
  | _=>exact b.elim
 | _=>rw[d]at b;exact b.elim
theorem bj.makeMap(h:bj w0 M S0 N S φ F a w)(_hTE:∀t i,TE t=some i->ix P t i){r:Option Operand}{K:AV->Prop}(c:vY TE T r K) :
  ∃av v w1,K av/\(Instr.makeMap T (r.map a.eval)).run P w=.ok v w1/\mR w S F a av v w1:=by
 unfold vY at c;split at c
 case h_2=>exact c.elim
 refine⟨_,_,_,c,run_makeMap T w,cQ w _,λb _=>b=w.heap.size,S,λb o e=>⟨by simp_all,ω⟩,λ_ _ h=>h,λ_ _ h=>.inl h,λb o e d=>?_,?_⟩
 ·have:=(h.sup b o d).1;omega
 refine gH (.m _ w.heap.size 0 [] #[] (λ_=>rfl) ?_ rfl ψ ψ)
 grind [Go.heap_alloc_new,mp]
end
end Go.Proofs.YtfdfgipemcbekaaGreatDoor.Ab
