/- Abstract cells: data as trees, what it means that a value of the model's memory holds such a tree, and how that lasts. No condition. -/
import Derived.RowKit3
import Derived.WalkKit
import Derived.Handy
import Derived.Laws.Cells
import Derived.Laws.IdiomCopy
import Derived.Maps.RangeRun
import Derived.Below
import Derived.Laws.MakeOwn
import Derived.Laws.Append
import Derived.Laws.AppendOwn
import Derived.Laws.Tables
import Derived.Great.BuildSlice
import Derived.Laws.Slices
import Derived.Laws.Small
import Derived.MapKept
import Derived.Carry
set_option linter.unusedVariables false
set_option linter.unusedSimpArgs false
set_option linter.constructorNameAsVariable false
namespace Go.Proofs.YtembpgjjnioagaaGreat.Ab
theorem C0:type_of% @decide_eq_true_eq:=@decide_eq_true_eq
theorem I0:type_of% @Bool.and_eq_true:=@Bool.and_eq_true
theorem O0:type_of% @decide_eq_true:=@decide_eq_true
theorem P0:type_of% @decide_eq_false:=@decide_eq_false
theorem Q0:type_of% @Nat.zero_le:=@Nat.zero_le
theorem R0:type_of% @congrArg:=@congrArg
theorem T0:type_of% @Option.some.injEq:=@Option.some.injEq
theorem U0:type_of% @List.length_map:=@List.length_map
theorem W0:type_of% @Nat.le_of_ble_eq_true:=@Nat.le_of_ble_eq_true
theorem X0:type_of% @List.mem_singleton:=@List.mem_singleton
theorem Z0:type_of% @List.length_set:=@List.length_set
theorem C1:type_of% @List.length_take:=@List.length_take
theorem I1:type_of% @List.mem_cons_self:=@List.mem_cons_self
theorem O1:type_of% @List.mem_of_getElem?:=@List.mem_of_getElem?
theorem P1:type_of% @Nat.eq_of_beq_eq_true:=@Nat.eq_of_beq_eq_true
theorem Q1:type_of% @List.getElem?_eq_getElem:=@List.getElem?_eq_getElem
theorem R1:type_of% @List.getElem?_eq_some_iff:=@List.getElem?_eq_some_iff
theorem U1:type_of% @List.getElem?_eq_none:=@List.getElem?_eq_none
theorem V1:type_of% @List.getD_eq_getElem?_getD:=@List.getD_eq_getElem?_getD
theorem W1:type_of% @Int.toNat_natCast:=@Int.toNat_natCast
theorem Z1:type_of% @Int.eq_ofNat_of_zero_le:=@Int.eq_ofNat_of_zero_le
theorem C2:type_of% @List.mem_append:=@List.mem_append
theorem I2:type_of% @Nat.le_refl:=@Nat.le_refl
theorem O2:type_of% @List.getElem?_map:=@List.getElem?_map
theorem P2:type_of% @List.length_append:=@List.length_append
theorem Q2:type_of% @List.length_drop:=@List.length_drop
theorem R2:type_of% @Array.getElem?_eq_some_iff:=@Array.getElem?_eq_some_iff
theorem U2:type_of% @List.getElem?_set_self:=@List.getElem?_set_self
theorem W2:type_of% @Nat.lt_of_lt_of_le:=@Nat.lt_of_lt_of_le
theorem X2:type_of% @List.getElem?_set:=@List.getElem?_set
theorem Z2:type_of% @List.any_eq_true:=@List.any_eq_true
theorem v3:type_of% @List.all_eq_true:=@List.all_eq_true
theorem z3:type_of% @not_not_intro:=@not_not_intro
theorem C3:type_of% @List.map_take:=@List.map_take
theorem I3:type_of% @List.map_drop:=@List.map_drop
theorem O3:type_of% @List.mem_map:=@List.mem_map
theorem P3:type_of% @List.mem_filter:=@List.mem_filter
theorem Q3:type_of% @List.getElem?_append_left:=@List.getElem?_append_left
theorem R3:type_of% @List.getElem?_append_right:=@List.getElem?_append_right
theorem T3:type_of% @decide_eq_false_iff_not:=@decide_eq_false_iff_not
theorem U3:type_of% @Bool.eq_iff_iff:=@Bool.eq_iff_iff
theorem V3:type_of% @Nat.le_trans:=@Nat.le_trans
theorem W3:type_of% @Int.le_refl:=@Int.le_refl
theorem X3:type_of% @List.take_length:=@List.take_length
theorem Y3:type_of% @Option.map_some:=@Option.map_some
theorem Z3:type_of% @List.mem_cons_of_mem:=@List.mem_cons_of_mem
theorem t4:type_of% @Bool.not_eq_true:=@Bool.not_eq_true
theorem v4:type_of% @List.take_add_one:=@List.take_add_one
theorem z4:type_of% @List.append_assoc:=@List.append_assoc
theorem C4:type_of% @List.map_append:=@List.map_append
theorem I4:type_of% @Function.comp_def:=@Function.comp_def
theorem O4:type_of% @List.map_cons:=@List.map_cons
theorem P4:type_of% @List.count_append:=@List.count_append
theorem Q4:type_of% @List.map_set:=@List.map_set
theorem R4:type_of% @Bool.or_eq_true:=@Bool.or_eq_true
theorem T4:type_of% @Array.getElem?_eq_getElem:=@Array.getElem?_eq_getElem
theorem U4:type_of% @List.mem_or_eq_of_mem_set:=@List.mem_or_eq_of_mem_set
theorem V4:type_of% @Array.getD_eq_getD_getElem?:=@Array.getD_eq_getD_getElem?
theorem W4:type_of% @List.flatMap_cons:=@List.flatMap_cons
theorem X4:type_of% @List.getElem?_range:=@List.getElem?_range
theorem Y4:type_of% @Nat.zero_add:=@Nat.zero_add
theorem Z4:type_of% @List.findIdx?_eq_some_iff_getElem:=@List.findIdx?_eq_some_iff_getElem
theorem t5:type_of% @List.take_of_length_le:=@List.take_of_length_le
theorem v5:type_of% @Nat.mul_le_mul_right:=@Nat.mul_le_mul_right
theorem z5:type_of% @List.eq_nil_of_length_eq_zero:=@List.eq_nil_of_length_eq_zero
open Go.RowKit
inductive dz where
 |imm
 |own
 |tag (v:Value)
def dz.mine:dz->Bool
 | .imm=>false
 | .own=>true
 | .tag _=>true
def dz.ok:dz->Value->Prop
 | .imm,_=>False
 | .own,_=>True
 | .tag v',v=>v'=v
def dz.okN:dz->Value->Prop
 | .tag v',v=>v'=v
 | _,_=>True
inductive C where
 |v (x:Value)
 |s (o:dz) (rows:List (List C))
 |x
 |z
 |m (es:List (Int × Value))
 |it (cur:Option Int) (left:List Int)
instance:Inhabited C:=⟨.x⟩
abbrev ac:=Nat->Nat->Prop
def NO:ac:=fun _ _=>False
abbrev cel (w:World) (b o:Nat):Option Value:=w.cell? ⟨b,o,none⟩
def mp (w:World) (b:Nat):Option Obj:=
 match w.heap[b]? with
 | some (.map es clock)=>some (.map es clock)
 | some (.mapIter m since seen clock)=>some (.mapIter m since seen clock)
 | _=>none
theorem DV (w:World) (a:Addr) (v:Value) (b:Nat):mp (w.setCell a v) b=mp w b:=by
 unfold mp World.setCell;simp only[Array.getElem?_modify];by_cases h:a.block=b
 ·rw[if_pos h]
  cases w.heap[b]? with
  | none=>rfl
  | some o=>cases o<;>rfl
 ·rw[if_neg h]
theorem kw (b:Nat):∀ (g o:Nat) (vs:List Value) (w:World),mp (w.setCells g o vs) b=mp w b
 | _,_,[],_=>rfl
 | g,o,v::vs,w=>by rw[World.setCells,kw b g (o+1) vs,DV]
abbrev fro (w:World) (b o:Nat):Bool × Option Obj:=(w.frozen? ⟨b,o,none⟩,mp w b)
abbrev NF:Bool × Option Obj:=(false,none)
def bi (X:ac) (w w':World):Prop:=∀ b o,X b o->cel w' b o=cel w b o/\fro w' b o=fro w b o
inductive dP (w:World) (S:ac):ac->C->Value->Prop
 |v (F:ac) (x:Value) (h1:x.oneCell'=true):dP w S F (.v x) x
 |x (F:ac) (u:Value) (h1:u.oneCell'=true):dP w S F .x u
 |z (F:ac) (a:Option Addr):dP w S F .z (.slice a 0 0)
 |nil (F:ac) (o:dz) (a:Option Addr) (ho:o.okN (.slice a 0 0)):dP w S F (.s o []) (.slice a 0 0)
 |imm (F:ac) (g off k n cap:Nat) (rows:List (List C)) (u:Nat->Value) (hn:rows.length=n) (hk:∀ r∈rows,r.length=k) (hcap:n<=cap)
   (hS:∀ q,q<n*k->S g (off+q)/\cel w g (off+q)=some (u q))
   (hc:∀ i j r c,rows[i]? = some r->r[j]? = some c->dP w S NO c (u (i*k+j))) :
   dP w S F (.s .imm rows) (.slice (some ⟨g,off,none⟩) n cap)
 |own (F:ac) (o:dz) (g k n cap:Nat) (rows:List (List C)) (u:Nat->Value) (f:Nat->ac) (ho:o.ok (.slice (some ⟨g,0,none⟩) n cap)) (hn:rows.length=n) (hk:∀ r∈rows,r.length=k) (hcap:n<=cap) (hpos:0<n)
   (hF:∀ q,q<cap*k->F g q/\(∃ z,cel w g q=some z/\z.oneCell'=true)/\fro w g q=NF)
   (hu:∀ q,q<n*k->cel w g q=some (u q))
   (hf:∀ q,q<n*k->∀ b o,f q b o->F b o/\¬(b=g/\o<cap*k))
   (hd:∀ q q',q<n*k->q'<n*k->q≠q'->∀ b o,f q b o->¬f q' b o)
   (hc:∀ i j r c,rows[i]? = some r->r[j]? = some c->dP w S (f (i*k+j)) c (u (i*k+j))) :
   dP w S F (.s o rows) (.slice (some ⟨g,0,none⟩) n cap)
 |m (F:ac) (b clock:Nat) (es:List (Int × Value)) (ents:Array MapEntry) (hF:∀ o,F b o) (hb:mp w b=some (.map ents clock)) (he:ents.toList.map (fun e=>(e.key,e.val))=es.map (fun p=>(.int .i64 p.1,p.2))) (hv:∀ p∈es,p.2.oneCell'=true) (hst:(ents.toList.map (·.born)).Nodup/\∀ x∈ents.toList,x.born<clock) :
   dP w S F (.m es) (.map (some b))
 |it (F:ac) (r b since c0 clock:Nat) (seen:Array Nat) (ents:Array MapEntry) (cur:Option Int) (left:List Int) (hF:∀ o,F r o/\F b o) (hr:mp w r=some (.mapIter (some b) since seen c0)) (hb:mp w b=some (.map ents clock))
   (hst:(ents.toList.map (·.born)).Nodup/\∀ x∈ents.toList,x.born<since) (hc:since<=c0/\since<=clock) (hv:∀ x∈ents.toList,x.val.oneCell'=true) (hl:(leftOf ents seen).toList.map (·.key)=left.map (Value.int .i64)) (hcur:∀ k,cur=some k->c0=clock/\∃ e∈ents.toList,∃ s':Array Nat,seen=s'.push e.born/\e.key=.int .i64 k) :
   dP w S F (.it cur left) (.pointer (some ⟨r,0,none⟩))
theorem fV {i j k n:Nat} (hi:i<n) (hj:j<k):i*k+j<n*k:=by
 have:(i+1)*k<=n*k:=v5 k hi;rw[Nat.add_mul]at this;omega
theorem ER {rows:List (List C)} {n k i j:Nat} {r:List C} {c:C} (hn:rows.length=n) (hk:∀ r∈rows,r.length=k) (hi:rows[i]? = some r) (hj:r[j]? = some c):i<n/\j<k:=by
 have h1:=(R1.1 hi).1;have h2:=(R1.1 hj).1;have h3:=hk r (O1 hi);omega
theorem dP.one {w:World} {S F:ac} {c:C} {v:Value} (h:dP w S F c v):v.oneCell'=true:=by
 cases h<;>first|assumption|rfl
theorem dP.keep {w w':World} {S F:ac} {c:C} {v:Value} (h:dP w S F c v):bi S w w'->bi F w w'->dP w' S F c v:=by
 induction h with
 | v F x h1=>exact fun _ _=>.v F x h1
 | x F u h1=>exact fun _ _=>.x F u h1
 | z F a=>exact fun _ _=>.z F a
 | nil F o a ho=>exact fun _ _=>.nil F o a ho
 | imm F g off k n cap rows u hn hk hcap hS hc ih=>
  intro hs _;exact .imm F g off k n cap rows u hn hk hcap (fun q hq=>⟨(hS q hq).1,(hs _ _ (hS q hq).1).1.trans (hS q hq).2⟩)
   (fun i j r c hi hj=>ih i j r c hi hj hs (fun _ _ h=>h.elim))
 | own F o g k n cap rows u f ho hn hk hcap hpos hF hu hf hd hc ih=>
  intro hs hf';refine .own F o g k n cap rows u f ho hn hk hcap hpos (fun q hq=>?_) (fun q hq=>?_) hf hd (fun i j r c hi hj=>ih i j r c hi hj hs fun b o hb=>?_)
  ·obtain⟨h1,h2,h3⟩:=hF q hq
   have h4:=hf' g q h1;exact⟨h1,by rw[h4.1];exact h2,by rw[h4.2];exact h3⟩
  ·rw[(hf' g q (hF q (W2 hq (v5 k hcap))).1).1];exact hu q hq
  ·obtain⟨hi',hj'⟩:=ER hn hk hi hj
   exact hf' b o (hf _ (fV hi' hj') b o hb).1
 | m F b clock es ents hF hb he hv hst=>exact fun _ hf=>.m F b clock es ents hF ((R0 Prod.snd (hf b 0 (hF 0)).2).trans hb) he hv hst
 | it F r b since c0 clock seen ents cur left hF hr hb hst hc hv hl hcur=>exact fun _ hf=>.it F r b since c0 clock seen ents cur left hF ((R0 Prod.snd (hf r 0 (hF 0).1).2).trans hr) ((R0 Prod.snd (hf b 0 (hF 0).2).2).trans hb) hst hc hv hl hcur
theorem dP.mono {w:World} {S S' F F':ac} {c:C} {v:Value} (h:dP w S F c v):(∀ b o,S b o->S' b o)->(∀ b o,F b o->F' b o)->dP w S' F' c v:=by
 induction h generalizing F' with
 | v F x h1=>exact fun _ _=>.v _ x h1
 | x F u h1=>exact fun _ _=>.x _ u h1
 | z F a=>exact fun _ _=>.z _ a
 | nil F o a ho=>exact fun _ _=>.nil _ o a ho
 | imm F g off k n cap rows u hn hk hcap hS hc ih=>
  intro hs _;exact .imm _ g off k n cap rows u hn hk hcap (fun q hq=>⟨hs _ _ (hS q hq).1,(hS q hq).2⟩) (fun i j r c hi hj=>ih i j r c hi hj hs (fun _ _ h=>h))
 | own F o g k n cap rows u f ho hn hk hcap hpos hF hu hf hd hc ih=>
  intro hs hff;exact .own _ o g k n cap rows u f ho hn hk hcap hpos (fun q hq=>⟨hff _ _ (hF q hq).1,(hF q hq).2⟩) hu (fun q hq b o hb=>⟨hff _ _ (hf q hq b o hb).1,(hf q hq b o hb).2⟩) hd
   (fun i j r c hi hj=>ih i j r c hi hj hs (fun _ _ h=>h))
 | m F b clock es ents hF hb he hv hst=>exact fun _ hff=>.m _ b clock es ents (fun o=>hff _ _ (hF o)) hb he hv hst
 | it F r b since c0 clock seen ents cur left hF hr hb hst hc hv hl hcur=>exact fun _ hff=>.it _ r b since c0 clock seen ents cur left (fun o=>⟨hff _ _ (hF o).1,hff _ _ (hF o).2⟩) hr hb hst hc hv hl hcur
mutual
def fz:C->C
 | .v x=>.v x
 | .s _ rows=>.s .imm (fzR rows)
 | .x=>.x
 | .z=>.z
 | .m _=>.x
 | .it _ _=>.x
def fzR:List (List C)->List (List C)
 | []=>[]
 | r::rs=>d3 r::fzR rs
def d3:List C->List C
 | []=>[]
 | c::cs=>fz c::d3 cs
end
theorem bT (cs:List C):d3 cs=cs.map fz:=by
 induction cs with
 | nil=>rfl
 | cons c cs ih=>simp[d3,ih]
theorem Ly (rs:List (List C)):fzR rs=rs.map (·.map fz):=by
 induction rs with
 | nil=>rfl
 | cons c cs ih=>simp[fzR,bT,ih]
@[simp] theorem NZ (x:Value):fz (.v x)=.v x:=by simp[fz]
@[simp] theorem Pc:fz .x=.x:=by simp[fz]
@[simp] theorem Pb:fz .z=.z:=by simp[fz]
@[simp] theorem NY (es:List (Int × Value)):fz (.m es)=.x:=by simp[fz]
@[simp] theorem NV (cur:Option Int) (left:List Int):fz (.it cur left)=.x:=by simp[fz]
@[simp] theorem Ny (o:dz) (rows:List (List C)):fz (.s o rows)=.s .imm (rows.map (·.map fz)):=by simp[fz,Ly]
theorem dP.freeze {w:World} {S F:ac} {c:C} {v:Value} (h:dP w S F c v):dP w (fun b o=>S b o\/F b o) NO (fz c) v:=by
 induction h with
 | v F x h1=>simpa using .v _ x h1
 | x F u h1=>simpa using .x _ u h1
 | z F a=>simpa using .z _ a
 | nil F o a ho=>simpa using .nil _ _ a trivial
 | imm F g off k n cap rows u hn hk hcap hS hc ih=>
  rw[Ny];refine .imm _ g off k n cap _ u (by simpa using hn) (fun r hr=>?_) hcap (fun q hq=>⟨.inl (hS q hq).1,(hS q hq).2⟩) (fun i j r c hi hj=>?_)
  ·obtain⟨r',hr',rfl⟩:=O3.1 hr
   simpa using hk r' hr'
  ·rw[O2]at hi
   cases hi':rows[i]? with
   | none=>rw[hi']at hi;cases hi
   | some r'=>
    rw[hi']at hi;simp only[Y3,T0]at hi;subst hi;rw[O2]at hj;cases hj':r'[j]? with
    | none=>rw[hj']at hj;cases hj
    | some c'=>
     rw[hj']at hj;simp only[Y3,T0]at hj;subst hj;exact(ih i j r' c' hi' hj').mono (fun _ _ h=>h.elim .inl (fun h=>h.elim)) (fun _ _ h=>h)
 | own F o g k n cap rows u f ho hn hk hcap hpos hF hu hf hd hc ih=>
  rw[Ny];refine .imm _ g 0 k n cap _ u (by simpa using hn) (fun r hr=>?_) hcap (fun q hq=>?_) (fun i j r c hi hj=>?_)
  ·obtain⟨r',hr',rfl⟩:=O3.1 hr
   simpa using hk r' hr'
  ·rw[Y4]
   exact⟨.inr (hF q (W2 hq (v5 k hcap))).1,hu q hq⟩
  ·rw[O2]at hi
   cases hi':rows[i]? with
   | none=>rw[hi']at hi;cases hi
   | some r'=>
    rw[hi']at hi;simp only[Y3,T0]at hi;subst hi;rw[O2]at hj;cases hj':r'[j]? with
    | none=>rw[hj']at hj;cases hj
    | some c'=>
     rw[hj']at hj;simp only[Y3,T0]at hj;subst hj;obtain⟨hi2,hj2⟩:=ER hn hk hi' hj';exact(ih i j r' c' hi' hj').mono (fun b o h=>h.elim .inl (fun h=>.inr (hf _ (fV hi2 hj2) b o h).1)) (fun _ _ h=>h)
 | m F b clock es ents hF hb he hv=>simpa using .x _ _ rfl
 | it=>simpa using .x _ _ rfl
def cF (w:World) (S F:ac) (cs:List C) (u:Nat->Value):Prop:=
 ∃ f:Nat->ac,(∀ j c,cs[j]? = some c->dP w S (f j) c (u j))/\(∀ j,j<cs.length->∀ b o,f j b o->F b o)/\
  (∀ j j',j<cs.length->j'<cs.length->j≠j'->∀ b o,f j b o->¬f j' b o)
theorem cF.keep {w w':World} {S F:ac} {cs:List C} {u:Nat->Value} (h:cF w S F cs u) (hs:bi S w w') (hf:bi F w w'):cF w' S F cs u:=by
 obtain⟨f,h1,h2,h3⟩:=h;exact⟨f,fun j c hj=>(h1 j c hj).keep hs (fun b o hb=>hf b o (h2 j (R1.1 hj).1 b o hb)),h2,h3⟩
theorem cF.mono {w:World} {S S' F F':ac} {cs:List C} {u:Nat->Value} (h:cF w S F cs u) (hs:∀ b o,S b o->S' b o) (hf:∀ b o,F b o->F' b o):cF w S' F' cs u:=by
 obtain⟨f,h1,h2,h3⟩:=h;exact⟨f,fun j c hj=>(h1 j c hj).mono hs (fun _ _ h=>h),fun j hj b o hb=>hf b o (h2 j hj b o hb),h3⟩
theorem cF.congr {w:World} {S F:ac} {cs:List C} {u u':Nat->Value} (h:cF w S F cs u) (hu:∀ j,j<cs.length->u' j=u j):cF w S F cs u':=by
 obtain⟨f,h1,h2,h3⟩:=h;exact⟨f,fun j c hj=>by rw[hu j (R1.1 hj).1];exact h1 j c hj,h2,h3⟩
theorem cF.nil (w:World) (S F:ac) (u:Nat->Value):cF w S F [] u:=⟨fun _=>NO,fun j c h=>by simp at h,fun j h=>by simp at h,fun j j' h=>by simp at h⟩
theorem cF.freeze {w:World} {S F:ac} {cs:List C} {u:Nat->Value} (h:cF w S F cs u):cF w (fun b o=>S b o\/F b o) NO (d3 cs) u:=by
 obtain⟨f,h1,h2,h3⟩:=h;rw[bT];refine⟨fun _=>NO,fun j c hj=>?_,fun j _ b o h=>h,fun j j' _ _ _ b o h=>h.elim⟩;rw[O2]at hj;cases hj':cs[j]? with
 | none=>rw[hj']at hj;cases hj
 | some c'=>
  rw[hj']at hj;simp only[Y3,T0]at hj;subst hj;exact(h1 j c' hj').freeze.mono (fun b o h=>h.elim .inl (fun h=>.inr (h2 j (R1.1 hj').1 b o h))) (fun _ _ h=>h)
theorem cF.one {w:World} {S F:ac} {cs:List C} {u:Nat->Value} (h:cF w S F cs u) {j:Nat} (hj:j<cs.length):(u j).oneCell'=true:=by
 obtain⟨f,h1,-,-⟩:=h;exact(h1 j cs[j] (Q1 hj)).one
theorem cF.part {w:World} {S F:ac} {cs:List C} {u:Nat->Value} (h:cF w S F cs u) (a n:Nat):cF w S F ((cs.drop a).take n) (fun j=>u (a+j)):=by
 obtain⟨f,h1,h2,h3⟩:=h;have hl:∀ j,j<((cs.drop a).take n).length->a+j<cs.length:=fun j hj=>by simp at hj;omega
 refine⟨fun j=>f (a+j),fun j c hj=>?_,fun j hj=>h2 _ (hl j hj),fun j j' hj hj' hne=>h3 _ _ (hl j hj) (hl j' hj') (by omega)⟩;have hlt:=(R1.1 hj).1;have hln:j<n:=by simp at hlt;omega
 rw[List.getElem?_take,if_pos hln,List.getElem?_drop]at hj;exact h1 _ c hj
abbrev cm:=List (Nat × Nat × Nat)
def bQ:List C->Nat->cm->Option (List C × Nat)
 | cs,off,[]=>some (cs,off)
 | cs,off,(i,k,j)::st=>
  match cs[off]? with
  | some (.s _ rows)=>match rows[i]? with
   | some r=>if r.length=k then bQ r j st else none
   | none=>none
  | _=>none
def jd:List C->Nat->cm->Prop
 | _,_,[]=>True
 | cs,off,(i,_,j)::st=>
  match cs[off]? with
  | some (.s o rows)=>o≠.imm/\(match rows[i]? with|some r=>jd r j st|none=>False)
  | _=>False
def fe:List C->Nat->cm->List C->List C
 | _,_,[],r'=>r'
 | cs,off,(i,_,j)::st,r'=>
  match cs[off]? with
  | some (.s o rows)=>match rows[i]? with
   | some r=>cs.set off (.s o (rows.set i (fe r j st r')))
   | none=>cs
  | _=>cs
def plc (w:World):(Nat->Value)->Option (Nat × Nat)->Nat->cm->Option (Nat × Nat)
 | _,top,off,[]=>top.map fun p=>(p.1,p.2+off)
 | u,_,off,(i,k,j)::st=>
  match u off with
  | .slice (some ⟨g,o,none⟩) _ _=>plc w (fun d=>(cel w g (o+i*k+d)).getD undef) (some (g,o+i*k)) j st
  | _=>none
def cellv (w:World):(Nat->Value)->Nat->cm->Nat->Value
 | u,off,[],d=>u (off+d)
 | u,off,(i,k,j)::st,d=>
  match u off with
  | .slice (some ⟨g,o,none⟩) _ _=>cellv w (fun d=>(cel w g (o+i*k+d)).getD undef) j st d
  | _=>undef
theorem dP.row {w:World} {S F:ac} {o:dz} {rows:List (List C)} {v:Value} (h:dP w S F (.s o rows) v) {i:Nat} {r:List C} (hi:rows[i]? = some r) :
  ∃ g b n cap,v=.slice (some ⟨g,b,none⟩) n cap/\i<n/\rows.length=n/\(∀ r'∈rows,r'.length=r.length)/\
   (∀ d,d<r.length->(∃ z,cel w g (b+i*r.length+d)=some z)/\(S g (b+i*r.length+d)\/F g (b+i*r.length+d)))/\∃ F',(∀ b o,F' b o->F b o)/\
   cF w S F' r (fun d=>(cel w g (b+i*r.length+d)).getD undef):=by
 cases h with
 | nil=>simp at hi
 | imm _ g off k n cap _ u hn hk hcap hS hc=>
  have hr:r.length=k:=hk r (O1 hi);have hin:i<n:=by have:=(R1.1 hi).1;omega
  have hcel:∀ d,d<r.length->cel w g (off+i*r.length+d)=some (u (i*k+d)):=fun d hd=>by
   rw[hr,Nat.add_assoc];exact(hS _ (fV hin (by omega))).2
  refine⟨g,off,n,cap,rfl,hin,hn,fun r' h'=>(hk r' h').trans hr.symm,fun d hd=>⟨⟨_,hcel d hd⟩,.inl (by rw[hr,Nat.add_assoc];exact(hS _ (fV hin (by omega))).1)⟩,NO,fun _ _ h=>h.elim,fun _=>NO,fun j c hj=>?_,fun _ _ _ _ h=>h,fun _ _ _ _ _ _ _ h=>h.elim⟩;have hj':=(R1.1 hj).1;show dP w S NO c ((cel w g (off+i*r.length+j)).getD undef);rw[hcel j hj'];exact hc i j r c hi hj
 | own _ _ g k n cap _ u f _ hn hk hcap _ hF hu hf hd hc=>
  have hr:r.length=k:=hk r (O1 hi);have hin:i<n:=by have:=(R1.1 hi).1;omega
  have hcel:∀ d,d<r.length->cel w g (0+i*r.length+d)=some (u (i*k+d)):=fun d hd=>by
   rw[hr,Y4];exact hu _ (fV hin (by omega))
  refine⟨g,0,n,cap,rfl,hin,hn,fun r' h'=>(hk r' h').trans hr.symm,fun d hd=>⟨⟨_,hcel d hd⟩,.inr (by rw[hr,Y4];exact(hF _ (W2 (fV hin (by omega)) (v5 k hcap))).1)⟩,F,fun _ _ h=>h,fun j=>f (i*k+j),fun j c hj=>?_,fun j hj b o h=>(hf _ (fV hin (by omega)) b o h).1,
    fun j j' hj hj' hne=>hd _ _ (fV hin (by omega)) (fV hin (by omega)) (by omega)⟩
  have hj':=(R1.1 hj).1;show dP w S _ c ((cel w g (0+i*r.length+j)).getD undef);rw[hcel j hj'];exact hc i j r c hi hj
theorem cF.at_ {w:World} {S:ac} : ∀ (st:cm) {F:ac} {cs:List C} {u:Nat->Value} {off:Nat} {r:List C} {j:Nat} (top:Option (Nat × Nat)),cF w S F cs u->bQ cs off st=some (r,j)->
  ∃ F' u',(∀ b o,F' b o->F b o)/\cF w S F' r u'/\(∀ d,cellv w u off st d=u' (j+d))/\(st=[]->u'=u)/\
   (st≠[]->∃ g b,plc w u top off st=some (g,b+j)/\∀ d,d<r.length->cel w g (b+d)=some (u' d))
 | [],F,cs,u,off,r,j,top,h,hr=>by
  simp only[bQ,T0,Prod.mk.injEq]at hr;obtain⟨rfl,rfl⟩:=hr;exact⟨F,u,fun _ _ h=>h,h,fun _=>rfl,fun _=>rfl,fun h=>absurd rfl h⟩
 | (i,k,j0)::st,F,cs,u,off,r,j,top,h,hr=>by
  simp only[bQ]at hr;cases hc:cs[off]? with
  | none=>rw[hc]at hr;cases hr
  | some c=>
   rw[hc]at hr;cases c with
   | v x=>cases hr
   | x=>cases hr
   | z=>cases hr
   | m es=>cases hr
   | it=>cases hr
   | s o rows=>
    simp only at hr;cases hi:rows[i]? with
    | none=>rw[hi]at hr;cases hr
    | some r1=>
     rw[hi]at hr;simp only at hr;split at hr
     ·rename_i hk
      subst hk;obtain⟨f,h1,h2,h3⟩:=h;have hoff:=(R1.1 hc).1;obtain⟨g,b,n,cap,hv,hin,hn,-,hcel,F',hF',hrow⟩:=(h1 off _ hc).row hi;obtain⟨F2,u2,e1,e2,e3,e0,e4⟩:=cF.at_ st (some (g,b+i*r1.length)) hrow hr;refine⟨F2,u2,fun b o hb=>h2 off hoff b o (hF' b o (e1 b o hb)),e2,fun d=>?_,(fun h=>by cases h),fun _=>?_⟩
      ·simp only[cellv,hv];exact e3 d
      ·simp only[plc,hv]
       cases st with
       | nil=>
        simp only[bQ,T0,Prod.mk.injEq]at hr;obtain⟨rfl,rfl⟩:=hr;refine⟨g,b+i*r1.length,rfl,fun d hd=>?_⟩;obtain⟨⟨z,hz⟩,-⟩:=hcel d hd;rw[e0 rfl];show _=some ((cel w g (b+i*r1.length+d)).getD undef);rw[hz];rfl
       | cons s st'=>exact e4 (by simp)
     ·cases hr
theorem cF.last {w w':World} {S:ac} (hS:bi S w w'):∀ (st:cm) {F:ac} {cs:List C} {u u':Nat->Value} {off:Nat} {r:List C} {j:Nat} (top:Option (Nat × Nat)),cF w S F cs u->bQ cs off st=some (r,j)->bi F w w'->(∀ x,x<cs.length->u' x=u x)->
  plc w' u' top off st=plc w u top off st/\∀ d,j+d<r.length->cellv w' u' off st d=cellv w u off st d
 | [],F,cs,u,u',off,r,j,top,h,hr,hF,hu=>by
  simp only[bQ,T0,Prod.mk.injEq]at hr;obtain⟨rfl,rfl⟩:=hr;exact⟨rfl,fun d hd=>hu _ hd⟩
 | (i,k,j0)::st,F,cs,u,u',off,r,j,top,h,hr,hF,hu=>by
  simp only[bQ]at hr;cases hc:cs[off]? with
  | none=>rw[hc]at hr;cases hr
  | some c=>
   rw[hc]at hr;cases c with
   | v x=>cases hr
   | x=>cases hr
   | z=>cases hr
   | m es=>cases hr
   | it=>cases hr
   | s o rows=>
    simp only at hr;cases hi:rows[i]? with
    | none=>rw[hi]at hr;cases hr
    | some r1=>
     rw[hi]at hr;simp only at hr;split at hr
     case isFalse=>cases hr
     rename_i hk;subst hk;obtain⟨f,h1,h2,h3⟩:=h;have hoff:=(R1.1 hc).1;obtain⟨g,b,n,cap,hv,hin,hn,-,hcel,F',hF',hrow⟩:=(h1 off _ hc).row hi;have hv':u' off=.slice (some ⟨g,b,none⟩) n cap:=(hu off hoff).trans hv;simp only[plc,cellv,hv,hv'];refine cF.last hS st _ hrow hr (fun b o hb=>hF b o (h2 off hoff b o (hF' b o hb))) (fun x hx=>?_);obtain⟨-,hin2⟩:=hcel x hx;have:cel w' g (b+i*r1.length+x)=cel w g (b+i*r1.length+x):=hin2.elim (fun h=>(hS _ _ h).1) (fun h=>(hF _ _ (h2 off hoff _ _ h)).1);rw[this]
theorem dP.own_set {w w':World} {S F G F1:ac} {o:dz} {g k n cap:Nat} {rows:List (List C)} {u:Nat->Value} {f:Nat->ac} (ho:o.ok (.slice (some ⟨g,0,none⟩) n cap)) (hn:rows.length=n) (hk:∀ r∈rows,r.length=k) (hcap:n<=cap)
  (hF:∀ q,q<cap*k->F g q/\(∃ z,cel w g q=some z/\z.oneCell'=true)/\fro w g q=NF)
  (hu:∀ q,q<n*k->cel w g q=some (u q))
  (hf:∀ q,q<n*k->∀ b o,f q b o->F b o/\¬(b=g/\o<cap*k))
  (hd:∀ q q',q<n*k->q'<n*k->q≠q'->∀ b o,f q b o->¬f q' b o)
  (hc:∀ i j r c,rows[i]? = some r->r[j]? = some c->dP w S (f (i*k+j)) c (u (i*k+j)))
  (i:Nat) (hi:i<n) (r':List C) (hr':r'.length=k) (u2:Nat->Value)
  (hF1:∀ b o,F1 b o->∃ j,j<k/\f (i*k+j) b o)
  (hS:bi S w w') (hrest:∀ b o,F b o->¬F1 b o->¬(b=g/\i*k<=o/\o<i*k+k)->cel w' b o=cel w b o/\fro w' b o=fro w b o)
  (hcell:∀ d,d<k->cel w' g (i*k+d)=some (u2 d)/\fro w' g (i*k+d)=NF)
  (hrow:cF w' S G r' u2) (hG:∀ b o,G b o->F1 b o\/¬F b o) :
  dP w' S (fun b o=>(F b o/\¬F1 b o)\/G b o) (.s o (rows.set i r')) (.slice (some ⟨g,0,none⟩) n cap):=by
 obtain⟨f2,e1,e2,e3⟩:=hrow;have hik:i*k+k<=n*k:=by
  have:(i+1)*k<=n*k:=v5 k hi;rw[Nat.add_mul]at this;omega
 have hnk:n*k<=cap*k:=v5 k hcap;have hg1:∀ o,o<cap*k->¬F1 g o:=fun o ho h=>by
  obtain⟨j,hj,hb⟩:=hF1 g o h;exact(hf _ (by omega) g o hb).2 ⟨rfl,ho⟩
 have hin:∀ q,(i*k<=q/\q<i*k+k)->q - i*k<k:=fun q h=>by omega
 refine .own _ o g k n cap _ (fun q=>if i*k<=q/\q<i*k+k then u2 (q - i*k) else u q) (fun q=>if i*k<=q/\q<i*k+k then f2 (q - i*k) else f q)
  ho (by simpa using hn) (fun r hr=>?_) hcap (by omega) (fun q hq=>?_) (fun q hq=>?_) (fun q hq b o hb=>?_) (fun q q' hq hq' hne b o hb hb'=>?_) (fun i2 j2 r c hi2 hj2=>?_)
 ·rcases U4 hr with h|rfl
  ·exact hk r h
  ·exact hr'
 ·obtain⟨h1,h2,h3⟩:=hF q hq
  by_cases hqi:i*k<=q/\q<i*k+k
  ·obtain⟨c1,c2⟩:=hcell (q - i*k) (hin q hqi)
   have he:i*k+(q - i*k)=q:=by omega
   rw[he]at c1 c2;have hlt:q - i*k<r'.length:=by omega
   exact⟨.inl ⟨h1,hg1 q hq⟩,⟨_,c1,(e1 (q - i*k) r'[q - i*k] (Q1 hlt)).one⟩,c2⟩
  ·obtain⟨c1,c2⟩:=hrest g q h1 (hg1 q hq) (fun h=>hqi h.2)
   exact⟨.inl ⟨h1,hg1 q hq⟩,by rw[c1];exact h2,by rw[c2];exact h3⟩
 ·split
  ·rename_i hqi
   have:=(hcell (q - i*k) (hin q hqi)).1
   rwa [show i*k+(q - i*k)=q by omega]at this
  ·rename_i hqi
   rw[(hrest g q (hF q (by omega)).1 (hg1 q (by omega)) (fun h=>hqi h.2)).1];exact hu q hq
 ·split at hb
  ·rename_i hqi
   have hb2:=e2 _ (by have:=hin q hqi;omega) b o hb;rcases hG b o hb2 with h|h
   ·obtain⟨j,hj,hb'⟩:=hF1 b o h
    have:=hf _ (by omega) b o hb';exact⟨.inr hb2,this.2⟩
   ·exact⟨.inr hb2,fun e=>h (by rw[e.1];exact(hF o e.2).1)⟩
  ·rename_i hqi
   have:=hf q hq b o hb;refine⟨.inl ⟨this.1,fun h=>?_⟩,this.2⟩;obtain⟨j,hj,hb'⟩:=hF1 b o h;exact hd (i*k+j) q (by omega) hq (by omega) b o hb' hb
 ·have hx:∀ q q',q<n*k->(i*k<=q/\q<i*k+k)->q'<n*k->¬(i*k<=q'/\q'<i*k+k)->∀ b o,f2 (q - i*k) b o->¬f q' b o:=by
   intro q q' hq h hq' h' b o hb hb';rcases hG b o (e2 _ (by have:=hin q h;omega) b o hb) with h1|h1
   ·obtain⟨j,hj,hbj⟩:=hF1 b o h1
    exact hd (i*k+j) q' (by omega) hq' (by omega) b o hbj hb'
   ·exact h1 (hf q' hq' b o hb').1
  by_cases h:i*k<=q/\q<i*k+k
  ·rw[if_pos h]at hb
   by_cases h':i*k<=q'/\q'<i*k+k
   ·rw[if_pos h']at hb'
    exact e3 (q - i*k) (q' - i*k) (by have:=hin q h;omega) (by have:=hin q' h';omega) (by omega) b o hb hb'
   ·rw[if_neg h']at hb'
    exact hx q q' hq h hq' h' b o hb hb'
  ·rw[if_neg h]at hb
   by_cases h':i*k<=q'/\q'<i*k+k
   ·rw[if_pos h']at hb'
    exact hx q' q hq' h' hq h b o hb' hb
   ·rw[if_neg h']at hb'
    exact hd q q' hq hq' hne b o hb hb'
 ·rw[X2]at hi2
  by_cases hii:i=i2
  ·subst hii
   rw[if_pos rfl]at hi2;split at hi2
   ·simp only[T0]at hi2
    subst hi2;have hj3:=(R1.1 hj2).1;have hq:i*k<=i*k+j2/\i*k+j2<i*k+k:=by omega
    simp only[if_pos hq,Nat.add_sub_cancel_left];exact e1 j2 c hj2
   ·cases hi2
  ·rw[if_neg hii]at hi2
   obtain⟨a1,a2⟩:=ER hn hk hi2 hj2;have hq:¬(i*k<=i2*k+j2/\i2*k+j2<i*k+k):=by
    rcases Nat.lt_or_ge i i2 with h|h
    ·have:(i+1)*k<=i2*k:=v5 k h
     rw[Nat.add_mul]at this;omega
    ·have:(i2+1)*k<=i*k:=v5 k (by omega)
     rw[Nat.add_mul]at this;omega
   simp only[if_neg hq];have hfl:=fV a1 a2;refine(hc i2 j2 r c hi2 hj2).keep hS (fun b o hb=>hrest b o (hf _ hfl b o hb).1 (fun h=>?_) (fun h=>(hf _ hfl b o hb).2 ⟨h.1,by omega⟩)) |>.mono (fun _ _ h=>h) (fun _ _ h=>h)
   obtain⟨j,hj,hbj⟩:=hF1 b o h;exact hd (i*k+j) (i2*k+j2) (by omega) hfl (by omega) b o hbj hb
theorem cF.focus {w:World} {S:ac} : ∀ (st:cm) {F:ac} {cs:List C} {u:Nat->Value} {off:Nat} {r:List C} {j:Nat} (top:Option (Nat × Nat)),st≠[]->cF w S F cs u->bQ cs off st=some (r,j)->jd cs off st->
  ∃ g b F' u',(∀ b o,F' b o->F b o)/\cF w S F' r u'/\plc w u top off st=some (g,b+j)/\
   (∀ d,d<r.length->F g (b+d)/\¬F' g (b+d)/\cel w g (b+d)=some (u' d)/\fro w g (b+d)=NF)/\
   ∀ (w':World) (r':List C) (u2:Nat->Value) (G:ac),bi S w w'->(∀ b' o,F b' o->¬F' b' o->¬(b'=g/\b<=o/\o<b+r.length)->cel w' b' o=cel w b' o/\fro w' b' o=fro w b' o)->
    (∀ d,d<r.length->cel w' g (b+d)=some (u2 d)/\fro w' g (b+d)=NF)->r'.length=r.length->cF w' S G r' u2->(∀ b o,G b o->F' b o\/¬F b o)->
    cF w' S (fun b o=>(F b o/\¬F' b o)\/G b o) (fe cs off st r') u
 | [],_,_,_,_,_,_,_,h,_,_,_=>absurd rfl h
 | (i,k,j0)::st,F,cs,u,off,r,j,top,_,h,hr,ho=>by
  simp only[bQ]at hr;simp only[jd]at ho;cases hc:cs[off]? with
  | none=>rw[hc]at hr;cases hr
  | some c=>
   rw[hc]at hr ho;cases c with
   | v x=>cases hr
   | x=>cases hr
   | z=>cases hr
   | m es=>cases hr
   | it=>cases hr
   | s o rows=>
    simp only at hr ho;obtain⟨hoi,ho⟩:=ho;cases hi:rows[i]? with
    | none=>rw[hi]at hr;cases hr
    | some r1=>
     rw[hi]at hr ho;simp only at hr ho;split at hr
     case isFalse=>cases hr
     rename_i hk1;subst hk1;obtain⟨f,h1,h2,h3⟩:=h;have hoff:=(R1.1 hc).1;have hrep:=h1 off _ hc;have hup:∀ r',fe cs off ((i,r1.length,j0)::st) r'=cs.set off (.s o (rows.set i (fe r1 j0 st r'))):=fun r'=>by simp only[fe,hc,hi]
     have back:∀ (w':World) (c':C) (F2 G:ac),bi S w w'->(∀ j c,j≠off->cs[j]? = some c->bi (f j) w w')->(∀ b o,F2 b o->f off b o)->dP w' S (fun b o=>(f off b o/\¬F2 b o)\/G b o) c' (u off)->(∀ b o,G b o->F2 b o\/¬F b o)->
       cF w' S (fun b o=>(F b o/\¬F2 b o)\/G b o) (cs.set off c') u:=by
      intro w' c' F2 G hS hsame hF2 hrep' hG;refine⟨fun j=>if j=off then(fun b o=>(f off b o/\¬F2 b o)\/G b o) else f j,fun j c hj=>?_,fun j hj b o hb=>?_,fun j j' hj hj' hne b o hb hb'=>?_⟩
      ·rw[X2]at hj
       by_cases hjo:off=j
       ·subst hjo
        rw[if_pos rfl,if_pos hoff]at hj;simp only[T0]at hj;subst hj;simpa using hrep'
       ·rw[if_neg hjo]at hj
        simp only[if_neg (Ne.symm hjo)];exact(h1 j c hj).keep hS (hsame j c (Ne.symm hjo) hj)
      ·simp only[Z0]at hj
       simp only at hb;split at hb
       ·rename_i e
        exact hb.imp (fun h=>⟨h2 off hoff b o h.1,h.2⟩) id
       ·rename_i e
        exact .inl ⟨h2 j hj b o hb,fun h=>h3 j off hj hoff e b o hb (hF2 b o h)⟩
      ·simp only[Z0]at hj hj'
       simp only at hb hb';by_cases e:j=off
       ·rw[if_pos e]at hb
        have e':j'≠off:=fun h=>hne (e.trans h.symm)
        rw[if_neg e']at hb';rcases hb with hb|hb
        ·exact h3 off j' hoff hj' (Ne.symm e') b o hb.1 hb'
        ·rcases hG b o hb with h|h
         ·exact h3 off j' hoff hj' (Ne.symm e') b o (hF2 b o h) hb'
         ·exact h (h2 j' hj' b o hb')
       ·rw[if_neg e]at hb
        by_cases e':j'=off
        ·rw[if_pos e']at hb'
         rcases hb' with hb'|hb'
         ·exact h3 off j hoff hj (Ne.symm e) b o hb'.1 hb
         ·rcases hG b o hb' with h|h
          ·exact h3 off j hoff hj (Ne.symm e) b o (hF2 b o h) hb
          ·exact h (h2 j hj b o hb)
        ·rw[if_neg e']at hb'
         exact h3 j j' hj hj' hne b o hb hb'
     generalize hv:u off=v at hrep;cases hrep with
     | nil=>simp at hi
     | imm=>exact absurd rfl hoi
     | own _ _ g k n cap _ u1 f1 hoo hn hk hcap hpos hF hu hf hd hcr=>
      have hr1:r1.length=k:=hk r1 (O1 hi);subst hr1;have hin:i<n:=by have:=(R1.1 hi).1;omega
      have hik:i*r1.length+r1.length<=n*r1.length:=by
       have:(i+1)*r1.length<=n*r1.length:=v5 _ hin;rw[Nat.add_mul]at this;omega
      have hnk:n*r1.length<=cap*r1.length:=v5 _ hcap
      let F1:ac:=fun b o=>∃ j,j<r1.length/\f1 (i*r1.length+j) b o
      have hF1:∀ b o,F1 b o->f off b o/\¬(b=g/\o<cap*r1.length):=fun b o ⟨j,hj,hb⟩=>hf _ (by omega) b o hb
      have hcel:∀ d,d<r1.length->cel w g (i*r1.length+d)=some (u1 (i*r1.length+d)):=fun d hd=>hu _ (by omega)
      have hrow1:cF w S F1 r1 (fun d=>u1 (i*r1.length+d)):=
       ⟨fun j=>f1 (i*r1.length+j),fun j c hj=>hcr i j r1 c hi hj,fun j hj b o hb=>⟨j,hj,hb⟩,fun j j' hj hj' hne=>hd _ _ (by omega) (by omega) (by omega)⟩
      have hread:cF w S F1 r1 (fun d=>(cel w g (0+i*r1.length+d)).getD undef):=hrow1.congr fun d hd=>by rw[Y4,hcel d hd];rfl
      cases st with
      | nil=>
       simp only[bQ,T0,Prod.mk.injEq]at hr;obtain⟨rfl,rfl⟩:=hr;refine⟨g,i*r1.length,F1,fun d=>u1 (i*r1.length+d),fun b o hb=>h2 off hoff b o (hF1 b o hb).1,hrow1,by simp only[plc,hv,Y4,Y3],fun d hd=>?_,?_⟩
       ·exact⟨h2 off hoff _ _ (hF _ (by omega)).1,fun h=>(hF1 _ _ h).2 ⟨rfl,by omega⟩,hcel d hd,(hF _ (by omega)).2.2⟩
       ·intro w' r' u2 G hS hrest hcell hlen hrow hG
        rw[hup];simp only[fe];refine back w' _ F1 G hS (fun j c hj hjc b o hb=>?_) (fun b o h=>(hF1 b o h).1) ?_ hG
        ·have hj':=(R1.1 hjc).1
         refine hrest b o (h2 j hj' b o hb) (fun h=>h3 off j hoff hj' (Ne.symm hj) b o (hF1 b o h).1 hb) (fun h=>?_);exact h3 off j hoff hj' (Ne.symm hj) b o (by rw[h.1];exact(hF o (by omega)).1) hb
        ·rw[hv]
         exact dP.own_set (F1:=F1) hoo hn hk hcap hF hu hf hd hcr i hin r' hlen u2 (fun b o h=>h) hS (fun b o hb hnb hno=>hrest b o (h2 off hoff b o hb) hnb hno) hcell hrow (fun b o hb=>(hG b o hb).imp id (fun h h'=>h (h2 off hoff b o h')))
      | cons s st'=>
       obtain⟨g2,b2,F2,u2,e1,e2,e3,e4,e5⟩:=cF.focus (s::st') (some (g,0+i*r1.length)) (by simp) hread hr ho;refine⟨g2,b2,F2,u2,fun b o hb=>h2 off hoff b o (hF1 b o (e1 b o hb)).1,e2,by simp only[plc,hv];exact e3,fun d hd=>?_,?_⟩
       ·obtain⟨a1,a2,a3,a4⟩:=e4 d hd
        exact⟨h2 off hoff _ _ (hF1 _ _ a1).1,a2,a3,a4⟩
       ·intro w' r' u3 G hS hrest hcell hlen hrow hG
        have hrow':=e5 w' r' u3 G hS (fun b o hb hnb hno=>hrest b o (h2 off hoff b o (hF1 b o hb).1) hnb hno) hcell hlen hrow (fun b o hb=>(hG b o hb).imp id (fun h h'=>h (h2 off hoff b o (hF1 b o h').1)));rw[hup];have hin2:∀ o,b2<=o->o<b2+r.length->F1 g2 o:=fun o ho1 ho2=>by
         have:=(e4 (o - b2) (by omega)).1
         rwa [show b2+(o - b2)=o by omega]at this
        have hsame:∀ b o,f off b o->¬F1 b o->cel w' b o=cel w b o/\fro w' b o=fro w b o:=fun b o hb hnb=>
         hrest b o (h2 off hoff b o hb) (fun h=>hnb (e1 b o h)) (fun h=>hnb (by rw[h.1];exact hin2 o h.2.1 h.2.2))
        refine back w' _ F2 G hS (fun j c hj hjc b o hb=>?_) (fun b o h=>(hF1 b o (e1 b o h)).1) ?_ hG
        ·have hj':=(R1.1 hjc).1
         refine hrest b o (h2 j hj' b o hb) (fun h=>h3 off j hoff hj' (Ne.symm hj) b o (hF1 b o (e1 b o h)).1 hb) (fun h=>?_);exact h3 off j hoff hj' (Ne.symm hj) b o (hF1 b o (by rw[h.1];exact hin2 o h.2.1 h.2.2)).1 hb
        ·rw[hv]
         have hlen':(fe r1 j0 (s::st') r').length=r1.length:=by
          obtain⟨i',k',j'⟩:=s;simp only[fe];split
          ·split<;>simp
          ·rfl
         refine(dP.own_set (F1:=F1) (G:=fun b o=>(F1 b o/\¬F2 b o)\/G b o) hoo hn hk hcap hF hu hf hd hcr i hin _ hlen' (fun d=>u1 (i*r1.length+d)) (fun b o h=>h) hS (fun b o hb hnb _=>hsame b o hb hnb) (fun d hd=>?_) (hrow'.congr fun d hd=>?_) (fun b o hb=>hb.elim (fun h=>.inl h.1) (fun h=>(hG b o h).imp (e1 b o) (fun h h'=>h (h2 off hoff b o h'))))).mono (fun _ _ h=>h) (fun b o hb=>hb.elim (fun h=>.inl ⟨h.1,fun h'=>h.2 (e1 b o h')⟩) (fun h=>h.imp (fun h=>⟨(hF1 b o h.1).1,h.2⟩) id))
         ·have hnf:¬F1 g (i*r1.length+d):=fun h=>(hF1 _ _ h).2 ⟨rfl,by omega⟩
          have:=hsame g (i*r1.length+d) (hF _ (by omega)).1 hnf;exact⟨this.1.trans (hcel d hd),this.2.trans (hF _ (by omega)).2.2⟩
         ·rw[hlen']at hd
          show _=(cel w g (0+i*r1.length+d)).getD undef;rw[Y4,hcel d hd];rfl
inductive Kd where
 |one
 |agg
 |tup (sh:List (Option Nat))
 |box
inductive AV where
 |dead
 |hold (k:Kd) (cs:List C)
 |ref (t off:Nat) (st:cm)
 |bor (t off:Nat) (st:cm) (ag:Option Nat)
 |iref (r:List C) (off:Nat)
 |fn (f:FuncId) (caps:List Nat)
 |fv (Ok:ac->World->Value->Prop)
instance:Inhabited AV:=⟨.dead⟩
def AV.uses (d:Nat):AV->Bool
 | .ref t _ _=>Nat.beq t d
 | .bor t _ _ _=>Nat.beq t d
 | .fn _ caps=>caps.any (Nat.beq · d)
 | _=>false
def kl (d:Nat):AV->AV
 | .ref t off st=>bif Nat.beq t d then .dead else .ref t off st
 | .bor t off st ag=>bif Nat.beq t d then .dead else .bor t off st ag
 | .fn f caps=>bif caps.any (Nat.beq · d) then .dead else .fn f caps
 | .hold k cs=>.hold k cs
 | .iref r off=>.iref r off
 | .fv Ok=>.fv Ok
 | .dead=>.dead
theorem xI (d:Nat) (v:AV):kl d v=bif v.uses d then .dead else v:=by cases v<;>rfl
def put (F:Nat->AV) (d:Nat) (v:AV):Nat->AV:=fun t=>bif Nat.beq t d then v else kl d (F t)
def kU:Value->List Value
 | .tuple vs=>vs.toList.flatMap fun v=>v.cells.toList
 | _=>[]
def bS (w:World):Kd->Value->Nat->Value
 | .one,v=>fun _=>v
 | .agg,v=>fun j=>v.cells.toList.getD j undef
 | .tup _,v=>fun j=>(kU v).getD j undef
 | .box,.pointer (some a)=>fun j=>(cel w a.block (a.off+j)).getD undef
 | .box,_=>fun _=>undef
def mX:Kd->Value->Option (Nat × Nat)
 | .box,.pointer (some a)=>some (a.block,a.off)
 | _,_=>none
def mkv:Option Nat->(Nat->Value)->Value
 | none,u=>u 0
 | some n,u=>.agg ((List.range n).map u).toArray
def oN:List (Option Nat)->Nat
 | []=>0
 | none::sh=>1+oN sh
 | some n::sh=>n+oN sh
def vC:List (Option Nat)->List Value->Prop
 | [],[]=>True
 | none::sh,v::vs=>v.cells = #[v]/\vC sh vs
 | some n::sh,v::vs=>(∃ arr,v=.agg arr/\arr.size=n)/\vC sh vs
 | _,_=>False
def f7 (w:World) (X:ac):Kd->Nat->Value->Prop
 | .one,n,_=>n=1
 | .agg,n,v=>∃ arr,v=.agg arr/\arr.size=n
 | .tup sh,n,v=>∃ vs,v=.tuple vs/\vC sh vs.toList/\oN sh=n
 | .box,n,v=>∃ g o,v=.pointer (some ⟨g,o,none⟩)/\∀ j,j<n->X g (o+j)/\(∃ z,cel w g (o+j)=some z)/\fro w g (o+j)=NF
def cn (w:World) (S:ac) (F:Nat->AV) (tv:Nat->Value) (X:ac):AV->Value->Prop
 | .dead,_=>True
 | .hold k cs,v=>∃ X1 Y:ac,(∀ b o,X1 b o->X b o)/\(∀ b o,Y b o->X b o)/\(∀ b o,X1 b o->¬Y b o)/\f7 w X1 k cs.length v/\cF w S Y cs (bS w k v)
 | .ref t off st,v=>∃ k cs r j g o,F t=.hold k cs/\bQ cs off st=some (r,j)/\plc w (bS w k (tv t)) (mX k (tv t)) off st=some (g,o)/\v=.pointer (some ⟨g,o,none⟩)
 | .bor t off st ag,v=>∃ k cs r j,F t=.hold k cs/\bQ cs off st=some (r,j)/\j+ag.getD 1<=r.length/\v=mkv ag (cellv w (bS w k (tv t)) off st)
 | .iref r off,v=>∃ g b u,v=.pointer (some ⟨g,b+off,none⟩)/\(∀ d,d<r.length->S g (b+d)/\cel w g (b+d)=some (u d))/\cF w S NO r u
 | .fn f caps,v=>v=.func (.func f) #[] (caps.map tv).toArray
 | .fv Ok,v=>∃ (S1:ac) (w1:World),(∀ b o,S1 b o->S b o)/\bi S1 w1 w/\Ok S1 w1 v
theorem jx {w w':World} {k:Kd} {v:Value} {n:Nat} {X:ac} (h:f7 w X k n v) (hX:bi X w w'):∀ x,x<n->bS w' k v x=bS w k v x:=by
 intro x hx;cases k with
 | box=>
  obtain⟨g,o,rfl,h1⟩:=h;simp only[bS];rw[(hX _ _ (h1 x hx).1).1]
 | _=>rfl
theorem f7.keep {w w':World} {X X':ac} {k:Kd} {n:Nat} {v:Value} (h:f7 w X k n v) (hX:bi X w w') (hm:∀ b o,X b o->X' b o):f7 w' X' k n v:=by
 cases k with
 | box=>
  obtain⟨g,o,rfl,h1⟩:=h;refine⟨g,o,rfl,fun j hj=>?_⟩;obtain⟨a1,a2,a3⟩:=h1 j hj;have:=hX _ _ a1;exact⟨hm _ _ a1,by rw[this.1];exact a2,by rw[this.2];exact a3⟩
 | _=>exact h
theorem cn.keep {w w':World} {S S':ac} {F F':Nat->AV} {tv tv':Nat->Value} {X X':ac} {φ:Nat->ac} {av:AV} {v:Value} (h:cn w S F tv X av v)
  (hh:∀ t k cs,F t=.hold k cs->cn w S F tv (φ t) (F t) (tv t))
  (hu:∀ t,av.uses t=true->(∀ k cs,F t=.hold k cs->F' t=.hold k cs)/\tv' t=tv t/\bi (φ t) w w')
  (hX:bi X w w') (hS:bi S w w') (hm:∀ b o,X b o->X' b o) (hms:∀ b o,S b o->S' b o):cn w' S' F' tv' X' av v:=by
 cases av with
 | dead=>trivial
 | hold k cs=>
  obtain⟨X1,Y,h1,h2,h3,h4,h5⟩:=h;refine⟨X1,Y,fun b o hb=>hm _ _ (h1 b o hb),fun b o hb=>hm _ _ (h2 b o hb),h3,h4.keep (fun b o hb=>hX _ _ (h1 b o hb)) (fun _ _ h=>h),?_⟩;exact((h5.keep hS (fun b o hb=>hX _ _ (h2 b o hb))).mono hms (fun _ _ h=>h)).congr fun j hj=>jx h4 (fun b o hb=>hX _ _ (h1 b o hb)) j hj
 | ref t off st=>
  obtain⟨k,cs,r,j,g,o,h1,h2,h3,h4⟩:=h;obtain⟨e1,e2,e3⟩:=hu t (by simp[AV.uses]);have hs:=hh t k cs h1;rw[h1]at hs;obtain⟨X1,Y,a1,a2,a3,a4,a5⟩:=hs;refine⟨k,cs,r,j,g,o,e1 k cs h1,h2,?_,h4⟩;rw[e2];exact(cF.last hS st _ a5 h2 (fun b o hb=>e3 _ _ (a2 b o hb)) (fun x hx=>jx a4 (fun b o hb=>e3 _ _ (a1 b o hb)) x hx)).1.trans h3
 | bor t off st ag=>
  obtain⟨k,cs,r,j,h1,h2,h3,h4⟩:=h;obtain⟨e1,e2,e3⟩:=hu t (by simp[AV.uses]);have hs:=hh t k cs h1;rw[h1]at hs;obtain⟨X1,Y,a1,a2,a3,a4,a5⟩:=hs;refine⟨k,cs,r,j,e1 k cs h1,h2,h3,?_⟩;rw[h4,e2];have hl:=(cF.last hS st none a5 h2 (fun b o hb=>e3 _ _ (a2 b o hb)) (fun x hx=>jx a4 (fun b o hb=>e3 _ _ (a1 b o hb)) x hx)).2;cases ag with
  | none=>exact(hl 0 (by simp at h3;omega)).symm
  | some n=>
   simp only[mkv]
   congr 2
   exact List.map_congr_left fun d hd=>(hl d (by simp at h3;have:=List.mem_range.1 hd;omega)).symm
 | iref r off=>
  obtain⟨g,b,u,h1,h2,h3⟩:=h;exact⟨g,b,u,h1,fun d hd=>⟨hms _ _ (h2 d hd).1,(hS _ _ (h2 d hd).1).1.trans (h2 d hd).2⟩,(h3.keep hS (fun _ _ h=>h.elim)).mono hms (fun _ _ h=>h)⟩
 | fn f caps=>
  refine h.trans ?_
  congr 2
  exact List.map_congr_left fun t ht=>((hu t (by simp only[AV.uses,Z2];exact⟨t,ht,Nat.beq_refl t⟩)).2.1).symm
 | fv Ok=>
  obtain⟨S1,w1,h1,h2,h3⟩:=h;exact⟨S1,w1,fun b o hb=>hms _ _ (h1 b o hb),fun b o hb=>⟨(hS b o (h1 b o hb)).1.trans (h2 b o hb).1,(hS b o (h1 b o hb)).2.trans (h2 b o hb).2⟩,h3⟩
structure bH (M:ac) (w w':World):Prop where
 os:w'.os=w.os
 tape:w'.tape=w.tape
 output:w'.output=w.output
 size:w.heap.size<=w'.heap.size
 blk:∀ b,b<w.heap.size->(∀ o,¬M b o)->w'.heap[b]? = w.heap[b]?
 cel:∀ b o,b<w.heap.size->¬M b o->cel w' b o=cel w b o
 fro:∀ b o,b<w.heap.size->¬M b o->fro w' b o=fro w b o
theorem bH.refl (M:ac) (w:World):bH M w w:=⟨rfl,rfl,rfl,I2 _,fun _ _ _=>rfl,fun _ _ _ _=>rfl,fun _ _ _ _=>rfl⟩
theorem bH.trans {M M':ac} {a b c:World} (h:bH M a b) (h':bH M' b c) (hm:∀ x o,M' x o->a.heap.size<=x\/M x o):bH M a c:=by
 have hno:∀ x o,x<a.heap.size->¬M x o->¬M' x o:=fun x o hx hn h=>(hm x o h).elim (by omega) hn
 have hlt:∀ x,x<a.heap.size->x<b.heap.size:=fun x hx=>W2 hx h.size
 exact⟨h'.os.trans h.os,h'.tape.trans h.tape,h'.output.trans h.output,V3 h.size h'.size,fun x hx hn=>(h'.blk x (hlt x hx) (fun o=>hno x o hx (hn o))).trans (h.blk x hx hn),
   fun x o hx hn=>(h'.cel x o (hlt x hx) (hno x o hx hn)).trans (h.cel x o hx hn),fun x o hx hn=>(h'.fro x o (hlt x hx) (hno x o hx hn)).trans (h.fro x o hx hn)⟩
theorem bH.of_below {w w':World} (h:Below w.heap.size w w') (M:ac):bH M w w':=
 ⟨h.os,h.tape,h.output,h.size,fun b hb _=>h.block b hb,fun _ _ hb _=>h.cell hb,fun b o hb _=>Prod.ext (h.frozen hb) (by show mp w' b=mp w b;unfold mp;rw[h.block b hb])⟩
theorem bH.below {w w':World} (h:bH NO w w'):Below w.heap.size w w':=⟨h.os,h.tape,h.output,h.size,fun b hb=>h.blk b hb (fun _ h=>h)⟩
theorem MI {w:World} {b o:Nat} {z:Value} (h:cel w b o=some z):b<w.heap.size:=by
 rcases Nat.lt_or_ge b w.heap.size with hlt|hge
 ·exact hlt
 ·simp[cel,World.cell?,Array.getElem?_eq_none hge]at h
def tvs (a:Act) (t:Nat):Value:=a.tmps.getD t undef
structure eL where
 n:Nat
 kp:List (Nat × Value)
 mo:List (Nat × List Nat):=[]
def eL.free (N:eL) (d:Nat):Bool:=Nat.blt d N.n&&!N.kp.any fun p=>Nat.beq p.1 d
theorem eL.free_lt {N:eL} {d:Nat} (h:N.free d=true):d<N.n:=by
 simp only[eL.free,I0]at h;simpa[Nat.blt_eq] using h.1
theorem eL.free_ne {N:eL} {d:Nat} (h:N.free d=true) {p:Nat × Value} (hp:p∈N.kp):p.1≠d:=fun e=>by
 simp only[eL.free,I0,Bool.not_eq_true']at h;have:N.kp.any (fun p=>Nat.beq p.1 d)=true:=Z2.2 ⟨p,hp,by rw[e];exact Nat.beq_refl d⟩;rw[this]at h;cases h.2
structure bh (w0:World) (M S0:ac) (N:eL) (S:ac) (φ:Nat->ac) (F:Nat->AV) (a:Act) (w:World):Prop where
 slot:∀ t,cn w S F (tvs a) (φ t) (F t) (tvs a t)
 dis:∀ t t',t≠t'->∀ b o,φ t b o->¬φ t' b o
 disS:∀ t b o,φ t b o->¬S b o
 ex:∀ t b o,φ t b o->b<w.heap.size/\(w0.heap.size<=b\/M b o)
 sub:∀ b o,S0 b o->S b o
 sup:∀ b o,S b o->b<w.heap.size/\(S0 b o\/w0.heap.size<=b\/M b o)
 old:bH M w0 w
 size:a.tmps.size=N.n
 defers:a.defers=[]
 par:∀ p,p∈N.kp->tvs a p.1=p.2
def St (w0:World) (M S0:ac) (N:eL) (F:Nat->AV) (a:Act) (w:World):Prop:=∃ S φ,bh w0 M S0 N S φ F a w
theorem KT (a:Act) (d:Nat) (v:Value) (t:Nat) (hd:d<a.tmps.size):tvs (a.put (some d) v) t=if t=d then v else tvs a t:=by
 simp only[tvs,Act.put,V4,Array.getElem?_setIfInBounds];by_cases h:d=t
 ·subst h;simp[hd]
 ·rw[if_neg h,if_neg (fun e=>h e.symm)]
theorem kV (F:Nat->AV) (d:Nat) (v:AV):put F d v d=v:=by simp[put]
theorem gc (F:Nat->AV) {d t:Nat} (v:AV) (h:t≠d):put F d v t=kl d (F t):=by
 have:Nat.beq t d=false:=by rw[<-t4,Nat.beq_eq];exact h
 simp[put,this]
theorem Ar (d:Nat) (k:Kd) (cs:List C):kl d (.hold k cs)=.hold k cs:=rfl
section
variable {w0 w w1:World} {M S0 S:ac} {N:eL} {φ:Nat->ac} {F:Nat->AV} {a:Act}
theorem bh.put_gen (h:bh w0 M S0 N S φ F a w) (hk:bH NO w w1) {d:Nat} (hd:N.free d=true) {av:AV} {v:Value} {X:ac}
  (hv:cn w1 S F (tvs a) X av v) (hav:av.uses d=false) (hX:∀ b o,X b o->b<w1.heap.size/\(w0.heap.size<=b\/M b o)) (hXd:∀ t,t≠d->∀ b o,X b o->¬φ t b o) (hXS:∀ b o,X b o->¬S b o) :
  bh w0 M S0 N S (fun t=>if t=d then X else φ t) (put F d av) (a.put (some d) v) w1:=by
 have hsz:=h.size;have hall:∀ X:ac,(∀ b o,X b o->b<w.heap.size)->bi X w w1:=fun X hX b o hb=>⟨hk.cel b o (hX b o hb) (fun h=>h),hk.fro b o (hX b o hb) (fun h=>h)⟩
 have hphi:∀ t,bi (φ t) w w1:=fun t=>hall _ fun b o hb=>(h.ex t b o hb).1
 have hS1:bi S w w1:=hall _ fun b o hb=>(h.sup b o hb).1
 have htv:∀ t,tvs (a.put (some d) v) t=if t=d then v else tvs a t:=fun t=>KT a d v t (by have:=eL.free_lt hd;omega)
 refine⟨fun t=>?_,fun t t' hne b o hb hb'=>?_,fun t b o hb=>?_,fun t b o hb=>?_,h.sub,fun b o hb=>⟨W2 (h.sup b o hb).1 hk.size,(h.sup b o hb).2⟩,h.old.trans hk (fun _ _ h=>h.elim),by simp[Act.put];exact hsz,h.defers,fun p hp=>by rw[htv,if_neg (eL.free_ne hd hp)];exact h.par p hp⟩
 ·rw[htv]
  by_cases ht:t=d
  ·rw[if_pos ht,if_pos ht,ht,kV]
   refine hv.keep (φ:=φ) (fun t k cs he=>?_) (fun t hu=>?_) (fun _ _ _=>⟨rfl,rfl⟩) (fun _ _ _=>⟨rfl,rfl⟩) (fun _ _ h=>h) (fun _ _ h=>h)
   ·refine(h.slot t).keep (φ:=φ) (fun t _ _ _=>h.slot t) (fun t hu=>?_) (hphi t) hS1 (fun _ _ h=>h) (fun _ _ h=>h)
    exact⟨fun _ _ h=>h,rfl,hphi t⟩
   ·have hne:t≠d:=fun e=>by subst e;rw[hav]at hu;cases hu
    refine⟨fun k cs he=>by rw[gc _ _ hne,he,Ar],by rw[htv,if_neg hne],fun _ _ _=>⟨rfl,rfl⟩⟩
  ·rw[gc _ _ ht,if_neg ht,if_neg ht]
   rw[xI];cases hu:(F t).uses d with
   | true=>trivial
   | false=>
    simp only[cond_false];refine(h.slot t).keep (φ:=φ) (fun t _ _ _=>h.slot t) (fun t' hu'=>?_) (hphi t) hS1 (fun _ _ h=>h) (fun _ _ h=>h);have hne:t'≠d:=fun e=>by subst e;rw[hu]at hu';cases hu'
    exact⟨fun k cs he=>by rw[gc _ _ hne,he,Ar],by rw[htv,if_neg hne],hphi t'⟩
 ·by_cases ht:t=d
  ·rw[if_pos ht]at hb
   by_cases ht':t'=d
   ·exact hne (ht.trans ht'.symm)
   ·rw[if_neg ht']at hb';exact hXd t' ht' b o hb hb'
  ·rw[if_neg ht]at hb
   by_cases ht':t'=d
   ·rw[if_pos ht']at hb';exact hXd t ht b o hb' hb
   ·rw[if_neg ht']at hb';exact h.dis t t' hne b o hb hb'
 ·split at hb
  ·exact hXS b o hb
  ·exact h.disS t b o hb
 ·split at hb
  ·exact hX b o hb
  ·exact⟨W2 (h.ex t b o hb).1 hk.size,(h.ex t b o hb).2⟩
def KB (d:Nat):AV->AV
 | .ref t off st=>bif Nat.beq t d then .dead else .ref t off st
 | .bor t off st ag=>bif Nat.beq t d then .dead else .bor t off st ag
 | .fn f caps=>.fn f caps
 | .hold k cs=>.hold k cs
 | .iref r off=>.iref r off
 | .fv Ok=>.fv Ok
 | .dead=>.dead
def kill (F:Nat->AV) (d:Nat):Nat->AV:=fun t=>bif Nat.beq t d then .dead else KB d (F t)
theorem l8 (F:Nat->AV) (d:Nat):kill F d d=.dead:=by simp[kill]
theorem gG (F:Nat->AV) {d t:Nat} (h:t≠d):kill F d t=KB d (F t):=by
 have:Nat.beq t d=false:=by rw[<-t4,Nat.beq_eq];exact h
 simp[kill,this]
theorem bh.forget (h:bh w0 M S0 N S φ F a w) (d:Nat):bh w0 M S0 N S (fun t=>if t=d then NO else φ t) (kill F d) a w:=by
 refine⟨fun t=>?_,fun t t' hne b o hb hb'=>?_,fun t b o hb=>?_,fun t b o hb=>?_,h.sub,h.sup,h.old,h.size,h.defers,h.par⟩
 ·by_cases ht:t=d
  ·subst ht;rw[l8];trivial
  ·rw[gG _ ht,if_neg ht]
   have hgen:KB d (F t)=kl d (F t)->cn w S (kill F d) (tvs a) (φ t) (KB d (F t)) (tvs a t):=fun e=>by
    rw[e,xI];cases hu:(F t).uses d with
    | true=>trivial
    | false=>
     simp only[cond_false];refine(h.slot t).keep (φ:=φ) (fun t _ _ _=>h.slot t) (fun t' hu'=>?_) (fun _ _ _=>⟨rfl,rfl⟩) (fun _ _ _=>⟨rfl,rfl⟩) (fun _ _ h=>h) (fun _ _ h=>h);have hne:t'≠d:=fun e=>by subst e;rw[hu]at hu';cases hu'
     exact⟨fun k cs he=>by rw[gG _ hne,he];rfl,rfl,fun _ _ _=>⟨rfl,rfl⟩⟩
   cases hFt:F t with
   | fn f caps=>have hs:=h.slot t;rw[hFt]at hs;exact hs
   | _=>rw[<-hFt];exact hgen (by rw[hFt];rfl)
 ·split at hb
  ·exact hb.elim
  ·split at hb'
   ·exact hb'.elim
   ·exact h.dis t t' hne b o hb hb'
 ·split at hb
  ·exact hb.elim
  ·exact h.disS t b o hb
 ·split at hb
  ·exact hb.elim
  ·exact h.ex t b o hb
end
inductive TK where
 |st (flds:List (Nat × Nat))
 |sl (elem:Nat)
 |sc (d:TypeDesc)
 |mp (key elem:Nat) (z:Value)
structure TI where
 size:Nat
 bytes:Nat
 zero:List C
 kind:TK
instance:Inhabited TI:=⟨⟨0,0,[],.st []⟩⟩
def TI.agg (i:TI):Bool:=match i.kind with|.st _=>true|_=>false
def cval:C->Value
 | .v x=>x
 | .z=>.slice none 0 0
 | _=>undef
def aI:List C->Prop
 | []=>True
 | .v x::cs=>x.oneCell'=true/\aI cs
 | .z::cs=>aI cs
 | _=>False
def bY (P:Program) (t:Nat) (i:TI):Prop:=
 (P.info? t).map (fun x=>(x.zero.map (·.cells.toList),x.size,x.bytes))=some (some (i.zero.map cval),i.size,i.bytes)/\aI i.zero/\
 match i.kind with
 | .st flds=>∃ fs,P.underlying t=some (.struct fs)/\fs.toList.map (fun f=>(f.offset,f.type))=flds
 | .sl e=>P.underlying t=some (.slice e)
 | .sc d=>P.underlying t=some d/\(match d with|.struct _|.array _ _=>False|_=>True)
 | .mp k e z=>P.underlying t=some (.map k e)/\P.underlying k=some (.int .i64)/\(P.info? e).bind (·.zero)=some z/\z.oneCell'=true
def d4:C->Bool
 | .s .own _=>true
 | .s (.tag _) _=>true
 | .m _=>true
 | .it _ _=>true
 | _=>false
def aV:List C->Bool
 | []=>true
 | c::cs=>bif d4 c then false else aV cs
def bq (cs:List C) (off n:Nat):List C:=(cs.drop off).take n
def vZ:Value->C
 | .slice none 0 0=>.z
 | v=>.v v
def jJ:Value->AV
 | .agg arr=>bif arr.all (·.oneCell') then .hold .agg (arr.toList.map vZ) else .dead
 | .tuple _=>.dead
 | .pointer (some _)=>.dead
 | v=>.hold .one [vZ v]
def lA (F:Nat->AV):Operand->AV
 | .tmp t=>F t
 | .const v=>jJ v
 | .global _=>.dead
 | .func f=>.fn f []
inductive Rw (cs:List C) (off:Nat) (st:cm) (K:List C->Nat->Prop):Prop
 |mk_ (h:∃ r j,bQ cs off st=some (r,j)/\K r j)
theorem Rw.mk {cs:List C} {off:Nat} {st:cm} {K:List C->Nat->Prop} {r:List C} {j:Nat} (h:bQ cs off st=some (r,j)) (hK:K r j):Rw cs off st K:=by refine .mk_ ?_;exact⟨r,j,h,hK⟩
theorem Rw.out {cs:List C} {off:Nat} {st:cm} {K:List C->Nat->Prop} (h:Rw cs off st K):∃ r j,bQ cs off st=some (r,j)/\K r j:=by obtain⟨h⟩:=h;exact h
inductive Wr (k:IntKind) (x:Int) (K:Int->Prop):Prop
 |mk_ (h:∃ z,k.wrap x=z/\K z)
theorem Wr.mk {k:IntKind} {x z:Int} {K:Int->Prop} (h:k.wrap x=z) (hK:K z):Wr k x K:=by refine .mk_ ?_;exact⟨z,h,hK⟩
theorem Wr.out {k:IntKind} {x:Int} {K:Int->Prop} (h:Wr k x K):∃ z,k.wrap x=z/\K z:=by obtain⟨h⟩:=h;exact h
inductive Ev (x:Int) (K:Int->Prop):Prop
 |mk_ (h:∃ z,x=z/\K z)
theorem Ev.mk {x z:Int} {K:Int->Prop} (h:x=z) (hK:K z):Ev x K:=by refine .mk_ ?_;exact⟨z,h,hK⟩
theorem Ev.out {x:Int} {K:Int->Prop} (h:Ev x K):∃ z,x=z/\K z:=by obtain⟨h⟩:=h;exact h
inductive Ln (x:Nat) (K:Nat->Prop):Prop
 |mk_ (h:∃ z,x=z/\K z)
theorem Ln.mk {x z:Nat} {K:Nat->Prop} (h:x=z) (hK:K z):Ln x K:=by refine .mk_ ?_;exact⟨z,h,hK⟩
theorem Ln.out {x:Nat} {K:Nat->Prop} (h:Ln x K):K x:=by obtain⟨h⟩:=h;obtain⟨z,rfl,h⟩:=h;exact h
inductive Cd (p:Prop) (X:Prop):Prop
 |mk_ (h:p/\X)
theorem Cd.mk {p X:Prop} (h:p) (hX:X):Cd p X:=by refine .mk_ ?_;exact⟨h,hX⟩
theorem Cd.out {p X:Prop} (h:Cd p X):p/\X:=by obtain⟨h⟩:=h;exact h
inductive Ix (rows:List (List C)) (i:Int) (K:List C->Prop):Prop
 |mk_ (h:0<=i/\∃ r,rows[i.toNat]? = some r/\K r)
theorem Ix.mk {rows:List (List C)} {i:Int} {K:List C->Prop} {r:List C} (h0:0<=i) (h:rows[i.toNat]? = some r) (hK:K r):Ix rows i K:=by refine .mk_ ?_;exact⟨h0,r,h,hK⟩
theorem Ix.nat {rows:List (List C)} {i:Nat} {K:List C->Prop} {r:List C} (h:rows[i]? = some r) (hK:K r):Ix rows (i:Int) K:=Ix.mk (by omega) h hK
theorem Ix.out {rows:List (List C)} {i:Int} {K:List C->Prop} (h:Ix rows i K):0<=i/\∃ r,rows[i.toNat]? = some r/\K r:=by obtain⟨h⟩:=h;exact h
inductive Bf (b:Bool) (X Y:Prop):Prop
 |mk_ (h:bif b then X else Y)
theorem Bf.out {b:Bool} {X Y:Prop} (h:Bf b X Y):bif b then X else Y:=by obtain⟨h⟩:=h;exact h
theorem Bf.in_ {b:Bool} {X Y:Prop} (h:bif b then X else Y):Bf b X Y:=by refine .mk_ ?_;exact h
theorem Bf.t {b:Bool} {X Y:Prop} (h:b=true) (hX:X):Bf b X Y:=by subst h;exact .in_ hX
theorem Bf.f {b:Bool} {X Y:Prop} (h:b=false) (hY:Y):Bf b X Y:=by subst h;exact .in_ hY
theorem Bf.P {b:Bool} {X Y:Prop} (h1:b=true->X) (h2:b=false->Y):Bf b X Y:=by cases b;exact .f rfl (h2 rfl);exact .t rfl (h1 rfl)
theorem Bf.D {p:Prop} [Decidable p] {X Y:Prop} (h1:p->X) (h2:¬p->Y):Bf (decide p) X Y:=.P (fun h=>h1 (of_decide_eq_true h)) (fun h=>h2 (of_decide_eq_false h))
theorem Bf.E {a b:Int} {X Y:Prop} (h1:a=b->X) (h2:a≠b->Y):Bf (a == b) X Y:=.P (fun h=>h1 (by simpa using h)) (fun h=>h2 (by simpa using h))
theorem Bf.N {a b:Int} {X Y:Prop} (h1:a≠b->X) (h2:a=b->Y):Bf (a != b) X Y:=.P (fun h=>h1 (by simpa using h)) (fun h=>h2 (by simpa using h))
theorem Bf.not {b:Bool} {X Y:Prop} (h:Bf b Y X):Bf (!b) X Y:=by cases b<;>exact .in_ h.out
def tf (F:Nat->AV) (t off:Nat) (st:cm) (K:List C->Nat->Prop):Prop:=
 match F t with
 | .hold _ cs=>match st with
  | []=>K cs off
  | s::st=>Rw cs off (s::st) K
 | _=>False
def gE (F:Nat->AV):AV->(Option Nat->List C->Prop)->Prop
 | .hold .one cs,K=>K none cs
 | .hold .agg cs,K=>K (some cs.length) cs
 | .bor t off st ag,K=>tf F t off st fun r j=>K ag (bq r j (ag.getD 1))
 | .fn f [],K=>K none [.v (.func (.func f) #[] #[])]
 | _,_=>False
def bN (w:World) (S Y:ac) (ag:Option Nat) (cs:List C) (v:Value):Prop:=
 cs.length=ag.getD 1/\∃ u,v=mkv ag u/\cF w S Y cs u
theorem nS {F:Nat->AV} {t off:Nat} {st:cm} {K:List C->Nat->Prop} (h:tf F t off st K):∃ k cs r j,F t=.hold k cs/\bQ cs off st=some (r,j)/\K r j:=by
 unfold tf at h;cases hF:F t with
 | hold k cs=>
  rw[hF]at h;cases st with
  | nil=>exact⟨k,cs,cs,off,rfl,rfl,h⟩
  | cons s st=>obtain⟨r,j,e,h⟩:=Rw.out h;exact⟨k,cs,r,j,rfl,e,h⟩
 | _=>rw[hF]at h;exact h.elim
theorem oq (arr:Array Value):Value.agg arr=mkv (some arr.size) (fun j=>arr.toList.getD j undef):=by
 simp only[mkv]
 congr 1
 apply Array.ext';apply List.ext_getElem?;intro j;by_cases hj:j<arr.size
 ·simp[hj,List.getD]
 ·simp[hj]
theorem gH {ag:Option Nat} {u u':Nat->Value} (h:∀ j,j<ag.getD 1->u j=u' j):mkv ag u=mkv ag u':=by
 cases ag with
 | none=>exact h 0 (by simp)
 | some n=>simp only[mkv];congr 2;exact List.map_congr_left fun j hj=>h j (by simpa using List.mem_range.1 hj)
section
variable {P:Program} {w0 w w1:World} {M S0 S:ac} {N:eL} {φ:Nat->ac} {F:Nat->AV} {a:Act}
theorem oX (S F:ac) {v:Value} (h:v.oneCell'=true):dP w S F (vZ v) v:=by
 unfold vZ;split
 ·exact .z _ _
 ·exact .v _ _ h
theorem GW (v:Value):cn w S F (tvs a) NO (jJ v) v:=by
 cases v with
 | agg arr=>
  cases hall:arr.all (·.oneCell') with
  | false=>
   have e:jJ (.agg arr)=.dead:=by simp only[jJ,hall,cond_false]
   rw[e];trivial
  | true=>
   have e:jJ (.agg arr)=.hold .agg (arr.toList.map vZ):=by simp only[jJ,hall,cond_true]
   rw[e];refine⟨NO,NO,fun _ _ h=>h,fun _ _ h=>h,fun _ _ _ h=>h,⟨arr,rfl,by simp⟩,fun _=>NO,fun j c hj=>?_,fun _ _ _ _ h=>h,fun _ _ _ _ _ _ _ h=>h.elim⟩;rw[O2,Array.getElem?_toList]at hj;cases hx:arr[j]? with
   | none=>rw[hx]at hj;cases hj
   | some x=>
    rw[hx]at hj;simp only[Y3,T0]at hj;subst hj;have hone:x.oneCell'=true:=by
     obtain⟨hlt,he⟩:=R2.1 hx;have:=Array.all_eq_true.1 hall j hlt
     rwa [he]at this
    have:bS w .agg (.agg arr) j=x:=by simp[bS,Value.cells,List.getD,hx]
    rw[this];exact oX _ _ hone
 | tuple _=>trivial
 | pointer p=>cases p with
  | some _=>trivial
  | none=>exact⟨NO,NO,fun _ _ h=>h,fun _ _ h=>h,fun _ _ _ h=>h,rfl,fun _=>NO,fun j c hj=>by cases j with|zero=>simp at hj;subst hj;exact oX _ _ rfl|succ j=>simp at hj,fun _ _ _ _ h=>h,fun _ _ _ _ _ _ _ h=>h.elim⟩
 | _=>exact⟨NO,NO,fun _ _ h=>h,fun _ _ h=>h,fun _ _ _ h=>h,rfl,fun _=>NO,fun j c hj=>by cases j with|zero=>simp at hj;subst hj;exact oX _ _ rfl|succ j=>simp at hj,fun _ _ _ _ h=>h,fun _ _ _ _ _ _ _ h=>h.elim⟩
def NP (φ:Nat->ac):Operand->ac
 | .tmp t=>φ t
 | _=>NO
theorem bh.ev (h:bh w0 M S0 N S φ F a w) (x:Operand):cn w S F (tvs a) (NP φ x) (lA F x) (a.eval x):=by
 cases x with
 | tmp t=>exact h.slot t
 | const v=>exact GW v
 | global g=>trivial
 | func f=>rfl
theorem bh.place (h:bh w0 M S0 N S φ F a w) {t off:Nat} {st:cm} {k:Kd} {cs r:List C} {j:Nat} (hF:F t=.hold k cs) (hr:bQ cs off st=some (r,j)) :
  ∃ Y u,(∀ b o,Y b o->φ t b o)/\cF w S Y r u/\(∀ d,cellv w (bS w k (tvs a t)) off st d=u (j+d))/\
   (∀ g o,plc w (bS w k (tvs a t)) (mX k (tvs a t)) off st=some (g,o)->∃ b,o=b+j/\∀ d,d<r.length->cel w g (b+d)=some (u d)):=by
 have hs:=h.slot t;rw[hF]at hs;obtain⟨X1,Y,h1,h2,h3,h4,h5⟩:=hs;obtain⟨F',u',e1,e2,e3,e0,e4⟩:=cF.at_ st (mX k (tvs a t)) h5 hr;refine⟨F',u',fun b o hb=>h2 b o (e1 b o hb),e2,e3,fun g o hp=>?_⟩;by_cases hst:st=[]
 ·subst hst
  simp only[bQ,T0,Prod.mk.injEq]at hr;obtain⟨rfl,rfl⟩:=hr;rw[e0 rfl];cases k with
  | box=>
   obtain⟨g',o',hv,hcell⟩:=h4;rw[hv]at hp |-;simp only[plc,mX,Y3,T0,Prod.mk.injEq]at hp;obtain⟨rfl,rfl⟩:=hp;refine⟨o',rfl,fun d hd=>?_⟩;obtain⟨-,⟨z,hz⟩,-⟩:=hcell d hd;simp only[bS,hz,Option.getD_some]
  | _=>simp[plc,mX]at hp
 ·obtain⟨g',b,hp',hc⟩:=e4 hst
  rw[hp']at hp;simp only[T0,Prod.mk.injEq]at hp;obtain⟨rfl,rfl⟩:=hp;exact⟨b,rfl,hc⟩
theorem bh.val (h:bh w0 M S0 N S φ F a w) {av:AV} {v:Value} {X:ac} {K:Option Nat->List C->Prop} (hs:cn w S F (tvs a) X av v) (hp:gE F av K) :
  ∃ ag cs Y,K ag cs/\bN w S Y ag cs v/\∀ b o,Y b o->X b o\/∃ t,φ t b o:=by
 cases av with
 | hold k cs=>
  obtain⟨X1,Y,h1,h2,h3,h4,h5⟩:=hs;cases k with
  | one=>exact⟨none,cs,Y,hp,⟨h4,_,rfl,h5⟩,fun b o hb=>.inl (h2 b o hb)⟩
  | agg=>
   obtain⟨arr,rfl,hsz⟩:=h4;exact⟨some cs.length,cs,Y,hp,⟨rfl,bS w .agg (.agg arr),by have:=oq arr;rw[hsz]at this;exact this,h5⟩,fun b o hb=>.inl (h2 b o hb)⟩
  | _=>exact hp.elim
 | bor t off st ag=>
  replace hp:tf F t off st (fun r j=>K ag (bq r j (ag.getD 1))):=hp;obtain⟨k,cs,r,j,hF,hr,hK⟩:=nS hp;obtain⟨k',cs',r',j',hF',hr',hlen,hv⟩:=hs;rw[hF]at hF';simp only[AV.hold.injEq]at hF';obtain⟨rfl,rfl⟩:=hF';rw[hr]at hr';simp only[T0,Prod.mk.injEq]at hr';obtain⟨rfl,rfl⟩:=hr';obtain⟨Y,u,hY,hrow,hcv,-⟩:=h.place hF hr;refine⟨ag,_,Y,hK,⟨by simp[bq];omega,fun d=>u (j+d),?_,hrow.part j _⟩,fun b o hb=>.inr ⟨t,hY b o hb⟩⟩;rw[hv];exact gH fun d _=>hcv d
 | fn f caps=>
  cases caps with
  | cons c cs=>exact hp.elim
  | nil=>
   refine⟨none,_,NO,hp,⟨rfl,fun _=>v,rfl,fun _=>NO,fun j c hj=>?_,fun _ _ _ _ h=>h,fun _ _ _ _ _ _ _ h=>h.elim⟩,fun _ _ h=>h.elim⟩;cases j with
   | zero=>simp at hj;subst hj;rw[show v=.func (.func f) #[] #[] from hs];exact .v _ _ rfl
   | succ j=>simp at hj
 | _=>exact hp.elim
end
def wS (P:Program) (o:Oper) (a:Act) (w:World) (R:Value->World->Prop):Prop:=
 ∀ (Kc:Act->World->Prop) (Q:Exit->Act->World->Prop),(∀ v w1,R v w1->Kc (a.put o.dst v) w1)->o.wp P a w Kc Q
theorem wS.value {P:Program} {o:Oper} {a:Act} {w w1:World} {R:Value->World->Prop} {v:Value} (h:(execOp a.eval o).run P w=.ok (.value v) w1) (hR:R v w1):wS P o a w R:=by
 intro Kc Q hk;unfold Oper.wp;rw[h,Oper.upon_value];exact hk v w1 hR
theorem wS.skip {P:Program} {o:Oper} {a:Act} {w w1:World} {R:Value->World->Prop} (h:(execOp a.eval o).run P w=.ok .skip w1) (hR:R undef w1):wS P o a w R:=by
 intro Kc Q hk;unfold Oper.wp;rw[h,Oper.upon_skip];exact hk undef w1 hR
theorem wS.enter {P:Program} {o:Oper} {a:Act} {w:World} {R:Value->World->Prop} {f:FuncId} {args:Array Value} (h:(execOp a.eval o).run P w=.ok (.enter f args) w)
  (hc:Calls P f args w fun e w1=>∃ v,e=.returned v/\R v w1):wS P o a w R:=by
 intro Kc Q hk;unfold Oper.wp;rw[h,Oper.upon_enter];refine hc.mono fun e w1 he=>?_
 obtain⟨v,rfl,hR⟩:=he;exact hk v w1 hR
def kM (w:World) (S:ac) (F:Nat->AV) (a:Act) (av:AV) (v:Value) (w1:World):Prop:=
 bH NO w w1/\∃ X S1:ac,(∀ b o,X b o->b<w1.heap.size/\w.heap.size<=b)/\(∀ b o,S b o->S1 b o)/\(∀ b o,S1 b o->S b o\/(b<w1.heap.size/\w.heap.size<=b))/\(∀ b o,X b o->¬S1 b o)/\cn w1 S1 F (tvs a) X av v
theorem dP.bare {w:World} {S F F':ac} {c:C} {v:Value} (h:dP w S F c v) (hc:d4 c=false):dP w S F' c v:=by
 induction h with
 | v F x h1=>exact .v _ x h1
 | x F u h1=>exact .x _ u h1
 | z F a=>exact .z _ a
 | nil F o a ho=>exact .nil _ o a ho
 | imm F g off k n cap rows u hn hk hcap hS hc2 _=>exact .imm _ g off k n cap rows u hn hk hcap hS hc2
 | own F o g k n cap rows u f ho=>cases o with|imm=>exact ho.elim|own=>cases hc|tag v=>cases hc
 | m F b clock es ents hF hb he hv hst=>cases hc
 | it=>cases hc
theorem pJ:∀ {cs:List C},aV cs=true->∀ (j:Nat) (c:C),cs[j]? = some c->d4 c=false
 | [],_,j,c,h=>by simp at h
 | c0::cs,h,j,c,hj=>by
  simp only[aV]at h;cases h0:d4 c0 with
  | true=>rw[h0]at h;cases h
  | false=>
   rw[h0]at h;cases j with
   | zero=>simp at hj;subst hj;exact h0
   | succ j=>exact pJ h j c (by simpa using hj)
theorem cF.bare {w:World} {S F F':ac} {cs:List C} {u:Nat->Value} (h:cF w S F cs u) (hc:aV cs=true):cF w S F' cs u:=by
 obtain⟨f,h1,-,-⟩:=h;exact⟨fun _=>NO,fun j c hj=>(h1 j c hj).bare (pJ hc j c hj),fun _ _ _ _ h=>h.elim,fun _ _ _ _ _ _ _ h=>h.elim⟩
theorem Df {w:World} {n:Nat} {u:Nat->Value} {j:Nat} (hj:j<n):bS w .agg (mkv (some n) u) j=u j:=by
 simp[bS,mkv,Value.cells,List.getD,hj]
def jY:Option Nat->Kd
 | none=>.one
 | some _=>.agg
theorem bN.slot {w:World} {S Y:ac} {F:Nat->AV} {tv:Nat->Value} {ag:Option Nat} {cs:List C} {v:Value} (h:bN w S Y ag cs v):cn w S F tv Y (.hold (jY ag) cs) v:=by
 obtain⟨hl,u,rfl,hr⟩:=h;cases ag with
 | none=>
  refine⟨NO,Y,fun _ _ h=>h.elim,fun _ _ h=>h,fun _ _ h=>h.elim,hl,hr.congr fun j hj=>?_⟩;have:j=0:=by simp at hl;omega
  subst this;rfl
 | some n=>
  simp only[Option.getD_some]at hl;exact⟨NO,Y,fun _ _ h=>h.elim,fun _ _ h=>h,fun _ _ h=>h.elim,⟨_,rfl,by simp[hl]⟩,hr.congr fun j hj=>Df (by omega)⟩
theorem bN.bare {w:World} {S Y Y':ac} {ag:Option Nat} {cs:List C} {v:Value} (h:bN w S Y ag cs v) (hc:aV cs=true):bN w S Y' ag cs v:=
 ⟨h.1,h.2.choose,h.2.choose_spec.1,h.2.choose_spec.2.bare hc⟩
def bm (F:Nat->AV) (x:Operand) (K:AV->Prop):Prop:=
 match x with
 | .tmp t=>match F t with
  | .hold .box _=>K (.ref t 0 [])
  | .hold .one cs=>bif aV cs then K (.hold .one cs) else K (.bor t 0 [] none)
  | .hold .agg cs=>bif aV cs then K (.hold .agg cs) else K (.bor t 0 [] (some cs.length))
  | .hold (.tup sh) cs=>bif aV cs then K (.hold (.tup sh) cs) else False
  | .ref t off st=>K (.ref t off st)
  | .bor t off st ag=>K (.bor t off st ag)
  | .iref r off=>K (.iref r off)
  | .fn f caps=>K (.fn f caps)
  | .fv Ok=>K (.fv Ok)
  | .dead=>K .dead
 | .const v=>K (jJ v)
 | .global _=>K .dead
 | .func f=>K (.fn f [])
section
variable {P:Program} {w0 w w1:World} {M S0 S:ac} {N:eL} {φ:Nat->ac} {F:Nat->AV} {a:Act}
theorem bh.move (h:bh w0 M S0 N S φ F a w) {x:Operand} {K:AV->Prop} (hp:bm F x K):∃ av,K av/\cn w S F (tvs a) NO av (a.eval x):=by
 have hev:=h.ev x;cases x with
 | tmp t=>
  simp only[bm]at hp;simp only[lA,NP]at hev;show ∃ av,K av/\cn w S F (tvs a) NO av (tvs a t)
  replace hev:cn w S F (tvs a) (φ t) (F t) (tvs a t):=hev;cases hF:F t with
  | hold k cs=>
   rw[hF]at hp hev;obtain⟨X1,Y,h1,h2,h3,h4,h5⟩:=hev;cases k with
   | box=>
    obtain⟨g,o,hv,-⟩:=h4;exact⟨_,hp,.box,cs,cs,0,g,o,hF,rfl,by rw[hv];rfl,hv⟩
   | one=>
    simp only at hp;cases hn:aV cs with
    | true=>rw[hn]at hp;exact⟨_,hp,NO,NO,fun _ _ h=>h,fun _ _ h=>h,fun _ _ h=>h.elim,h4,h5.bare hn⟩
    | false=>
     rw[hn]at hp;exact⟨_,hp,.one,cs,cs,0,hF,rfl,by simp[show cs.length=1 from h4],rfl⟩
   | agg=>
    simp only at hp;cases hn:aV cs with
    | true=>rw[hn]at hp;exact⟨_,hp,NO,NO,fun _ _ h=>h,fun _ _ h=>h,fun _ _ h=>h.elim,h4,h5.bare hn⟩
    | false=>
     rw[hn]at hp;refine⟨_,hp,.agg,cs,cs,0,hF,rfl,by simp,?_⟩;obtain⟨arr,hv,hsz⟩:=h4;rw[hv,oq,hsz];refine gH fun j hj=>?_
     show _=bS w .agg _ (0+j);rw[Y4,Df (by simpa using hj)]
   | tup sh=>
    simp only at hp;cases hn:aV cs with
    | true=>rw[hn]at hp;exact⟨_,hp,NO,NO,fun _ _ h=>h,fun _ _ h=>h,fun _ _ h=>h.elim,h4,h5.bare hn⟩
    | false=>rw[hn]at hp;exact hp.elim
  | dead=>rw[hF]at hp;exact⟨_,hp,trivial⟩
  | ref=>rw[hF]at hp hev;exact⟨_,hp,hev⟩
  | bor=>rw[hF]at hp hev;exact⟨_,hp,hev⟩
  | iref=>rw[hF]at hp hev;exact⟨_,hp,hev⟩
  | fn=>rw[hF]at hp hev;exact⟨_,hp,hev⟩
  | fv=>rw[hF]at hp hev;exact⟨_,hp,hev⟩
 | const v=>exact⟨_,hp,hev⟩
 | global g=>exact⟨_,hp,hev⟩
 | func f=>exact⟨_,hp,hev⟩
theorem wS.same {o:Oper} {av:AV} {v:Value} (h:(execOp a.eval o).run P w=.ok (.value v) w) (hs:cn w S F (tvs a) NO av v):wS P o a w (kM w S F a av):=
 .value h ⟨bH.refl _ _,NO,S,fun _ _ h=>h.elim,fun _ _ h=>h,fun _ _ h=>.inl h,fun _ _ h=>h.elim,hs⟩
def ot (i:TI):Option Nat:=bif i.agg then some i.size else none
def M0 (F:Nat->AV) (i:TI) (t off:Nat) (st:cm) (K:AV->Prop):Prop:=
 tf F t off st fun r j=>bif Nat.beq (bq r j i.size).length i.size then(bif aV (bq r j i.size) then K (.hold (jY (ot i)) (bq r j i.size)) else K (.bor t off st (ot i))) else False
def sB (TE:Nat->Option TI) (F:Nat->AV) (T:Nat) (x:Operand) (K:AV->Prop):Prop:=
 match TE T with
 | none=>False
 | some i=>bif i.agg || Nat.beq i.size 1 then(match x with
   | .tmp t=>match F t with
     | .hold .box _=>M0 F i t 0 [] K
     | .ref t off st=>M0 F i t off st K
     | .iref r off=>bif Nat.beq (bq r off i.size).length i.size then K (.hold (jY (ot i)) (bq r off i.size)) else False
     | _=>False
   | _=>False) else False
theorem iO (g o j:Nat):(⟨g,o,none⟩ : Addr).add j = ⟨g,o+j,none⟩:=by unfold Addr.add;split<;>simp_all
theorem bY.size {t:Nat} {i:TI} (h:bY P t i):(P.info? t).map (·.size)=some i.size:=by
 have:=h.1;cases hq:P.info? t with
 | none=>rw[hq]at this;cases this
 | some q=>rw[hq]at this;simp only[Y3,T0,Prod.mk.injEq]at this |-;exact this.2.1
theorem bY.isAgg {t:Nat} {i:TI} (h:bY P t i):(isAgg t).run P w=.ok i.agg w:=by
 have:=h.2.2;unfold Go.isAgg TI.agg;cases hk:i.kind with
 | st flds=>rw[hk]at this;obtain⟨fs,h1,-⟩:=this;simp[run_underlying h1]
 | sl e=>rw[hk]at this;simp[run_underlying this]
 | sc d=>rw[hk]at this;obtain⟨h1,h2⟩:=this;simp[run_underlying h1];cases d<;>first|exact h2.elim|rfl
 | mp k e z=>rw[hk]at this;simp[run_underlying this.1]
theorem iR {t n:Nat} (h:(P.info? t).map (·.size)=some n):(sizeOf t).run P w=.ok n w:=by
 cases hq:P.info? t with
 | none=>rw[hq]at h;cases h
 | some q=>rw[hq]at h;simp only[Y3,T0]at h;simp[sizeOf,typeInfo,hq,h]
theorem ur {T:Nat} {i:TI} (ht:bY P T i) (ha:(i.agg || Nat.beq i.size 1)=true) {g o:Nat} {u:Nat->Value} (hc:∀ d,d<i.size->cel w g (o+d)=some (u d)) :
  (Instr.loadAt T (.pointer (some ⟨g,o,none⟩))).run P w=.ok (mkv (ot i) u) w:=by
 have hA:=ht.isAgg (w:=w);unfold Instr.loadAt Instr.sureAddr loadVar ot;cases hagg:i.agg with
 | true=>
  rw[hagg]at hA;have:=run_loadCells (P:=P) w ⟨g,o,none⟩ i.size u (fun j hj=>by rw[iO];exact hc j hj);simp[hA,iR ht.size,this,mkv]
 | false=>
  rw[hagg]at hA ha;have h1:i.size=1:=by simpa using ha
  have:=hc 0 (by omega);simp only[Nat.add_zero]at this;simp[hA,this,mkv]
theorem yn {r:List C} {j n:Nat} (h:Nat.beq (bq r j n).length n=true):n=0\/j+n<=r.length:=by
 have:=P1 h;simp[bq]at this;omega
theorem mE {i:TI} (ha:(i.agg || Nat.beq i.size 1)=true):(ot i).getD 1=i.size:=by
 unfold ot;cases h:i.agg with
 | true=>rfl
 | false=>rw[h]at ha;simp at ha |-;omega
theorem bh.ld (h:bh w0 M S0 N S φ F a w) {T:Nat} {i:TI} (ht:bY P T i) (ha:(i.agg || Nat.beq i.size 1)=true) {t off:Nat} {st:cm} {k:Kd} {cs r:List C} {j g o:Nat} {K:AV->Prop} (hF:F t=.hold k cs)
  (hr:bQ cs off st=some (r,j)) (hpl:plc w (bS w k (tvs a t)) (mX k (tvs a t)) off st=some (g,o)) (hp:M0 F i t off st K) :
  ∃ av v,K av/\(Instr.loadAt T (.pointer (some ⟨g,o,none⟩))).run P w=.ok v w/\cn w S F (tvs a) NO av v:=by
 obtain⟨Y,u,hY,hrow,hcv,hcell⟩:=h.place hF hr;obtain⟨k',cs',r',j',hF',hr',hK⟩:=nS hp;rw[hF]at hF';simp only[AV.hold.injEq]at hF';obtain⟨rfl,rfl⟩:=hF';rw[hr]at hr';simp only[T0,Prod.mk.injEq]at hr';obtain⟨rfl,rfl⟩:=hr';cases hlen:Nat.beq (bq r j i.size).length i.size with
 | false=>rw[hlen]at hK;exact hK.elim
 | true=>
  rw[hlen]at hK;simp only[cond_true]at hK;obtain⟨b,rfl,hc⟩:=hcell g o hpl;have hln:=yn hlen;have hrun:=ur (w:=w) ht ha (g:=g) (o:=b+j) (u:=fun d=>u (j+d)) (fun d hd=>by rw[Nat.add_assoc];exact hc _ (by omega));have hval:bN w S Y (ot i) (bq r j i.size) (mkv (ot i) fun d=>u (j+d)):=⟨by rw[mE ha];exact P1 hlen,_,rfl,hrow.part j _⟩
  cases hn:aV (bq r j i.size) with
  | true=>
   rw[hn]at hK;exact⟨_,_,hK,hrun,(hval.bare hn).slot⟩
  | false=>
   rw[hn]at hK;have h0:i.size≠0:=fun e=>by simp[bq,e,aV]at hn
   refine⟨_,_,hK,hrun,k,cs,r,j,hF,hr,by rw[mE ha];omega,?_⟩;exact gH fun d _=>(hcv d).symm
theorem bh.load (h:bh w0 M S0 N S φ F a w) {TE:Nat->Option TI} (hTE:∀ t i,TE t=some i->bY P t i) {T:Nat} {x:Operand} {K:AV->Prop} (hp:sB TE F T x K) :
  ∃ av v,K av/\(Instr.loadAt T (a.eval x)).run P w=.ok v w/\cn w S F (tvs a) NO av v:=by
 unfold sB at hp;cases hT:TE T with
 | none=>rw[hT]at hp;exact hp.elim
 | some i=>
  rw[hT]at hp;have ht:=hTE T i hT;simp only at hp;cases ha:(i.agg || Nat.beq i.size 1) with
  | false=>rw[ha]at hp;exact hp.elim
  | true=>
   rw[ha]at hp;cases x with
   | tmp t=>
    have hs:=h.slot t;show ∃ av v,K av/\(Instr.loadAt T (tvs a t)).run P w=.ok v w/\_
    simp only[cond_true]at hp;cases hF:F t with
    | hold k cs=>
     rw[hF]at hp hs;cases k with
     | box=>
      obtain⟨X1,Y,h1,h2,h3,⟨g,o,hv,-⟩,h5⟩:=hs;have hpl:plc w (bS w .box (tvs a t)) (mX .box (tvs a t)) 0 []=some (g,o):=by rw[hv];rfl
      rw[hv];exact h.ld ht ha hF rfl hpl hp
     | _=>exact hp.elim
    | ref t' off st=>
     rw[hF]at hp hs;obtain⟨k,cs,r,j,g,o,h1,h2,h3,h4⟩:=hs;rw[h4];exact h.ld ht ha h1 h2 h3 hp
    | iref r off=>
     rw[hF]at hp hs;simp only at hp;obtain⟨g,b,u,h1,h2,h3⟩:=hs;cases hlen:Nat.beq (bq r off i.size).length i.size with
     | false=>rw[hlen]at hp;exact hp.elim
     | true=>
      rw[hlen]at hp;simp only[cond_true]at hp;have hln:=yn hlen;rw[h1];refine⟨_,_,hp,ur ht ha (u:=fun d=>u (off+d)) (fun d hd=>by rw[Nat.add_assoc];exact(h2 _ (by omega)).2),?_⟩;exact bN.slot ⟨by rw[mE ha];exact P1 hlen,_,rfl,h3.part off _⟩
    | dead=>rw[hF]at hp;exact hp.elim
    | bor=>rw[hF]at hp;exact hp.elim
    | fn=>rw[hF]at hp;exact hp.elim
    | fv=>rw[hF]at hp;exact hp.elim
   | _=>exact hp.elim
theorem bh.more (h:bh w0 M S0 N S φ F a w) {S1:ac} (h1:∀ b o,S b o->S1 b o) (h2:∀ b o,S1 b o->S b o\/(b<w1.heap.size/\w.heap.size<=b)) (hk:bH NO w w1):bh w0 M S0 N S1 φ F a w1:=by
 have hall:∀ X:ac,(∀ b o,X b o->b<w.heap.size)->bi X w w1:=fun X hX b o hb=>⟨hk.cel b o (hX b o hb) (fun h=>h),hk.fro b o (hX b o hb) (fun h=>h)⟩
 have hphi:∀ t,bi (φ t) w w1:=fun t=>hall _ fun b o hb=>(h.ex t b o hb).1
 refine⟨fun t=>(h.slot t).keep (φ:=φ) (fun t _ _ _=>h.slot t) (fun t _=>⟨fun _ _ h=>h,rfl,hphi t⟩) (hphi t) (hall _ fun b o hb=>(h.sup b o hb).1) (fun _ _ h=>h) h1,h.dis,fun t b o hb hS=>?_,fun t b o hb=>⟨W2 (h.ex t b o hb).1 hk.size,(h.ex t b o hb).2⟩,
   fun b o hb=>h1 b o (h.sub b o hb),fun b o hb=>?_,h.old.trans hk (fun _ _ h=>h.elim),h.size,h.defers,h.par⟩
 ·rcases h2 b o hS with h'|h'
  ·exact h.disS t b o hb h'
  ·have:=(h.ex t b o hb).1;omega
 ·rcases h2 b o hb with h'|h'
  ·exact⟨W2 (h.sup b o h').1 hk.size,(h.sup b o h').2⟩
  ·exact⟨h'.1,.inr (.inl (V3 h.old.size h'.2))⟩
theorem bh.put_newR (h:bh w0 M S0 N S φ F a w) {d:Nat} (hd:N.free d=true) {av:AV} {v:Value} (hv:kM w S F a av v w1) (hav:av.uses d=false):St w0 M S0 N (put F d av) (a.put (some d) v) w1:=by
 obtain⟨hk,X,S1,h1,h2,h3,h4,h5⟩:=hv;have h':=h.more h2 h3 hk;exact⟨S1,_,h'.put_gen (bH.refl _ _) hd h5 hav (fun b o hb=>⟨(h1 b o hb).1,.inl (V3 h.old.size (h1 b o hb).2)⟩)
   (fun t _ b o hb hb'=>by have:=(h.ex t b o hb').1;have:=(h1 b o hb).2;omega) h4⟩
end
def jq:cm->Nat->cm
 | [],_=>[]
 | [(i,k,j)],o=>[(i,k,j+o)]
 | s::s2::st,o=>s::jq (s2::st) o
def o7 (off:Nat):cm->Nat->Nat
 | [],o=>off+o
 | _::_,_=>off
theorem yB:∀ (st:cm) {cs:List C} {off:Nat} {r:List C} {j:Nat} (o:Nat),bQ cs off st=some (r,j)->bQ cs (o7 off st o) (jq st o)=some (r,j+o)
 | [],cs,off,r,j,o,h=>by
  simp only[bQ,T0,Prod.mk.injEq]at h;obtain⟨rfl,rfl⟩:=h
  rfl
 | [(i,k,j0)],cs,off,r,j,o,h=>by
  simp only[bQ]at h;simp only[o7,jq,bQ];split at h
  ·rename_i o' rows hc
   split at h
   ·rename_i r' hi
    split at h
    ·simp only[T0,Prod.mk.injEq]at h
     obtain⟨rfl,rfl⟩:=h;rename_i hk;rw[if_pos hk]
    ·cases h
   ·cases h
  ·cases h
 | s::s2::st,cs,off,r,j,o,h=>by
  obtain⟨i,k,j0⟩:=s;rw[bQ]at h;simp only[o7,jq];rw[bQ];split at h
  ·split at h
   ·split at h
    ·rename_i hk
     rw[if_pos hk];have:=yB (s2::st) o h;simpa[o7] using this
    ·cases h
   ·cases h
  ·cases h
theorem Fr {w:World} : ∀ (st:cm) {u:Nat->Value} {top:Option (Nat × Nat)} {off g x:Nat} (o:Nat),plc w u top off st=some (g,x)->plc w u top (o7 off st o) (jq st o)=some (g,x+o)
 | [],u,top,off,g,x,o,h=>by
  cases top with
  | none=>cases h
  | some p=>
   simp only[plc,Y3,T0,Prod.mk.injEq]at h;obtain⟨rfl,rfl⟩:=h;simp only[plc,o7,jq,Y3,Nat.add_assoc]
 | [(i,k,j0)],u,top,off,g,x,o,h=>by
  simp only[plc]at h;simp only[o7,jq,plc];split at h
  ·simp only[Y3,T0,Prod.mk.injEq]at h
   obtain⟨rfl,rfl⟩:=h;simp only[Y3,Nat.add_assoc]
  ·cases h
 | s::s2::st,u,top,off,g,x,o,h=>by
  obtain⟨i,k,j0⟩:=s;rw[plc]at h;simp only[o7,jq];rw[plc];split at h
  ·have:=Fr (s2::st) o h
   simpa[o7] using this
  ·cases h
def nA (F:Nat->AV) (x:Operand) (o:Nat) (K:AV->Prop):Prop:=
 match x with
 | .tmp t=>match F t with
  | .hold .box _=>K (.ref t o [])
  | .ref t off st=>K (.ref t (o7 off st o) (jq st o))
  | .iref r off=>K (.iref r (off+o))
  | _=>False
 | _=>False
def gC (TE:Nat->Option TI) (F:Nat->AV) (T:Nat) (x:Operand) (f:Nat) (K:AV->Prop):Prop:=
 match TE T with
 | some ⟨_,_,_,.st flds⟩=>match flds[f]? with
  | some (o,ft)=>match TE ft with
   | some fi=>bif Nat.beq fi.size 0 then False else nA F x o K
   | none=>False
  | none=>False
 | _=>False
def pC (st:cm) (s:Nat × Nat × Nat):cm:=st++[s]
theorem vY:∀ (st:cm) {cs:List C} {off:Nat} {r:List C} {j i k:Nat} {o:dz} {rows:List (List C)} {r':List C},bQ cs off st=some (r,j)->r[j]? = some (.s o rows)->rows[i]? = some r'->r'.length=k->
  bQ cs off (pC st (i,k,0))=some (r',0)
 | [],cs,off,r,j,i,k,o,rows,r',h,h1,h2,h3=>by
  simp only[bQ,T0,Prod.mk.injEq]at h;obtain⟨rfl,rfl⟩:=h;simp only[pC,List.nil_append,bQ,h1,h2,h3,if_true]
 | (i0,k0,j0)::st,cs,off,r,j,i,k,o,rows,r',h,h1,h2,h3=>by
  simp only[bQ]at h;simp only[pC,List.cons_append,bQ];split at h
  ·split at h
   ·split at h
    ·rename_i hk
     rw[if_pos hk];exact vY st h h1 h2 h3
    ·cases h
   ·cases h
  ·cases h
theorem By {w:World} : ∀ (st:cm) {u:Nat->Value} {top:Option (Nat × Nat)} {off i k g b n cap:Nat},cellv w u off st 0=.slice (some ⟨g,b,none⟩) n cap->plc w u top off (pC st (i,k,0))=some (g,b+i*k)
 | [],u,top,off,i,k,g,b,n,cap,h=>by
  simp only[cellv,Nat.add_zero]at h;simp only[pC,List.nil_append,plc,h,Y3,Nat.add_zero]
 | (i0,k0,j0)::st,u,top,off,i,k,g,b,n,cap,h=>by
  simp only[cellv]at h;simp only[pC,List.cons_append,plc];split at h
  ·exact By st h
  ·cases h
def DL (F:Nat->AV) (x:Operand) (K:Value->Prop):Prop:=gE F (lA F x) fun ag cs=>match ag,cs with|none,[.v z]=>K z|_,_=>False
def EA (size:Nat) (t off:Nat) (st:cm) (c:C) (i:Int) (K:AV->Prop):Prop:=
 match c with
 | .s o rows=>Ix rows i fun r=>bif Nat.beq r.length size then(bif o.mine then K (.ref t off (pC st (i.toNat,size,0))) else K (.iref r 0)) else False
 | _=>False
def me (F:Nat->AV) (size:Nat) (x:Operand) (i:Int) (K:AV->Prop):Prop:=
 match x with
 | .tmp t=>match F t with
  | .hold .one [c]=>EA size t 0 [] c i K
  | .bor t off st none=>tf F t off st fun r j=>match r[j]? with|some c=>EA size t off st c i K|none=>False
  | _=>False
 | _=>False
def gF (TE:Nat->Option TI) (F:Nat->AV) (T:Nat) (x y:Operand) (K:AV->Prop):Prop:=
 match TE T with
 | some ⟨_,_,_,.sl e⟩=>match TE e with
  | some ei=>DL F y fun v=>match v with
   | .int _ i=>me F ei.size x i K
   | _=>False
  | none=>False
 | _=>False
section
variable {P:Program} {w0 w w1:World} {M S0 S:ac} {N:eL} {φ:Nat->ac} {F:Nat->AV} {a:Act}
theorem bh.scalar (h:bh w0 M S0 N S φ F a w) {x:Operand} {K:Value->Prop} (hp:DL F x K):K (a.eval x)/\(a.eval x).oneCell'=true:=by
 obtain⟨ag,cs,Y,hK,⟨hl,u,hv,f,h1,-⟩,-⟩:=h.val (h.ev x) hp
 match ag,cs,hK with
 | none,[.v z],hK=>
  have hr:=h1 0 _ rfl;have e:u 0=z/\z.oneCell'=true:=by
   generalize u 0=y at hr;cases hr;exact⟨rfl,by assumption⟩
  have:a.eval x=z:=by rw[hv];exact e.1
  rw[this];exact⟨hK,e.2⟩
theorem bh.fieldAddr (h:bh w0 M S0 N S φ F a w) {TE:Nat->Option TI} (hTE:∀ t i,TE t=some i->bY P t i) {T:Nat} {x:Operand} {f:Nat} {K:AV->Prop} (hp:gC TE F T x f K) :
  ∃ av v,K av/\(Instr.fieldAt T (a.eval x) f).run P w=.ok v w/\cn w S F (tvs a) NO av v:=by
 unfold gC at hp;split at hp
 case h_2=>exact hp.elim
 rename_i sz by_ z flds hT;split at hp
 case h_2=>exact hp.elim
 rename_i o ft hf;split at hp
 case h_2=>exact hp.elim
 rename_i fi hfi;cases h0:Nat.beq fi.size 0 with
 | true=>rw[h0]at hp;exact hp.elim
 | false=>
  rw[h0]at hp;simp only[cond_false]at hp;unfold nA at hp;obtain⟨fs,hu,hfs⟩:=(hTE _ _ hT).2.2;have hfd:∃ fd,fs[f]? = some fd/\fd.offset=o/\fd.type=ft:=by
   have:(fs.toList.map (fun f=>(f.offset,f.type)))[f]? = some (o,ft):=by rw[hfs];exact hf
   rw[O2,Array.getElem?_toList]at this;cases hx:fs[f]? with
   | none=>rw[hx]at this;cases this
   | some fd=>rw[hx]at this;simp only[Y3,T0,Prod.mk.injEq]at this;exact⟨fd,rfl,this⟩
  obtain⟨fd,hfd,rfl,rfl⟩:=hfd;have hne:fi.size≠0:=fun e=>by rw[e]at h0;cases h0
  have hsz:=iR (w:=w) (hTE _ _ hfi).size;have run:∀ g b,(Instr.fieldAt T (.pointer (some ⟨g,b,none⟩)) f).run P w=.ok (.pointer (some ⟨g,b+fd.offset,none⟩)) w:=fun g b=>by
   simp[Instr.fieldAt,run_underlying hu,hfd,Instr.sureAddr,fieldPlace,hsz,hne,iO]
  cases x with
  | tmp t=>
   have hs:=h.slot t;show ∃ av v,K av/\(Instr.fieldAt T (tvs a t) f).run P w=.ok v w/\_
   simp only at hp;cases hF:F t with
   | hold k cs=>
    rw[hF]at hp hs;cases k with
    | box=>
     obtain⟨X1,Y,h1,h2,h3,⟨g,b,hv,-⟩,h5⟩:=hs;exact⟨_,_,hp,by rw[hv];exact run g b,.box,cs,cs,fd.offset,g,b+fd.offset,hF,rfl,by rw[hv];rfl,rfl⟩
    | _=>exact hp.elim
   | ref t' off st=>
    rw[hF]at hp hs;obtain⟨k,cs,r,j,g,b,h1,h2,h3,h4⟩:=hs;exact⟨_,_,hp,by rw[h4];exact run g b,k,cs,r,j+fd.offset,g,b+fd.offset,h1,yB st _ h2,Fr st _ h3,rfl⟩
   | iref r off=>
    rw[hF]at hp hs;obtain⟨g,b,u,h1,h2,h3⟩:=hs;exact⟨_,_,hp,by rw[h1];exact run g (b+off),g,b,u,by rw[Nat.add_assoc],h2,h3⟩
   | dead=>rw[hF]at hp;exact hp.elim
   | bor=>rw[hF]at hp;exact hp.elim
   | fn=>rw[hF]at hp;exact hp.elim
   | fv=>rw[hF]at hp;exact hp.elim
  | _=>exact hp.elim
theorem dP.rowImm {w:World} {S F:ac} {rows:List (List C)} {v:Value} (h:dP w S F (.s .imm rows) v) {i:Nat} {r:List C} (hi:rows[i]? = some r) :
  ∃ g b n cap u,v=.slice (some ⟨g,b,none⟩) n cap/\i<n/\(∀ d,d<r.length->S g (b+i*r.length+d)/\cel w g (b+i*r.length+d)=some (u d))/\cF w S NO r u:=by
 generalize hc:C.s .imm rows=c at h
 induction h with
 | v=>cases hc
 | x=>cases hc
 | z=>cases hc
 | m=>cases hc
 | it=>cases hc
 | nil F o a ho=>cases hc;simp at hi
 | own F o g k n cap rows u f ho=>cases hc;exact ho.elim
 | imm F g off k n cap rows' u hn hk hcap hS hcc _=>
  cases hc;have hr:r.length=k:=hk r (O1 hi);have hin:i<n:=by have:=(R1.1 hi).1;omega
  refine⟨g,off,n,cap,fun d=>u (i*k+d),rfl,hin,fun d hd=>?_,fun _=>NO,fun j c hj=>hcc i j r c hi hj,fun _ _ _ _ h=>h,fun _ _ _ _ _ _ _ h=>h.elim⟩;have:=hS (i*k+d) (fV hin (by omega));rw[hr,Nat.add_assoc];exact this
theorem sH {T e sz g b n cap:Nat} {i:Int} {k:IntKind} (hu:P.underlying T=some (.slice e)) (hs:(P.info? e).map (·.size)=some sz) (h0:0<=i) (hn:i.toNat<n) :
  (Instr.indexAt T (.slice (some ⟨g,b,none⟩) n cap) (.int k i)).run P w=.ok (.pointer (some ⟨g,b+i.toNat*sz,none⟩)) w:=by
 have hin:i<n:=by omega
 simp[Instr.indexAt,run_underlying hu,asIntOf,h0,hin,iR hs,iO]
theorem bh.indexAddr (h:bh w0 M S0 N S φ F a w) {TE:Nat->Option TI} (hTE:∀ t i,TE t=some i->bY P t i) {T:Nat} {x y:Operand} {K:AV->Prop} (hp:gF TE F T x y K) :
  ∃ av v,K av/\(Instr.indexAt T (a.eval x) (a.eval y)).run P w=.ok v w/\cn w S F (tvs a) NO av v:=by
 unfold gF at hp;split at hp
 case h_2=>exact hp.elim
 rename_i sz by_ z e hT;split at hp
 case h_2=>exact hp.elim
 rename_i ei hei;obtain⟨hy,-⟩:=h.scalar hp;generalize a.eval y=vy at hy;have hu:P.underlying T=some (.slice e):=(hTE _ _ hT).2.2;have hsz:=(hTE _ _ hei).size;cases vy with
 | int k i=>
  have go:∀ (t off:Nat) (st:cm) (k0:Kd) (cs r:List C) (j:Nat) (c:C) (v:Value) (Y:ac),F t=.hold k0 cs->bQ cs off st=some (r,j)->r[j]? = some c->v=cellv w (bS w k0 (tvs a t)) off st 0->dP w S Y c v->EA ei.size t off st c i K->
    ∃ av v',K av/\(Instr.indexAt T v (.int k i)).run P w=.ok v' w/\cn w S F (tvs a) NO av v':=by
   intro t off st k0 cs r j c v Y hF hr hj hv hrep hix;cases c with
   | s o rows=>
    obtain⟨h0,r',hr',hK⟩:=Ix.out hix;cases hl:Nat.beq r'.length ei.size with
    | false=>rw[hl]at hK;exact hK.elim
    | true=>
     rw[hl]at hK;simp only[cond_true]at hK;have hl':=P1 hl;cases hm:o.mine with
     | true=>
      rw[hm]at hK;obtain⟨g,b,n,cap,hv',hin,-⟩:=hrep.row hr';refine⟨_,_,hK,by rw[hv'];exact sH hu hsz h0 hin,k0,cs,r',0,g,b+i.toNat*ei.size,hF,vY st hr hj hr' hl',By st (by rw[<-hv,hv']),rfl⟩
     | false=>
      rw[hm]at hK;have:o=.imm:=by cases o with|imm=>rfl|own=>cases hm|tag v=>cases hm
      subst this;obtain⟨g,b,n,cap,u,hv',hin,hcell,hrow⟩:=hrep.rowImm hr';refine⟨_,_,hK,by rw[hv'];exact sH hu hsz h0 hin,g,b+i.toNat*ei.size,u,rfl,fun d hd=>?_,hrow⟩;rw[<-hl'];exact hcell d hd
   | _=>exact hix.elim
  simp only at hy;unfold me at hy;cases x with
  | tmp t=>
   have hs:=h.slot t;show ∃ av v,K av/\(Instr.indexAt T (tvs a t) (.int k i)).run P w=.ok v w/\_
   simp only at hy;cases hF:F t with
   | hold k0 cs=>
    rw[hF]at hy hs;cases k0 with
    | one=>
     match cs,hy,hs,hF with
     | [c],hy,hs,hF=>
      obtain⟨X1,Y,h1,h2,h3,h4,f,h5,-⟩:=hs;exact go t 0 [] .one [c] [c] 0 c (tvs a t) _ hF rfl rfl rfl (h5 0 c rfl) hy
    | _=>exact hy.elim
   | bor t' off st ag=>
    rw[hF]at hy hs;cases ag with
    | none=>
     replace hy:tf F t' off st fun r j=>match r[j]? with|some c=>EA ei.size t' off st c i K|none=>False:=hy
     obtain⟨k0,cs,r,j,hF',hr,hy⟩:=nS hy;obtain⟨k1,cs1,r1,j1,hF1,hr1,hlen,hv⟩:=hs;rw[hF']at hF1;simp only[AV.hold.injEq]at hF1;obtain⟨rfl,rfl⟩:=hF1;rw[hr]at hr1;simp only[T0,Prod.mk.injEq]at hr1;obtain⟨rfl,rfl⟩:=hr1;obtain⟨Y,u,hY,⟨f,hf,-⟩,hcv,-⟩:=h.place hF' hr;cases hc:r[j]? with
     | none=>rw[hc]at hy;exact hy.elim
     | some c=>
      rw[hc]at hy;refine go t' off st k0 cs r j c _ (f j) hF' hr hc hv ?_ hy;rw[hv];show dP w S (f j) c (cellv w _ off st 0);rw[hcv 0,Nat.add_zero];exact hf j c hc
    | some n=>exact hy.elim
   | dead=>rw[hF]at hy;exact hy.elim
   | ref=>rw[hF]at hy;exact hy.elim
   | iref=>rw[hF]at hy;exact hy.elim
   | fn=>rw[hF]at hy;exact hy.elim
   | fv=>rw[hF]at hy;exact hy.elim
  | _=>exact hy.elim
 | _=>exact hy.elim
def fB:IntKind->IntKind->Bool
 | .i64,.i64=>true
 | .u8,.u8=>true
 | .u64,.u64=>true
 | .u32,.u32=>true
 | .i32,.i32=>true
 | .u16,.u16=>true
 | .i16,.i16=>true
 | .i8,.i8=>true
 | _,_=>false
theorem Jg {k k':IntKind} (h:fB k k'=true):k=k':=by cases k<;>cases k'<;>first|rfl|cases h
def Ag (op:BinOp) (x y:Value) (K:Value->Prop):Prop:=
 match x,y with
 | .int k a,.int k' b=>
  match op with
  | .add=>bif fB k k' then Wr k (a+b) fun z=>K (.int k z) else False
  | .sub=>bif fB k k' then Wr k (a - b) fun z=>K (.int k z) else False
  | .mul=>bif fB k k' then Wr k (a*b) fun z=>K (.int k z) else False
  | .quo=>bif fB k k' then Cd (b≠0) (Wr k (a.tdiv b) fun z=>K (.int k z)) else False
  | .rem=>bif fB k k' then Cd (b≠0) (Ev (a.tmod b) fun z=>K (.int k z)) else False
  | .and=>bif fB k k' then Wr k (BitVec.ofInt k.bits a &&& BitVec.ofInt k.bits b).toNat fun z=>K (.int k z) else False
  | .or=>bif fB k k' then Wr k (BitVec.ofInt k.bits a ||| BitVec.ofInt k.bits b).toNat fun z=>K (.int k z) else False
  | .xor=>bif fB k k' then Wr k (BitVec.ofInt k.bits a ^^^ BitVec.ofInt k.bits b).toNat fun z=>K (.int k z) else False
  | .andNot=>bif fB k k' then Wr k (BitVec.ofInt k.bits a &&& ~~~BitVec.ofInt k.bits b).toNat fun z=>K (.int k z) else False
  | .shl=>Cd (0<=b) (Wr k (a*2 ^ (min b.toNat k.bits)) fun z=>K (.int k z))
  | .shr=>Cd (0<=b) (Ev (a.fdiv (2 ^ (min b.toNat k.bits))) fun z=>K (.int k z))
  | .eql=>bif fB k k' then K (.bool (a == b)) else False
  | .neq=>bif fB k k' then K (.bool (a != b)) else False
  | .lss=>bif fB k k' then K (.bool (decide (a<b))) else False
  | .leq=>bif fB k k' then K (.bool (decide (a<=b))) else False
  | .gtr=>bif fB k k' then K (.bool (decide (a > b))) else False
  | .geq=>bif fB k k' then K (.bool (decide (a≥b))) else False
 | _,_=>False
theorem HI {op:BinOp} {T:Nat} {vx vy:Value} {K:Value->Prop} {x y:Operand} (hp:Ag op vx vy K):∃ v,K v/\v.oneCell'=true/\(do eqGuard op T x y vx vy;binOp op T vx vy:Sem Value).run P w=.ok v w:=by
 cases vx<;>cases vy<;>try exact hp.elim
 rename_i k a k' b;have hg:(eqGuard op T x y (.int k a) (.int k' b)).run P w=.ok () w:=by
  unfold eqGuard;split<;>rfl
 rw[Sem.run_bind,hg];have sk:∀ {X:Prop},(bif fB k k' then X else False)->k=k'/\X:=fun {X} h=>by
  cases hs:fB k k' with
  | true=>rw[hs]at h;exact⟨Jg hs,h⟩
  | false=>rw[hs]at h;exact h.elim
 cases op<;>simp only[Ag]at hp
 case add=>obtain⟨rfl,h⟩:=sk hp;obtain⟨z,rfl,h⟩:=h.out;exact⟨_,h,rfl,by simp[binOp,Op.intArith]⟩
 case sub=>obtain⟨rfl,h⟩:=sk hp;obtain⟨z,rfl,h⟩:=h.out;exact⟨_,h,rfl,by simp[binOp,Op.intArith]⟩
 case mul=>obtain⟨rfl,h⟩:=sk hp;obtain⟨z,rfl,h⟩:=h.out;exact⟨_,h,rfl,by simp[binOp,Op.intArith]⟩
 case quo=>obtain⟨rfl,h⟩:=sk hp;obtain⟨h0,h⟩:=h.out;obtain⟨z,rfl,h⟩:=h.out;exact⟨_,h,rfl,by simp[binOp,Op.intDiv,h0]⟩
 case rem=>obtain⟨rfl,h⟩:=sk hp;obtain⟨h0,h⟩:=h.out;obtain⟨z,rfl,h⟩:=h.out;exact⟨_,h,rfl,by simp[binOp,Op.intDiv,h0]⟩
 case and=>obtain⟨rfl,h⟩:=sk hp;obtain⟨z,rfl,h⟩:=h.out;exact⟨_,h,rfl,by simp[binOp,Op.intBits]⟩
 case or=>obtain⟨rfl,h⟩:=sk hp;obtain⟨z,rfl,h⟩:=h.out;exact⟨_,h,rfl,by simp[binOp,Op.intBits]⟩
 case xor=>obtain⟨rfl,h⟩:=sk hp;obtain⟨z,rfl,h⟩:=h.out;exact⟨_,h,rfl,by simp[binOp,Op.intBits]⟩
 case andNot=>obtain⟨rfl,h⟩:=sk hp;obtain⟨z,rfl,h⟩:=h.out;exact⟨_,h,rfl,by simp[binOp,Op.intBits]⟩
 case shl=>obtain⟨h0,h⟩:=hp.out;obtain⟨z,rfl,h⟩:=h.out;exact⟨_,h,rfl,by simp[binOp,Op.shift,Int.not_lt.2 h0]⟩
 case shr=>obtain⟨h0,h⟩:=hp.out;obtain⟨z,rfl,h⟩:=h.out;exact⟨_,h,rfl,by simp[binOp,Op.shift,Int.not_lt.2 h0]⟩
 case eql=>obtain⟨rfl,h⟩:=sk hp;exact⟨_,h,rfl,by simp[binOp,Op.intCmp]⟩
 case neq=>obtain⟨rfl,h⟩:=sk hp;exact⟨_,h,rfl,by simp[binOp,Op.intCmp]⟩
 case lss=>obtain⟨rfl,h⟩:=sk hp;exact⟨_,h,rfl,by simp[binOp,Op.intCmp]⟩
 case leq=>obtain⟨rfl,h⟩:=sk hp;exact⟨_,h,rfl,by simp[binOp,Op.intCmp]⟩
 case gtr=>obtain⟨rfl,h⟩:=sk hp;exact⟨_,h,rfl,by simp[binOp,Op.intCmp]⟩
 case geq=>obtain⟨rfl,h⟩:=sk hp;exact⟨_,h,rfl,by simp[binOp,Op.intCmp]⟩
theorem jn {v:Value} (h:v.oneCell'=true):cn w S F (tvs a) NO (.hold .one [.v v]) v:=
 ⟨NO,NO,fun _ _ h=>h,fun _ _ h=>h,fun _ _ _ h=>h,rfl,fun _=>NO,fun j c hj=>by cases j with|zero=>simp at hj;subst hj;exact .v _ _ h|succ j=>simp at hj,fun _ _ _ _ h=>h,fun _ _ _ _ _ _ _ h=>h.elim⟩
end
def v7 (TE:Nat->Option TI) (T:Nat) (K:AV->Prop):Prop:=
 match TE T with
 | some i=>K (.hold .box i.zero)
 | none=>False
def LL (F:Nat->AV) (x:Operand) (K:AV->Prop):Prop:=
 gE F (lA F x) fun _ cs=>bif aV cs then K (.hold .box cs) else False
section
variable {P:Program} {w0 w w1:World} {M S0 S:ac} {N:eL} {φ:Nat->ac} {F:Nat->AV} {a:Act}
theorem gm (w:World) (cells:Array Value) (e:TypeId) (j:Nat):cel (w.alloc (.cells cells e)) w.heap.size j=cells[j]?:=
 cell_of_row (w.alloc (.cells cells e)) w.heap.size j cells e (0,0) (heap_alloc_new w _)
theorem iC (w:World) (cells:Array Value) (e:TypeId) (j:Nat):fro (w.alloc (.cells cells e)) w.heap.size j=NF:=by
 have h:=heap_alloc_new w (.cells cells e);refine Prod.ext ?_ (by show mp _ _=none;unfold mp;rw[h]);show World.frozen? _ _=false;simp only[World.frozen?,h];simp
theorem cH (w:World) (o:Obj):bH NO w (w.alloc o):=bH.of_below ((Below.refl _ _).alloc (I2 _) o) NO
theorem eQ (w:World) (o:Obj):(w.alloc o).heap.size=w.heap.size+1:=by show(w.heap.push o).size=_;simp
theorem g9 {X:ac} (hk:bH NO w w1) (hX:∀ b o,X b o->b<w.heap.size):bi X w w1:=fun b o hb=>⟨hk.cel b o (hX b o hb) (fun h=>h),hk.fro b o (hX b o hb) (fun h=>h)⟩
theorem bh.newBox (h:bh w0 M S0 N S φ F a w) {cells:Array Value} {e:TypeId} {cs:List C} {u:Nat->Value} (hl:cs.length=cells.size) (hu:∀ j,j<cs.length->cells[j]? = some (u j)) (hr:cF w S NO cs u) :
  kM w S F a (.hold .box cs) (.pointer (some ⟨w.heap.size,0,none⟩)) (w.alloc (.cells cells e)):=by
 refine⟨cH w _,fun b o=>b=w.heap.size/\o<cs.length,S,fun b o hb=>⟨by rw[eQ];omega,by omega⟩,fun _ _ h=>h,fun _ _ h=>.inl h,fun b o hb hS=>by have:=(h.sup b o hS).1;omega,?_⟩;refine⟨fun b o=>b=w.heap.size/\o<cs.length,NO,fun _ _ h=>h,fun _ _ h=>h.elim,fun _ _ _ h=>h,⟨_,_,rfl,fun j hj=>⟨⟨rfl,by omega⟩,?_,?_⟩⟩,?_⟩
 ·rw[Y4,gm];exact⟨_,hu j hj⟩
 ·rw[Y4,iC]
 ·refine(hr.keep (g9 (cH w _) fun b o hb=>(h.sup b o hb).1) (fun _ _ h=>h.elim)).congr fun j hj=>?_
  simp only[bS,Y4,gm,hu j hj,Option.getD_some]
theorem rM:∀ {cs:List C},aI cs->∀ c∈cs,d4 c=false
 | [],_,c,h=>by simp at h
 | c0::cs,h,c,hc=>by
  rcases List.mem_cons.1 hc with rfl|hm
  ·cases c with|s o rows=>exact h.elim|m es=>exact h.elim|it=>exact h.elim|_=>rfl
  ·exact rM (cs:=cs) (by cases c0 with|v x=>exact h.2|z=>exact h|x=>exact h.elim|s o rows=>exact h.elim|m es=>exact h.elim|it=>exact h.elim) c hm
theorem nw:∀ {cs:List C},aI cs->∀ (S:ac),cF w S NO cs (fun j=>(cs.map cval).getD j undef)
 | [],_,S=>cF.nil _ _ _ _
 | c::cs,h,S=>by
  refine⟨fun _=>NO,fun j c' hj=>?_,fun _ _ _ _ h=>h,fun _ _ _ _ _ _ _ h=>h.elim⟩;cases j with
  | zero=>
   simp only[List.getElem?_cons_zero,T0]at hj;subst hj;cases c with
   | v x=>exact .v _ x h.1
   | z=>exact .z _ none
   | x=>exact h.elim
   | s o rows=>exact h.elim
   | m es=>exact h.elim
   | it=>exact h.elim
  | succ j=>
   have h':aI cs:=by cases c with|v x=>exact h.2|z=>exact h|x=>exact h.elim|s o rows=>exact h.elim|m es=>exact h.elim|it=>exact h.elim
   obtain⟨f,h1,-,-⟩:=nw (cs:=cs) h' S;have hc:=h1 j c' (by simpa using hj);have hown:d4 c'=false:=rM h' c' (O1 (i:=j) (by simpa using hj));have:=hc.bare (F':=NO) hown;simpa using this
theorem bY.zero {t:Nat} {i:TI} (h:bY P t i):∃ z,(zeroValue t).run P w=.ok z w/\z.cells.toList=i.zero.map cval:=by
 have:=h.1;cases hq:P.info? t with
 | none=>rw[hq]at this;cases this
 | some q=>
  rw[hq]at this;simp only[Y3,T0,Prod.mk.injEq]at this;cases hz:q.zero with
  | none=>rw[hz]at this;cases this.1
  | some z=>rw[hz]at this;exact⟨z,by simp[zeroValue,typeInfo,hq,hz],by simpa using this.1⟩
theorem bh.alloc (h:bh w0 M S0 N S φ F a w) {TE:Nat->Option TI} (hTE:∀ t i,TE t=some i->bY P t i) {T:Nat} {K:AV->Prop} (hp:v7 TE T K) :
  ∃ av v w1,K av/\(Instr.alloc T true (.tuple #[])).run P w=.ok v w1/\kM w S F a av v w1:=by
 unfold v7 at hp;split at hp
 case h_2=>exact hp.elim
 rename_i i hT;have ht:=hTE _ _ hT;obtain⟨z,hz,hzc⟩:=ht.zero (w:=w);refine⟨_,_,w.alloc (.cells z.cells T),hp,?_,h.newBox (u:=fun j=>(i.zero.map cval).getD j undef) ?_ (fun j hj=>?_) (nw ht.2.1 S)⟩
 ·simp[Instr.alloc,hz,newVar,newRow]
 ·have:=R0 List.length hzc;simpa using this.symm
 ·rw[<-Array.getElem?_toList,hzc,List.getD,Q1 (by simpa using hj)];rfl
theorem nJ {ag:Option Nat} {u:Nat->Value} (h1:ag=none->(u 0).oneCell'=true):(mkv ag u).cells.toList=(List.range (ag.getD 1)).map u:=by
 cases ag with
 | none=>
  have:=h1 rfl;show(u 0).cells.toList=_;cases hu:u 0<;>first|(rw[hu]at this;cases this;done)|simp[Value.cells,hu,List.range_succ]
 | some n=>simp[mkv,Value.cells]
theorem bN.cells {Y:ac} {ag:Option Nat} {cs:List C} {v:Value} (h:bN w S Y ag cs v):∃ u,v.cells.toList=(List.range cs.length).map u/\cF w S Y cs u:=by
 obtain⟨hl,u,rfl,hr⟩:=h;refine⟨u,?_,hr⟩;rw[nJ (fun e=>by subst e;exact hr.one (by simp at hl;omega)),hl]
theorem bh.box (h:bh w0 M S0 N S φ F a w) {T:Nat} {x:Operand} {K:AV->Prop} (hp:LL F x K) :
  ∃ av v w1,K av/\(Instr.box T (a.eval x)).run P w=.ok v w1/\kM w S F a av v w1:=by
 obtain⟨ag,cs,Y,hK,hv,-⟩:=h.val (h.ev x) hp;cases hn:aV cs with
 | false=>rw[hn]at hK;exact hK.elim
 | true=>
  rw[hn]at hK;obtain⟨u,hu,hr⟩:=hv.cells;refine⟨_,_,w.alloc (.cells (a.eval x).cells T),hK,by simp[Instr.box,newVar,newRow],h.newBox (u:=u) ?_ (fun j hj=>?_) (hr.bare hn)⟩
  ·have:=R0 List.length hu;simpa using this.symm
  ·rw[<-Array.getElem?_toList,hu];simp[hj]
def Fi (F:Nat->AV) (c x y:Operand) (K:AV->Prop):Prop:=
 DL F c fun v=>match v with|.bool b=>Bf b (bm F x K) (bm F y K)|_=>False
theorem bh.pick (h:bh w0 M S0 N S φ F a w) {c x y:Operand} {K:AV->Prop} (hp:Fi F c x y K) :
  ∃ av b,K av/\a.eval c=.bool b/\cn w S F (tvs a) NO av (if b then a.eval x else a.eval y):=by
 obtain⟨hc,-⟩:=h.scalar hp;cases hv:a.eval c<;>rw[hv]at hc<;>try exact hc.elim
 rename_i b;cases b with
 | true=>obtain⟨av,hK,hs⟩:=h.move (Bf.out hc);exact⟨av,true,hK,rfl,hs⟩
 | false=>obtain⟨av,hK,hs⟩:=h.move (Bf.out hc);exact⟨av,false,hK,rfl,hs⟩
def Lc (op:UnOp) (x:Value) (K:Value->Prop):Prop:=
 match op,x with
 | .not,.bool b=>K (.bool !b)
 | .neg,.int k n=>Wr k (0 - n) fun z=>K (.int k z)
 | _,_=>False
theorem LT {op:UnOp} {x:Value} {K:Value->Prop} (hp:Lc op x K):∃ v,K v/\v.oneCell'=true/\(Op.unary op x).run P w=.ok v w:=by
 unfold Lc at hp;split at hp
 ·exact⟨_,hp,rfl,rfl⟩
 ·obtain⟨z,rfl,h⟩:=hp.out;exact⟨_,h,rfl,rfl⟩
 ·exact hp.elim
def ED (TE:Nat->Option TI) (F:Nat->AV) (T:Nat) (x:Operand) (K:AV->Prop):Prop:=
 match TE T with
 | some ⟨_,_,_,.sl _⟩=>gE F (lA F x) fun ag cs=>match ag,cs with
  | none,[.s _ rows]=>Ln rows.length fun n=>K (.hold .one [.v (.int .i64 (n:Nat))])
  | none,[.z]=>K (.hold .one [.v (.int .i64 0)])
  | _,_=>False
 | some ⟨_,_,_,.sc .string⟩=>DL F x fun v=>match v with
  | .string s=>Ln s.size fun n=>K (.hold .one [.v (.int .i64 (n:Nat))])
  | _=>False
 | _=>False
theorem dP.slice {F:ac} {o:dz} {rows:List (List C)} {v:Value} (h:dP w S F (.s o rows) v):∃ b cap,v=.slice b rows.length cap:=by
 generalize hc:C.s o rows=c at h;cases h with
 | v=>cases hc
 | x=>cases hc
 | z=>cases hc
 | m=>cases hc
 | it=>cases hc
 | nil=>cases hc;exact⟨_,_,rfl⟩
 | own=>cases hc;subst_vars;exact⟨_,_,rfl⟩
 | imm=>cases hc;subst_vars;exact⟨_,_,rfl⟩
theorem bh.len (h:bh w0 M S0 N S φ F a w) {TE:Nat->Option TI} (hTE:∀ t i,TE t=some i->bY P t i) {T ty:Nat} {x:Operand} {K:AV->Prop} (hp:ED TE F T x K) :
  ∃ v,K (.hold .one [.v v])/\v.oneCell'=true/\(Builtin.len_ #[T] ty #[a.eval x]).run P w=.ok v w:=by
 unfold ED at hp;split at hp
 ·rename_i hT
  have hu:=(hTE _ _ hT).2.2;obtain⟨ag,cs,Y,hK,⟨hl,u,hv,f,h1,-⟩,-⟩:=h.val (h.ev x) hp
  match ag,cs,hK with
  | none,[.s o rows],hK=>
   obtain⟨b,cap,hs⟩:=(h1 0 _ rfl).slice;have:a.eval x=.slice b rows.length cap:=hv.trans hs;rw[this];exact⟨_,Ln.out hK,rfl,by simp[Builtin.len_,run_underlying hu,goInt]⟩
  | none,[.z],hK=>
   have hr:=h1 0 _ rfl;have:∃ b,u 0=.slice b 0 0:=by
    generalize u 0=y at hr;cases hr;exact⟨_,rfl⟩
   obtain⟨b,hb⟩:=this;have:a.eval x=.slice b 0 0:=hv.trans hb;rw[this];exact⟨_,hK,rfl,by simp[Builtin.len_,run_underlying hu,goInt]⟩
 ·rename_i hT
  have hu:=(hTE _ _ hT).2.2.1;obtain⟨hc,-⟩:=h.scalar hp;cases hv:a.eval x<;>rw[hv]at hc<;>try exact hc.elim
  exact⟨_,Ln.out hc,rfl,by simp[Builtin.len_,run_underlying hu,goInt]⟩
 ·exact hp.elim
end
def qh (t:Nat):AV->AV
 | .bor t' off st ag=>bif Nat.beq t' t then .dead else .bor t' off st ag
 | .ref t' off (s::st)=>bif Nat.beq t' t then .dead else .ref t' off (s::st)
 | .ref t' off []=>.ref t' off []
 | .hold k cs=>.hold k cs
 | .iref r off=>.iref r off
 | .fn f caps=>.fn f caps
 | .fv Ok=>.fv Ok
 | .dead=>.dead
def updH (F:Nat->AV) (t:Nat) (k:Kd) (cs:List C):Nat->AV:=fun s=>bif Nat.beq s t then .hold k cs else qh t (F s)
def splice (cs:List C) (off:Nat) (xs:List C):List C:=cs.take off++xs++cs.drop (off+xs.length)
theorem fT {cs xs:List C} {off:Nat} (h:off+xs.length<=cs.length) (j:Nat):(splice cs off xs)[j]? = if off<=j/\j<off+xs.length then xs[j - off]? else cs[j]?:=by
 unfold splice;by_cases h1:j<off
 ·rw[if_neg (by omega),z4,Q3 (by simp;omega),List.getElem?_take,if_pos h1]
 ·by_cases h2:j<off+xs.length
  ·rw[if_pos (by omega),Q3 (by simp;omega),R3 (by simp;omega)]
   congr 1;simp;omega
  ·rw[if_neg (by omega),R3 (by simp;omega),List.getElem?_drop]
   congr 1;simp;omega
theorem bU {cs xs:List C} {off:Nat} (h:off+xs.length<=cs.length):(splice cs off xs).length=cs.length:=by
 simp[splice];omega
theorem gd (F:Nat->AV) (t:Nat) (k:Kd) (cs:List C):updH F t k cs t=.hold k cs:=by simp[updH]
theorem eA (F:Nat->AV) {t s:Nat} (k:Kd) (cs:List C) (h:s≠t):updH F t k cs s=qh t (F s):=by
 have:Nat.beq s t=false:=by rw[<-t4,Nat.beq_eq];exact h
 simp[updH,this]
section
variable {P:Program} {w0 w w1:World} {M S0 S:ac} {N:eL} {φ:Nat->ac} {F:Nat->AV} {a:Act}
theorem bh.upd {t:Nat} (h:bh w0 M S0 N S φ F a w) (hk:bH (φ t) w w1) {k:Kd} {cs cs':List C} (hF:F t=.hold k cs) {X:ac} (hX:∀ b o,X b o->φ t b o\/((∀ t',t'≠t->¬φ t' b o)/\¬S b o/\b<w.heap.size/\(w0.heap.size<=b\/M b o)))
  (hs:cn w1 S F (tvs a) X (.hold k cs') (tvs a t)):bh w0 M S0 N S (fun s=>if s=t then X else φ s) (updH F t k cs') a w1:=by
 have hne:∀ t',t'≠t->bi (φ t') w w1:=fun t' ht b o hb=>⟨hk.cel b o (h.ex t' b o hb).1 (h.dis t' t ht b o hb),hk.fro b o (h.ex t' b o hb).1 (h.dis t' t ht b o hb)⟩
 have hS:bi S w w1:=fun b o hb=>⟨hk.cel b o (h.sup b o hb).1 (fun h'=>h.disS t b o h' hb),hk.fro b o (h.sup b o hb).1 (fun h'=>h.disS t b o h' hb)⟩
 have holdsame:∀ t',t'≠t->∀ k cs,F t'=.hold k cs->updH F t k cs' t'=.hold k cs:=by
  intro t' ht k2 cs2 he;rw[eA _ _ _ ht,he];rfl
 refine⟨fun s=>?_,fun s s' hss b o hb hb'=>?_,fun s b o hb=>?_,fun s b o hb=>?_,h.sub,fun b o hb=>⟨W2 (h.sup b o hb).1 hk.size,(h.sup b o hb).2⟩,h.old.trans hk (fun b o hb=>(h.ex t b o hb).2),h.size,h.defers,h.par⟩
 ·by_cases hst:s=t
  ·subst hst
   rw[gd,if_pos rfl];exact hs
  ·rw[eA _ _ _ hst,if_neg hst]
   have hsl:=h.slot s;have keep:(F s).uses t=false->cn w1 S (updH F t k cs') (tvs a) (φ s) (F s) (tvs a s):=fun hu=>
    hsl.keep (φ:=φ) (fun t _ _ _=>h.slot t) (fun t' hu'=>by
      have ht:t'≠t:=fun e=>by subst e;rw[hu]at hu';cases hu'
      exact⟨fun k cs he=>by rw[eA _ _ _ ht,he];rfl,rfl,hne t' ht⟩) (hne s hst) hS (fun _ _ h=>h) (fun _ _ h=>h)
   cases hFs:F s with
   | dead=>trivial
   | hold k2 cs2=>rw[hFs]at keep;exact keep rfl
   | iref r off=>rw[hFs]at keep;exact keep rfl
   | fn f caps=>rw[hFs]at hsl;exact hsl
   | fv Ok=>rw[hFs]at hsl;obtain⟨S1,w2,e1,e2,e3⟩:=hsl;exact⟨S1,w2,e1,fun b o hb=>⟨(hS b o (e1 b o hb)).1.trans (e2 b o hb).1,(hS b o (e1 b o hb)).2.trans (e2 b o hb).2⟩,e3⟩
   | bor t' off st ag=>
    rw[hFs]at keep;by_cases ht:t'=t
    ·subst ht;simp[qh,cn]
    ·have hb:Nat.beq t' t=false:=by rw[<-t4,Nat.beq_eq];exact ht
     simp only[qh,hb,cond_false];exact keep hb
   | ref t' off st=>
    rw[hFs]at keep hsl;by_cases ht:t'=t
    ·subst ht
     cases st with
     | cons s st=>simp[qh,cn]
     | nil=>
      obtain⟨k2,cs2,r,j,g,o,h1,h2,h3,h4⟩:=hsl;rw[hF]at h1;simp only[AV.hold.injEq]at h1;obtain⟨rfl,rfl⟩:=h1;exact⟨k,cs',cs',off,g,o,gd _ _ _ _,rfl,h3,h4⟩
    ·have hb:Nat.beq t' t=false:=by rw[<-t4,Nat.beq_eq];exact ht
     cases st with
     | nil=>exact keep hb
     | cons s st=>
      simp only[qh,hb,cond_false];exact keep hb
 ·by_cases hst:s=t
  ·rw[if_pos hst]at hb
   rw[if_neg (fun e=>hss (hst.trans e.symm))]at hb';rcases hX b o hb with h1|⟨h1,-⟩
   ·exact h.dis t s' (fun e=>hss (hst.trans e)) b o h1 hb'
   ·exact h1 s' (fun e=>hss (hst.trans e.symm)) hb'
  ·rw[if_neg hst]at hb
   by_cases hst':s'=t
   ·rw[if_pos hst']at hb'
    rcases hX b o hb' with h1|⟨h1,-⟩
    ·exact h.dis t s (Ne.symm hst) b o h1 hb
    ·exact h1 s hst hb
   ·rw[if_neg hst']at hb'
    exact h.dis s s' hss b o hb hb'
 ·split at hb
  ·rcases hX b o hb with h1|⟨-,h1,-⟩
   ·exact h.disS t b o h1
   ·exact h1
  ·exact h.disS s b o hb
 ·split at hb
  ·rcases hX b o hb with h1|⟨-,-,h1,h2⟩
   ·exact⟨W2 (h.ex t b o h1).1 hk.size,(h.ex t b o h1).2⟩
   ·exact⟨W2 h1 hk.size,h2⟩
  ·exact⟨W2 (h.ex s b o hb).1 hk.size,(h.ex s b o hb).2⟩
theorem cF.split {Y:ac} {cs:List C} {u:Nat->Value} (h:cF w S Y cs u) {off n:Nat} (hl:off+n<=cs.length) :
  ∃ Y1 Y2:ac,(∀ b o,Y1 b o->Y b o)/\(∀ b o,Y2 b o->Y b o)/\(∀ b o,Y1 b o->¬Y2 b o)/\cF w S Y1 (splice cs off (List.replicate n .x)) u/\cF w S Y2 (bq cs off n) (fun j=>u (off+j)):=by
 have hone:=fun j hj=>h.one (j:=j) hj
 obtain⟨f,h1,h2,h3⟩:=h;have hl':off+(List.replicate n C.x).length<=cs.length:=by simpa using hl
 refine⟨fun b o=>∃ j,j<cs.length/\¬(off<=j/\j<off+n)/\f j b o,fun b o=>∃ j,off<=j/\j<off+n/\f j b o,fun b o ⟨j,hj,_,hb⟩=>h2 j hj b o hb,fun b o ⟨j,_,hj,hb⟩=>h2 j (by omega) b o hb,
   fun b o ⟨j,hj,hn,hb⟩ ⟨j',h4,h5,hb'⟩=>h3 j j' hj (by omega) (fun e=>hn (by omega)) b o hb hb',⟨fun j=>if off<=j/\j<off+n then NO else f j,fun j c hj=>?_,fun j hj b o hb=>?_,fun j j' hj hj' hne b o hb hb'=>?_⟩,
   ⟨fun j=>f (off+j),fun j c hj=>?_,fun j hj b o hb=>⟨off+j,by omega,by simp[bq]at hj;omega,hb⟩,fun j j' hj hj' hne=>h3 _ _ (by simp[bq]at hj;omega) (by simp[bq]at hj';omega) (by omega)⟩⟩
 ·rw[fT hl',List.length_replicate]at hj
  by_cases hr:off<=j/\j<off+n
  ·rw[if_pos hr,List.getElem?_replicate,if_pos (by omega)]at hj
   simp only[T0]at hj;subst hj;exact .x _ _ (hone j (by omega))
  ·rw[if_neg hr]at hj
   simp only[if_neg hr];exact h1 j c hj
 ·rw[bU hl']at hj
  split at hb
  ·exact hb.elim
  ·rename_i hr
   exact⟨j,hj,hr,hb⟩
 ·rw[bU hl']at hj hj'
  split at hb
  ·exact hb.elim
  ·split at hb'
   ·exact hb'.elim
   ·exact h3 j j' hj hj' hne b o hb hb'
 ·have hlt:=(R1.1 hj).1
  simp only[bq,C1,Q2]at hlt;rw[bq,List.getElem?_take,if_pos (by omega),List.getElem?_drop]at hj;exact h1 _ c hj
theorem cF.join {Y1 Y2:ac} {cs xs:List C} {u u2:Nat->Value} (h:cF w S Y1 cs u) (h':cF w S Y2 xs u2) {off:Nat} (hl:off+xs.length<=cs.length) (hd:∀ b o,Y1 b o->¬Y2 b o) :
  cF w S (fun b o=>Y1 b o\/Y2 b o) (splice cs off xs) (fun j=>if off<=j/\j<off+xs.length then u2 (j - off) else u j):=by
 obtain⟨f,h1,h2,h3⟩:=h;obtain⟨f',h1',h2',h3'⟩:=h';refine⟨fun j=>if off<=j/\j<off+xs.length then f' (j - off) else f j,fun j c hj=>?_,fun j hj b o hb=>?_,fun j j' hj hj' hne b o hb hb'=>?_⟩
 ·rw[fT hl]at hj
  by_cases hr:off<=j/\j<off+xs.length
  ·simp only[if_pos hr]at hj |-
   exact h1' _ c hj
  ·simp only[if_neg hr]at hj |-
   exact h1 j c hj
 ·rw[bU hl]at hj
  split at hb
  ·exact .inr (h2' _ (by omega) b o hb)
  ·exact .inl (h2 j hj b o hb)
 ·rw[bU hl]at hj hj'
  by_cases hr:off<=j/\j<off+xs.length
  ·rw[if_pos hr]at hb
   by_cases hr':off<=j'/\j'<off+xs.length
   ·rw[if_pos hr']at hb'
    exact h3' _ _ (by omega) (by omega) (by omega) b o hb hb'
   ·rw[if_neg hr']at hb'
    exact hd b o (h2 j' hj' b o hb') (h2' _ (by omega) b o hb)
  ·rw[if_neg hr]at hb
   by_cases hr':off<=j'/\j'<off+xs.length
   ·rw[if_pos hr']at hb'
    exact hd b o (h2 j hj b o hb) (h2' _ (by omega) b o hb')
   ·rw[if_neg hr']at hb'
    exact h3 j j' hj hj' hne b o hb hb'
theorem bh.take (h:bh w0 M S0 N S φ F a w) {t:Nat} {k:Kd} {cs:List C} (hF:F t=.hold k cs) {off n:Nat} (hl:off+n<=cs.length) :
  ∃ V X:ac,(∀ b o,V b o->φ t b o)/\(∀ b o,V b o->¬X b o)/\(∀ b o,X b o->φ t b o)/\cF w S V (bq cs off n) (fun j=>bS w k (tvs a t) (off+j))/\
   bh w0 M S0 N S (fun s=>if s=t then X else φ s) (updH F t k (splice cs off (List.replicate n .x))) a w:=by
 have hs:=h.slot t;rw[hF]at hs;obtain⟨X1,Y,h1,h2,h3,h4,h5⟩:=hs;obtain⟨Y1,Y2,e1,e2,e3,e4,e5⟩:=h5.split hl;have hl':off+(List.replicate n C.x).length<=cs.length:=by simpa using hl
 refine⟨Y2,fun b o=>X1 b o\/Y1 b o,fun b o hb=>h2 b o (e2 b o hb),fun b o hb hx=>hx.elim (fun hx=>h3 b o hx (e2 b o hb)) (fun hx=>e3 b o hx hb),fun b o hb=>hb.elim (h1 b o) (fun hb=>h2 b o (e1 b o hb)),e5,?_⟩;refine h.upd (bH.refl _ _) hF (fun b o hb=>.inl (hb.elim (h1 b o) (fun hb=>h2 b o (e1 b o hb)))) ⟨X1,Y1,fun _ _ h=>.inl h,fun _ _ h=>.inr h,fun b o hb hy=>h3 b o hb (e1 b o hy),?_,e4⟩;rw[bU hl'];exact h4
theorem bh.store (h:bh w0 M S0 N S φ F a w) {t:Nat} {bs cs:List C} (hF:F t=.hold .box bs) {off:Nat} (hl:off+cs.length<=bs.length) {V:ac} {u:Nat->Value} (hr:cF w S V cs u)
  (hV:∀ b o,V b o->(∀ t',¬φ t' b o)/\¬S b o/\b<w.heap.size/\(w0.heap.size<=b\/M b o)) {T:Nat} (hsz:(P.info? T).map (·.size)=some cs.length) {v:Value} (hv:v.cells.toList=(List.range cs.length).map u)
  {g o:Nat} (hp:plc w (bS w .box (tvs a t)) (mX .box (tvs a t)) off []=some (g,o)) :
  ∃ w1,(Instr.storeAt T (.pointer (some ⟨g,o,none⟩)) v).run P w=.ok () w1/\St w0 M S0 N (updH F t .box (splice bs off cs)) a w1:=by
 have hs:=h.slot t;rw[hF]at hs;obtain⟨X1,Y,h1,h2,h3,⟨g',b0,hpt,hbox⟩,h5⟩:=hs;rw[hpt]at hp h5;simp only[plc,mX,Y3,T0,Prod.mk.injEq]at hp;obtain⟨rfl,rfl⟩:=hp;have hvl:v.cells.toList.length=cs.length:=by rw[hv];simp
 have hin:∀ j,j<cs.length->X1 g' (b0+off+j)/\(∃ z,cel w g' (b0+off+j)=some z)/\fro w g' (b0+off+j)=NF:=fun j hj=>by
  have:=hbox (off+j) (by omega)
  rwa [<-Nat.add_assoc]at this
 have hone:∀ x∈v.cells.toList,x.oneCell'=true:=fun x hx=>by
  rw[hv]at hx;obtain⟨j,hj,rfl⟩:=O3.1 hx;exact hr.one (List.mem_range.1 hj)
 have hst:=run_storeCells_cells (P:=P) g' (b0+off) v.cells.toList 0 w (fun j hj=>by obtain⟨z,hz⟩:=(hin j (by omega)).2.1;simp only[Nat.add_zero];show(cel w g' (b0+off+j)).isSome=true;rw[hz];rfl)
  (fun j hj=>by simp only[Nat.add_zero];exact R0 Prod.fst (hin j (by omega)).2.2) hone
 simp only[Nat.add_zero]at hst;refine⟨w.setCells g' (b0+off) v.cells.toList,?_,?_⟩
 ·have hvs:v.cells.size=cs.length:=by simpa using hvl
  simp[Instr.storeAt,Instr.sureAddr,storeVar,iR hsz,hvs,hst]
 ·have hout:∀ b o,¬(b=g'/\b0+off<=o/\o<b0+off+cs.length)->cel (w.setCells g' (b0+off) v.cells.toList) b o=cel w b o:=fun b o hn=>
   World.cell?_setCells_out g' v.cells.toList (b0+off) w ⟨b,o,none⟩ (fun e _=>by simp only at e |-;rw[hvl];omega)
  have hfro:∀ b o,fro (w.setCells g' (b0+off) v.cells.toList) b o=fro w b o:=fun b o=>Prod.ext (World.frozen?_setCells g' _ _ w ⟨b,o,none⟩) (kw _ _ _ _ _)
  have hcin:∀ j,j<cs.length->cel (w.setCells g' (b0+off) v.cells.toList) g' (b0+off+j)=some (u j):=fun j hj=>by
   have:=World.cell?_setCells_in g' v.cells.toList (b0+off) w (fun j hj=>by obtain⟨z,hz⟩:=(hin j (by omega)).2.1;show(cel w g' (b0+off+j)).isSome=true;rw[hz];rfl) j (by omega);show World.cell? _ _=_;rw[this]
   congr 1
   have h0:v.cells.toList[j]? = some (u j):=by rw[hv];simp[hj]
   exact(R1.1 h0).2
  have hkk:bH (φ t) w (w.setCells g' (b0+off) v.cells.toList):=by
   have hkept:∀ (vs:List Value) (o:Nat) (w:World),(w.setCells g' o vs).os=w.os/\(w.setCells g' o vs).tape=w.tape/\(w.setCells g' o vs).output=w.output/\(w.setCells g' o vs).heap.size=w.heap.size/\∀ b,b≠g'->(w.setCells g' o vs).heap[b]? = w.heap[b]?:=by
    intro vs
    induction vs with
    | nil=>exact fun _ _=>⟨rfl,rfl,rfl,rfl,fun _ _=>rfl⟩
    | cons x vs ih=>
     intro o w;obtain⟨i1,i2,i3,i4,i5⟩:=ih (o+1) (w.setCell ⟨g',o,none⟩ x);exact⟨i1,i2,i3,i4.trans (by simp[World.setCell]),fun b hb=>(i5 b hb).trans (Below.heap_setCell w ⟨g',o,none⟩ x b hb)⟩
   obtain⟨i1,i2,i3,i4,i5⟩:=hkept v.cells.toList (b0+off) w;refine⟨i1,i2,i3,by omega,fun b hb hn=>?_,fun b o hb hn=>hout b o (fun⟨e1,e2,e3⟩=>hn ?_),fun b o _ _=>hfro b o⟩
   ·by_cases he:b=g'
    ·subst he
     by_cases h0:cs.length=0
     ·have:v.cells.toList=[]:=z5 (by omega)
      rw[this];rfl
     ·exact absurd (h1 _ _ (hin 0 (by omega)).1) (hn _)
    ·exact i5 b he
   ·subst e1
    have:=(hin (o - (b0+off)) (by omega)).1;rw[show b0+off+(o - (b0+off))=o by omega]at this;exact h1 _ _ this
  have hSY:bi S w (w.setCells g' (b0+off) v.cells.toList):=fun b o hb=>⟨hkk.cel b o (h.sup b o hb).1 (fun h'=>h.disS t b o h' hb),hfro b o⟩
  have hYY:bi Y w (w.setCells g' (b0+off) v.cells.toList):=fun b o hb=>⟨hout b o (fun⟨e1,e2,e3⟩=>by
    subst e1;have:=(hin (o - (b0+off)) (by omega)).1;rw[show b0+off+(o - (b0+off))=o by omega]at this;exact h3 _ _ this hb),hfro b o⟩
  have hVV:bi V w (w.setCells g' (b0+off) v.cells.toList):=fun b o hb=>⟨hkk.cel b o (hV b o hb).2.2.1 ((hV b o hb).1 t),hfro b o⟩
  have hj:=(h5.keep hSY hYY).join (hr.keep hSY hVV) hl (fun b o hb hb'=>(hV b o hb').1 t (h2 b o hb));refine⟨S,_,h.upd hkk hF (X:=fun b o=>X1 b o\/Y b o\/V b o) (fun b o hb=>?_) ⟨X1,fun b o=>Y b o\/V b o,fun _ _ h=>.inl h,fun _ _ h=>.inr h,fun b o hb hy=>hy.elim (h3 b o hb) (fun hy=>(hV b o hy).1 t (h1 b o hb)),⟨g',b0,hpt,fun j hj=>?_⟩,?_⟩⟩
  ·rcases hb with hb|hb|hb
   ·exact .inl (h1 b o hb)
   ·exact .inl (h2 b o hb)
   ·exact .inr ⟨fun t' _=>(hV b o hb).1 t',(hV b o hb).2⟩
  ·rw[bU hl]at hj
   obtain⟨a1,⟨z,hz⟩,a3⟩:=hbox j hj;refine⟨a1,?_,by rw[hfro];exact a3⟩;by_cases hjr:off<=j/\j<off+cs.length
   ·have:=hcin (j - off) (by omega)
    rw[show b0+off+(j - off)=b0+j by omega]at this;exact⟨_,this⟩
   ·exact⟨z,by rw[hout _ _ (by omega)];exact hz⟩
  ·refine hj.congr fun j hjl=>?_
   rw[bU hl]at hjl;rw[hpt];simp only[bS];by_cases hjr:off<=j/\j<off+cs.length
   ·have:=hcin (j - off) (by omega)
    rw[show b0+off+(j - off)=b0+j by omega]at this;rw[if_pos hjr,this];rfl
   ·rw[if_neg hjr,hout _ _ (by omega)]
end
mutual
def Mn:C->Prop
 | .s o rows=>(o≠.imm\/rows=[])/\Mg rows
 | .v _=>True
 | .x=>True
 | .z=>True
 | .m _=>True
 | .it _ _=>True
def Mg:List (List C)->Prop
 | []=>True
 | r::rs=>gk r/\Mg rs
def gk:List C->Prop
 | []=>True
 | c::cs=>Mn c/\gk cs
end
theorem zC:∀ {cs:List C} {j:Nat} {c:C},gk cs->cs[j]? = some c->Mn c
 | [],j,c,_,h=>by simp at h
 | c0::cs,j,c,h,hj=>by
  simp only[gk]at h;cases j with
  | zero=>simp at hj;subst hj;exact h.1
  | succ j=>exact zC h.2 (by simpa using hj)
theorem Fy:∀ {rs:List (List C)} {j:Nat} {r:List C},Mg rs->rs[j]? = some r->gk r
 | [],j,c,_,h=>by simp at h
 | c0::cs,j,c,h,hj=>by
  simp only[Mg]at h;cases j with
  | zero=>simp at hj;subst hj;exact h.1
  | succ j=>exact Fy h.2 (by simpa using hj)
theorem aN {a b:List C} (ha:gk a) (hb:gk b):gk (a++b):=by
 induction a with
 | nil=>exact hb
 | cons c cs ih=>simp only[gk]at ha;exact⟨ha.1,ih ha.2⟩
theorem bc {α:Type} (f:α->List C) (l:List α) (h:∀ x∈l,gk (f x)):Mg (l.map f):=by
 induction l with
 | nil=>simp[Mg]
 | cons a l ih=>simp only[O4,Mg];exact⟨h a (by simp),ih fun x hx=>h x (by simp[hx])⟩
theorem dP.fresh {w:World} {S F:ac} {c:C} {v:Value} (h:dP w S F c v):Mn c->dP w NO F c v:=by
 induction h with
 | v F x h1=>exact fun _=>.v _ x h1
 | x F u h1=>exact fun _=>.x _ u h1
 | z F a=>exact fun _=>.z _ a
 | nil F o a ho=>exact fun _=>.nil _ o a ho
 | imm F g off k n cap rows u hn hk hcap hS hc ih=>
  intro hf;simp only[Mn]at hf;rcases hf.1 with h|rfl
  ·exact absurd rfl h
  ·subst hn
   exact .imm _ g off k 0 cap [] u rfl hk (Q0 _) (fun q hq=>by simp at hq) (fun i j r c hi=>by simp at hi)
 | own F o g k n cap rows u f ho hn hk hcap hpos hF hu hf hd hc ih=>
  intro hfr;simp only[Mn]at hfr;exact .own _ o g k n cap rows u f ho hn hk hcap hpos hF hu hf hd fun i j r c hi hj=>ih i j r c hi hj (zC (Fy hfr.2 hi) hj)
 | m F b clock es ents hF hb he hv hst=>exact fun _=>.m _ b clock es ents hF hb he hv hst
 | it F r b since c0 clock seen ents cur left hF hr hb hst hc hv hl hcur=>exact fun _=>.it _ r b since c0 clock seen ents cur left hF hr hb hst hc hv hl hcur
theorem cF.fresh {w:World} {S F:ac} {cs:List C} {u:Nat->Value} (h:cF w S F cs u) (hf:gk cs):cF w NO F cs u:=by
 obtain⟨f,h1,h2,h3⟩:=h;exact⟨f,fun j c hj=>(h1 j c hj).fresh (zC hf hj),h2,h3⟩
def Free (w0:World) (M S:ac) (φ:Nat->ac) (w:World) (V:ac):Prop:=∀ b o,V b o->(∀ t,¬φ t b o)/\¬S b o/\b<w.heap.size/\(w0.heap.size<=b\/M b o)
section
variable {P:Program} {w0 w w1:World} {M S0 S:ac} {N:eL} {φ:Nat->ac} {F:Nat->AV} {a:Act}
theorem bh.world (h:bh w0 M S0 N S φ F a w) {V:ac} (hk:bH V w w1) (hV:Free w0 M S φ w V):bh w0 M S0 N S φ F a w1:=by
 have hphi:∀ t,bi (φ t) w w1:=fun t b o hb=>⟨hk.cel b o (h.ex t b o hb).1 (fun hv=>(hV b o hv).1 t hb),hk.fro b o (h.ex t b o hb).1 (fun hv=>(hV b o hv).1 t hb)⟩
 have hS:bi S w w1:=fun b o hb=>⟨hk.cel b o (h.sup b o hb).1 (fun hv=>(hV b o hv).2.1 hb),hk.fro b o (h.sup b o hb).1 (fun hv=>(hV b o hv).2.1 hb)⟩
 refine⟨fun t=>(h.slot t).keep (φ:=φ) (fun t _ _ _=>h.slot t) (fun t _=>⟨fun _ _ h=>h,rfl,hphi t⟩) (hphi t) hS (fun _ _ h=>h) (fun _ _ h=>h),h.dis,h.disS,fun t b o hb=>⟨W2 (h.ex t b o hb).1 hk.size,(h.ex t b o hb).2⟩,h.sub,
   fun b o hb=>⟨W2 (h.sup b o hb).1 hk.size,(h.sup b o hb).2⟩,h.old.trans hk (fun b o hv=>(hV b o hv).2.2.2),h.size,h.defers,h.par⟩
theorem Free.less {φ':Nat->ac} {V:ac} (h:Free w0 M S φ w V) (hs:∀ t b o,φ' t b o->φ t b o):Free w0 M S φ' w V:=fun b o hb=>⟨fun t ht=>(h b o hb).1 t (hs t b o ht),(h b o hb).2⟩
theorem Free.or {V V':ac} (h:Free w0 M S φ w V) (h':Free w0 M S φ w V'):Free w0 M S φ w (fun b o=>V b o\/V' b o):=fun b o hb=>hb.elim (h b o) (h' b o)
theorem Free.grow {V:ac} (h:Free w0 M S φ w V) (hk:w.heap.size<=w1.heap.size):Free w0 M S φ w1 V:=fun b o hb=>⟨(h b o hb).1,(h b o hb).2.1,W2 (h b o hb).2.2.1 hk,(h b o hb).2.2.2⟩
theorem bh.relTop (h:bh w0 M S0 N S φ F a w) {t:Nat} {k:Kd} {cs:List C} (hF:F t=.hold k cs) :
  ∃ X1 Y:ac,(∀ b o,X1 b o->φ t b o)/\(∀ b o,Y b o->φ t b o)/\(∀ b o,X1 b o->¬Y b o)/\cF w S Y cs (bS w k (tvs a t))/\
   ∀ (r':List C) (G:ac),r'.length=cs.length->cF w S G r' (bS w k (tvs a t))->(∀ b o,G b o->Y b o\/((∀ t',¬φ t' b o)/\¬S b o/\b<w.heap.size/\(w0.heap.size<=b\/M b o)))->
    bh w0 M S0 N S (fun s=>if s=t then(fun b o=>X1 b o\/G b o) else φ s) (updH F t k r') a w:=by
 have hs:=h.slot t;rw[hF]at hs;obtain⟨X1,Y,h1,h2,h3,h4,h5⟩:=hs;refine⟨X1,Y,h1,h2,h3,h5,fun r' G hl hr hG=>?_⟩;refine h.upd (bH.refl _ _) hF (fun b o hb=>?_) ⟨X1,G,fun _ _ h=>.inl h,fun _ _ h=>.inr h,fun b o hb hg=>?_,by rw[hl];exact h4,hr⟩
 ·rcases hb with hb|hb
  ·exact .inl (h1 b o hb)
  ·rcases hG b o hb with hb|hb
   ·exact .inl (h2 b o hb)
   ·exact .inr ⟨fun t' _=>hb.1 t',hb.2⟩
 ·rcases hG b o hg with hg|hg
  ·exact h3 b o hb hg
  ·exact hg.1 t (h1 b o hb)
theorem bh.focus (h:bh w0 M S0 N S φ F a w) {t:Nat} {k:Kd} {cs r:List C} {off j:Nat} {st:cm} (hF:F t=.hold k cs) (hst:st≠[]) (hr:bQ cs off st=some (r,j)) (ho:jd cs off st) :
  ∃ g b u' Y,(∀ x o,Y x o->φ t x o)/\cF w S Y r u'/\(∀ d,j+d<r.length->cellv w (bS w k (tvs a t)) off st d=u' (j+d))/\plc w (bS w k (tvs a t)) (mX k (tvs a t)) off st=some (g,b+j)/\
   (∀ d,d<r.length->φ t g (b+d)/\¬Y g (b+d)/\cel w g (b+d)=some (u' d)/\fro w g (b+d)=NF)/\
   ∀ (w1:World) (r':List C) (u2:Nat->Value) (G V:ac),bH V w w1->(∀ x o,V x o->Y x o\/(x=g/\b<=o/\o<b+r.length))->(∀ d,d<r.length->cel w1 g (b+d)=some (u2 d)/\fro w1 g (b+d)=NF)->r'.length=r.length->cF w1 S G r' u2->
    (∀ x o,G x o->Y x o\/((∀ t',¬φ t' x o)/\¬S x o/\x<w.heap.size/\(w0.heap.size<=x\/M x o)))->
    bh w0 M S0 N S (fun s=>if s=t then(fun x o=>(φ t x o/\¬Y x o)\/G x o) else φ s) (updH F t k (fe cs off st r')) a w1:=by
 have hs:=h.slot t;rw[hF]at hs;obtain⟨X1,Y0,h1,h2,h3,h4,h5⟩:=hs;obtain⟨g,b,Y,u',e1,e2,e3,e4,e5⟩:=cF.focus st (mX k (tvs a t)) hst h5 hr ho;obtain⟨F2,u2',c1,c2,c3,-,c4⟩:=cF.at_ st (mX k (tvs a t)) h5 hr;obtain⟨g2,b2,p1,p2⟩:=c4 hst;rw[e3]at p1;simp only[T0,Prod.mk.injEq]at p1;obtain⟨rfl,hb2⟩:=p1;have hbb:b=b2:=by omega
 subst hbb;refine⟨g,b,u',Y,fun x o hx=>h2 x o (e1 x o hx),e2,fun d hd=>?_,e3,fun d hd=>?_,fun w1 r' u2 G V hk hV hcell hlen hrow hG=>?_⟩
 ·rw[c3 d]
  have q1:=p2 (j+d) hd;have q2:=(e4 (j+d) hd).2.2.1;rw[q1]at q2;exact Option.some.inj q2
 ·obtain⟨a1,a2,a3,a4⟩:=e4 d hd
  exact⟨h2 _ _ a1,a2,a3,a4⟩
 ·have hcin:∀ o,b<=o->o<b+r.length->Y0 g o/\¬Y g o:=fun o ho1 ho2=>by
   have:=e4 (o - b) (by omega);rw[show b+(o - b)=o by omega]at this;exact⟨this.1,this.2.1⟩
  have hV0:∀ x o,V x o->Y0 x o:=fun x o hx=>(hV x o hx).elim (e1 x o) (fun h=>by rw[h.1];exact(hcin o h.2.1 h.2.2).1)
  have hkk:bH (φ t) w w1:=⟨hk.os,hk.tape,hk.output,hk.size,fun x hx hn=>hk.blk x hx (fun o hv=>hn o (h2 x o (hV0 x o hv))),fun x o hx hn=>hk.cel x o hx (fun hv=>hn (h2 x o (hV0 x o hv))),fun x o hx hn=>hk.fro x o hx (fun hv=>hn (h2 x o (hV0 x o hv)))⟩
  have hS:bi S w w1:=fun x o hx=>⟨hk.cel x o (h.sup x o hx).1 (fun hv=>h.disS t x o (h2 x o (hV0 x o hv)) hx),hk.fro x o (h.sup x o hx).1 (fun hv=>h.disS t x o (h2 x o (hV0 x o hv)) hx)⟩
  have hX1:bi X1 w w1:=fun x o hx=>⟨hk.cel x o (h.ex t x o (h1 x o hx)).1 (fun hv=>h3 x o hx (hV0 x o hv)),hk.fro x o (h.ex t x o (h1 x o hx)).1 (fun hv=>h3 x o hx (hV0 x o hv))⟩
  have hrow2:=e5 w1 r' u2 G hS (fun x o hx hny hnc=>⟨hk.cel x o (h.ex t x o (h2 x o hx)).1 (fun hv=>(hV x o hv).elim hny hnc),hk.fro x o (h.ex t x o (h2 x o hx)).1 (fun hv=>(hV x o hv).elim hny hnc)⟩) hcell hlen hrow (fun x o hx=>(hG x o hx).imp id (fun hf h'=>hf.1 t (h2 x o h')));have hlen2:(fe cs off st r').length=cs.length:=by
   cases st with
   | nil=>exact absurd rfl hst
   | cons s st=>
    obtain⟨i',k',j'⟩:=s;simp only[fe];split
    ·split<;>simp
    ·rfl
  refine h.upd hkk hF (fun x o hx=>?_) ⟨X1,fun x o=>(Y0 x o/\¬Y x o)\/G x o,fun x o hx=>.inl ⟨h1 x o hx,fun hy=>h3 x o hx (e1 x o hy)⟩,fun x o hx=>hx.imp (fun hx=>⟨h2 x o hx.1,hx.2⟩) id,fun x o hx hy=>?_,by rw[hlen2];exact h4.keep hX1 (fun _ _ h=>h),hrow2.congr fun d hd=>?_⟩
  ·rcases hx with hx|hx
   ·exact .inl hx.1
   ·rcases hG x o hx with hx|hx
    ·exact .inl (h2 x o (e1 x o hx))
    ·exact .inr ⟨fun t' _=>hx.1 t',hx.2⟩
  ·rcases hy with hy|hy
   ·exact h3 x o hx hy.1
   ·rcases hG x o hy with hy|hy
    ·exact h3 x o hx (e1 x o hy)
    ·exact hy.1 t (h1 x o hx)
  ·rw[hlen2]at hd
   exact jx h4 hX1 d hd
theorem tC {r:List C} {j n:Nat} (h:j+n<=r.length):(splice r j (List.replicate n C.x)).length=r.length:=bU (by simpa using h)
theorem bh.lend (h:bh w0 M S0 N S φ F a w) {t:Nat} {k:Kd} {cs r:List C} {off j n:Nat} {st:cm} (hF:F t=.hold k cs) (hr:bQ cs off st=some (r,j)) (ho:jd cs off st) (hn:j+n<=r.length) :
  ∃ V φ',cF w S V (bq r j n) (fun d=>cellv w (bS w k (tvs a t)) off st d)/\bh w0 M S0 N S φ' (updH F t k (fe cs off st (splice r j (List.replicate n .x)))) a w/\Free w0 M S φ' w V/\(∀ s b o,φ' s b o->φ s b o)/\(∀ b o,V b o->φ t b o):=by
 have fin:∀ (Y X V:ac) (F':Nat->AV),(∀ b o,X b o->φ t b o)->(∀ b o,V b o->¬X b o)->(∀ b o,V b o->φ t b o)->cF w S V (bq r j n) (fun d=>cellv w (bS w k (tvs a t)) off st d)->bh w0 M S0 N S (fun s=>if s=t then X else φ s) F' a w->
   ∃ V φ',cF w S V (bq r j n) (fun d=>cellv w (bS w k (tvs a t)) off st d)/\bh w0 M S0 N S φ' F' a w/\Free w0 M S φ' w V/\(∀ s b o,φ' s b o->φ s b o)/\(∀ b o,V b o->φ t b o):=by
  intro Y X V F' hX hVX hV hrow hst;refine⟨V,_,hrow,hst,fun b o hb=>⟨fun s hs=>?_,h.disS t b o (hV b o hb),h.ex t b o (hV b o hb)⟩,fun s b o hb=>?_,hV⟩
  ·replace hs:(if s=t then X else φ s) b o:=hs
   by_cases e:s=t
   ·rw[if_pos e]at hs;exact hVX b o hb hs
   ·rw[if_neg e]at hs;exact h.dis s t e b o hs (hV b o hb)
  ·replace hb:(if s=t then X else φ s) b o:=hb
   by_cases e:s=t
   ·subst e;rw[if_pos rfl]at hb;exact hX b o hb
   ·rw[if_neg e]at hb;exact hb
 by_cases hst:st=[]
 ·subst hst
  simp only[bQ,T0,Prod.mk.injEq]at hr;obtain⟨rfl,rfl⟩:=hr;obtain⟨V,X,e1,e2,e3,e4,e5⟩:=h.take hF hn;exact fin NO X V _ e3 e2 e1 e4 e5
 ·obtain⟨g,b,u',Y,e1,e2,e3,e4,e5,e6⟩:=h.focus hF hst hr ho
  obtain⟨Y1,Y2,f1,f2,f3,f4,f5⟩:=e2.split hn;refine fin Y (fun x o=>(φ t x o/\¬Y x o)\/Y1 x o) Y2 _ (fun x o hx=>hx.elim (·.1) (fun hx=>e1 x o (f1 x o hx))) (fun x o hx hx'=>hx'.elim (fun h=>h.2 (f2 x o hx)) (fun h'=>f3 x o h' hx)) (fun x o hx=>e1 x o (f2 x o hx)) ?_
   (e6 w _ u' Y1 NO (bH.refl _ _) (fun _ _ h=>h.elim) (fun d hd=>(e5 d hd).2.2) (tC hn) f4 (fun x o hx=>.inl (f1 x o hx)))
  exact f5.congr fun d hd=>by
   simp only[bq,C1,Q2]at hd;exact e3 d (by omega)
theorem bh.back (h:bh w0 M S0 N S φ F a w) {t:Nat} {k:Kd} {cs r out:List C} {off j:Nat} {st:cm} (hF:F t=.hold k cs) (hr:bQ cs off st=some (r,j)) (ho:jd cs off st) (hn:j+out.length<=r.length) {V:ac} (hV:Free w0 M S φ w V)
  (hrow:cF w S V out (fun d=>cellv w (bS w k (tvs a t)) off st d)) :
  ∃ φ',bh w0 M S0 N S φ' (updH F t k (fe cs off st (splice r j out))) a w/\∀ s b o,φ' s b o->φ s b o\/V b o:=by
 by_cases hst:st=[]
 ·subst hst
  simp only[bQ,T0,Prod.mk.injEq]at hr;obtain⟨rfl,rfl⟩:=hr;obtain⟨X1,Y,e1,e2,e3,e4,e5⟩:=h.relTop hF;refine⟨_,e5 (splice cs off out) (fun b o=>Y b o\/V b o) (bU hn) ((e4.join hrow hn (fun b o hb hv=>(hV b o hv).1 t (e2 b o hb))).congr fun d hd=>?_) (fun b o hb=>hb.imp id (hV b o)),fun s b o hb=>?_⟩
  ·split
   ·rename_i hq
    simp only[cellv];rw[show off+(d - off)=d by omega]
   ·rfl
  ·replace hb:(if s=t then(fun b o=>X1 b o\/(Y b o\/V b o)) else φ s) b o:=hb
   by_cases e:s=t
   ·subst e
    rw[if_pos rfl]at hb;rcases hb with hb|hb|hb
    ·exact .inl (e1 b o hb)
    ·exact .inl (e2 b o hb)
    ·exact .inr hb
   ·rw[if_neg e]at hb;exact .inl hb
 ·obtain⟨g,b,u',Y,e1,e2,e3,e4,e5,e6⟩:=h.focus hF hst hr ho
  refine⟨_,e6 w (splice r j out) u' (fun x o=>Y x o\/V x o) NO (bH.refl _ _) (fun _ _ h=>h.elim) (fun d hd=>(e5 d hd).2.2) (bU hn) ((e2.join hrow hn (fun x o hx hv=>(hV x o hv).1 t (e1 x o hx))).congr fun d hd=>?_) (fun x o hx=>hx.imp id (hV x o)),fun s x o hx=>?_⟩
  ·split
   ·rename_i hq
    rw[e3 (d - j) (by omega),show j+(d - j)=d by omega]
   ·rfl
  ·replace hx:(if s=t then(fun x o=>(φ t x o/\¬Y x o)\/(Y x o\/V x o)) else φ s) x o:=hx
   by_cases e:s=t
   ·subst e
    rw[if_pos rfl]at hx;rcases hx with hx|hx|hx
    ·exact .inl hx.1
    ·exact .inl (e1 x o hx)
    ·exact .inr hx
   ·rw[if_neg e]at hx;exact .inl hx
theorem bh.cellv_same (h:bh w0 M S0 N S φ F a w) {t:Nat} {k:Kd} {cs r:List C} {off j:Nat} {st:cm} (hF:F t=.hold k cs) (hr:bQ cs off st=some (r,j)) {V:ac} (hk:bH V w w1) (hV:Free w0 M S φ w V) :
  ∀ d,j+d<r.length->cellv w1 (bS w1 k (tvs a t)) off st d=cellv w (bS w k (tvs a t)) off st d:=by
 have hs:=h.slot t;rw[hF]at hs;obtain⟨X1,Y0,h1,h2,h3,h4,h5⟩:=hs;have hphi:bi (φ t) w w1:=fun b o hb=>⟨hk.cel b o (h.ex t b o hb).1 (fun hv=>(hV b o hv).1 t hb),hk.fro b o (h.ex t b o hb).1 (fun hv=>(hV b o hv).1 t hb)⟩
 have hS:bi S w w1:=fun b o hb=>⟨hk.cel b o (h.sup b o hb).1 (fun hv=>(hV b o hv).2.1 hb),hk.fro b o (h.sup b o hb).1 (fun hv=>(hV b o hv).2.1 hb)⟩
 exact(cF.last hS st none h5 hr (fun b o hb=>hphi b o (h2 b o hb)) (fun x hx=>jx h4 (fun b o hb=>hphi b o (h1 b o hb)) x hx)).2
end
section
variable {P:Program} {w0 w w1:World} {M S0 S:ac} {N:eL} {φ:Nat->ac} {F:Nat->AV} {a:Act} {TE:Nat->Option TI}
def np (w:World) (b:Option Addr) (n:Nat) (news:List Value):Prop:=news.length=n/\(b=none->n=0)/\∀ ad j u,b=some ad->news[j]? = some u->w.cell? (ad.add j)=some u
theorem rm {size m:Nat} {b:Option Addr} {c:Nat} {news:List Value} (h:np w b (m*size) news):(Builtin.firstCells size m (.slice b m c)).run P w=.ok news.toArray w:=by
 obtain⟨h1,h2,h3⟩:=h;cases b with
 | none=>
  have:news=[]:=z5 (by rw[h1];exact h2 rfl);subst this
  rfl
 | some ad=>
  exact run_firstCells_some (P:=P) w size m ad m c news h1 (fun j v hj=>h3 ad j v rfl hj)
theorem n9 {g:Nat} {X:ac} : ∀ (vs:List Value) (o:Nat) (w:World),(∀ j,j<vs.length->X g (o+j))->bH X w (w.setCells g o vs):=by
 have hkept:∀ (vs:List Value) (o:Nat) (w:World),(w.setCells g o vs).os=w.os/\(w.setCells g o vs).tape=w.tape/\(w.setCells g o vs).output=w.output/\(w.setCells g o vs).heap.size=w.heap.size/\∀ b,b≠g->(w.setCells g o vs).heap[b]? = w.heap[b]?:=by
  intro vs
  induction vs with
  | nil=>exact fun _ _=>⟨rfl,rfl,rfl,rfl,fun _ _=>rfl⟩
  | cons x vs ih=>
   intro o w;obtain⟨i1,i2,i3,i4,i5⟩:=ih (o+1) (w.setCell ⟨g,o,none⟩ x);exact⟨i1,i2,i3,i4.trans (by simp[World.setCell]),fun b hb=>(i5 b hb).trans (Below.heap_setCell w ⟨g,o,none⟩ x b hb)⟩
 intro vs o w hX;obtain⟨i1,i2,i3,i4,i5⟩:=hkept vs o w;refine⟨i1,i2,i3,by omega,fun b hb hn=>?_,fun b o' hb hn=>?_,fun b o' _ _=>Prod.ext (World.frozen?_setCells g _ _ w ⟨b,o',none⟩) (kw _ _ _ _ _)⟩
 ·by_cases he:b=g
  ·subst he
   cases vs with
   | nil=>rfl
   | cons x vs=>exact absurd (hX 0 (by simp)) (hn _)
  ·exact i5 b he
 ·refine World.cell?_setCells_out g vs o w ⟨b,o',none⟩ (fun e _=>?_)
  simp only at e |-;subst e;by_cases h1:o'<o
  ·exact .inl h1
  ·by_cases h2:o+vs.length<=o'
   ·exact .inr h2
   ·have:=hX (o' - o) (by omega)
    rw[show o+(o' - o)=o' by omega]at this;exact absurd this hn
theorem ge {g o:Nat} {vs:List Value} {w:World} {b q:Nat} (h:¬(b=g/\o<=q/\q<o+vs.length)):cel (w.setCells g o vs) b q=cel w b q:=
 World.cell?_setCells_out g vs o w ⟨b,q,none⟩ (fun e _=>by simp only at e |-;omega)
theorem iV {g o:Nat} {vs:List Value} {w:World} {j:Nat} {x:Value} (h:∀ j,j<vs.length->∃ z,cel w g (o+j)=some z) (hj:vs[j]? = some x):cel (w.setCells g o vs) g (o+j)=some x:=by
 have hl:=(R1.1 hj).1;have:=World.cell?_setCells_in g vs o w (fun j hj=>by obtain⟨z,hz⟩:=h j hj;show(cel w g _).isSome=true;rw[hz];rfl) j hl;show World.cell? _ _=_;rw[this,<-(R1.1 hj).2]
theorem eg (g o:Nat) (vs:List Value) (w:World) (b q:Nat):fro (w.setCells g o vs) b q=fro w b q:=Prod.ext (World.frozen?_setCells g _ _ w ⟨b,q,none⟩) (kw _ _ _ _ _)
theorem J7 {t ty e:Nat} {i:TypeInfo} (ht:P.underlying t=some (.slice e)) (hi:P.info? e=some i) {g n cap m c:Nat} {b:Option Addr} {news:List Value} (h1:np w b (m*i.size) news) (hone:∀ u∈news,u.oneCell'=true)
  (hroom:n+m<=cap) (hc:∀ j,j<news.length->(∃ z,cel w g (n*i.size+j)=some z)/\fro w g (n*i.size+j)=NF) :
  (Builtin.append_ #[t,t] ty #[.slice (some ⟨g,0,none⟩) n cap,.slice b m c]).run P w=.ok (.slice (some ⟨g,0,none⟩) (n+m) cap) (w.setCells g (n*i.size) news):=by
 have hf:=rm (P:=P) (c:=c) h1;have hst:=run_storeCells_cells (P:=P) g (n*i.size) news 0 w (fun j hj=>by obtain⟨z,hz⟩:=(hc j hj).1;simp only[Nat.add_zero];show(cel w g _).isSome=true;rw[hz];rfl) (fun j hj=>by simp only[Nat.add_zero];exact R0 Prod.fst (hc j hj).2) hone;simp only[Nat.add_zero]at hst;simp[Builtin.append_,run_underlying ht,sizeOf,typeInfo,hi,Builtin.lenOf,hroom,hf,iO,hst]
theorem sr {t ty e:Nat} {i:TypeInfo} (ht:P.underlying t=some (.slice e)) (hi:P.info? e=some i) {n cap c:Nat} {a0 b:Option Addr} (hroom:n<=cap) :
  (Builtin.append_ #[t,t] ty #[.slice a0 n cap,.slice b 0 c]).run P w=.ok (.slice a0 n cap) w:=by
 have hf:(Builtin.firstCells i.size 0 (.slice b 0 c)).run P w=.ok #[] w:=by cases b<;>simp[Builtin.firstCells,loadCells,loadCellsFrom]
 cases a0<;>simp[Builtin.append_,run_underlying ht,sizeOf,typeInfo,hi,Builtin.lenOf,hroom,hf,storeCells]
theorem Kr {t ty e:Nat} {i:TypeInfo} {z:Value} (ht:P.underlying t=some (.slice e)) (hi:P.info? e=some i) (hz:i.zero=some z) {n cap m c:Nat} {a0 b:Option Addr} {olds news:List Value} (h0:np w a0 (n*i.size) olds) (h1:np w b (m*i.size) news)
  (hg:cap<n+m) (h63:n+m<=140737488355328) (hb:(n+m)*i.bytes<=140737488355328) :
  (Builtin.append_ #[t,t] ty #[.slice a0 n cap,.slice b m c]).run P w =
   .ok (.slice (some ⟨w.heap.size,0,none⟩) (n+m) (grownCap w (n+m) cap e)) (w.drew.alloc (.cells (olds.toArray++news.toArray++Builtin.zeroCells z.cells (grownCap w (n+m) cap e - (n+m))) e)):=by
 have hn:¬(n+m<=cap):=by omega
 have h63':¬(9223372036854775807<((n:Int)+(m:Int))):=by omega
 have h48':¬(281474976710656<Builtin.nextslicecap (n+m) cap*i.bytes):=by have:=growslice_fits hg hb;omega
 have hf:=rm (P:=P) (w:=w.drew) (c:=c) (show np w.drew b (m*i.size) news from h1);have hfo:=rm (P:=P) (w:=w.drew) (c:=cap) (show np w.drew a0 (n*i.size) olds from h0);simp[Builtin.append_,run_underlying ht,sizeOf,typeInfo,zeroValue,hi,hz,Builtin.lenOf,hn,h63',h48',Question.forced,hf,hfo,newRow,grownCap]
 congr 2
 apply Array.ext';simp
structure Az (w:World) (S V:ac) (rows:List (List C)) (k:Nat) (u:Nat->Value) (f:Nat->ac):Prop where
 hk:∀ r∈rows,r.length=k
 hf:∀ q,q<rows.length*k->∀ b o,f q b o->V b o
 hd:∀ q q',q<rows.length*k->q'<rows.length*k->q≠q'->∀ b o,f q b o->¬f q' b o
 hc:∀ (i j:Nat) (r:List C) (c:C),rows[i]? = some r->r[j]? = some c->dP w S (f (i*k+j)) c (u (i*k+j))
theorem Ef {n k q:Nat} (h:q<n*k):q / k<n/\q % k<k/\q / k*k+q % k=q:=by
 have hk:0<k:=by rcases Nat.eq_zero_or_pos k with h0|h0;subst h0;simp at h;exact h0
 exact⟨Nat.div_lt_of_lt_mul (by rw[Nat.mul_comm];exact h),Nat.mod_lt _ hk,by rw[Nat.mul_comm];exact Nat.div_add_mod q k⟩
theorem Az.one {V:ac} {rows:List (List C)} {k:Nat} {u:Nat->Value} {f:Nat->ac} (h:Az w S V rows k u f) {q:Nat} (hq:q<rows.length*k):(u q).oneCell'=true:=by
 obtain⟨h1,h2,h3⟩:=Ef hq;have hr:rows[q / k]? = some rows[q / k]:=Q1 h1;have hl:=h.hk _ (O1 hr);have hj:(rows[q / k])[q % k]? = some (rows[q / k])[q % k]:=Q1 (by omega);have:=(h.hc _ _ _ _ hr hj).one
 rwa [h3]at this
theorem Az.keep {w':World} {V:ac} {rows:List (List C)} {k:Nat} {u:Nat->Value} {f:Nat->ac} (h:Az w S V rows k u f) (hS:bi S w w') (hV:bi V w w'):Az w' S V rows k u f:=
 ⟨h.hk,h.hf,h.hd,fun i j r c hi hj=>(h.hc i j r c hi hj).keep hS fun b o hb=>hV b o (h.hf _ (by
   have h1:=(R1.1 hi).1;have h2:=(R1.1 hj).1;have h3:=h.hk r (O1 hi);exact fV h1 (by omega)) b o hb)⟩
theorem Az.append {V V':ac} {rows rows':List (List C)} {k:Nat} {u u':Nat->Value} {f f':Nat->ac} (h:Az w S V rows k u f) (h':Az w S V' rows' k u' f') (hd:∀ b o,V b o->¬V' b o) :
  Az w S (fun b o=>V b o\/V' b o) (rows++rows') k (fun q=>if q<rows.length*k then u q else u' (q - rows.length*k)) (fun q=>if q<rows.length*k then f q else f' (q - rows.length*k)):=by
 have hlen:(rows++rows').length*k=rows.length*k+rows'.length*k:=by rw[P2,Nat.add_mul]
 refine⟨fun r hr=>(C2.1 hr).elim (h.hk r) (h'.hk r),fun q hq b o hb=>?_,fun q q' hq hq' hne b o hb hb'=>?_,fun i j r c hi hj=>?_⟩
 ·rw[hlen]at hq
  by_cases hl:q<rows.length*k
  ·rw[if_pos hl]at hb;exact .inl (h.hf q hl b o hb)
  ·rw[if_neg hl]at hb;exact .inr (h'.hf _ (by omega) b o hb)
 ·rw[hlen]at hq hq'
  by_cases hl:q<rows.length*k
  ·rw[if_pos hl]at hb
   by_cases hl':q'<rows.length*k
   ·rw[if_pos hl']at hb';exact h.hd q q' hl hl' hne b o hb hb'
   ·rw[if_neg hl']at hb';exact hd b o (h.hf q hl b o hb) (h'.hf _ (by omega) b o hb')
  ·rw[if_neg hl]at hb
   by_cases hl':q'<rows.length*k
   ·rw[if_pos hl']at hb';exact hd b o (h.hf q' hl' b o hb') (h'.hf _ (by omega) b o hb)
   ·rw[if_neg hl']at hb';exact h'.hd _ _ (by omega) (by omega) (by omega) b o hb hb'
 ·by_cases hl:i<rows.length
  ·rw[Q3 hl]at hi
   have h2:=(R1.1 hj).1;have h3:=h.hk r (O1 hi);have hq:i*k+j<rows.length*k:=fV hl (by omega);simp only[if_pos hq];exact h.hc i j r c hi hj
  ·rw[R3 (by omega)]at hi
   have hge:rows.length*k<=i*k:=v5 k (by omega);have hq:¬i*k+j<rows.length*k:=by omega
   simp only[if_neg hq];have:=h'.hc (i - rows.length) j r c hi hj;rw[Nat.sub_mul]at this;rw[show i*k+j - rows.length*k=i*k - rows.length*k+j by omega];exact this
theorem Az.own {V:ac} {rows:List (List C)} {k:Nat} {u:Nat->Value} {f:Nat->ac} (h:Az w S V rows k u f) {g n cap:Nat} {X:ac} (hn:rows.length=n) (hcap:n<=cap) (hpos:0<n) (hX:∀ q,q<cap*k->X g q/\(∃ z,cel w g q=some z/\z.oneCell'=true)/\fro w g q=NF)
  (hu:∀ q,q<n*k->cel w g q=some (u q)) (hV:∀ b o,V b o->X b o/\¬(b=g/\o<cap*k)):dP w S X (.s .own rows) (.slice (some ⟨g,0,none⟩) n cap):=by
 subst hn;exact .own _ .own g k _ cap rows u f trivial rfl h.hk hcap hpos hX hu (fun q hq b o hb=>hV b o (h.hf q hq b o hb)) h.hd h.hc
theorem dP.els {F:ac} {o:dz} (hoi:o≠.imm) {rows:List (List C)} {v:Value} (h:dP w S F (.s o rows) v) {k:Nat} (hk:∀ r∈rows,r.length=k) :
  (rows=[]/\∃ a0,v=.slice a0 0 0)\/∃ g cap u f,v=.slice (some ⟨g,0,none⟩) rows.length cap/\0<rows.length/\rows.length<=cap/\(∀ q,q<cap*k->F g q/\(∃ z,cel w g q=some z/\z.oneCell'=true)/\fro w g q=NF)/\(∀ q,q<rows.length*k->cel w g q=some (u q))/\
   Az w S (fun b o=>F b o/\¬(b=g/\o<cap*k)) rows k u f:=by
 generalize hc:C.s o rows=c at h
 induction h with
 | v=>cases hc
 | x=>cases hc
 | z=>cases hc
 | m=>cases hc
 | it=>cases hc
 | imm=>cases hc;exact absurd rfl hoi
 | nil F o a ho=>cases hc;exact .inl ⟨rfl,a,rfl⟩
 | own F o g k' n cap rows' u f ho hn hk' hcap hpos hF hu hf hd hcc _=>
  cases hc;subst hn;have hkk:k'=k:=by
   have h0:rows[0]? = some rows[0]:=Q1 hpos;rw[<-hk' _ (O1 h0),hk _ (O1 h0)]
  subst hkk;exact .inr ⟨g,cap,u,f,rfl,hpos,hcap,hF,hu,hk,hf,hd,hcc⟩
theorem uz {t ty e:Nat} {i:TypeInfo} {z:Value} (ht:P.underlying t=some (.slice e)) (hi:P.info? e=some i) (hz:i.zero=some z) (hzs:z.cells.size=i.size) (hz1:∀ x∈z.cells.toList,x.oneCell'=true) {F:ac} {rows xr:List (List C)} {v0:Value} (h:dP w S F (.s .own rows) v0)
  (hk:∀ r∈rows,r.length=i.size) {V:ac} {u2:Nat->Value} {f2:Nat->ac} (hx:Az w S V xr i.size u2 f2) {b:Option Addr} {c:Nat} (hb:np w b (xr.length*i.size) ((List.range (xr.length*i.size)).map u2))
  (hFV:∀ b o,F b o->¬V b o) (hFS:∀ b o,F b o->¬S b o) (hFe:∀ b o,F b o->b<w.heap.size) (hVe:∀ b o,V b o->b<w.heap.size) (hSe:∀ b o,S b o->b<w.heap.size)
  (h63:rows.length+xr.length<=140737488355328) (hby:(rows.length+xr.length)*i.bytes<=140737488355328) :
  ∃ v' w',(Builtin.append_ #[t,t] ty #[v0,.slice b xr.length c]).run P w=.ok v' w'/\bH F w w'/\dP w' S (fun b o=>F b o\/V b o\/(w.heap.size<=b/\b<w'.heap.size)) (.s .own (rows++xr)) v':=by
 have hkx:xr.length*i.size=((List.range (xr.length*i.size)).map u2).length:=by simp
 have grow:∀ (a0:Option Addr) (cap:Nat) (u:Nat->Value) (f:Nat->ac),cap<rows.length+xr.length->np w a0 (rows.length*i.size) ((List.range (rows.length*i.size)).map u)->Az w S F rows i.size u f->v0=.slice a0 rows.length cap->
   ∃ v' w',(Builtin.append_ #[t,t] ty #[v0,.slice b xr.length c]).run P w=.ok v' w'/\bH F w w'/\dP w' S (fun b o=>F b o\/V b o\/(w.heap.size<=b/\b<w'.heap.size)) (.s .own (rows++xr)) v':=by
  intro a0 cap u f hlt hr hE hv;have hrun:=Kr (P:=P) (ty:=ty) ht hi hz hr hb hlt h63 hby (c:=c);have hge:=grownCap_ge w (rows.length+xr.length) cap e;refine⟨_,_,by rw[hv];exact hrun,bH.of_below (((Below.refl _ _).drew).alloc (I2 _) _) F,?_⟩;generalize hcells:((List.range (rows.length*i.size)).map u).toArray++((List.range (xr.length*i.size)).map u2).toArray++Builtin.zeroCells z.cells (grownCap w (rows.length+xr.length) cap e - (rows.length+xr.length))=cells;generalize grownCap w (rows.length+xr.length) cap e=c' at hge hcells;have hlen:cells.size=c'*i.size:=by
   rw[<-hcells];simp only[Array.size_append,List.size_toArray,U0,List.length_range,size_zeroCells,hzs,<-Nat.add_mul]
   congr 1;omega
  have hk':bH NO w (w.drew.alloc (.cells cells e)):=bH.of_below (((Below.refl _ _).drew).alloc (I2 _) _) NO;have hE2:=((hE.append hx hFV).keep (g9 hk' hSe) (g9 hk' fun b o hb=>hb.elim (hFe b o) (hVe b o)))
  have hcel:∀ q,cel (w.drew.alloc (.cells cells e)) w.heap.size q=cells[q]?:=fun q=>gm w.drew cells e q
  have hq1:∀ q,q<(rows.length+xr.length)*i.size->cells[q]? = some (if q<rows.length*i.size then u q else u2 (q - rows.length*i.size)):=fun q hq=>by
   rw[Nat.add_mul]at hq;rw[<-hcells,Array.append_assoc];by_cases h1:q<rows.length*i.size
   ·rw[Array.getElem?_append_left (by simpa using h1),if_pos h1];simp[h1]
   ·rw[Array.getElem?_append_right (by simpa using Nat.le_of_not_lt h1),if_neg h1,Array.getElem?_append_left (by simp;omega)]
    simp only[List.size_toArray,U0,List.length_range,List.getElem?_toArray,O2];rw[X4 (by omega)];rfl
  refine hE2.own (n:=rows.length+xr.length) (cap:=c') (by simp) hge (by omega) (fun q hq=>?_) (fun q hq=>by rw[hcel];exact hq1 q hq) (fun b o hb=>⟨hb.elim .inl (fun h=>.inr (.inl h)),fun h=>by have:=hb.elim (hFe b o) (hVe b o);omega⟩);refine⟨.inr (.inr ⟨I2 _,by rw[eQ];exact Nat.lt_succ_self _⟩),?_,iC w.drew cells e q⟩;rw[hcel];have hlt':q<cells.size:=by rw[hlen];exact hq
  refine⟨cells[q],T4 hlt',?_⟩;by_cases h1:q<(rows.length+xr.length)*i.size
  ·have h2:=hq1 q h1
   rw[T4 hlt']at h2;simp only[T0]at h2;rw[h2];have:=(hE.append hx hFV).one (q:=q) (by simpa using h1);exact this
  ·have hmem:cells[q]∈z.cells.toList:=by
    have h2:cells[q]? = (Builtin.zeroCells z.cells (c' - (rows.length+xr.length)))[q - (rows.length+xr.length)*i.size]?:=by
     rw[<-hcells];rw[Array.getElem?_append_right (by simp[<-Nat.add_mul];omega)];simp[<-Nat.add_mul]
    rw[T4 hlt']at h2;have h3:q - (rows.length+xr.length)*i.size<(c' - (rows.length+xr.length))*z.cells.size:=by
     rw[hzs,Nat.sub_mul];omega
    have hz0:0<z.cells.size:=by rcases Nat.eq_zero_or_pos z.cells.size with h|h;rw[h]at h3;simp at h3;exact h
    simp only[Builtin.zeroCells]at h2;rw[T4 (by simpa using h3)]at h2;simp only[Array.getElem_map,Array.getElem_range,T0]at h2;rw[h2];have h4:(q - (rows.length+xr.length)*i.size) % z.cells.size<z.cells.size:=Nat.mod_lt _ hz0;rw[getElem!_pos z.cells _ h4];simp
   exact hz1 _ hmem
 rcases h.els (by simp) hk with⟨rfl,a0,rfl⟩|⟨g,cap,u,f,rfl,hpos,hcap,hcell,hu,hE⟩
 ·by_cases hm:xr.length=0
  ·have:xr=[]:=z5 hm
   subst this;exact⟨_,w,sr ht hi (I2 0),bH.refl _ _,.nil _ _ _ trivial⟩
  ·exact grow a0 0 (fun _=>undef) (fun _=>NO) (by simp;omega) ⟨by simp,fun _=>by simp,fun ad j u _ hj=>by simp at hj⟩ ⟨fun r hr=>by simp at hr,fun q hq=>by simp at hq,fun q q' hq=>by simp at hq,fun i j r c hi=>by simp at hi⟩ rfl
 ·have hmap:∀ (n j:Nat) (y:Value) (uu:Nat->Value),((List.range n).map uu)[j]? = some y->j<n/\y=uu j:=fun n j y uu hj=>by
   rw[O2]at hj;cases hr:(List.range n)[j]? with
   | none=>rw[hr]at hj;cases hj
   | some j'=>
    obtain⟨h1,h2⟩:=R1.1 hr;simp at h1 h2;subst h2;rw[hr]at hj;simp only[Y3,T0]at hj;exact⟨h1,hj.symm⟩
  by_cases hroom:rows.length+xr.length<=cap
  ·have hin:∀ j,j<xr.length*i.size->rows.length*i.size+j<cap*i.size:=fun j hj=>by
    have:(rows.length+xr.length)*i.size<=cap*i.size:=v5 _ hroom;rw[Nat.add_mul]at this;omega
   have hrun:=J7 (P:=P) (ty:=ty) ht hi (g:=g) (n:=rows.length) (cap:=cap) (c:=c) hb (fun y hy=>by
     obtain⟨j,hj⟩:=List.getElem?_of_mem hy;obtain⟨h1,rfl⟩:=hmap _ _ _ _ hj;exact hx.one h1) hroom (fun j hj=>by
       have:=hcell _ (hin j (by rw[<-hkx]at hj;exact hj));exact⟨this.2.1.imp fun _ h=>h.1,this.2.2⟩)
   generalize hnews:(List.range (xr.length*i.size)).map u2=news at hrun hkx;have hkk:bH F w (w.setCells g (rows.length*i.size) news):=n9 news _ w (fun j hj=>(hcell _ (hin j (by omega))).1);refine⟨_,_,hrun,hkk,?_⟩;have hSS:bi S w (w.setCells g (rows.length*i.size) news):=fun b o hb=>⟨hkk.cel b o (hSe b o hb) (fun h'=>hFS b o h' hb),eg _ _ _ _ _ _⟩
   have hVV:bi V w (w.setCells g (rows.length*i.size) news):=fun b o hb=>⟨hkk.cel b o (hVe b o hb) (fun h'=>hFV b o h' hb),eg _ _ _ _ _ _⟩
   have hFF:bi (fun b o=>F b o/\¬(b=g/\o<cap*i.size)) w (w.setCells g (rows.length*i.size) news):=fun b o hb=>⟨ge (fun⟨e1,e2,e3⟩=>hb.2 ⟨e1,by
     have:=hin (o - rows.length*i.size) (by omega);omega⟩),eg _ _ _ _ _ _⟩
   have hE2:=(hE.keep hSS hFF).append (hx.keep hSS hVV) (fun b o hb hv=>hFV b o hb.1 hv);have hex:∀ j,j<news.length->∃ z,cel w g (rows.length*i.size+j)=some z:=fun j hj=>(hcell _ (hin j (by omega))).2.1.imp fun _ h=>h.1
   refine hE2.own (n:=rows.length+xr.length) (cap:=cap) (by simp) hroom (by omega) (fun q hq=>?_) (fun q hq=>?_) (fun b o hb=>⟨hb.elim (fun h=>.inl h.1) (fun h=>.inr (.inl h)),fun h=>hb.elim (fun h'=>h'.2 h) (fun hv=>?_)⟩)
   ·obtain⟨h1,⟨z0,h2,h2'⟩,h3⟩:=hcell q hq
    refine⟨.inl h1,?_,by rw[eg];exact h3⟩;by_cases hr:rows.length*i.size<=q/\q<rows.length*i.size+news.length
    ·have h4:news[q - rows.length*i.size]? = some (u2 (q - rows.length*i.size)):=by
      rw[<-hnews,O2,X4 (by omega)];rfl
     have:=iV hex h4;rw[show rows.length*i.size+(q - rows.length*i.size)=q by omega]at this;exact⟨_,this,hx.one (by omega)⟩
    ·exact⟨z0,by rw[ge (by omega)];exact h2,h2'⟩
   ·rw[Nat.add_mul]at hq
    by_cases hr:q<rows.length*i.size
    ·rw[if_pos hr,ge (by omega)];exact hu q hr
    ·rw[if_neg hr]
     have h4:news[q - rows.length*i.size]? = some (u2 (q - rows.length*i.size)):=by
      rw[<-hnews,O2,X4 (by omega)];rfl
     have:=iV hex h4
     rwa [show rows.length*i.size+(q - rows.length*i.size)=q by omega]at this
   ·obtain⟨e1,e2⟩:=h
    subst e1;exact hFV _ _ (hcell o e2).1 hv
  ·exact grow (some ⟨g,0,none⟩) cap u f (by omega) ⟨by simp,fun h=>(by cases h),fun ad j y had hj=>by
     cases had;obtain⟨h1,rfl⟩:=hmap _ _ _ _ hj;rw[iO,Y4];exact hu j h1⟩ ⟨hE.hk,fun q hq b o hb=>(hE.hf q hq b o hb).1,hE.hd,hE.hc⟩ rfl
end
def fc:List C->(List C->Prop)->Prop
 | [],K=>K []
 | c::cs,K=>fc cs fun t=>K (c::t)
theorem di:∀ (cs:List C) (K:List C->Prop),fc cs K=K cs
 | [],_=>rfl
 | c::cs,K=>by rw[fc,di cs]
def chunk (k:Nat):Nat->List C->List (List C)
 | 0,_=>[]
 | n+1,cs=>cs.take k::chunk k n (cs.drop k)
def N4 (k:Nat):Nat->List C->(List (List C)->Prop)->Prop
 | 0,_,K=>K []
 | n+1,cs,K=>fc (cs.take k) fun r=>N4 k n (cs.drop k) fun rs=>K (r::rs)
theorem nB (k:Nat):∀ (n:Nat) (cs:List C) (K:List (List C)->Prop),N4 k n cs K=K (chunk k n cs)
 | 0,_,_=>rfl
 | n+1,cs,K=>by rw[N4,di,nB k n];rfl
def MF (TE:Nat->Option TI) (flds:List (Nat × Nat)) (i:Nat):Option (Nat × Nat):=
 match flds[i]? with
 | some p=>(match TE p.2 with|some ti=>some (p.1,ti.size)|none=>none)
 | none=>none
def vu (TE:Nat->Option TI):List (Nat × Nat)->Bool
 | []=>true
 | p::l=>(TE p.2).isSome&&vu TE l
def NJ (size i:Nat):Option (Nat × Nat):=some (i*size,size)
def fillP (F:Nat->AV) (pl:Nat->Option (Nat × Nat)):List (Nat × Operand)->List C->(List C->Prop)->Prop
 | [],cs,K=>K cs
 | p::rest,cs,K=>match pl p.1 with
  | some q=>gE F (lA F p.2) fun _ xs=>bif aV xs&&Nat.beq xs.length q.2&&Nat.ble (q.1+q.2) cs.length then fc (splice cs q.1 xs) fun cs'=>fillP F pl rest cs' K else False
  | none=>False
def pd (TE:Nat->Option TI) (F:Nat->AV) (T:Nat) (parts:List (Nat × Operand)) (K:AV->Prop):Prop:=
 match TE T with
 | some ⟨_,_,zero,.st flds⟩=>bif vu TE flds then fillP F (MF TE flds) parts zero fun cs=>K (.hold .agg cs) else False
 | _=>False
def rep (z:List C):Nat->List C
 | 0=>[]
 | n+1=>z++rep z n
def FY (TE:Nat->Option TI) (T:Nat) (K:Nat->TI->Prop):Prop:=
 match TE T with
 | some ⟨_,_,_,.sl e⟩=>(match TE e with
   | some ie=>bif Nat.beq ie.zero.length ie.size&&Nat.ble 1 ie.size then K e ie else False
   | none=>False)
 | _=>False
def tK (TE:Nat->Option TI) (F:Nat->AV) (T n:Nat) (parts:List (Nat × Operand)) (K:AV->Prop):Prop:=
 FY TE T fun _ ie=>bif Nat.ble (n*ie.size) 16777216 then(match n,parts with
   | 0,[]=>K (.hold .one [.z])
   | n+1,parts=>fc (rep ie.zero (n+1)) fun cs=>fillP F (NJ ie.size) parts cs fun cs'=>N4 ie.size (n+1) cs' fun rows=>K (.hold .one [.s .own rows])
   | _,_=>False) else False
inductive Fl (rows:List (List C)) (sz by_:Nat) (X:Prop):Prop
 |mk_ (h:(∀ r∈rows,r.length=sz/\aV r=true)/\rows.length<=140737488355328/\rows.length*by_<=140737488355328/\X)
theorem Fl.mk {rows:List (List C)} {sz by_:Nat} {X:Prop} (h1:∀ r∈rows,r.length=sz/\aV r=true) (h2:rows.length<=140737488355328) (h3:rows.length*by_<=140737488355328) (hX:X):Fl rows sz by_ X:=by refine .mk_ ?_;exact⟨h1,h2,h3,hX⟩
theorem Fl.out {rows:List (List C)} {sz by_:Nat} {X:Prop} (h:Fl rows sz by_ X):(∀ r∈rows,r.length=sz/\aV r=true)/\rows.length<=140737488355328/\rows.length*by_<=140737488355328/\X:=by obtain⟨h⟩:=h;exact h
def Fs (TE:Nat->Option TI) (F:Nat->AV) (T:Nat) (x y:Operand) (K:AV->Prop):Prop:=
 FY TE T fun _ ie=>gE F (lA F x) fun ag cs=>match ag,cs with
  | none,[.z]=>gE F (lA F y) fun ag2 cs2=>match ag2,cs2 with
   | none,[.s _ rows]=>Fl rows ie.size ie.bytes (K (.hold .one [.s .own rows]))
   | none,[.z]=>K (.hold .one [.z])
   | _,_=>False
  | _,_=>False
section
variable {P:Program} {w0 w w1:World} {M S0 S:ac} {N:eL} {φ:Nat->ac} {F:Nat->AV} {a:Act} {TE:Nat->Option TI}
theorem zf {α:Type} (l xs:List α) {p q:Nat} (hp:p<=l.length) (hq:q=p+xs.length) (j:Nat):(l.take p++xs++l.drop q)[j]? = if j<p then l[j]? else if j<q then xs[j - p]? else l[j]?:=by
 subst hq;have hm:(l.take p).length=p:=by simp;omega
 by_cases h1:j<p
 ·rw[if_pos h1,z4,Q3 (by omega),List.getElem?_take,if_pos h1]
 ·rw[if_neg h1]
  by_cases h2:j<p+xs.length
  ·rw[if_pos h2,z4,R3 (by omega),hm,Q3 (by omega)]
  ·rw[if_neg h2,z4,R3 (by omega),hm,R3 (by omega),List.getElem?_drop]
   congr 1;omega
theorem qq {off:Nat} : ∀ (xs:List Value) (k:Nat) (cells:Array Value),off+k+xs.length<=cells.size->
  ((xs.zipIdx k).foldl (fun cs (c,j)=>cs.setIfInBounds (off+j) c) cells).toList=cells.toList.take (off+k)++xs++cells.toList.drop (off+k+xs.length)
 | [],k,cells,_=>by simp
 | x::xs,k,cells,h=>by
  simp only[List.length_cons]at h;simp only[List.zipIdx_cons,List.foldl_cons];rw[qq xs (k+1) _ (by simp;omega)];apply List.ext_getElem?;intro j;rw[zf _ _ (by simp;omega) rfl,zf _ _ (by simp;omega) rfl];simp only[Array.toList_setIfInBounds,List.length_cons,X2,Array.length_toList];by_cases h1:j<off+k
  ·rw[if_pos (by omega),if_pos h1,if_neg (by omega)]
  ·rw[if_neg h1]
   by_cases h2:j=off+k
   ·subst h2
    rw[if_pos (by omega),if_pos rfl,if_pos (by omega),if_pos (by omega)];simp
   ·rw[if_neg (by omega)]
    by_cases h3:j<off+k+(xs.length+1)
    ·rw[if_pos (by omega),if_pos h3,show j - (off+k)=(j - (off+(k+1)))+1 by omega,List.getElem?_cons_succ]
    ·rw[if_neg (by omega),if_neg h3,if_neg (by omega)]
theorem zF {cs xs:List C} {off:Nat} (h:off+xs.length<=cs.length) (u u2:Nat->Value) :
  (List.range (splice cs off xs).length).map (fun j=>if off<=j/\j<off+xs.length then u2 (j - off) else u j)=((List.range cs.length).map u).take off++(List.range xs.length).map u2++((List.range cs.length).map u).drop (off+xs.length):=by
 rw[bU h];apply List.ext_getElem?;intro j;rw[zf _ _ (by simp;omega) (by simp),O2,O2,O2];by_cases h1:j<cs.length
 ·rw[X4 h1]
  simp only[Y3];by_cases h2:off<=j/\j<off+xs.length
  ·rw[if_pos h2,if_neg (by omega),if_pos h2.2,X4 (by omega)];rfl
  ·rw[if_neg h2]
   by_cases h3:j<off
   ·rw[if_pos h3]
   ·rw[if_neg h3,if_neg (by omega)]
 ·rw[U1 (by simp;omega)]
  rw[if_neg (by omega),if_neg (by omega)];rfl
theorem yr {pl:Nat->Option (Nat × Nat)} {i:Nat} {q:Nat × Nat} (hq:pl i=some q) {cs xs:List C} {u u2:Nat->Value} {cells:Array Value} {v:Value} {rest:List (Nat × Value)} (hcl:cells.toList=(List.range cs.length).map u)
  (hv:v.cells.toList=(List.range xs.length).map u2) (h1:xs.length=q.2) (h2:q.1+q.2<=cs.length) :
  ∃ cells',Instr.fill pl cells ((i,v)::rest)=Instr.fill pl cells' rest/\cells'.toList=(List.range (splice cs q.1 xs).length).map (fun j=>if q.1<=j/\j<q.1+xs.length then u2 (j - q.1) else u j):=by
 obtain⟨off,size⟩:=q;simp only at h1 h2;have hvs:v.cells.size=xs.length:=by have:=R0 List.length hv;simpa using this
 have hcs:cells.size=cs.length:=by have:=R0 List.length hcl;simpa using this
 refine⟨_,by simp only[Instr.fill,hq];rw[if_neg (by simp;omega)],?_⟩;have:=qq (off:=off) v.cells.toList 0 cells (by simp;omega);rw[<-Array.toList_zipIdx,Array.foldl_toList]at this;rw[this,zF (by omega),hcl,hv];simp
theorem bh.fillP (h:bh w0 M S0 N S φ F a w) {pl:Nat->Option (Nat × Nat)} : ∀ {parts:List (Nat × Operand)} {cs:List C} {K:List C->Prop} {u:Nat->Value} {cells:Array Value},Ab.fillP F pl parts cs K->cF w S NO cs u->cells.toList=(List.range cs.length).map u->
  ∃ cs' u' cells',K cs'/\cs'.length=cs.length/\cF w S NO cs' u'/\Instr.fill pl cells (parts.map fun p=>(p.1,a.eval p.2))=some cells'/\cells'.toList=(List.range cs'.length).map u'
 | [],cs,K,u,cells,hp,hr,hc=>⟨cs,u,cells,hp,rfl,hr,rfl,hc⟩
 | p::rest,cs,K,u,cells,hp,hr,hc=>by
  simp only[Ab.fillP]at hp;split at hp
  case h_2=>exact hp.elim
  rename_i q hq;obtain⟨ag,xs,Y,hK,hv,-⟩:=h.val (h.ev p.2) hp;cases hb:(aV xs&&Nat.beq xs.length q.2&&Nat.ble (q.1+q.2) cs.length) with
  | false=>rw[hb]at hK;exact hK.elim
  | true=>
   rw[hb]at hK;simp only[I0]at hb;have h1:=P1 hb.1.2;have h2:=W0 hb.2;simp only[cond_true,di]at hK;obtain⟨u2,hu2,hr2⟩:=hv.cells;obtain⟨cells1,hf,hc1⟩:=yr (rest:=rest.map fun p=>(p.1,a.eval p.2)) hq hc hu2 h1 h2;have hr3:=(hr.join (hr2.bare (F':=NO) hb.1.1) (off:=q.1) (by omega) (fun _ _ h=>h.elim)).mono (F':=NO) (fun _ _ h=>h) (fun _ _ h=>h.elim id id);obtain⟨cs',u',cells',e1,e2,e3,e4,e5⟩:=bh.fillP h hK hr3 hc1;exact⟨cs',u',cells',e1,by rw[e2,bU (by omega)],e3,by rw[O4,hf];exact e4,e5⟩
theorem sS (hTE:∀ t i,TE t=some i->bY P t i):∀ {fs:List Field} {flds:List (Nat × Nat)},fs.map (fun f=>(f.offset,f.type))=flds->vu TE flds=true->
  ∃ pls:List (Nat × Nat),fs.mapM (fun f=>(P.info? f.type).map fun i=>(f.offset,i.size))=some pls/\∀ i,pls[i]? = MF TE flds i
 | [],flds,h,_=>by subst h;exact⟨[],by simp,fun i=>by simp[MF]⟩
 | f::fs,flds,h,ha=>by
  subst h;simp only[O4,vu,I0]at ha;obtain⟨pls,h1,h2⟩:=sS hTE (fs:=fs) rfl ha.2;cases ht:TE f.type with
  | none=>rw[ht]at ha;cases ha.1
  | some ti=>
   have hsz:=(hTE _ _ ht).size;cases hi:P.info? f.type with
   | none=>rw[hi]at hsz;cases hsz
   | some ii=>
    rw[hi]at hsz;simp only[Y3,T0]at hsz;refine⟨(f.offset,ti.size)::pls,?_,fun i=>?_⟩
    ·simp[List.mapM_cons,hi,h1,hsz]
    ·cases i with
     | zero=>simp[MF,ht]
     | succ i=>simp only[List.getElem?_cons_succ,h2 i,MF,O4]
theorem uS (hTE:∀ t i,TE t=some i->bY P t i) {T size bytes:Nat} {zero:List C} {flds:List (Nat × Nat)} (hT:TE T=some ⟨size,bytes,zero,.st flds⟩) (ha:vu TE flds=true) {parts:Array (Nat × Value)} {cells':Array Value}
  (hf:∀ cells:Array Value,cells.toList=zero.map cval->Instr.fill (MF TE flds) cells parts.toList=some cells'):(Instr.build T parts).run P w=.ok (.agg cells') w:=by
 refine run_build w T parts cells' ?_;have hz:=(hTE _ _ hT).1;obtain⟨fs,hu,hfs⟩:=(hTE _ _ hT).2.2;obtain⟨pls,h1,h2⟩:=sS (P:=P) hTE hfs ha;unfold Program.built;cases hi:P.info? T with
 | none=>rw[hi]at hz;cases hz
 | some q=>
  rw[hi]at hz;simp only[Y3,T0,Prod.mk.injEq]at hz;cases hq:q.zero with
  | none=>rw[hq]at hz;cases hz.1
  | some z=>
   rw[hq]at hz;simp only[hu,hq,h1];rw[<-hf z.cells (by simpa using hz.1)]
   congr 1
   funext i
   rw[<-h2 i];simp
theorem bh.build (h:bh w0 M S0 N S φ F a w) (hTE:∀ t i,TE t=some i->bY P t i) {T:Nat} {parts:Array (Nat × Operand)} {K:AV->Prop} (hp:pd TE F T parts.toList K) :
  ∃ av v,K av/\(Instr.build T (parts.map fun(i,x)=>(i,a.eval x))).run P w=.ok v w/\cn w S F (tvs a) NO av v:=by
 unfold pd at hp;split at hp
 case h_2=>exact hp.elim
 rename_i size bytes zero flds hT;cases ha:vu TE flds with
 | false=>rw[ha]at hp;exact hp.elim
 | true=>
  rw[ha]at hp;have hzo:=(hTE _ _ hT).2.1;have hl:∀ cells:Array Value,cells.toList=zero.map cval->cells.toList=(List.range zero.length).map (fun j=>(zero.map cval).getD j undef):=fun cells hc=>by
   rw[hc];apply List.ext_getElem?;intro j;rw[O2,O2];by_cases hj:j<zero.length
   ·rw[X4 hj,Q1 hj];simp[List.getD,hj]
   ·rw[U1 (by omega),U1 (by simp;omega)];rfl
  obtain⟨cs',u',cells',e1,e2,e3,e4,e5⟩:=h.fillP hp (nw hzo S) (hl ((zero.map cval).toArray) (by simp));refine⟨_,.agg cells',e1,uS hTE hT ha fun cells hc=>?_,?_⟩
  ·have:cells=(zero.map cval).toArray:=by apply Array.ext';simpa using hc
   rw[this,Array.toList_map];exact e4
  ·have hsz:cells'.size=cs'.length:=by have:=R0 List.length e5;simpa using this
   refine bN.slot (ag:=some cs'.length) (v:=.agg cells') ⟨rfl,u',?_,e3⟩;simp only[mkv]
   congr 1
   apply Array.ext';rw[e5]
theorem rZ (k:Nat):∀ (n:Nat) (cs:List C) (i:Nat),(chunk k n cs)[i]? = if i<n then some ((cs.drop (i*k)).take k) else none
 | 0,_,i=>by simp[chunk]
 | n+1,cs,0=>by simp[chunk]
 | n+1,cs,i+1=>by
  simp only[chunk,List.getElem?_cons_succ];rw[rZ k n,List.drop_drop,show k+i*k=(i+1)*k by rw[Nat.add_mul];omega];by_cases h:i<n
  ·rw[if_pos h,if_pos (by omega)]
  ·rw[if_neg h,if_neg (by omega)]
theorem lh (k:Nat):∀ (n:Nat) (cs:List C),(chunk k n cs).length=n
 | 0,_=>rfl
 | n+1,cs=>by simp[chunk,lh k n]
theorem lZ (z:List C):∀ n,(rep z n).length=n*z.length
 | 0=>by simp[rep]
 | n+1=>by simp[rep,lZ z n,Nat.add_mul];omega
theorem FP {z:List C} : ∀ {n j:Nat},j<n*z.length->(rep z n)[j]? = z[j % z.length]?
 | 0,j,h=>by simp at h
 | n+1,j,h=>by
  rw[Nat.add_mul]at h;simp only[rep];by_cases hj:j<z.length
  ·rw[Q3 hj,Nat.mod_eq_of_lt hj]
  ·rw[R3 (by omega),FP (by omega)]
   rw[Nat.mod_eq_sub_mod (show j≥z.length by omega)]
theorem cF.els {Y:ac} {cs:List C} {u:Nat->Value} (h:cF w S Y cs u) {k n:Nat} (hl:cs.length=n*k):∃ f,Az w S Y (chunk k n cs) k u f:=by
 obtain⟨f,h1,h2,h3⟩:=h;have hlen:∀ i,i<n->((cs.drop (i*k)).take k).length=k:=fun i hi=>by
  have:(i+1)*k<=n*k:=v5 k hi;rw[Nat.add_mul]at this;simp;omega
 refine⟨f,fun r hr=>?_,fun q hq=>h2 q (by rw[lh]at hq;omega),fun q q' hq hq'=>h3 q q' (by rw[lh]at hq;omega) (by rw[lh]at hq';omega),fun i j r c hi hj=>?_⟩
 ·obtain⟨i,hi⟩:=List.getElem?_of_mem hr
  rw[rZ]at hi;split at hi
  ·rename_i hin
   simp only[T0]at hi;subst hi;exact hlen i hin
  ·cases hi
 ·rw[rZ]at hi
  split at hi
  ·rename_i hin
   simp only[T0]at hi;subst hi;have hjk:j<k:=by rw[<-hlen i hin];exact(R1.1 hj).1
   rw[List.getElem?_take,if_pos hjk,List.getElem?_drop]at hj;exact h1 _ c hj
  ·cases hi
theorem uk {Y:ac} {cs:List C} {u:Nat->Value} (h:cF w S Y cs u) {k n e:Nat} (hl:cs.length=n*k) (hn:0<n) {cells:Array Value} (hc:cells.toList=(List.range cs.length).map u) (hS:∀ b o,S b o->b<w.heap.size) (hY:∀ b o,Y b o->b<w.heap.size) :
  dP (w.alloc (.cells cells e)) S (fun b o=>Y b o\/(w.heap.size<=b/\b<(w.alloc (.cells cells e)).heap.size)) (.s .own (chunk k n cs)) (.slice (some ⟨w.heap.size,0,none⟩) n n):=by
 have hone:∀ j,j<cs.length->(u j).oneCell'=true:=fun j hj=>h.one hj
 obtain⟨f,hE⟩:=h.els hl;have hE2:=hE.keep (g9 (cH w (.cells cells e)) hS) (g9 (cH w (.cells cells e)) hY);have hcell:∀ q,q<n*k->cel (w.alloc (.cells cells e)) w.heap.size q=some (u q):=fun q hq=>by
  rw[gm,<-Array.getElem?_toList,hc,O2,X4 (by omega)];rfl
 refine hE2.own (by rw[lh]) (I2 n) hn (fun q hq=>⟨.inr ⟨I2 _,by rw[eQ];omega⟩,⟨_,hcell q hq,hone q (by omega)⟩,iC _ _ _ _⟩) hcell (fun b o hb=>⟨.inl hb,fun⟨e1,_⟩=>?_⟩);have:=hY b o hb;omega
theorem rV {z:List C} (hz:aI z) (S:ac) (n:Nat):cF w S NO (rep z n) (fun j=>(z.map cval).getD (j % z.length) undef):=by
 obtain⟨f,h1,-,-⟩:=nw (w:=w) hz S;refine⟨fun _=>NO,fun j c hj=>?_,fun _ _ _ _ h=>h,fun _ _ _ _ _ _ _ h=>h.elim⟩;have hlt:=(R1.1 hj).1;rw[lZ]at hlt;rw[FP hlt]at hj;exact(h1 _ c hj).bare (rM hz c (O1 hj))
theorem bY.info {t:Nat} {i:TI} (h:bY P t i):∃ q z,P.info? t=some q/\q.zero=some z/\z.cells.toList=i.zero.map cval/\q.size=i.size/\q.bytes=i.bytes:=by
 have:=h.1;cases hq:P.info? t with
 | none=>rw[hq]at this;cases this
 | some q=>
  rw[hq]at this;simp only[Y3,T0,Prod.mk.injEq]at this;cases hz:q.zero with
  | none=>rw[hz]at this;cases this.1
  | some z=>rw[hz]at this;exact⟨q,z,rfl,hz,by simpa using this.1,this.2.1,this.2.2⟩
theorem jN {T:Nat} {K:Nat->TI->Prop} (hTE:∀ t i,TE t=some i->bY P t i) (h:FY TE T K) :
  ∃ e ie q z,K e ie/\TE e=some ie/\P.underlying T=some (.slice e)/\bY P e ie/\ie.zero.length=ie.size/\0<ie.size/\P.info? e=some q/\q.zero=some z/\z.cells.toList=ie.zero.map cval/\q.size=ie.size/\q.bytes=ie.bytes/\z.cells.size=q.size:=by
 unfold FY at h;split at h
 case h_2=>exact h.elim
 rename_i e hT;split at h
 case h_2=>exact h.elim
 rename_i ie he;cases hb:(Nat.beq ie.zero.length ie.size&&Nat.ble 1 ie.size) with
 | false=>rw[hb]at h;exact h.elim
 | true=>
  rw[hb]at h;simp only[I0]at hb;obtain⟨q,z,h1,h2,h3,h4,h5⟩:=(hTE _ _ he).info;have hl:=P1 hb.1;exact⟨e,ie,q,z,h,he,(hTE _ _ hT).2.2,hTE _ _ he,hl,W0 hb.2,h1,h2,h3,h4,h5,by have:=R0 List.length h3;simp at this;omega⟩
theorem AW {zero:List C} (hz:aI zero):∀ x∈zero.map cval,x.oneCell'=true:=by
 induction zero with
 | nil=>simp
 | cons c cs ih=>
  intro x hx;rcases List.mem_cons.1 hx with rfl|hx
  ·cases c with
   | v x=>exact hz.1
   | z=>rfl
   | x=>exact hz.elim
   | s=>exact hz.elim
   | m=>exact hz.elim
   | it=>exact hz.elim
  ·exact ih (by cases c with|v x=>exact hz.2|z=>exact hz|x=>exact hz.elim|s o rows=>exact hz.elim|m=>exact hz.elim|it=>exact hz.elim) x hx
theorem sG {T e:Nat} {q:TypeInfo} (hu:P.underlying T=some (.slice e)) (hi:P.info? e=some q):(Instr.buildSlice T 0 #[]).run P w=.ok (.slice (some ⟨w.heap.size,0,none⟩) 0 0) (w.alloc (.cells #[] e)):=by
 simp[Instr.buildSlice,run_underlying hu,sizeOf,typeInfo,hi,newRow,Instr.fill,Array.range_zero']
theorem na {zero:List C} {z:Value} (hz:z.cells.toList=zero.map cval) (h0:0<zero.length) (m:Nat):((Array.range m).map (z.cells[· % z.cells.size]!)).toList=(List.range m).map (fun j=>(zero.map cval).getD (j % zero.length) undef):=by
 have hs:z.cells.size=zero.length:=by have:=R0 List.length hz;simpa using this
 rw[Array.toList_map,Array.toList_range];refine List.map_congr_left fun j hj=>?_
 have hm:j % z.cells.size<z.cells.size:=Nat.mod_lt _ (by omega);rw[getElem!_pos z.cells _ hm,<-hz,<-hs,List.getD,Array.getElem?_toList,T4 hm];rfl
theorem fC {Y:ac} {c:C} {v:Value} (h:dP w S Y c v) {F:Nat->AV} {tv:Nat->Value} : cn w S F tv Y (.hold .one [c]) v:=by
 refine⟨NO,Y,fun _ _ h=>h.elim,fun _ _ h=>h,fun _ _ h=>h.elim,rfl,fun _=>Y,fun j c' hj=>?_,fun _ _ _ _ h=>h,fun j j' hj hj' hne=>?_⟩
 ·cases j with
  | zero=>simp at hj;subst hj;exact h
  | succ j=>simp at hj
 ·simp at hj hj';omega
theorem bh.buildS (h:bh w0 M S0 N S φ F a w) (hTE:∀ t i,TE t=some i->bY P t i) {T n:Nat} {parts:Array (Nat × Operand)} {K:AV->Prop} (hp:tK TE F T n parts.toList K) :
  ∃ av v w1,K av/\(Instr.buildSlice T n (parts.map fun(i,x)=>(i,a.eval x))).run P w=.ok v w1/\kM w S F a av v w1:=by
 obtain⟨e,ie,q,z,hK,he,hu,ht,hl,hpos,hi,hz,hzc,hsz,hby,hzs⟩:=jN hTE hp;cases hb:Nat.ble (n*ie.size) 16777216 with
 | false=>rw[hb]at hK;exact hK.elim
 | true=>
  rw[hb]at hK;have hle:=W0 hb;simp only[cond_true]at hK;split at hK
  ·rename_i hparts
   have:parts = #[]:=by apply Array.ext';simpa using hparts
   subst this;refine⟨_,_,_,hK,by rw[Array.map_empty];exact sG hu hi,cH _ _,NO,S,fun _ _ h=>h.elim,fun _ _ h=>h,fun _ _ h=>.inl h,fun _ _ h=>h.elim,?_⟩;exact⟨NO,NO,fun _ _ h=>h,fun _ _ h=>h,fun _ _ _ h=>h,rfl,fun _=>NO,fun j c hj=>(by cases j with|zero=>simp at hj;subst hj;exact .z _ _|succ j=>simp at hj),fun _ _ _ _ h=>h,fun _ _ _ _ _ _ _ h=>h.elim⟩
  ·rename_i n
   rw[Nat.succ_eq_add_one]at hle;rw[di]at hK;obtain⟨cs',u',cells',e1,e2,e3,e4,e5⟩:=h.fillP hK (rV ht.2.1 S _) (na hzc (by omega) (rep ie.zero (n+1)).length);rw[nB]at e1;have hcl:cs'.length=(n+1)*ie.size:=by rw[e2,lZ,hl]
   refine⟨_,_,_,e1,run_buildSlice w T e (n+1) _ cells' q z hu hi hz (by rw[hsz];omega) (by rw[hsz];have:0<(n+1)*ie.size:=Nat.mul_pos (by omega) hpos;omega) ?_,cH _ _,fun b _=>w.heap.size<=b/\b<(w.alloc (.cells cells' e)).heap.size,S,fun b o hb=>⟨hb.2,hb.1⟩,fun _ _ h=>h,fun _ _ h=>.inl h,fun b o hb hS=>?_,?_⟩
   ·rw[hsz,Array.toList_map]
    rw[lZ,hl]at e4;exact e4
   ·have:=(h.sup b o hS).1;have:=hb.1;omega
   ·have:=(uk (e:=e) e3 hcl (by omega) e5 (fun b o hb=>(h.sup b o hb).1) (fun _ _ h=>h.elim)).mono (F':=fun b o=>w.heap.size<=b/\b<(w.alloc (.cells cells' e)).heap.size) (fun _ _ h=>h) (fun b o hb=>hb.elim (fun h=>h.elim) id)
    exact fC this
  ·exact hK.elim
theorem dP.flat {Y:ac} {o:dz} {rows:List (List C)} {v:Value} (h:dP w S Y (.s o rows) v) {sz:Nat} (hk:∀ r∈rows,r.length=sz/\aV r=true) :
  ∃ b c u,v=.slice b rows.length c/\np w b (rows.length*sz) ((List.range (rows.length*sz)).map u)/\Az w S NO rows sz u (fun _=>NO):=by
 have mk:∀ (g off k:Nat) (u:Nat->Value) (f:Nat->ac),(∀ r∈rows,r.length=k)->(∀ q,q<rows.length*k->cel w g (off+q)=some (u q))->(∀ (i j:Nat) (r:List C) (c:C),rows[i]? = some r->r[j]? = some c->dP w S (f (i*k+j)) c (u (i*k+j)))->
   np w (some ⟨g,off,none⟩) (rows.length*sz) ((List.range (rows.length*sz)).map u)/\Az w S NO rows sz u (fun _=>NO):=fun g off k u f hkk hc hr=>by
  have hks:rows≠[]->k=sz:=fun hne=>by
   obtain⟨r,hr⟩:=List.exists_mem_of_ne_nil _ hne;rw[<-hkk r hr,(hk r hr).1]
  refine⟨⟨by simp,fun h=>(by cases h),fun ad j y had hj=>?_⟩,fun r hr=>(hk r hr).1,fun _ _ _ _ h=>h.elim,fun _ _ _ _ _ _ _ h=>h.elim,fun i j r c hi hj=>?_⟩
  ·cases had
   rw[O2]at hj;have hjl:j<rows.length*sz:=by
    rcases Nat.lt_or_ge j (rows.length*sz) with h|h
    ·exact h
    ·rw[U1 (by simpa using h)]at hj;cases hj
   rw[X4 hjl]at hj;simp only[Y3,T0]at hj;subst hj;rw[iO];refine hc j ?_;rw[hks (fun e=>by rw[e]at hjl;simp at hjl)];exact hjl
  ·have hm:=O1 hi
   have:=hks (fun e=>by rw[e]at hm;cases hm);subst this;exact(hr i j r c hi hj).bare (pJ (hk r hm).2 j c hj)
 generalize hcc:C.s o rows=c0 at h;cases h with
 | v=>cases hcc
 | x=>cases hcc
 | z=>cases hcc
 | m=>cases hcc
 | it=>cases hcc
 | nil F o' a ho=>
  cases hcc;exact⟨a,0,fun _=>undef,rfl,⟨by simp,fun _=>by simp,fun ad j u _ hj=>by simp at hj⟩,fun r hr=>(by cases hr),fun _ _ _ _ h=>h.elim,fun _ _ _ _ _ _ _ h=>h.elim,fun i j r c hi=>(by simp at hi)⟩
 | imm F g off k n cap rows' u hn hkk hcap hS hc=>
  cases hcc;subst hn;exact⟨_,_,u,rfl,mk g off k u (fun _=>NO) hkk (fun q hq=>(hS q hq).2) hc⟩
 | own F o' g k n cap rows' u f ho hn hkk hcap hpos hF hu hf hd hc=>
  cases hcc;subst hn;exact⟨_,_,u,rfl,mk g 0 k u f hkk (fun q hq=>by rw[Y4];exact hu q hq) hc⟩
theorem bN.rep1 {Y:ac} {c:C} {v:Value} (h:bN w S Y none [c] v):dP w S Y c v:=by
 obtain⟨-,u,rfl,f,h1,h2,-⟩:=h;exact(h1 0 c rfl).mono (fun _ _ h=>h) (h2 0 (by simp))
theorem uL {Y:ac} {v:Value} (h:dP w S Y .z v):∃ b,v=.slice b 0 0:=by
 generalize hc:C.z=c at h;cases h with
 | z=>exact⟨_,rfl⟩
 | _=>cases hc
theorem kM.same {av:AV} {v:Value} (hs:cn w S F (tvs a) NO av v):kM w S F a av v w:=
 ⟨bH.refl _ _,NO,S,fun _ _ h=>h.elim,fun _ _ h=>h,fun _ _ h=>.inl h,fun _ _ h=>h.elim,hs⟩
theorem bh.appP (h:bh w0 M S0 N S φ F a w) (hTE:∀ t i,TE t=some i->bY P t i) {T ty:Nat} {x y:Operand} {K:AV->Prop} (hp:Fs TE F T x y K) :
  ∃ av v w1,K av/\(Builtin.append_ #[T,T] ty #[a.eval x,a.eval y]).run P w=.ok v w1/\kM w S F a av v w1:=by
 obtain⟨e,ie,q,z,hK,he,hu,ht,hl,hpos,hi,hz,hzc,hsz,hby,hzs⟩:=jN hTE hp;obtain⟨ag,cs,Y,hK,hv,-⟩:=h.val (h.ev x) hK
 match ag,cs,hK with
 | none,[.z],hK=>
  obtain⟨b,hb⟩:=uL hv.rep1;obtain⟨ag2,cs2,Y2,hK,hv2,-⟩:=h.val (h.ev y) hK;rw[hb]
  match ag2,cs2,hK with
  | none,[.s o rows],hK=>
   obtain⟨h1,h2,h3,hK⟩:=hK.out;obtain⟨b2,c2,u2,hv2,hR,hE⟩:=hv2.rep1.flat h1;rw[hv2];have hz1:∀ x∈z.cells.toList,x.oneCell'=true:=by rw[hzc];exact AW ht.2.1
   rw[<-hsz]at hR hE;obtain⟨v',w',hrun,hkk,hrep⟩:=uz (P:=P) (ty:=ty) (S:=S) hu hi hz hzs hz1 (F:=NO) (rows:=[]) (xr:=rows) (.nil _ _ b trivial) (by simp) hE (c:=c2) hR (fun _ _ h=>h.elim) (fun _ _ h=>h.elim) (fun _ _ h=>h.elim) (fun _ _ h=>h.elim) (fun b o hb=>(h.sup b o hb).1) (by simpa using h2) (by rw[hby];simpa using h3);refine⟨_,v',w',hK,hrun,hkk,fun b _=>w.heap.size<=b/\b<w'.heap.size,S,fun b o hb=>⟨hb.2,hb.1⟩,fun _ _ h=>h,fun _ _ h=>.inl h,fun b o hb hS=>by have:=(h.sup b o hS).1;have:=hb.1;omega,fC (hrep.mono (fun _ _ h=>h) (fun b o hb=>hb.elim (fun h=>h.elim) (fun hb=>hb.elim (fun h=>h.elim) id)))⟩
  | none,[.z],hK=>
   obtain⟨b2,hb2⟩:=uL hv2.rep1;rw[hb2];exact⟨_,_,w,hK,sr hu hi (I2 0),kM.same (fC (Y:=NO) (.z _ _))⟩
end
def zrows (z:List C):Nat->List (List C)
 | 0=>[]
 | n+1=>z::zrows z n
theorem Kn (z:List C):∀ n,zrows z n=List.replicate n z
 | 0=>rfl
 | n+1=>by rw[zrows,Kn z n];rfl
inductive Mk (l c:Int) (by_:Nat) (z:List C) (K:List (List C)->Prop):Prop
 |mk_ (h:∃ n:Nat,l=(n:Nat)/\c=(n:Nat)/\n<=140737488355328/\n*by_<=140737488355328/\∃ rows,rows=List.replicate n z/\K rows)
theorem Mk.mk {l c:Int} {by_:Nat} {z:List C} {K:List (List C)->Prop} {rows:List (List C)} (n:Nat) (h1:l=(n:Nat)) (h2:c=(n:Nat)) (h3:n<=140737488355328) (h4:n*by_<=140737488355328) (h5:rows=List.replicate n z) (hK:K rows):Mk l c by_ z K:=by refine .mk_ ?_;exact⟨n,h1,h2,h3,h4,rows,h5,hK⟩
theorem Mk.out {l c:Int} {by_:Nat} {z:List C} {K:List (List C)->Prop} (h:Mk l c by_ z K):∃ n:Nat,l=(n:Nat)/\c=(n:Nat)/\n<=140737488355328/\n*by_<=140737488355328/\K (List.replicate n z):=by
 obtain⟨h⟩:=h;obtain⟨n,h1,h2,h3,h4,rows,rfl,h5⟩:=h;exact⟨n,h1,h2,h3,h4,h5⟩
def AJ (F:Nat->AV) (x:Operand) (K:Int->Prop):Prop:=DL F x fun v=>match v with|.int _ n=>K n|_=>False
def FT (TE:Nat->Option TI) (F:Nat->AV) (T:Nat) (x y:Operand) (K:AV->Prop):Prop:=
 FY TE T fun _ ie=>AJ F x fun l=>AJ F y fun c=>Mk l c ie.bytes ie.zero fun rows=>K (.hold .one [.s .own rows])
inductive Sl (rows:List (List C)) (sz:Nat) (l h:Option Int) (K:List (List C)->Prop):Prop
 |mk_ (h:∃ x y:Nat,(l=none/\x=0\/l=some ((x:Nat):Int))/\(h=none/\y=rows.length\/h=some ((y:Nat):Int))/\x<=y/\y<=rows.length/\(∀ r∈rows,r.length=sz)/\∃ rows',rows'=(rows.take y).drop x/\K rows')
theorem Sl.pre {rows rows':List (List C)} {sz:Nat} {h:Int} {K:List (List C)->Prop} (y:Nat) (h1:h=(y:Nat)) (h2:y<=rows.length) (h3:∀ r∈rows,r.length=sz) (h4:rows'=rows.take y) (hK:K rows'):Sl rows sz none (some h) K:=by
 refine .mk_ ?_;exact⟨0,y,.inl ⟨rfl,rfl⟩,.inr (by rw[h1]),Q0 _,h2,h3,rows',by rw[h4];rfl,hK⟩
theorem Sl.suf {rows rows':List (List C)} {sz:Nat} {l:Int} {K:List (List C)->Prop} (x:Nat) (h1:l=(x:Nat)) (h2:x<=rows.length) (h3:∀ r∈rows,r.length=sz) (h4:rows'=rows.drop x) (hK:K rows'):Sl rows sz (some l) none K:=by
 refine .mk_ ?_;exact⟨x,rows.length,.inr (by rw[h1]),.inl ⟨rfl,rfl⟩,h2,I2 _,h3,rows',by rw[h4,X3],hK⟩
theorem Sl.out {rows:List (List C)} {sz:Nat} {l h:Option Int} {K:List (List C)->Prop} (hs:Sl rows sz l h K):∃ x y:Nat,(l=none/\x=0\/l=some ((x:Nat):Int))/\(h=none/\y=rows.length\/h=some ((y:Nat):Int))/\x<=y/\y<=rows.length/\(∀ r∈rows,r.length=sz)/\K ((rows.take y).drop x):=by
 obtain⟨hs⟩:=hs;obtain⟨x,y,h1,h2,h3,h4,h5,rows',rfl,h6⟩:=hs;exact⟨x,y,h1,h2,h3,h4,h5,h6⟩
def H0 (F:Nat->AV) (x:Option Operand) (K:Option Int->Prop):Prop:=
 match x with
 | none=>K none
 | some x=>AJ F x fun n=>K (some n)
def yP (TE:Nat->Option TI) (F:Nat->AV) (T:Nat) (x:Operand) (lo hi:Option Operand) (K:AV->Prop):Prop:=
 FY TE T fun _ ie=>H0 F lo fun l=>H0 F hi fun h=>gE F (lA F x) fun ag cs=>match ag,cs with
  | none,[.s .imm rows]=>Sl rows ie.size l h fun rows'=>K (.hold .one [.s .imm rows'])
  | none,[.z]=>Sl [] ie.size l h fun _=>K (.hold .one [.z])
  | _,_=>False
def Ma:Operand->Bool
 | .const (.int .i64 0)=>true
 | _=>false
def L1 (TE:Nat->Option TI) (F:Nat->AV) (T:Nat) (x hi mx:Operand) (K:AV->Prop):Prop:=
 FY TE T fun _ _=>bif Ma hi&&Ma mx then gE F (lA F x) fun ag cs=>match ag,cs with
  | none,[.s _ _]=>K (.hold .one [.z])
  | none,[.z]=>K (.hold .one [.z])
  | _,_=>False
 else False
def oV (TE:Nat->Option TI) (F:Nat->AV) (T:Nat) (x:Operand) (f:Nat) (K:AV->Prop):Prop:=
 match TE T with
 | some ⟨_,_,_,.st flds⟩=>(match flds[f]? with
   | some p=>(match TE p.2 with
     | some i=>gE F (lA F x) fun ag cs=>bif ag.isSome&&(i.agg || Nat.beq i.size 1)&&Nat.ble (p.1+i.size) cs.length then(bif aV (bq cs p.1 i.size) then fc (bq cs p.1 i.size) fun cs'=>K (.hold (jY (ot i)) cs') else False) else False
     | none=>False)
   | none=>False)
 | _=>False
def v8 (TE:Nat->Option TI) (F:Nat->AV) (T1 T2:Nat) (x:Operand) (K:AV->Prop):Prop:=
 match TE T1,TE T2 with
 | some _,some ⟨_,_,_,.sc (.int k)⟩=>AJ F x fun n=>Wr k n fun z=>K (.hold .one [.v (.int k z)])
 | _,_=>False
def Ng (mx:Bool) (F:Nat->AV) (x y:Operand) (K:AV->Prop):Prop:=
 DL F x fun v=>match v with
  | .int k n=>AJ F y fun m=>Ev (if mx then(if m > n then m else n) else(if m<n then m else n)) fun z=>K (.hold .one [.v (.int k z)])
  | _=>False
section
variable {P:Program} {w0 w w1:World} {M S0 S:ac} {N:eL} {φ:Nat->ac} {F:Nat->AV} {a:Act} {TE:Nat->Option TI}
theorem bh.int (h:bh w0 M S0 N S φ F a w) {x:Operand} {K:Int->Prop} (hp:AJ F x K):∃ k n,a.eval x=.int k n/\K n:=by
 obtain⟨hc,-⟩:=h.scalar hp;cases hv:a.eval x<;>rw[hv]at hc<;>try exact hc.elim
 exact⟨_,_,rfl,hc⟩
theorem yf (z:List C):∀ n,chunk z.length n (rep z n)=List.replicate n z
 | 0=>rfl
 | n+1=>by
  simp only[chunk,rep,List.replicate_succ];rw[List.take_left,List.drop_left,yf z n]
theorem bh.make (h:bh w0 M S0 N S φ F a w) (hTE:∀ t i,TE t=some i->bY P t i) {T:Nat} {x y:Operand} {K:AV->Prop} (hp:FT TE F T x y K) :
  ∃ av v w1,K av/\(Instr.makeSlice T (a.eval x) (a.eval y)).run P w=.ok v w1/\kM w S F a av v w1:=by
 obtain⟨e,ie,q,z,hK,he,hu,ht,hl,hpos,hi,hz,hzc,hsz,hby,hzs⟩:=jN hTE hp;obtain⟨k1,l,hx,hK⟩:=h.int hK;obtain⟨k2,c,hy,hK⟩:=h.int hK;obtain⟨n,rfl,rfl,h1,h2,hK⟩:=hK.out;have hbn:(q.bytes:Int)*(n:Int)<=281474976710656:=by
  have:((q.bytes*n:Nat):Int)<=281474976710656:=by rw[hby,Nat.mul_comm];omega
  rwa [Int.natCast_mul]at this
 have hrun:=run_make (P:=P) w T e q z hu hi hz k1 k2 (n:Nat) (n:Nat) (by omega) (W3 _) hbn (by omega);simp only[W1]at hrun;rw[hx,hy];refine⟨_,_,_,hK,hrun,cH _ _,fun b _=>w.heap.size<=b/\b<(w.alloc (.cells (madeCells z.cells (n*q.size)) e)).heap.size,S,fun b o hb=>⟨hb.2,hb.1⟩,fun _ _ h=>h,fun _ _ h=>.inl h,fun b o hb hS=>by have:=(h.sup b o hS).1;have:=hb.1;omega,fC ?_⟩;rcases Nat.eq_zero_or_pos n with h0|h0
 ·subst h0;exact .nil _ _ _ trivial
 ·have hcl:(rep ie.zero n).length=n*ie.size:=by rw[lZ,hl]
  have:=(uk (e:=e) (cells:=madeCells z.cells (n*q.size)) (rV (w:=w) ht.2.1 S n) hcl h0 (by
    have:=na hzc (by omega) (n*q.size);rw[hcl,<-hsz];exact this) (fun b o hb=>(h.sup b o hb).1) (fun _ _ h=>h.elim)).mono (F':=fun b o=>w.heap.size<=b/\b<(w.alloc (.cells (madeCells z.cells (n*q.size)) e)).heap.size) (fun _ _ h=>h) (fun b o hb=>hb.elim (fun h=>h.elim) id)
  rw[<-hl,yf]at this;exact this
theorem uy (h:bh w0 M S0 N S φ F a w) {x:Option Operand} {K:Option Int->Prop} (hp:H0 F x K):(x=none/\K none)\/∃ y k n,x=some y/\a.eval y=.int k n/\K (some n):=by
 cases x with
 | none=>exact .inl ⟨rfl,hp⟩
 | some y=>obtain⟨k,n,h1,h2⟩:=h.int hp;exact .inr ⟨y,k,n,rfl,h1,h2⟩
theorem rY {T e sz len cap x y:Nat} {ad:Option Addr} {lo hi:Option Operand} {l r:Option Int} (hu:P.underlying T=some (.slice e)) (hs:(P.info? e).map (·.size)=some sz) (hlo:(lo=none/\l=none)\/∃ o k n,lo=some o/\a.eval o=.int k n/\l=some n)
  (hhi:(hi=none/\r=none)\/∃ o k n,hi=some o/\a.eval o=.int k n/\r=some n) (hx:l=none/\x=0\/l=some ((x:Nat):Int)) (hy:r=none/\y=len\/r=some ((y:Nat):Int)) (hxy:x<=y) (hyl:y<=len) (hlc:len<=cap) :
  (Instr.sliceAt T (.slice ad len cap) (lo.map a.eval) (hi.map a.eval) none).run P w=.ok (sliced ad x y cap sz) w:=by
 have hel:P.elem T=e:=by simp[Program.elem,hu]
 have hu':P.underlying T=some (.slice (P.elem T)):=by rw[hel];exact hu
 have hso:(sizeOf (P.elem T)).run P w=.ok sz w:=by rw[hel];exact iR hs
 rw[run_sliceAt_slice w T _ _ _ _ hu'];rcases hlo with⟨rfl,rfl⟩|⟨o1,k1,n1,rfl,h1,rfl⟩
 ·have hx0:x=0:=by rcases hx with⟨-,h⟩|h;exact h;cases h
  subst hx0;rcases hhi with⟨rfl,rfl⟩|⟨o2,k2,n2,rfl,h2,rfl⟩
  ·have:y=len:=by rcases hy with⟨-,h⟩|h;exact h;cases h
   subst this;have:=run_slice_all (P:=P) w T ad y cap hu';simp only[Option.map_none];rw[this,hso];rfl
  ·have:n2=(y:Nat):=by rcases hy with⟨h,-⟩|h;cases h;exact Option.some.inj h
   subst this;have:=run_slice_h (P:=P) w T ad len cap hu' k2 (y:Nat) (by omega) (by omega);simp only[Option.map_none,Y3,h2];rw[this,hso];rfl
 ·have:n1=(x:Nat):=by rcases hx with⟨h,-⟩|h;cases h;exact Option.some.inj h
  subst this;rcases hhi with⟨rfl,rfl⟩|⟨o2,k2,n2,rfl,h2,rfl⟩
  ·have:y=len:=by rcases hy with⟨-,h⟩|h;exact h;cases h
   subst this;have:=run_slice_l (P:=P) w T ad y cap hu' k1 (x:Nat) (by omega) (by omega);simp only[Option.map_none,Y3,h1];rw[this,hso];rfl
  ·have:n2=(y:Nat):=by rcases hy with⟨h,-⟩|h;cases h;exact Option.some.inj h
   subst this;have:=run_slice_lh (P:=P) w T ad len cap hu' k1 k2 (x:Nat) (y:Nat) (by omega) (by omega) (by omega);simp only[Y3,h1,h2];rw[this,hso];rfl
theorem JB {o:Operand} (h:Ma o=true):o=.const (.int .i64 0):=by
 unfold Ma at h;split at h
 ·rfl
 ·cases h
theorem uA {T e sz len cap:Nat} {ad:Option Addr} (hu:P.underlying T=some (.slice e)) (hs:(P.info? e).map (·.size)=some sz) :
  (Instr.sliceAt T (.slice ad len cap) none (some (.int .i64 0)) (some (.int .i64 0))).run P w=.ok (.slice ad 0 0) w:=by
 have hel:P.elem T=e:=by simp[Program.elem,hu]
 have hu':P.underlying T=some (.slice (P.elem T)):=by rw[hel];exact hu
 have hso:(sizeOf (P.elem T)).run P w=.ok sz w:=by rw[hel];exact iR hs
 rw[run_sliceAt_slice w T _ _ _ _ hu'];unfold Instr.slice;rw[Sem.run_bind,run_underlying hu'];simp[Instr.sliceBounds,Instr.sliceBound,asIntOf,hso]
theorem bh.slice0 (h:bh w0 M S0 N S φ F a w) (hTE:∀ t i,TE t=some i->bY P t i) {T:Nat} {x hi mx:Operand} {K:AV->Prop} (hp:L1 TE F T x hi mx K) :
  ∃ v,K (.hold .one [.z])/\(Instr.sliceAt T (a.eval x) none (some (a.eval hi)) (some (a.eval mx))).run P w=.ok v w/\cn w S F (tvs a) NO (.hold .one [.z]) v:=by
 obtain⟨e,ie,q,z,hK,he,hu,ht,-⟩:=jN hTE hp;cases hb:Ma hi&&Ma mx with
 | false=>rw[hb]at hK;exact hK.elim
 | true=>
  rw[hb]at hK;rw[I0]at hb;have e1:=JB hb.1;have e2:=JB hb.2;subst e1 e2;obtain⟨ag,cs,Y,hK,⟨hl,u,hv,f,h1,-⟩,-⟩:=h.val (h.ev x) hK
  match ag,cs,hK with
  | none,[.s o rows],hK=>
   obtain⟨b,cap,hs⟩:=(h1 0 _ rfl).slice;have hx:a.eval x=.slice b rows.length cap:=hv.trans hs;rw[hx];exact⟨_,hK,uA hu ht.size,fC (.z _ b)⟩
  | none,[.z],hK=>
   have hr:=h1 0 _ rfl;have:∃ b,u 0=.slice b 0 0:=by
    generalize u 0=y at hr;cases hr;exact⟨_,rfl⟩
   obtain⟨b,hb⟩:=this;have hx:a.eval x=.slice b 0 0:=hv.trans hb;rw[hx];exact⟨_,hK,uA hu ht.size,fC (.z _ b)⟩
theorem bh.slice (h:bh w0 M S0 N S φ F a w) (hTE:∀ t i,TE t=some i->bY P t i) {T:Nat} {x:Operand} {lo hi:Option Operand} {K:AV->Prop} (hp:yP TE F T x lo hi K) :
  ∃ av v,K av/\(Instr.sliceAt T (a.eval x) (lo.map a.eval) (hi.map a.eval) none).run P w=.ok v w/\cn w S F (tvs a) NO av v:=by
 obtain⟨e,ie,q,z,hK,he,hu,ht,hl,hpos,hi',hz,hzc,hsz,hby,hzs⟩:=jN hTE hp;have key:∀ l r,(gE F (lA F x) fun ag cs=>match ag,cs with
     | none,[.s .imm rows]=>Sl rows ie.size l r fun rows'=>K (.hold .one [.s .imm rows'])
     | none,[.z]=>Sl [] ie.size l r fun _=>K (.hold .one [.z])
     | _,_=>False)->((lo=none/\l=none)\/∃ o k n,lo=some o/\a.eval o=.int k n/\l=some n)->((hi=none/\r=none)\/∃ o k n,hi=some o/\a.eval o=.int k n/\r=some n)->
   ∃ av v,K av/\(Instr.sliceAt T (a.eval x) (lo.map a.eval) (hi.map a.eval) none).run P w=.ok v w/\cn w S F (tvs a) NO av v:=by
  intro l r hK hlo hhi;obtain⟨ag,cs,Y,hK,hv,-⟩:=h.val (h.ev x) hK
  match ag,cs,hK with
  | none,[.s .imm rows],hK=>
   obtain⟨m,n,h1,h2,h3,h4,h5,hK⟩:=hK.out;have hr:=hv.rep1;generalize hcc:C.s .imm rows=c0 at hr;generalize a.eval x=vx at hr;cases hr with
   | v=>cases hcc
   | x=>cases hcc
   | z=>cases hcc
   | m=>cases hcc
   | it=>cases hcc
   | own F o' g k n cap rows' u f ho=>cases hcc;exact ho.elim
   | nil F o' ad ho=>
    cases hcc;have hn0:n=0:=by simp at h4;omega
    subst hn0;have hm0:m=0:=by omega
    subst hm0;have:=rY (w:=w) (a:=a) (P:=P) (ad:=ad) (cap:=0) (len:=0) hu ht.size hlo hhi h1 (by simpa using h2) h3 (I2 0) (I2 0);exact⟨_,_,hK,this,fC (.nil _ .imm _ trivial)⟩
   | imm F g off k n' cap rows' u hn hkk hcap hS hc=>
    cases hcc;subst hn;have:=rY (w:=w) (a:=a) (P:=P) (ad:=some ⟨g,off,none⟩) (cap:=cap) (len:=rows.length) hu ht.size hlo hhi h1 h2 h3 h4 hcap;refine⟨_,_,hK,this,fC ?_⟩;unfold sliced;by_cases he:cap=m
    ·rw[if_pos he]
     have hnm:n=m:=by omega
     subst hnm;rw[show cap - n=0 by omega,Nat.sub_self];rw[show(rows.take n).drop n=[] by simp];exact .nil _ _ _ trivial
    ·rw[if_neg he]
     simp only[Y3,iO];have hlen:((rows.take n).drop m).length=n - m:=by simp;omega
     have hget:∀ (i:Nat) (r:List C),((rows.take n).drop m)[i]? = some r->rows[m+i]? = some r:=fun i r hi=>by
      rw[List.getElem?_drop,List.getElem?_take]at hi;split at hi
      ·exact hi
      ·cases hi
     have hks:rows≠[]->k=ie.size:=fun hne=>by
      obtain⟨r,hr⟩:=List.exists_mem_of_ne_nil _ hne;rw[<-hkk r hr,h5 r hr]
     refine .imm _ g (off+m*ie.size) ie.size (n - m) (cap - m) _ (fun q=>u (m*ie.size+q)) hlen (fun r hr=>?_) (by omega) (fun q hq=>?_) (fun i j r c hi hj=>?_)
     ·obtain⟨i,hi⟩:=List.getElem?_of_mem hr
      exact h5 r (O1 (hget i r hi))
     ·have hne:rows≠[]:=fun e=>by subst e;simp at h4;subst h4;simp at hq
      have hk2:=hks hne;subst hk2;rw[Nat.add_assoc];refine hS _ ?_;have:(n - m)*ie.size+m*ie.size<=rows.length*ie.size:=by rw[<-Nat.add_mul];exact v5 ie.size (by omega)
      omega
     ·have hi':=hget i r hi
      have hne:rows≠[]:=fun e=>by subst e;simp at hi'
      have hk2:=hks hne;subst hk2;have:=hc _ j r c hi' hj;rw[Nat.add_mul,Nat.add_assoc]at this;exact this
  | none,[.z],hK=>
   obtain⟨m,n,h1,h2,h3,h4,h5,hK⟩:=hK.out;obtain⟨b,hb⟩:=uL hv.rep1;have hn0:n=0:=by simp at h4;omega
   subst hn0;have hm0:m=0:=by omega
   subst hm0;have:=rY (w:=w) (a:=a) (P:=P) (ad:=b) (cap:=0) (len:=0) hu ht.size hlo hhi h1 (by simpa using h2) h3 (I2 0) (I2 0);rw[hb];exact⟨_,_,hK,this,fC (.z _ _)⟩
 rcases uy h hK with⟨e1,hK⟩|⟨o1,k1,n1,e1,e2,hK⟩
 ·rcases uy h hK with⟨e3,hK⟩|⟨o2,k2,n2,e3,e4,hK⟩
  ·exact key _ _ hK (.inl ⟨e1,rfl⟩) (.inl ⟨e3,rfl⟩)
  ·exact key _ _ hK (.inl ⟨e1,rfl⟩) (.inr ⟨_,_,_,e3,e4,rfl⟩)
 ·rcases uy h hK with⟨e3,hK⟩|⟨o2,k2,n2,e3,e4,hK⟩
  ·exact key _ _ hK (.inr ⟨_,_,_,e1,e2,rfl⟩) (.inl ⟨e3,rfl⟩)
  ·exact key _ _ hK (.inr ⟨_,_,_,e1,e2,rfl⟩) (.inr ⟨_,_,_,e3,e4,rfl⟩)
theorem K6 {T:Nat} {i:TI} (ht:bY P T i) (ha:(i.agg || Nat.beq i.size 1)=true) {cells:Array Value} {off:Nat} {u:Nat->Value} (hc:∀ d,d<i.size->cells[off+d]? = some (u d)) :
  (part T cells off).run P w=.ok (mkv (ot i) u) w:=by
 have hA:=ht.isAgg (w:=w);unfold part ot;cases hagg:i.agg with
 | true=>
  rw[hagg]at hA;have he:cells.extract off (off+i.size)=((List.range i.size).map u).toArray:=by
   apply Array.ext';apply List.ext_getElem?;intro j;by_cases hj:j<i.size
   ·simp[hj,hc j hj]
   ·simp[hj];omega
  simp[hA,iR ht.size,mkv,he]
 | false=>
  rw[hagg]at hA ha;have h1:i.size=1:=by simpa using ha
  have:=hc 0 (by omega);simp only[Nat.add_zero]at this;simp[hA,this,mkv]
theorem bh.field (h:bh w0 M S0 N S φ F a w) (hTE:∀ t i,TE t=some i->bY P t i) {T f:Nat} {x:Operand} {K:AV->Prop} (hp:oV TE F T x f K) :
  ∃ av v,K av/\(Instr.field T (a.eval x) f).run P w=.ok v w/\cn w S F (tvs a) NO av v:=by
 unfold oV at hp;split at hp
 case h_2=>exact hp.elim
 rename_i flds hT;split at hp
 case h_2=>exact hp.elim
 rename_i p hfl;split at hp
 case h_2=>exact hp.elim
 rename_i i hi;obtain⟨ag,cs,Y,hK,hv,-⟩:=h.val (h.ev x) hp;cases hb:(ag.isSome&&(i.agg || Nat.beq i.size 1)&&Nat.ble (p.1+i.size) cs.length) with
 | false=>rw[hb]at hK;exact hK.elim
 | true=>
  rw[hb]at hK;simp only[cond_true]at hK;simp only[I0]at hb;obtain⟨⟨hb1,hb2⟩,hb3⟩:=hb;have hle:=W0 hb3;cases hn:aV (bq cs p.1 i.size) with
  | false=>rw[hn]at hK;exact hK.elim
  | true=>
   rw[hn]at hK;simp only[cond_true,di]at hK;obtain⟨fs,hu,hfs⟩:=(hTE _ _ hT).2.2;have hti:=hTE _ _ hi;cases ag with
   | none=>cases hb1
   | some m=>
    obtain⟨hl,u,hvx,hr⟩:=hv;simp only[Option.getD_some]at hl;subst hl;have hval:bN w S Y (ot i) (bq cs p.1 i.size) (mkv (ot i) fun d=>u (p.1+d)):=⟨by rw[mE hb2];simp[bq];omega,_,rfl,hr.part p.1 _⟩
    refine⟨_,_,hK,?_,(hval.bare hn).slot⟩;obtain⟨fd,hget,hfd⟩ : ∃ fd,fs[f]? = some fd/\(fd.offset,fd.type)=p:=by
     rw[<-hfs,O2,Array.getElem?_toList]at hfl;cases hf:fs[f]? with
     | none=>rw[hf]at hfl;cases hfl
     | some fd=>rw[hf]at hfl;simp only[Y3,T0]at hfl;exact⟨fd,rfl,hfl⟩
    subst hfd;rw[hvx];simp only[Instr.field,Sem.run_bind,run_underlying hu,Result.andThen_ok,hget,mkv,asAgg,Sem.run_pure];exact K6 hti hb2 (fun d hd=>by simp[show fd.offset+d<cs.length by simp at hle;omega])
theorem bh.conv (h:bh w0 M S0 N S φ F a w) (hTE:∀ t i,TE t=some i->bY P t i) {T1 T2:Nat} {x:Operand} {K:AV->Prop} (hp:v8 TE F T1 T2 x K) :
  ∃ v,K (.hold .one [.v v])/\v.oneCell'=true/\(Go.convert T1 T2 (a.eval x)).run P w=.ok v w:=by
 unfold v8 at hp;split at hp
 ·rename_i i1 _ _ _ k h1 h2
  obtain⟨k1,n,hx,hK⟩:=h.int hp;obtain⟨z,rfl,hK⟩:=hK.out;have hu2:=(hTE _ _ h2).2.2.1;obtain⟨d,hu1⟩ : ∃ d,P.underlying T1=some d:=by
   have:=(hTE _ _ h1).2.2;cases hk:i1.kind with
   | st flds=>rw[hk]at this;obtain⟨fs,hu,-⟩:=this;exact⟨_,hu⟩
   | sl e=>rw[hk]at this;exact⟨_,this⟩
   | sc d=>rw[hk]at this;exact⟨_,this.1⟩
   | mp k e z=>rw[hk]at this;exact⟨_,this.1⟩
  refine⟨_,hK,rfl,?_⟩;rw[hx];simp[Go.convert,run_underlying hu1,run_underlying hu2,Conv.intToInt]
 ·exact hp.elim
theorem bh.mm (h:bh w0 M S0 N S φ F a w) {mx:Bool} {x y:Operand} {ts:Array TypeId} {ty:Nat} {K:AV->Prop} (hp:Ng mx F x y K) :
  ∃ v,K (.hold .one [.v v])/\v.oneCell'=true/\(if mx then(Builtin.max_ ts ty #[a.eval x,a.eval y]) else(Builtin.min_ ts ty #[a.eval x,a.eval y])).run P w=.ok v w:=by
 obtain⟨hc,-⟩:=h.scalar hp;cases hv:a.eval x<;>rw[hv]at hc<;>try exact hc.elim
 obtain⟨k,m,hy,hK⟩:=h.int hc;obtain⟨z,rfl,hK⟩:=hK.out;rw[hy];cases mx with
 | true=>exact⟨_,hK,rfl,by simp[run_max_int2]⟩
 | false=>exact⟨_,hK,rfl,by simp[run_min_int2]⟩
end
def mlook:List (Int × Value)->Int->Value->Value
 | [],_,d=>d
 | p::es,k,d=>if p.1=k then p.2 else mlook es k d
def mput:List (Int × Value)->Int->Value->List (Int × Value)
 | [],k,v=>[(k,v)]
 | p::es,k,v=>if p.1=k then(k,v)::es else p::mput es k v
inductive Ml (es:List (Int × Value)) (k:Int) (d:Value) (K:Value->Prop):Prop
 |mk_ (h:∃ v,mlook es k d=v/\K v)
theorem Ml.mk {es:List (Int × Value)} {k:Int} {d v:Value} {K:Value->Prop} (h:mlook es k d=v) (hK:K v):Ml es k d K:=.mk_ ⟨v,h,hK⟩
theorem Ml.out {es:List (Int × Value)} {k:Int} {d:Value} {K:Value->Prop} (h:Ml es k d K):K (mlook es k d):=by
 obtain⟨v,rfl,h⟩:=h;exact h
inductive Mu (es:List (Int × Value)) (k:Int) (v:Value) (K:List (Int × Value)->Prop):Prop
 |mk_ (h:∃ es',es'=mput es k v/\K es')
theorem Mu.mk {es es':List (Int × Value)} {k:Int} {v:Value} {K:List (Int × Value)->Prop} (h:es'=mput es k v) (hK:K es'):Mu es k v K:=.mk_ ⟨es',h,hK⟩
theorem Mu.out {es:List (Int × Value)} {k:Int} {v:Value} {K:List (Int × Value)->Prop} (h:Mu es k v K):K (mput es k v):=by
 obtain⟨v,rfl,h⟩:=h;exact h
def pZ (TE:Nat->Option TI) (T:Nat) (r:Option Operand) (K:AV->Prop):Prop:=
 match TE T,r with
 | some ⟨_,_,_,.mp _ _ _⟩,none=>K (.hold .one [.m []])
 | _,_=>False
def up (TE:Nat->Option TI) (F:Nat->AV) (T:Nat) (x y:Operand) (ok:Bool) (K:AV->Prop):Prop:=
 match TE T with
 | some ⟨_,_,_,.mp _ _ d⟩=>bif ok then False else gE F (lA F x) fun ag cs=>match ag,cs with
  | none,[.m es]=>DL F y fun v=>match v with
   | .int .i64 z=>Ml es z d fun v'=>K (.hold .one [.v v'])
   | _=>False
  | _,_=>False
 | _=>False
def putMap (F:Nat->AV) (t off:Nat) (z:Int) (v:Value) (K:(Nat->AV)->Prop):Prop:=
 match F t with
 | .hold k bs=>match bs[off]? with
  | some (.m es)=>Mu es z v fun es'=>fc (splice bs off [.m es']) fun bs'=>K (updH F t k bs')
  | _=>False
 | _=>False
def nY (TE:Nat->Option TI) (F:Nat->AV) (T:Nat) (x y v:Operand) (K:(Nat->AV)->Prop):Prop:=
 match TE T with
 | some ⟨_,_,_,.mp _ _ _⟩=>DL F y fun vy=>DL F v fun vv=>match vy with
  | .int .i64 z=>(match x with
    | .tmp s=>(match F s with
      | .bor t off [] none=>putMap F t off z vv K
      | .hold .one _=>putMap F s 0 z vv K
      | _=>False)
    | _=>False)
  | _=>False
 | _=>False
def mfind:List (Int × Value)->Int->Nat->Option (Nat × Value)
 | [],_,_=>none
 | p::es,k,i=>if p.1=k then some (i,p.2) else mfind es k (i+1)
section
variable {P:Program} {w0 w w1:World} {M S0 S:ac} {N:eL} {φ:Nat->ac} {F:Nat->AV} {a:Act} {TE:Nat->Option TI}
theorem pw (z:Int):∀ (l:List MapEntry) (es:List (Int × Value)) (i:Nat),l.map (fun e=>(e.key,e.val))=es.map (fun p=>(Value.int .i64 p.1,p.2))->Instr.findNow (.int .i64) (.int .i64 z) l i=some (mfind es z i)
 | [],es,i,h=>by
  cases es with
  | nil=>rfl
  | cons _ _=>simp at h
 | e::l,es,i,h=>by
  cases es with
  | nil=>simp at h
  | cons p es=>
   simp only[O4,List.cons.injEq,Prod.mk.injEq]at h;obtain⟨⟨h1,h2⟩,h3⟩:=h;have ih:=pw z l es (i+1) h3;simp only[Instr.findNow,h1,Instr.sameNow,if_true,mfind];by_cases hz:p.1=z
   ·have:(z == p.1)=true:=by simp[hz]
    rw[this,if_pos hz,h2]
   ·have:(z == p.1)=false:=by simp;exact fun e=>hz e.symm
    rw[this,if_neg hz];exact ih
theorem we (d:Value):∀ (es:List (Int × Value)) (z:Int) (i:Nat),mlook es z d=((mfind es z i).map (·.2)).getD d
 | [],z,i=>rfl
 | p::es,z,i=>by
  simp only[mlook,mfind];split
  ·rfl
  ·exact we d es z (i+1)
theorem og {b:Nat} {es:Array MapEntry} {clock:Nat} (h:mp w b=some (.map es clock)):w.heap[b]? = some (.map es clock):=by
 unfold mp at h;split at h
 ·rename_i e c h1;simp only[T0,Obj.map.injEq]at h;obtain⟨rfl,rfl⟩:=h;exact h1
 ·cases h
 ·cases h
theorem yM {b s c:Nat} {m:Option Nat} {seen:Array Nat} (h:mp w b=some (.mapIter m s seen c)):w.heap[b]? = some (.mapIter m s seen c):=by
 unfold mp at h;split at h
 ·cases h
 ·rename_i h1;rw[h1];exact h
 ·cases h
theorem H8 {T kt et:Nat} {d:Value} (hT:P.underlying T=some (.map kt et)) (hk:P.underlying kt=some (.int .i64)) (hz:(P.info? et).bind (·.zero)=some d) {b clock:Nat} {ents:Array MapEntry} {es:List (Int × Value)} (hb:mp w b=some (.map ents clock))
  (he:ents.toList.map (fun e=>(e.key,e.val))=es.map (fun p=>(Value.int .i64 p.1,p.2))) (z:Int):(Instr.lookup T (.map (some b)) (.int .i64 z) false).run P w=.ok (mlook es z d) w:=by
 have h1:=MapKept.run_getObj_map (P:=P) (og hb);have h2:∀ e,(Instr.checkKey e 10000 kt (.int .i64 z)).run P w=.ok () w:=fun e=>MapKept.run_checkKey hk (show MapKept.IsKey (.int .i64) (.int .i64 z) from rfl) e 9999
 have h3:=MapKept.run_findKey (P:=P) (w:=w) hk (pw z ents.toList es 0 he);have h4:(zeroValue et).run P w=.ok d w:=by
  cases hq:P.info? et with
  | none=>rw[hq]at hz;cases hz
  | some q=>rw[hq]at hz;simp only[Option.bind_some]at hz;simp[zeroValue,typeInfo,hq,hz]
 rw[we d es z 0];cases hf:mfind es z 0 with
 | none=>rw[hf]at h3;simp[Instr.lookup,run_underlying hT,h1,h2,h3,h4,Result.andThen]
 | some p=>rw[hf]at h3;simp[Instr.lookup,run_underlying hT,h1,h2,h3,Result.andThen]
theorem xH {d:Value} (hd:d.oneCell'=true):∀ {es:List (Int × Value)} (z:Int),(∀ p∈es,p.2.oneCell'=true)->(mlook es z d).oneCell'=true
 | [],_,_=>hd
 | p::es,z,h=>by
  simp only[mlook];split
  ·exact h p (I1 ..)
  ·exact xH hd z fun q hq=>h q (Z3 _ hq)
def stamps (ents:Array MapEntry) (n:Nat):Prop:=(ents.toList.map (·.born)).Nodup/\∀ x∈ents.toList,x.born<n
theorem Dn {ents:Array MapEntry} {n:Nat} (h:stamps ents n) (k v:Value):stamps (ents.push {key:=k,val:=v,born:=n}) (n+1):=by
 obtain⟨h1,h2⟩:=h;refine⟨?_,fun y hy=>?_⟩
 ·rw[Array.toList_push,C4,List.nodup_append]
  refine⟨h1,by simp,fun p hp q hq e=>?_⟩;obtain⟨y,hy,rfl⟩:=O3.1 hp;simp at hq;have:=h2 y hy;omega
 ·rw[Array.toList_push,C2]at hy
  rcases hy with hy|hy
  ·have:=h2 y hy;omega
  ·simp at hy;subst hy;exact Nat.lt_succ_self _
theorem sJ {g:MapEntry->MapEntry} (hg:∀ e,(g e).born=e.born):∀ (l:List MapEntry) (i:Nat),(l.modify i g).map (·.born)=l.map (·.born)
 | [],i=>by cases i<;>rfl
 | e::l,0=>by rw[List.modify_zero_cons,O4,O4,hg]
 | e::l,i+1=>by rw[List.modify_succ_cons,O4,O4,sJ hg l i]
theorem BQ {ents ents':Array MapEntry} {n:Nat} (h:stamps ents n) (he:ents'.toList.map (·.born)=ents.toList.map (·.born)):stamps ents' n:=by
 refine⟨by rw[he];exact h.1,fun y hy=>?_⟩;have:y.born∈ents.toList.map (·.born):=by rw[<-he];exact O3.2 ⟨y,hy,rfl⟩
 obtain⟨z,hz,e⟩:=O3.1 this;rw[<-e];exact h.2 z hz
theorem K4 {Y:ac} {es:List (Int × Value)} {v:Value} (h:dP w S Y (.m es) v):∃ b clock ents,v=.map (some b)/\(∀ o,Y b o)/\mp w b=some (.map ents clock)/\ents.toList.map (fun e=>(e.key,e.val))=es.map (fun p=>(Value.int .i64 p.1,p.2))/\(∀ p∈es,p.2.oneCell'=true)/\stamps ents clock:=by
 generalize hc:C.m es=c at h;cases h with
 | m _ b clock es' ents hF hb he hv hst=>cases hc;exact⟨b,clock,ents,rfl,hF,hb,he,hv,hst⟩
 | _=>cases hc
theorem bh.look (h:bh w0 M S0 N S φ F a w) (hTE:∀ t i,TE t=some i->bY P t i) {T:Nat} {x y:Operand} {ok:Bool} {K:AV->Prop} (hp:up TE F T x y ok K) :
  ∃ v,K (.hold .one [.v v])/\v.oneCell'=true/\(Instr.lookup T (a.eval x) (a.eval y) ok).run P w=.ok v w:=by
 unfold up at hp;split at hp
 case h_2=>exact hp.elim
 rename_i hT;obtain⟨h1,h2,h3,h4⟩:=(hTE _ _ hT).2.2;cases ok with
 | true=>exact hp.elim
 | false=>
  obtain⟨ag,cs,Y,hK,hv,-⟩:=h.val (h.ev x) hp
  match ag,cs,hK with
  | none,[.m es],hK=>
   obtain⟨hy,-⟩:=h.scalar hK;cases hvy:a.eval y with
   | int k z=>
    rw[hvy]at hy;cases k with
    | i64=>
     obtain⟨b,clock,ents,hx,-,hb,he,hes,-⟩:=K4 hv.rep1;exact⟨_,hy.out,xH h4 z hes,by rw[hx];exact H8 h1 h2 h3 hb he z⟩
    | _=>exact hy.elim
   | _=>rw[hvy]at hy;exact hy.elim
theorem qH {b:Nat} {o:Obj} (hb:b<w.heap.size) (b':Nat):({w with heap:=w.heap.setIfInBounds b o} : World).heap[b']? = if b'=b then some o else w.heap[b']?:=by
 show(w.heap.setIfInBounds b o)[b']? = _;rw[Array.getElem?_setIfInBounds];by_cases h:b'=b
 ·subst h;rw[if_pos rfl,if_pos rfl];simp[hb]
 ·rw[if_neg h,if_neg fun e=>h e.symm]
theorem BR (z:Int) (v:Value) (clock:Nat):∀ (l:List MapEntry) (es:List (Int × Value)) (i:Nat),l.map (fun e=>(e.key,e.val))=es.map (fun p=>(Value.int .i64 p.1,p.2))->
  (match mfind es z i with
    | some p=>i<=p.1/\p.1 - i<l.length/\(l[p.1 - i]?).map (·.key)=some (.int .i64 z)/\(l.modify (p.1 - i) fun e=>{e with key:=.int .i64 z,val:=v}).map (fun e=>(e.key,e.val))=(mput es z v).map (fun p=>(Value.int .i64 p.1,p.2))
    | none=>(l++[({key:=.int .i64 z,val:=v,born:=clock} : MapEntry)]).map (fun e=>(e.key,e.val))=(mput es z v).map (fun p=>(Value.int .i64 p.1,p.2)))
 | [],es,i,h=>by
  cases es with
  | nil=>rfl
  | cons _ _=>simp at h
 | e::l,es,i,h=>by
  cases es with
  | nil=>simp at h
  | cons p es=>
   simp only[O4,List.cons.injEq,Prod.mk.injEq]at h;obtain⟨⟨h1,h2⟩,h3⟩:=h;have ih:=BR z v clock l es (i+1) h3;simp only[mfind,mput];by_cases hz:p.1=z
   ·simp only[if_pos hz]
    refine⟨I2 _,by simp,by simp[h1,hz],?_⟩;rw[Nat.sub_self];simp only[List.modify_zero_cons,O4,h3]
   ·simp only[if_neg hz]
    cases hf:mfind es z (i+1) with
    | none=>
     rw[hf]at ih;simp only[List.cons_append,O4,h1,h2]at ih |-;rw[ih]
    | some q=>
     rw[hf]at ih;simp only at ih |-;obtain⟨e1,e2,e3,e4⟩:=ih;have he:q.1 - i=(q.1 - (i+1))+1:=by omega
     rw[he];refine⟨by omega,by simp;omega,by simpa using e3,?_⟩;rw[List.modify_succ_cons,O4,O4,e4,h1,h2]
theorem LR {T kt et:Nat} (hT:P.underlying T=some (.map kt et)) (hk:P.underlying kt=some (.int .i64)) {b clock:Nat} {ents:Array MapEntry} {es:List (Int × Value)} (hb:mp w b=some (.map ents clock))
  (he:ents.toList.map (fun e=>(e.key,e.val))=es.map (fun p=>(Value.int .i64 p.1,p.2))) (hst:stamps ents clock) (z:Int) (v:Value):∃ ents' clock',stamps ents' clock'/\(Instr.mapUpdate T (.map (some b)) (.int .i64 z) v).run P w=.ok () {w with heap:=w.heap.setIfInBounds b (.map ents' clock')}/\
   ents'.toList.map (fun e=>(e.key,e.val))=(mput es z v).map (fun p=>(Value.int .i64 p.1,p.2)):=by
 have h0:=og hb;have h1:=MapKept.run_getObj_map (P:=P) h0;have h2:∀ e,(Instr.checkKey e 10000 kt (.int .i64 z)).run P w=.ok () w:=fun e=>MapKept.run_checkKey hk (show MapKept.IsKey (.int .i64) (.int .i64 z) from rfl) e 9999
 have h3:=MapKept.run_findKey (P:=P) (w:=w) hk (pw z ents.toList es 0 he);have h4:=BR z v clock ents.toList es 0 he;cases hf:mfind es z 0 with
 | none=>
  rw[hf]at h3 h4;simp only at h4;refine⟨ents.push {key:=.int .i64 z,val:=v,born:=clock},clock+1,Dn hst _ _,?_,by rw[Array.toList_push];exact h4⟩;simp[Instr.mapUpdate,run_underlying hT,h1,h2,h3,Result.andThen,MapKept.run_setObj_map _ h0]
 | some q=>
  rw[hf]at h3 h4;simp only[Nat.sub_zero]at h4;obtain⟨-,e2,e3,e4⟩:=h4;refine⟨ents.modify q.1 fun e=>{e with key:=.int .i64 z,val:=v},clock,BQ hst (by rw[Array.toList_modify];exact sJ (g:=fun e=>{e with key:=.int .i64 z,val:=v}) (fun _=>rfl) _ _),?_,by rw[Array.toList_modify];exact e4⟩;have hkey:((ents[q.1]?).map (·.key)).getD (.int .i64 z)=.int .i64 z:=by
   rw[show ents[q.1]? = ents.toList[q.1]? by simp,e3];rfl
  have hst:(Instr.keyThatStays (.int .i64 z) (.int .i64 z)).run P w=.ok (.int .i64 z) w:=by
   have:Instr.sameBits 10000 (.int .i64 z) (.int .i64 z)=true:=by simp[Instr.sameBits]
   simp[Instr.keyThatStays,this]
  simp[Instr.mapUpdate,run_underlying hT,h1,h2,h3,Result.andThen,hkey,hst,MapKept.run_setObj_map _ h0]
theorem B0 {v:Value} (hv:v.oneCell'=true):∀ {es:List (Int × Value)} (z:Int),(∀ p∈es,p.2.oneCell'=true)->∀ p∈mput es z v,p.2.oneCell'=true
 | [],z,_,p,hp=>by simp[mput]at hp;subst hp;exact hv
 | q::es,z,h,p,hp=>by
  simp only[mput]at hp;split at hp
  ·rcases List.mem_cons.1 hp with rfl|hp
   ·exact hv
   ·exact h p (Z3 _ hp)
  ·rcases List.mem_cons.1 hp with rfl|hp
   ·exact h _ (I1 ..)
   ·exact B0 hv z (fun q hq=>h q (Z3 _ hq)) p hp
theorem bh.putMap (h:bh w0 M S0 N S φ F a w) {T kt et:Nat} (hT:P.underlying T=some (.map kt et)) (hk:P.underlying kt=some (.int .i64)) {t off:Nat} {z:Int} {v:Value} (hv:v.oneCell'=true) {K:(Nat->AV)->Prop} (hp:Ab.putMap F t off z v K) {x:Value}
  (hx:∀ k bs,F t=.hold k bs->x=bS w k (tvs a t) off):∃ F' w1,K F'/\(Instr.mapUpdate T x (.int .i64 z) v).run P w=.ok () w1/\St w0 M S0 N F' a w1:=by
 unfold Ab.putMap at hp;split at hp
 case h_2=>exact hp.elim
 rename_i k bs hF;split at hp
 case h_2=>exact hp.elim
 rename_i es hc;have hK:=hp.out;simp only[di]at hK;have hoff:=(R1.1 hc).1;have hs:=h.slot t;rw[hF]at hs;obtain⟨X1,Y,e1,e2,e3,e4,f,f1,f2,f3⟩:=hs;obtain⟨b,clock,ents,hxv,hown,hb,he,hes,hst⟩:=K4 (f1 off _ hc);obtain⟨ents',clock',hst',hrun,he'⟩:=LR (P:=P) hT hk hb he hst z v;have hlt:b<w.heap.size:=(h.ex t b 0 (e2 _ _ (f2 off hoff _ _ (hown 0)))).1;have hh:=fun b'=>qH (w:=w) (b:=b) (o:=.map ents' clock') hlt b'
 let w1:World:={w with heap:=w.heap.setIfInBounds b (.map ents' clock')}
 have hother:∀ b',b'≠b->∀ o,cel w1 b' o=cel w b' o/\fro w1 b' o=fro w b' o:=fun b' hne o=>by
  have hb':w1.heap[b']? = w.heap[b']?:=(hh b').trans (if_neg hne);refine⟨?_,Prod.ext ?_ ?_⟩
  ·show World.cell? w1 _=World.cell? w _
   unfold World.cell?;simp only[hb']
  ·show World.frozen? w1 _=World.frozen? w _
   unfold World.frozen?;simp only[hb']
  ·show mp w1 b'=mp w b'
   unfold mp;rw[hb']
 have hcelb:∀ o,cel w1 b o=cel w b o:=fun o=>by
  have h1:w1.heap[b]? = some (.map ents' clock'):=(hh b).trans (if_pos rfl);have h2:=og hb;show World.cell? w1 _=World.cell? w _;unfold World.cell?;simp[h1,h2]
 have hk1:bH (φ t) w w1:=by
  refine⟨rfl,rfl,rfl,by simp[w1],fun b' hb' hn=>(hh b').trans (if_neg fun e=>?_),fun b' o hb' hn=>?_,fun b' o hb' hn=>?_⟩
  ·subst e;exact hn 0 (e2 _ _ (f2 off hoff _ _ (hown 0)))
  ·by_cases e:b'=b
   ·subst e;exact hcelb o
   ·exact(hother b' e o).1
  ·by_cases e:b'=b
   ·subst e;exact absurd (e2 _ _ (f2 off hoff _ _ (hown o))) hn
   ·exact(hother b' e o).2
 have hsame:∀ X:ac,(∀ b' o,X b' o->b'≠b)->bi X w w1:=fun X hX b' o hb'=>hother b' (hX b' o hb') o
 have hX1:bi X1 w w1:=hsame X1 fun b' o hb' e=>by subst e;exact e3 b' o hb' (f2 off hoff _ _ (hown o))
 have hS1:bi S w w1:=hsame S fun b' o hb' e=>by subst e;exact h.disS t _ _ (e2 _ _ (f2 off hoff _ _ (hown o))) hb'
 have htop:=jx e4 hX1;have hsl:(splice bs off [.m (mput es z v)]).length=bs.length:=bU (by simp;omega);refine⟨_,w1,hK,?_,S,_,h.upd (X:=φ t) hk1 hF (fun b o hb=>.inl hb) ⟨X1,Y,e1,e2,e3,?_,f,fun j c hj=>?_,fun j hj=>f2 j (by omega),fun j j' hj hj'=>f3 j j' (by omega) (by omega)⟩⟩
 ·rw[hx k bs hF,hxv];exact hrun
 ·rw[hsl]
  exact e4.keep hX1 (fun _ _ h=>h)
 ·rw[fT (by simp;omega)]at hj
  by_cases hjo:off<=j/\j<off+[C.m (mput es z v)].length
  ·rw[if_pos hjo]at hj
   simp only[List.length_cons,List.length_nil]at hjo;obtain rfl:j=off:=by omega
   simp only[Nat.sub_self,List.getElem?_cons_zero,T0]at hj;subst hj;rw[htop j hoff,hxv];exact .m _ b clock' _ ents' hown (by show mp w1 b=_;unfold mp;rw[(hh b).trans (if_pos rfl)]) he' (B0 hv z hes) hst'
  ·rw[if_neg hjo]at hj
   have hjl:=(R1.1 hj).1;rw[htop j hjl];simp only[List.length_cons,List.length_nil]at hjo;exact(f1 j c hj).keep hS1 (hsame (f j) fun b' o hb' e=>by subst e;exact f3 j off hjl hoff (by omega) _ _ hb' (hown o))
theorem bh.mapUpd (h:bh w0 M S0 N S φ F a w) (hTE:∀ t i,TE t=some i->bY P t i) {T:Nat} {x y v:Operand} {K:(Nat->AV)->Prop} (hp:nY TE F T x y v K) :
  ∃ F' w1,K F'/\(Instr.mapUpdate T (a.eval x) (a.eval y) (a.eval v)).run P w=.ok () w1/\St w0 M S0 N F' a w1:=by
 unfold nY at hp;split at hp
 case h_2=>exact hp.elim
 rename_i hT;obtain⟨h1,h2,-,-⟩:=(hTE _ _ hT).2.2;obtain⟨hy,-⟩:=h.scalar hp;obtain⟨hvv,hone⟩:=h.scalar hy;cases hvy:a.eval y with
 | int k z=>
  rw[hvy]at hvv;cases k with
  | i64=>
   simp only at hvv;cases x with
   | tmp s=>
    simp only at hvv;have hsl:=h.slot s;split at hvv
    ·rename_i t off hF
     rw[hF]at hsl;obtain⟨k,cs,r,j,g1,g2,g3,g4⟩:=hsl;refine h.putMap h1 h2 hone hvv fun k' bs e=>?_
     rw[g1]at e;cases e;exact g4
    ·rename_i cs hF
     refine h.putMap h1 h2 hone hvv fun k' bs e=>?_
     rw[hF]at e;cases e
     rfl
    ·exact hvv.elim
   | _=>exact hvv.elim
  | _=>exact hvv.elim
 | _=>rw[hvy]at hvv;exact hvv.elim
theorem bh.makeMap (h:bh w0 M S0 N S φ F a w) (_hTE:∀ t i,TE t=some i->bY P t i) {T:Nat} {r:Option Operand} {K:AV->Prop} (hp:pZ TE T r K) :
  ∃ av v w1,K av/\(Instr.makeMap T (r.map a.eval)).run P w=.ok v w1/\kM w S F a av v w1:=by
 unfold pZ at hp;split at hp
 case h_2=>exact hp.elim
 refine⟨_,_,_,hp,run_makeMap T w,cH w _,fun b _=>b=w.heap.size,S,fun b o e=>⟨by rw[eQ];omega,by omega⟩,fun _ _ h=>h,fun _ _ h=>.inl h,fun b o e hS=>?_,?_⟩
 ·have:=(h.sup b o hS).1;omega
 ·refine fC (.m _ w.heap.size 0 [] #[] (fun _=>rfl) ?_ rfl (fun p hp=>by simp at hp) ⟨by simp,fun y hy=>by simp at hy⟩)
  unfold mp;rw[heap_alloc_new]
end
end Go.Proofs.YtembpgjjnioagaaGreat.Ab
