/- Abstract cells: data as trees, what it means that a value of the model's memory holds such a tree, and how that lasts. No condition. -/
import Derived.RowKit3
import Derived.WalkKit
import Derived.Handy
import Derived.Laws.Cells
import Derived.Laws.IdiomCopy
import Derived.Maps.RangeRun
import Derived.Below
import Derived.Laws.MakeOwn
set_option linter.unusedVariables false

namespace Go.Proofs.YtplcalfnngkffaaGreat.Ab
open Go.RowKit
inductive dE where
 |imm
 |own
 |tag (v:Value)
def dE.mine:dE→Bool
 | .imm=>false
 | .own=>true
 | .tag _=>true
def dE.ok:dE→Value→Prop
 | .imm,_=>False
 | .own,_=>True
 | .tag v',v=>v'=v
def dE.okN:dE→Value→Prop
 | .tag v',v=>v'=v
 | _,_=>True
inductive C where
 |v (x:Value)
 |s (o:dE) (rows:List (List C))
 |x
 |z
 |m (es:List (Int × Value))
 |it (cur:Option Int) (left:List Int)
instance:Inhabited C:=⟨.x⟩
abbrev ab:=Nat→Nat→Prop
def NO:ab:=fun _ _=>False
abbrev cel (w:World) (b o:Nat):Option Value:=w.cell? ⟨b,o,none⟩
def mp (w:World) (b:Nat):Option Obj:=
 match w.heap[b]? with
 | some (.map es clock)=>some (.map es clock)
 | some (.mapIter m since seen clock)=>some (.mapIter m since seen clock)
 | _=>none
theorem ER (w:World) (a:Addr) (v:Value) (b:Nat):mp (w.setCell a v) b=mp w b:=by
 unfold mp World.setCell
 simp only[Array.getElem?_modify]
 by_cases h:a.block=b
 ·rw[if_pos h]
  cases w.heap[b]? with
  | none=>rfl
  | some o=>cases o<;>rfl
 ·rw[if_neg h]
theorem kZ (b:Nat):∀ (g o:Nat) (vs:List Value) (w:World),mp (w.setCells g o vs) b=mp w b
 | _,_,[],_=>rfl
 | g,o,v::vs,w=>by rw[World.setCells,kZ b g (o+1) vs,ER]
abbrev fro (w:World) (b o:Nat):Bool × Option Obj:=(w.frozen? ⟨b,o,none⟩,mp w b)
abbrev NF:Bool × Option Obj:=(false,none)
def bk (X:ab) (w w':World):Prop:=∀ b o,X b o→cel w' b o=cel w b o∧fro w' b o=fro w b o
inductive ez (w:World) (S:ab):ab→C→Value→Prop
 |v (F:ab) (x:Value) (h1:x.oneCell'=true):ez w S F (.v x) x
 |x (F:ab) (u:Value) (h1:u.oneCell'=true):ez w S F .x u
 |z (F:ab) (a:Option Addr):ez w S F .z (.slice a 0 0)
 |nil (F:ab) (o:dE) (a:Option Addr) (ho:o.okN (.slice a 0 0)):ez w S F (.s o []) (.slice a 0 0)
 |imm (F:ab) (g off k n cap:Nat) (rows:List (List C)) (u:Nat→Value) (hn:rows.length=n) (hk:∀ r∈rows,r.length=k) (hcap:n≤cap)
   (hS:∀ q,q<n*k→S g (off+q)∧cel w g (off+q)=some (u q))
   (hc:∀ i j r c,rows[i]? = some r→r[j]? = some c→ez w S NO c (u (i*k+j))) :
   ez w S F (.s .imm rows) (.slice (some ⟨g,off,none⟩) n cap)
 |own (F:ab) (o:dE) (g k n cap:Nat) (rows:List (List C)) (u:Nat→Value) (f:Nat→ab) (ho:o.ok (.slice (some ⟨g,0,none⟩) n cap)) (hn:rows.length=n) (hk:∀ r∈rows,r.length=k) (hcap:n≤cap) (hpos:0<n)
   (hF:∀ q,q<cap*k→F g q∧(∃ z,cel w g q=some z∧z.oneCell'=true)∧fro w g q=NF)
   (hu:∀ q,q<n*k→cel w g q=some (u q))
   (hf:∀ q,q<n*k→∀ b o,f q b o→F b o∧¬(b=g∧o<cap*k))
   (hd:∀ q q',q<n*k→q'<n*k→q≠q'→∀ b o,f q b o→¬f q' b o)
   (hc:∀ i j r c,rows[i]? = some r→r[j]? = some c→ez w S (f (i*k+j)) c (u (i*k+j))) :
   ez w S F (.s o rows) (.slice (some ⟨g,0,none⟩) n cap)
 |m (F:ab) (b clock:Nat) (es:List (Int × Value)) (ents:Array MapEntry) (hF:∀ o,F b o) (hb:mp w b=some (.map ents clock)) (he:ents.toList.map (fun e=>(e.key,e.val))=es.map (fun p=>(.int .i64 p.1,p.2))) (hv:∀ p∈es,p.2.oneCell'=true) (hst:(ents.toList.map (·.born)).Nodup∧∀ x∈ents.toList,x.born<clock) :
   ez w S F (.m es) (.map (some b))
 |it (F:ab) (r b since c0 clock:Nat) (seen:Array Nat) (ents:Array MapEntry) (cur:Option Int) (left:List Int) (hF:∀ o,F r o∧F b o) (hr:mp w r=some (.mapIter (some b) since seen c0)) (hb:mp w b=some (.map ents clock))
   (hst:(ents.toList.map (·.born)).Nodup∧∀ x∈ents.toList,x.born<since) (hc:since≤c0∧since≤clock) (hv:∀ x∈ents.toList,x.val.oneCell'=true) (hl:(leftOf ents seen).toList.map (·.key)=left.map (Value.int .i64)) (hcur:∀ k,cur=some k→c0=clock∧∃ e∈ents.toList,∃ s':Array Nat,seen=s'.push e.born∧e.key=.int .i64 k) :
   ez w S F (.it cur left) (.pointer (some ⟨r,0,none⟩))
theorem eZ {i j k n:Nat} (hi:i<n) (hj:j<k):i*k+j<n*k:=by
 have:(i+1)*k≤n*k:=Nat.mul_le_mul_right k hi
 rw[Nat.add_mul]at this;omega
theorem zG {rows:List (List C)} {n k i j:Nat} {r:List C} {c:C} (hn:rows.length=n) (hk:∀ r∈rows,r.length=k) (hi:rows[i]? = some r) (hj:r[j]? = some c):i<n∧j<k:=by
 have h1:=(List.getElem?_eq_some_iff.1 hi).1
 have h2:=(List.getElem?_eq_some_iff.1 hj).1
 have h3:=hk r (List.mem_of_getElem? hi)
 omega
theorem ez.one {w:World} {S F:ab} {c:C} {v:Value} (h:ez w S F c v):v.oneCell'=true:=by
 cases h<;>first|assumption|rfl
theorem ez.keep {w w':World} {S F:ab} {c:C} {v:Value} (h:ez w S F c v):bk S w w'→bk F w w'→ez w' S F c v:=by
 induction h with
 | v F x h1=>exact fun _ _=>.v F x h1
 | x F u h1=>exact fun _ _=>.x F u h1
 | z F a=>exact fun _ _=>.z F a
 | nil F o a ho=>exact fun _ _=>.nil F o a ho
 | imm F g off k n cap rows u hn hk hcap hS hc ih=>
  intro hs _
  exact .imm F g off k n cap rows u hn hk hcap (fun q hq=>⟨(hS q hq).1,(hs _ _ (hS q hq).1).1.trans (hS q hq).2⟩)
   (fun i j r c hi hj=>ih i j r c hi hj hs (fun _ _ h=>h.elim))
 | own F o g k n cap rows u f ho hn hk hcap hpos hF hu hf hd hc ih=>
  intro hs hf'
  refine .own F o g k n cap rows u f ho hn hk hcap hpos (fun q hq=>?_) (fun q hq=>?_) hf hd (fun i j r c hi hj=>ih i j r c hi hj hs fun b o hb=>?_)
  ·obtain⟨h1,h2,h3⟩:=hF q hq
   have h4:=hf' g q h1
   exact⟨h1,by rw[h4.1];exact h2,by rw[h4.2];exact h3⟩
  ·rw[(hf' g q (hF q (Nat.lt_of_lt_of_le hq (Nat.mul_le_mul_right k hcap))).1).1];exact hu q hq
  ·obtain⟨hi',hj'⟩:=zG hn hk hi hj
   exact hf' b o (hf _ (eZ hi' hj') b o hb).1
 | m F b clock es ents hF hb he hv hst=>exact fun _ hf=>.m F b clock es ents hF ((congrArg Prod.snd (hf b 0 (hF 0)).2).trans hb) he hv hst
 | it F r b since c0 clock seen ents cur left hF hr hb hst hc hv hl hcur=>exact fun _ hf=>.it F r b since c0 clock seen ents cur left hF ((congrArg Prod.snd (hf r 0 (hF 0).1).2).trans hr) ((congrArg Prod.snd (hf b 0 (hF 0).2).2).trans hb) hst hc hv hl hcur
theorem ez.mono {w:World} {S S' F F':ab} {c:C} {v:Value} (h:ez w S F c v):(∀ b o,S b o→S' b o)→(∀ b o,F b o→F' b o)→ez w S' F' c v:=by
 induction h generalizing F' with
 | v F x h1=>exact fun _ _=>.v _ x h1
 | x F u h1=>exact fun _ _=>.x _ u h1
 | z F a=>exact fun _ _=>.z _ a
 | nil F o a ho=>exact fun _ _=>.nil _ o a ho
 | imm F g off k n cap rows u hn hk hcap hS hc ih=>
  intro hs _
  exact .imm _ g off k n cap rows u hn hk hcap (fun q hq=>⟨hs _ _ (hS q hq).1,(hS q hq).2⟩) (fun i j r c hi hj=>ih i j r c hi hj hs (fun _ _ h=>h))
 | own F o g k n cap rows u f ho hn hk hcap hpos hF hu hf hd hc ih=>
  intro hs hff
  exact .own _ o g k n cap rows u f ho hn hk hcap hpos (fun q hq=>⟨hff _ _ (hF q hq).1,(hF q hq).2⟩) hu (fun q hq b o hb=>⟨hff _ _ (hf q hq b o hb).1,(hf q hq b o hb).2⟩) hd
   (fun i j r c hi hj=>ih i j r c hi hj hs (fun _ _ h=>h))
 | m F b clock es ents hF hb he hv hst=>exact fun _ hff=>.m _ b clock es ents (fun o=>hff _ _ (hF o)) hb he hv hst
 | it F r b since c0 clock seen ents cur left hF hr hb hst hc hv hl hcur=>exact fun _ hff=>.it _ r b since c0 clock seen ents cur left (fun o=>⟨hff _ _ (hF o).1,hff _ _ (hF o).2⟩) hr hb hst hc hv hl hcur
mutual
def fz:C→C
 | .v x=>.v x
 | .s _ rows=>.s .imm (fzR rows)
 | .x=>.x
 | .z=>.z
 | .m _=>.x
 | .it _ _=>.x
def fzR:List (List C)→List (List C)
 | []=>[]
 | r::rs=>ey r::fzR rs
def ey:List C→List C
 | []=>[]
 | c::cs=>fz c::ey cs
end
theorem cr (cs:List C):ey cs=cs.map fz:=by
 induction cs with
 | nil=>rfl
 | cons c cs ih=>simp[ey,ih]
theorem LC (rs:List (List C)):fzR rs=rs.map (·.map fz):=by
 induction rs with
 | nil=>rfl
 | cons c cs ih=>simp[fzR,cr,ih]
@[simp] theorem Px (x:Value):fz (.v x)=.v x:=by simp[fz]
@[simp] theorem P0:fz .x=.x:=by simp[fz]
@[simp] theorem Py:fz .z=.z:=by simp[fz]
@[simp] theorem P5 (es:List (Int × Value)):fz (.m es)=.x:=by simp[fz]
@[simp] theorem Pt (cur:Option Int) (left:List Int):fz (.it cur left)=.x:=by simp[fz]
@[simp] theorem N2 (o:dE) (rows:List (List C)):fz (.s o rows)=.s .imm (rows.map (·.map fz)):=by simp[fz,LC]
theorem ez.freeze {w:World} {S F:ab} {c:C} {v:Value} (h:ez w S F c v):ez w (fun b o=>S b o∨F b o) NO (fz c) v:=by
 induction h with
 | v F x h1=>simpa using .v _ x h1
 | x F u h1=>simpa using .x _ u h1
 | z F a=>simpa using .z _ a
 | nil F o a ho=>simpa using .nil _ _ a trivial
 | imm F g off k n cap rows u hn hk hcap hS hc ih=>
  rw[N2]
  refine .imm _ g off k n cap _ u (by simpa using hn) (fun r hr=>?_) hcap (fun q hq=>⟨.inl (hS q hq).1,(hS q hq).2⟩) (fun i j r c hi hj=>?_)
  ·obtain⟨r',hr',rfl⟩:=List.mem_map.1 hr
   simpa using hk r' hr'
  ·rw[List.getElem?_map]at hi
   cases hi':rows[i]? with
   | none=>rw[hi']at hi;cases hi
   | some r'=>
    rw[hi']at hi;simp only[Option.map_some,Option.some.injEq]at hi;subst hi
    rw[List.getElem?_map]at hj
    cases hj':r'[j]? with
    | none=>rw[hj']at hj;cases hj
    | some c'=>
     rw[hj']at hj;simp only[Option.map_some,Option.some.injEq]at hj;subst hj
     exact(ih i j r' c' hi' hj').mono (fun _ _ h=>h.elim .inl (fun h=>h.elim)) (fun _ _ h=>h)
 | own F o g k n cap rows u f ho hn hk hcap hpos hF hu hf hd hc ih=>
  rw[N2]
  refine .imm _ g 0 k n cap _ u (by simpa using hn) (fun r hr=>?_) hcap (fun q hq=>?_) (fun i j r c hi hj=>?_)
  ·obtain⟨r',hr',rfl⟩:=List.mem_map.1 hr
   simpa using hk r' hr'
  ·rw[Nat.zero_add]
   exact⟨.inr (hF q (Nat.lt_of_lt_of_le hq (Nat.mul_le_mul_right k hcap))).1,hu q hq⟩
  ·rw[List.getElem?_map]at hi
   cases hi':rows[i]? with
   | none=>rw[hi']at hi;cases hi
   | some r'=>
    rw[hi']at hi;simp only[Option.map_some,Option.some.injEq]at hi;subst hi
    rw[List.getElem?_map]at hj
    cases hj':r'[j]? with
    | none=>rw[hj']at hj;cases hj
    | some c'=>
     rw[hj']at hj;simp only[Option.map_some,Option.some.injEq]at hj;subst hj
     obtain⟨hi2,hj2⟩:=zG hn hk hi' hj'
     exact(ih i j r' c' hi' hj').mono (fun b o h=>h.elim .inl (fun h=>.inr (hf _ (eZ hi2 hj2) b o h).1)) (fun _ _ h=>h)
 | m F b clock es ents hF hb he hv=>simpa using .x _ _ rfl
 | it=>simpa using .x _ _ rfl
end Go.Proofs.YtplcalfnngkffaaGreat.Ab
/- Rows of abstract cells and places inside them: how a place is found in memory, read, and written where all on the way to it is the call's own. No condition. -/
namespace Go.Proofs.YtplcalfnngkffaaGreat.Ab
open Go.RowKit
def co (w:World) (S F:ab) (cs:List C) (u:Nat→Value):Prop:=
 ∃ f:Nat→ab,(∀ j c,cs[j]? = some c→ez w S (f j) c (u j))∧(∀ j,j<cs.length→∀ b o,f j b o→F b o)∧
  (∀ j j',j<cs.length→j'<cs.length→j≠j'→∀ b o,f j b o→¬f j' b o)
theorem co.keep {w w':World} {S F:ab} {cs:List C} {u:Nat→Value} (h:co w S F cs u) (hs:bk S w w') (hf:bk F w w'):co w' S F cs u:=by
 obtain⟨f,h1,h2,h3⟩:=h
 exact⟨f,fun j c hj=>(h1 j c hj).keep hs (fun b o hb=>hf b o (h2 j (List.getElem?_eq_some_iff.1 hj).1 b o hb)),h2,h3⟩
theorem co.mono {w:World} {S S' F F':ab} {cs:List C} {u:Nat→Value} (h:co w S F cs u) (hs:∀ b o,S b o→S' b o) (hf:∀ b o,F b o→F' b o):co w S' F' cs u:=by
 obtain⟨f,h1,h2,h3⟩:=h
 exact⟨f,fun j c hj=>(h1 j c hj).mono hs (fun _ _ h=>h),fun j hj b o hb=>hf b o (h2 j hj b o hb),h3⟩
theorem co.congr {w:World} {S F:ab} {cs:List C} {u u':Nat→Value} (h:co w S F cs u) (hu:∀ j,j<cs.length→u' j=u j):co w S F cs u':=by
 obtain⟨f,h1,h2,h3⟩:=h
 exact⟨f,fun j c hj=>by rw[hu j (List.getElem?_eq_some_iff.1 hj).1];exact h1 j c hj,h2,h3⟩
theorem co.nil (w:World) (S F:ab) (u:Nat→Value):co w S F [] u:=⟨fun _=>NO,fun j c h=>by simp at h,fun j h=>by simp at h,fun j j' h=>by simp at h⟩
theorem co.freeze {w:World} {S F:ab} {cs:List C} {u:Nat→Value} (h:co w S F cs u):co w (fun b o=>S b o∨F b o) NO (ey cs) u:=by
 obtain⟨f,h1,h2,h3⟩:=h
 rw[cr]
 refine⟨fun _=>NO,fun j c hj=>?_,fun j _ b o h=>h,fun j j' _ _ _ b o h=>h.elim⟩
 rw[List.getElem?_map]at hj
 cases hj':cs[j]? with
 | none=>rw[hj']at hj;cases hj
 | some c'=>
  rw[hj']at hj;simp only[Option.map_some,Option.some.injEq]at hj;subst hj
  exact(h1 j c' hj').freeze.mono (fun b o h=>h.elim .inl (fun h=>.inr (h2 j (List.getElem?_eq_some_iff.1 hj').1 b o h))) (fun _ _ h=>h)
theorem co.one {w:World} {S F:ab} {cs:List C} {u:Nat→Value} (h:co w S F cs u) {j:Nat} (hj:j<cs.length):(u j).oneCell'=true:=by
 obtain⟨f,h1,-,-⟩:=h
 exact(h1 j cs[j] (List.getElem?_eq_getElem hj)).one
theorem co.part {w:World} {S F:ab} {cs:List C} {u:Nat→Value} (h:co w S F cs u) (a n:Nat):co w S F ((cs.drop a).take n) (fun j=>u (a+j)):=by
 obtain⟨f,h1,h2,h3⟩:=h
 have hl:∀ j,j<((cs.drop a).take n).length→a+j<cs.length:=fun j hj=>by simp at hj;omega
 refine⟨fun j=>f (a+j),fun j c hj=>?_,fun j hj=>h2 _ (hl j hj),fun j j' hj hj' hne=>h3 _ _ (hl j hj) (hl j' hj') (by omega)⟩
 have hlt:=(List.getElem?_eq_some_iff.1 hj).1
 have hln:j<n:=by simp at hlt;omega
 rw[List.getElem?_take,if_pos hln,List.getElem?_drop]at hj
 exact h1 _ c hj
abbrev cm:=List (Nat × Nat × Nat)
def bS:List C→Nat→cm→Option (List C × Nat)
 | cs,off,[]=>some (cs,off)
 | cs,off,(i,k,j)::st=>
  match cs[off]? with
  | some (.s _ rows)=>match rows[i]? with
   | some r=>if r.length=k then bS r j st else none
   | none=>none
  | _=>none
def jI:List C→Nat→cm→Prop
 | _,_,[]=>True
 | cs,off,(i,_,j)::st=>
  match cs[off]? with
  | some (.s o rows)=>o≠.imm∧(match rows[i]? with|some r=>jI r j st|none=>False)
  | _=>False
def fA:List C→Nat→cm→List C→List C
 | _,_,[],r'=>r'
 | cs,off,(i,_,j)::st,r'=>
  match cs[off]? with
  | some (.s o rows)=>match rows[i]? with
   | some r=>cs.set off (.s o (rows.set i (fA r j st r')))
   | none=>cs
  | _=>cs
def plc (w:World):(Nat→Value)→Option (Nat × Nat)→Nat→cm→Option (Nat × Nat)
 | _,top,off,[]=>top.map fun p=>(p.1,p.2+off)
 | u,_,off,(i,k,j)::st=>
  match u off with
  | .slice (some ⟨g,o,none⟩) _ _=>plc w (fun d=>(cel w g (o+i*k+d)).getD undef) (some (g,o+i*k)) j st
  | _=>none
def cellv (w:World):(Nat→Value)→Nat→cm→Nat→Value
 | u,off,[],d=>u (off+d)
 | u,off,(i,k,j)::st,d=>
  match u off with
  | .slice (some ⟨g,o,none⟩) _ _=>cellv w (fun d=>(cel w g (o+i*k+d)).getD undef) j st d
  | _=>undef
theorem ez.row {w:World} {S F:ab} {o:dE} {rows:List (List C)} {v:Value} (h:ez w S F (.s o rows) v) {i:Nat} {r:List C} (hi:rows[i]? = some r) :
  ∃ g b n cap,v=.slice (some ⟨g,b,none⟩) n cap∧i<n∧rows.length=n∧(∀ r'∈rows,r'.length=r.length)∧
   (∀ d,d<r.length→(∃ z,cel w g (b+i*r.length+d)=some z)∧(S g (b+i*r.length+d)∨F g (b+i*r.length+d)))∧∃ F',(∀ b o,F' b o→F b o)∧
   co w S F' r (fun d=>(cel w g (b+i*r.length+d)).getD undef):=by
 cases h with
 | nil=>simp at hi
 | imm _ g off k n cap _ u hn hk hcap hS hc=>
  have hr:r.length=k:=hk r (List.mem_of_getElem? hi)
  have hin:i<n:=by have:=(List.getElem?_eq_some_iff.1 hi).1;omega
  have hcel:∀ d,d<r.length→cel w g (off+i*r.length+d)=some (u (i*k+d)):=fun d hd=>by
   rw[hr,Nat.add_assoc];exact(hS _ (eZ hin (by omega))).2
  refine⟨g,off,n,cap,rfl,hin,hn,fun r' h'=>(hk r' h').trans hr.symm,fun d hd=>⟨⟨_,hcel d hd⟩,.inl (by rw[hr,Nat.add_assoc];exact(hS _ (eZ hin (by omega))).1)⟩,NO,fun _ _ h=>h.elim,fun _=>NO,fun j c hj=>?_,fun _ _ _ _ h=>h,fun _ _ _ _ _ _ _ h=>h.elim⟩
  have hj':=(List.getElem?_eq_some_iff.1 hj).1
  show ez w S NO c ((cel w g (off+i*r.length+j)).getD undef)
  rw[hcel j hj']
  exact hc i j r c hi hj
 | own _ _ g k n cap _ u f _ hn hk hcap _ hF hu hf hd hc=>
  have hr:r.length=k:=hk r (List.mem_of_getElem? hi)
  have hin:i<n:=by have:=(List.getElem?_eq_some_iff.1 hi).1;omega
  have hcel:∀ d,d<r.length→cel w g (0+i*r.length+d)=some (u (i*k+d)):=fun d hd=>by
   rw[hr,Nat.zero_add];exact hu _ (eZ hin (by omega))
  refine⟨g,0,n,cap,rfl,hin,hn,fun r' h'=>(hk r' h').trans hr.symm,fun d hd=>⟨⟨_,hcel d hd⟩,.inr (by rw[hr,Nat.zero_add];exact(hF _ (Nat.lt_of_lt_of_le (eZ hin (by omega)) (Nat.mul_le_mul_right k hcap))).1)⟩,F,fun _ _ h=>h,fun j=>f (i*k+j),fun j c hj=>?_,fun j hj b o h=>(hf _ (eZ hin (by omega)) b o h).1,
    fun j j' hj hj' hne=>hd _ _ (eZ hin (by omega)) (eZ hin (by omega)) (by omega)⟩
  have hj':=(List.getElem?_eq_some_iff.1 hj).1
  show ez w S _ c ((cel w g (0+i*r.length+j)).getD undef)
  rw[hcel j hj']
  exact hc i j r c hi hj
theorem co.at_ {w:World} {S:ab} : ∀ (st:cm) {F:ab} {cs:List C} {u:Nat→Value} {off:Nat} {r:List C} {j:Nat} (top:Option (Nat × Nat)),co w S F cs u→bS cs off st=some (r,j)→
  ∃ F' u',(∀ b o,F' b o→F b o)∧co w S F' r u'∧(∀ d,cellv w u off st d=u' (j+d))∧(st=[]→u'=u)∧
   (st≠[]→∃ g b,plc w u top off st=some (g,b+j)∧∀ d,d<r.length→cel w g (b+d)=some (u' d))
 | [],F,cs,u,off,r,j,top,h,hr=>by
  simp only[bS,Option.some.injEq,Prod.mk.injEq]at hr
  obtain⟨rfl,rfl⟩:=hr
  exact⟨F,u,fun _ _ h=>h,h,fun _=>rfl,fun _=>rfl,fun h=>absurd rfl h⟩
 | (i,k,j0)::st,F,cs,u,off,r,j,top,h,hr=>by
  simp only[bS]at hr
  cases hc:cs[off]? with
  | none=>rw[hc]at hr;cases hr
  | some c=>
   rw[hc]at hr
   cases c with
   | v x=>cases hr
   | x=>cases hr
   | z=>cases hr
   | m es=>cases hr
   | it=>cases hr
   | s o rows=>
    simp only at hr
    cases hi:rows[i]? with
    | none=>rw[hi]at hr;cases hr
    | some r1=>
     rw[hi]at hr
     simp only at hr
     split at hr
     ·rename_i hk
      subst hk
      obtain⟨f,h1,h2,h3⟩:=h
      have hoff:=(List.getElem?_eq_some_iff.1 hc).1
      obtain⟨g,b,n,cap,hv,hin,hn,-,hcel,F',hF',hrow⟩:=(h1 off _ hc).row hi
      obtain⟨F2,u2,e1,e2,e3,e0,e4⟩:=co.at_ st (some (g,b+i*r1.length)) hrow hr
      refine⟨F2,u2,fun b o hb=>h2 off hoff b o (hF' b o (e1 b o hb)),e2,fun d=>?_,(fun h=>by cases h),fun _=>?_⟩
      ·simp only[cellv,hv];exact e3 d
      ·simp only[plc,hv]
       cases st with
       | nil=>
        simp only[bS,Option.some.injEq,Prod.mk.injEq]at hr
        obtain⟨rfl,rfl⟩:=hr
        refine⟨g,b+i*r1.length,rfl,fun d hd=>?_⟩
        obtain⟨⟨z,hz⟩,-⟩:=hcel d hd
        rw[e0 rfl];show _=some ((cel w g (b+i*r1.length+d)).getD undef);rw[hz];rfl
       | cons s st'=>exact e4 (by simp)
     ·cases hr
theorem co.last {w w':World} {S:ab} (hS:bk S w w'):∀ (st:cm) {F:ab} {cs:List C} {u u':Nat→Value} {off:Nat} {r:List C} {j:Nat} (top:Option (Nat × Nat)),co w S F cs u→bS cs off st=some (r,j)→bk F w w'→(∀ x,x<cs.length→u' x=u x)→
  plc w' u' top off st=plc w u top off st∧∀ d,j+d<r.length→cellv w' u' off st d=cellv w u off st d
 | [],F,cs,u,u',off,r,j,top,h,hr,hF,hu=>by
  simp only[bS,Option.some.injEq,Prod.mk.injEq]at hr
  obtain⟨rfl,rfl⟩:=hr
  exact⟨rfl,fun d hd=>hu _ hd⟩
 | (i,k,j0)::st,F,cs,u,u',off,r,j,top,h,hr,hF,hu=>by
  simp only[bS]at hr
  cases hc:cs[off]? with
  | none=>rw[hc]at hr;cases hr
  | some c=>
   rw[hc]at hr
   cases c with
   | v x=>cases hr
   | x=>cases hr
   | z=>cases hr
   | m es=>cases hr
   | it=>cases hr
   | s o rows=>
    simp only at hr
    cases hi:rows[i]? with
    | none=>rw[hi]at hr;cases hr
    | some r1=>
     rw[hi]at hr
     simp only at hr
     split at hr
     case isFalse=>cases hr
     rename_i hk
     subst hk
     obtain⟨f,h1,h2,h3⟩:=h
     have hoff:=(List.getElem?_eq_some_iff.1 hc).1
     obtain⟨g,b,n,cap,hv,hin,hn,-,hcel,F',hF',hrow⟩:=(h1 off _ hc).row hi
     have hv':u' off=.slice (some ⟨g,b,none⟩) n cap:=(hu off hoff).trans hv
     simp only[plc,cellv,hv,hv']
     refine co.last hS st _ hrow hr (fun b o hb=>hF b o (h2 off hoff b o (hF' b o hb))) (fun x hx=>?_)
     obtain⟨-,hin2⟩:=hcel x hx
     have:cel w' g (b+i*r1.length+x)=cel w g (b+i*r1.length+x):=hin2.elim (fun h=>(hS _ _ h).1) (fun h=>(hF _ _ (h2 off hoff _ _ h)).1)
     rw[this]
end Go.Proofs.YtplcalfnngkffaaGreat.Ab
/- Writing at a place all of whose way is the call's own. No condition. -/
namespace Go.Proofs.YtplcalfnngkffaaGreat.Ab
open Go.RowKit
theorem ez.own_set {w w':World} {S F G F1:ab} {o:dE} {g k n cap:Nat} {rows:List (List C)} {u:Nat→Value} {f:Nat→ab} (ho:o.ok (.slice (some ⟨g,0,none⟩) n cap)) (hn:rows.length=n) (hk:∀ r∈rows,r.length=k) (hcap:n≤cap)
  (hF:∀ q,q<cap*k→F g q∧(∃ z,cel w g q=some z∧z.oneCell'=true)∧fro w g q=NF)
  (hu:∀ q,q<n*k→cel w g q=some (u q))
  (hf:∀ q,q<n*k→∀ b o,f q b o→F b o∧¬(b=g∧o<cap*k))
  (hd:∀ q q',q<n*k→q'<n*k→q≠q'→∀ b o,f q b o→¬f q' b o)
  (hc:∀ i j r c,rows[i]? = some r→r[j]? = some c→ez w S (f (i*k+j)) c (u (i*k+j)))
  (i:Nat) (hi:i<n) (r':List C) (hr':r'.length=k) (u2:Nat→Value)
  (hF1:∀ b o,F1 b o→∃ j,j<k∧f (i*k+j) b o)
  (hS:bk S w w') (hrest:∀ b o,F b o→¬F1 b o→¬(b=g∧i*k≤o∧o<i*k+k)→cel w' b o=cel w b o∧fro w' b o=fro w b o)
  (hcell:∀ d,d<k→cel w' g (i*k+d)=some (u2 d)∧fro w' g (i*k+d)=NF)
  (hrow:co w' S G r' u2) (hG:∀ b o,G b o→F1 b o∨¬F b o) :
  ez w' S (fun b o=>(F b o∧¬F1 b o)∨G b o) (.s o (rows.set i r')) (.slice (some ⟨g,0,none⟩) n cap):=by
 obtain⟨f2,e1,e2,e3⟩:=hrow
 have hik:i*k+k≤n*k:=by
  have:(i+1)*k≤n*k:=Nat.mul_le_mul_right k hi
  rw[Nat.add_mul]at this;omega
 have hnk:n*k≤cap*k:=Nat.mul_le_mul_right k hcap
 have hg1:∀ o,o<cap*k→¬F1 g o:=fun o ho h=>by
  obtain⟨j,hj,hb⟩:=hF1 g o h
  exact(hf _ (by omega) g o hb).2 ⟨rfl,ho⟩
 have hin:∀ q,(i*k≤q∧q<i*k+k)→q - i*k<k:=fun q h=>by omega
 refine .own _ o g k n cap _ (fun q=>if i*k≤q∧q<i*k+k then u2 (q - i*k) else u q) (fun q=>if i*k≤q∧q<i*k+k then f2 (q - i*k) else f q)
  ho (by simpa using hn) (fun r hr=>?_) hcap (by omega) (fun q hq=>?_) (fun q hq=>?_) (fun q hq b o hb=>?_) (fun q q' hq hq' hne b o hb hb'=>?_) (fun i2 j2 r c hi2 hj2=>?_)
 ·rcases List.mem_or_eq_of_mem_set hr with h|rfl
  ·exact hk r h
  ·exact hr'
 ·obtain⟨h1,h2,h3⟩:=hF q hq
  by_cases hqi:i*k≤q∧q<i*k+k
  ·obtain⟨c1,c2⟩:=hcell (q - i*k) (hin q hqi)
   have he:i*k+(q - i*k)=q:=by omega
   rw[he]at c1 c2
   have hlt:q - i*k<r'.length:=by omega
   exact⟨.inl ⟨h1,hg1 q hq⟩,⟨_,c1,(e1 (q - i*k) r'[q - i*k] (List.getElem?_eq_getElem hlt)).one⟩,c2⟩
  ·obtain⟨c1,c2⟩:=hrest g q h1 (hg1 q hq) (fun h=>hqi h.2)
   exact⟨.inl ⟨h1,hg1 q hq⟩,by rw[c1];exact h2,by rw[c2];exact h3⟩
 ·split
  ·rename_i hqi
   have:=(hcell (q - i*k) (hin q hqi)).1
   rwa [show i*k+(q - i*k)=q by omega]at this
  ·rename_i hqi
   rw[(hrest g q (hF q (by omega)).1 (hg1 q (by omega)) (fun h=>hqi h.2)).1]
   exact hu q hq
 ·split at hb
  ·rename_i hqi
   have hb2:=e2 _ (by have:=hin q hqi;omega) b o hb
   rcases hG b o hb2 with h|h
   ·obtain⟨j,hj,hb'⟩:=hF1 b o h
    have:=hf _ (by omega) b o hb'
    exact⟨.inr hb2,this.2⟩
   ·exact⟨.inr hb2,fun e=>h (by rw[e.1];exact(hF o e.2).1)⟩
  ·rename_i hqi
   have:=hf q hq b o hb
   refine⟨.inl ⟨this.1,fun h=>?_⟩,this.2⟩
   obtain⟨j,hj,hb'⟩:=hF1 b o h
   exact hd (i*k+j) q (by omega) hq (by omega) b o hb' hb
 ·have hx:∀ q q',q<n*k→(i*k≤q∧q<i*k+k)→q'<n*k→¬(i*k≤q'∧q'<i*k+k)→∀ b o,f2 (q - i*k) b o→¬f q' b o:=by
   intro q q' hq h hq' h' b o hb hb'
   rcases hG b o (e2 _ (by have:=hin q h;omega) b o hb) with h1|h1
   ·obtain⟨j,hj,hbj⟩:=hF1 b o h1
    exact hd (i*k+j) q' (by omega) hq' (by omega) b o hbj hb'
   ·exact h1 (hf q' hq' b o hb').1
  by_cases h:i*k≤q∧q<i*k+k
  ·rw[if_pos h]at hb
   by_cases h':i*k≤q'∧q'<i*k+k
   ·rw[if_pos h']at hb'
    exact e3 (q - i*k) (q' - i*k) (by have:=hin q h;omega) (by have:=hin q' h';omega) (by omega) b o hb hb'
   ·rw[if_neg h']at hb'
    exact hx q q' hq h hq' h' b o hb hb'
  ·rw[if_neg h]at hb
   by_cases h':i*k≤q'∧q'<i*k+k
   ·rw[if_pos h']at hb'
    exact hx q' q hq' h' hq h b o hb' hb
   ·rw[if_neg h']at hb'
    exact hd q q' hq hq' hne b o hb hb'
 ·rw[List.getElem?_set]at hi2
  by_cases hii:i=i2
  ·subst hii
   rw[if_pos rfl]at hi2
   split at hi2
   ·simp only[Option.some.injEq]at hi2
    subst hi2
    have hj3:=(List.getElem?_eq_some_iff.1 hj2).1
    have hq:i*k≤i*k+j2∧i*k+j2<i*k+k:=by omega
    simp only[if_pos hq,Nat.add_sub_cancel_left]
    exact e1 j2 c hj2
   ·cases hi2
  ·rw[if_neg hii]at hi2
   obtain⟨a1,a2⟩:=zG hn hk hi2 hj2
   have hq:¬(i*k≤i2*k+j2∧i2*k+j2<i*k+k):=by
    rcases Nat.lt_or_ge i i2 with h|h
    ·have:(i+1)*k≤i2*k:=Nat.mul_le_mul_right k h
     rw[Nat.add_mul]at this;omega
    ·have:(i2+1)*k≤i*k:=Nat.mul_le_mul_right k (by omega)
     rw[Nat.add_mul]at this;omega
   simp only[if_neg hq]
   have hfl:=eZ a1 a2
   refine(hc i2 j2 r c hi2 hj2).keep hS (fun b o hb=>hrest b o (hf _ hfl b o hb).1 (fun h=>?_) (fun h=>(hf _ hfl b o hb).2 ⟨h.1,by omega⟩)) |>.mono (fun _ _ h=>h) (fun _ _ h=>h)
   obtain⟨j,hj,hbj⟩:=hF1 b o h
   exact hd (i*k+j) (i2*k+j2) (by omega) hfl (by omega) b o hbj hb
theorem co.focus {w:World} {S:ab} : ∀ (st:cm) {F:ab} {cs:List C} {u:Nat→Value} {off:Nat} {r:List C} {j:Nat} (top:Option (Nat × Nat)),st≠[]→co w S F cs u→bS cs off st=some (r,j)→jI cs off st→
  ∃ g b F' u',(∀ b o,F' b o→F b o)∧co w S F' r u'∧plc w u top off st=some (g,b+j)∧
   (∀ d,d<r.length→F g (b+d)∧¬F' g (b+d)∧cel w g (b+d)=some (u' d)∧fro w g (b+d)=NF)∧
   ∀ (w':World) (r':List C) (u2:Nat→Value) (G:ab),bk S w w'→(∀ b' o,F b' o→¬F' b' o→¬(b'=g∧b≤o∧o<b+r.length)→cel w' b' o=cel w b' o∧fro w' b' o=fro w b' o)→
    (∀ d,d<r.length→cel w' g (b+d)=some (u2 d)∧fro w' g (b+d)=NF)→r'.length=r.length→co w' S G r' u2→(∀ b o,G b o→F' b o∨¬F b o)→
    co w' S (fun b o=>(F b o∧¬F' b o)∨G b o) (fA cs off st r') u
 | [],_,_,_,_,_,_,_,h,_,_,_=>absurd rfl h
 | (i,k,j0)::st,F,cs,u,off,r,j,top,_,h,hr,ho=>by
  simp only[bS]at hr
  simp only[jI]at ho
  cases hc:cs[off]? with
  | none=>rw[hc]at hr;cases hr
  | some c=>
   rw[hc]at hr ho
   cases c with
   | v x=>cases hr
   | x=>cases hr
   | z=>cases hr
   | m es=>cases hr
   | it=>cases hr
   | s o rows=>
    simp only at hr ho
    obtain⟨hoi,ho⟩:=ho
    cases hi:rows[i]? with
    | none=>rw[hi]at hr;cases hr
    | some r1=>
     rw[hi]at hr ho
     simp only at hr ho
     split at hr
     case isFalse=>cases hr
     rename_i hk1
     subst hk1
     obtain⟨f,h1,h2,h3⟩:=h
     have hoff:=(List.getElem?_eq_some_iff.1 hc).1
     have hrep:=h1 off _ hc
     have hup:∀ r',fA cs off ((i,r1.length,j0)::st) r'=cs.set off (.s o (rows.set i (fA r1 j0 st r'))):=fun r'=>by simp only[fA,hc,hi]
     have back:∀ (w':World) (c':C) (F2 G:ab),bk S w w'→(∀ j c,j≠off→cs[j]? = some c→bk (f j) w w')→(∀ b o,F2 b o→f off b o)→ez w' S (fun b o=>(f off b o∧¬F2 b o)∨G b o) c' (u off)→(∀ b o,G b o→F2 b o∨¬F b o)→
       co w' S (fun b o=>(F b o∧¬F2 b o)∨G b o) (cs.set off c') u:=by
      intro w' c' F2 G hS hsame hF2 hrep' hG
      refine⟨fun j=>if j=off then(fun b o=>(f off b o∧¬F2 b o)∨G b o) else f j,fun j c hj=>?_,fun j hj b o hb=>?_,fun j j' hj hj' hne b o hb hb'=>?_⟩
      ·rw[List.getElem?_set]at hj
       by_cases hjo:off=j
       ·subst hjo
        rw[if_pos rfl,if_pos hoff]at hj
        simp only[Option.some.injEq]at hj
        subst hj
        simpa using hrep'
       ·rw[if_neg hjo]at hj
        simp only[if_neg (Ne.symm hjo)]
        exact(h1 j c hj).keep hS (hsame j c (Ne.symm hjo) hj)
      ·simp only[List.length_set]at hj
       simp only at hb
       split at hb
       ·rename_i e
        exact hb.imp (fun h=>⟨h2 off hoff b o h.1,h.2⟩) id
       ·rename_i e
        exact .inl ⟨h2 j hj b o hb,fun h=>h3 j off hj hoff e b o hb (hF2 b o h)⟩
      ·simp only[List.length_set]at hj hj'
       simp only at hb hb'
       by_cases e:j=off
       ·rw[if_pos e]at hb
        have e':j'≠off:=fun h=>hne (e.trans h.symm)
        rw[if_neg e']at hb'
        rcases hb with hb|hb
        ·exact h3 off j' hoff hj' (Ne.symm e') b o hb.1 hb'
        ·rcases hG b o hb with h|h
         ·exact h3 off j' hoff hj' (Ne.symm e') b o (hF2 b o h) hb'
         ·exact h (h2 j' hj' b o hb')
       ·rw[if_neg e]at hb
        by_cases e':j'=off
        ·rw[if_pos e']at hb'
         rcases hb' with hb'|hb'
         ·exact h3 off j hoff hj (Ne.symm e) b o hb'.1 hb
         ·rcases hG b o hb' with h|h
          ·exact h3 off j hoff hj (Ne.symm e) b o (hF2 b o h) hb
          ·exact h (h2 j hj b o hb)
        ·rw[if_neg e']at hb'
         exact h3 j j' hj hj' hne b o hb hb'
     generalize hv:u off=v at hrep
     cases hrep with
     | nil=>simp at hi
     | imm=>exact absurd rfl hoi
     | own _ _ g k n cap _ u1 f1 hoo hn hk hcap hpos hF hu hf hd hcr=>
      have hr1:r1.length=k:=hk r1 (List.mem_of_getElem? hi)
      subst hr1
      have hin:i<n:=by have:=(List.getElem?_eq_some_iff.1 hi).1;omega
      have hik:i*r1.length+r1.length≤n*r1.length:=by
       have:(i+1)*r1.length≤n*r1.length:=Nat.mul_le_mul_right _ hin
       rw[Nat.add_mul]at this;omega
      have hnk:n*r1.length≤cap*r1.length:=Nat.mul_le_mul_right _ hcap
      let F1:ab:=fun b o=>∃ j,j<r1.length∧f1 (i*r1.length+j) b o
      have hF1:∀ b o,F1 b o→f off b o∧¬(b=g∧o<cap*r1.length):=fun b o ⟨j,hj,hb⟩=>hf _ (by omega) b o hb
      have hcel:∀ d,d<r1.length→cel w g (i*r1.length+d)=some (u1 (i*r1.length+d)):=fun d hd=>hu _ (by omega)
      have hrow1:co w S F1 r1 (fun d=>u1 (i*r1.length+d)):=
       ⟨fun j=>f1 (i*r1.length+j),fun j c hj=>hcr i j r1 c hi hj,fun j hj b o hb=>⟨j,hj,hb⟩,fun j j' hj hj' hne=>hd _ _ (by omega) (by omega) (by omega)⟩
      have hread:co w S F1 r1 (fun d=>(cel w g (0+i*r1.length+d)).getD undef):=hrow1.congr fun d hd=>by rw[Nat.zero_add,hcel d hd];rfl
      cases st with
      | nil=>
       simp only[bS,Option.some.injEq,Prod.mk.injEq]at hr
       obtain⟨rfl,rfl⟩:=hr
       refine⟨g,i*r1.length,F1,fun d=>u1 (i*r1.length+d),fun b o hb=>h2 off hoff b o (hF1 b o hb).1,hrow1,by simp only[plc,hv,Nat.zero_add,Option.map_some],fun d hd=>?_,?_⟩
       ·exact⟨h2 off hoff _ _ (hF _ (by omega)).1,fun h=>(hF1 _ _ h).2 ⟨rfl,by omega⟩,hcel d hd,(hF _ (by omega)).2.2⟩
       ·intro w' r' u2 G hS hrest hcell hlen hrow hG
        rw[hup]
        simp only[fA]
        refine back w' _ F1 G hS (fun j c hj hjc b o hb=>?_) (fun b o h=>(hF1 b o h).1) ?_ hG
        ·have hj':=(List.getElem?_eq_some_iff.1 hjc).1
         refine hrest b o (h2 j hj' b o hb) (fun h=>h3 off j hoff hj' (Ne.symm hj) b o (hF1 b o h).1 hb) (fun h=>?_)
         exact h3 off j hoff hj' (Ne.symm hj) b o (by rw[h.1];exact(hF o (by omega)).1) hb
        ·rw[hv]
         exact ez.own_set (F1:=F1) hoo hn hk hcap hF hu hf hd hcr i hin r' hlen u2 (fun b o h=>h) hS (fun b o hb hnb hno=>hrest b o (h2 off hoff b o hb) hnb hno) hcell hrow (fun b o hb=>(hG b o hb).imp id (fun h h'=>h (h2 off hoff b o h')))
      | cons s st'=>
       obtain⟨g2,b2,F2,u2,e1,e2,e3,e4,e5⟩:=co.focus (s::st') (some (g,0+i*r1.length)) (by simp) hread hr ho
       refine⟨g2,b2,F2,u2,fun b o hb=>h2 off hoff b o (hF1 b o (e1 b o hb)).1,e2,by simp only[plc,hv];exact e3,fun d hd=>?_,?_⟩
       ·obtain⟨a1,a2,a3,a4⟩:=e4 d hd
        exact⟨h2 off hoff _ _ (hF1 _ _ a1).1,a2,a3,a4⟩
       ·intro w' r' u3 G hS hrest hcell hlen hrow hG
        have hrow':=e5 w' r' u3 G hS (fun b o hb hnb hno=>hrest b o (h2 off hoff b o (hF1 b o hb).1) hnb hno) hcell hlen hrow (fun b o hb=>(hG b o hb).imp id (fun h h'=>h (h2 off hoff b o (hF1 b o h').1)))
        rw[hup]
        have hin2:∀ o,b2≤o→o<b2+r.length→F1 g2 o:=fun o ho1 ho2=>by
         have:=(e4 (o - b2) (by omega)).1
         rwa [show b2+(o - b2)=o by omega]at this
        have hsame:∀ b o,f off b o→¬F1 b o→cel w' b o=cel w b o∧fro w' b o=fro w b o:=fun b o hb hnb=>
         hrest b o (h2 off hoff b o hb) (fun h=>hnb (e1 b o h)) (fun h=>hnb (by rw[h.1];exact hin2 o h.2.1 h.2.2))
        refine back w' _ F2 G hS (fun j c hj hjc b o hb=>?_) (fun b o h=>(hF1 b o (e1 b o h)).1) ?_ hG
        ·have hj':=(List.getElem?_eq_some_iff.1 hjc).1
         refine hrest b o (h2 j hj' b o hb) (fun h=>h3 off j hoff hj' (Ne.symm hj) b o (hF1 b o (e1 b o h)).1 hb) (fun h=>?_)
         exact h3 off j hoff hj' (Ne.symm hj) b o (hF1 b o (by rw[h.1];exact hin2 o h.2.1 h.2.2)).1 hb
        ·rw[hv]
         have hlen':(fA r1 j0 (s::st') r').length=r1.length:=by
          obtain⟨i',k',j'⟩:=s
          simp only[fA]
          split
          ·split<;>simp
          ·rfl
         refine(ez.own_set (F1:=F1) (G:=fun b o=>(F1 b o∧¬F2 b o)∨G b o) hoo hn hk hcap hF hu hf hd hcr i hin _ hlen' (fun d=>u1 (i*r1.length+d)) (fun b o h=>h) hS (fun b o hb hnb _=>hsame b o hb hnb) (fun d hd=>?_) (hrow'.congr fun d hd=>?_) (fun b o hb=>hb.elim (fun h=>.inl h.1) (fun h=>(hG b o h).imp (e1 b o) (fun h h'=>h (h2 off hoff b o h'))))).mono (fun _ _ h=>h) (fun b o hb=>hb.elim (fun h=>.inl ⟨h.1,fun h'=>h.2 (e1 b o h')⟩) (fun h=>h.imp (fun h=>⟨(hF1 b o h.1).1,h.2⟩) id))
         ·have hnf:¬F1 g (i*r1.length+d):=fun h=>(hF1 _ _ h).2 ⟨rfl,by omega⟩
          have:=hsame g (i*r1.length+d) (hF _ (by omega)).1 hnf
          exact⟨this.1.trans (hcel d hd),this.2.trans (hF _ (by omega)).2.2⟩
         ·rw[hlen']at hd
          show _=(cel w g (0+i*r1.length+d)).getD undef
          rw[Nat.zero_add,hcel d hd];rfl
end Go.Proofs.YtplcalfnngkffaaGreat.Ab
/- Abstract frames: what each slot of a function's frame holds; what that means in a world; how a slot is put anew. No condition. -/
namespace Go.Proofs.YtplcalfnngkffaaGreat.Ab
open Go.RowKit
inductive Kd where
 |one
 |agg
 |tup (sh:List (Option Nat))
 |box
inductive AV where
 |dead
 |hold (k:Kd) (cs:List C)
 |ref (t off:Nat) (st:cm)
 |bor (t off:Nat) (st:cm) (ag:Option Nat)
 |iref (r:List C) (off:Nat)
 |fn (f:FuncId) (caps:List Nat)
 |fv (Ok:ab→World→Value→Prop)
instance:Inhabited AV:=⟨.dead⟩
def AV.uses (d:Nat):AV→Bool
 | .ref t _ _=>Nat.beq t d
 | .bor t _ _ _=>Nat.beq t d
 | .fn _ caps=>caps.any (Nat.beq · d)
 | _=>false
def kl (d:Nat):AV→AV
 | .ref t off st=>bif Nat.beq t d then .dead else .ref t off st
 | .bor t off st ag=>bif Nat.beq t d then .dead else .bor t off st ag
 | .fn f caps=>bif caps.any (Nat.beq · d) then .dead else .fn f caps
 | .hold k cs=>.hold k cs
 | .iref r off=>.iref r off
 | .fv Ok=>.fv Ok
 | .dead=>.dead
theorem yu (d:Nat) (v:AV):kl d v=bif v.uses d then .dead else v:=by cases v<;>rfl
def put (F:Nat→AV) (d:Nat) (v:AV):Nat→AV:=fun t=>bif Nat.beq t d then v else kl d (F t)
def kF:Value→List Value
 | .tuple vs=>vs.toList.flatMap fun v=>v.cells.toList
 | _=>[]
def bR (w:World):Kd→Value→Nat→Value
 | .one,v=>fun _=>v
 | .agg,v=>fun j=>v.cells.toList.getD j undef
 | .tup _,v=>fun j=>(kF v).getD j undef
 | .box,.pointer (some a)=>fun j=>(cel w a.block (a.off+j)).getD undef
 | .box,_=>fun _=>undef
def pn:Kd→Value→Option (Nat × Nat)
 | .box,.pointer (some a)=>some (a.block,a.off)
 | _,_=>none
def mkv:Option Nat→(Nat→Value)→Value
 | none,u=>u 0
 | some n,u=>.agg ((List.range n).map u).toArray
def o6:List (Option Nat)→Nat
 | []=>0
 | none::sh=>1+o6 sh
 | some n::sh=>n+o6 sh
def uU:List (Option Nat)→List Value→Prop
 | [],[]=>True
 | none::sh,v::vs=>v.cells = #[v]∧uU sh vs
 | some n::sh,v::vs=>(∃ arr,v=.agg arr∧arr.size=n)∧uU sh vs
 | _,_=>False
def fy (w:World) (X:ab):Kd→Nat→Value→Prop
 | .one,n,_=>n=1
 | .agg,n,v=>∃ arr,v=.agg arr∧arr.size=n
 | .tup sh,n,v=>∃ vs,v=.tuple vs∧uU sh vs.toList∧o6 sh=n
 | .box,n,v=>∃ g o,v=.pointer (some ⟨g,o,none⟩)∧∀ j,j<n→X g (o+j)∧(∃ z,cel w g (o+j)=some z)∧fro w g (o+j)=NF
def cz (w:World) (S:ab) (F:Nat→AV) (tv:Nat→Value) (X:ab):AV→Value→Prop
 | .dead,_=>True
 | .hold k cs,v=>∃ X1 Y:ab,(∀ b o,X1 b o→X b o)∧(∀ b o,Y b o→X b o)∧(∀ b o,X1 b o→¬Y b o)∧fy w X1 k cs.length v∧co w S Y cs (bR w k v)
 | .ref t off st,v=>∃ k cs r j g o,F t=.hold k cs∧bS cs off st=some (r,j)∧plc w (bR w k (tv t)) (pn k (tv t)) off st=some (g,o)∧v=.pointer (some ⟨g,o,none⟩)
 | .bor t off st ag,v=>∃ k cs r j,F t=.hold k cs∧bS cs off st=some (r,j)∧j+ag.getD 1≤r.length∧v=mkv ag (cellv w (bR w k (tv t)) off st)
 | .iref r off,v=>∃ g b u,v=.pointer (some ⟨g,b+off,none⟩)∧(∀ d,d<r.length→S g (b+d)∧cel w g (b+d)=some (u d))∧co w S NO r u
 | .fn f caps,v=>v=.func (.func f) #[] (caps.map tv).toArray
 | .fv Ok,v=>∃ (S1:ab) (w1:World),(∀ b o,S1 b o→S b o)∧bk S1 w1 w∧Ok S1 w1 v
theorem kg {w w':World} {k:Kd} {v:Value} {n:Nat} {X:ab} (h:fy w X k n v) (hX:bk X w w'):∀ x,x<n→bR w' k v x=bR w k v x:=by
 intro x hx
 cases k with
 | box=>
  obtain⟨g,o,rfl,h1⟩:=h
  simp only[bR]
  rw[(hX _ _ (h1 x hx).1).1]
 | _=>rfl
theorem fy.keep {w w':World} {X X':ab} {k:Kd} {n:Nat} {v:Value} (h:fy w X k n v) (hX:bk X w w') (hm:∀ b o,X b o→X' b o):fy w' X' k n v:=by
 cases k with
 | box=>
  obtain⟨g,o,rfl,h1⟩:=h
  refine⟨g,o,rfl,fun j hj=>?_⟩
  obtain⟨a1,a2,a3⟩:=h1 j hj
  have:=hX _ _ a1
  exact⟨hm _ _ a1,by rw[this.1];exact a2,by rw[this.2];exact a3⟩
 | _=>exact h
theorem cz.keep {w w':World} {S S':ab} {F F':Nat→AV} {tv tv':Nat→Value} {X X':ab} {φ:Nat→ab} {av:AV} {v:Value} (h:cz w S F tv X av v)
  (hh:∀ t k cs,F t=.hold k cs→cz w S F tv (φ t) (F t) (tv t))
  (hu:∀ t,av.uses t=true→(∀ k cs,F t=.hold k cs→F' t=.hold k cs)∧tv' t=tv t∧bk (φ t) w w')
  (hX:bk X w w') (hS:bk S w w') (hm:∀ b o,X b o→X' b o) (hms:∀ b o,S b o→S' b o):cz w' S' F' tv' X' av v:=by
 cases av with
 | dead=>trivial
 | hold k cs=>
  obtain⟨X1,Y,h1,h2,h3,h4,h5⟩:=h
  refine⟨X1,Y,fun b o hb=>hm _ _ (h1 b o hb),fun b o hb=>hm _ _ (h2 b o hb),h3,h4.keep (fun b o hb=>hX _ _ (h1 b o hb)) (fun _ _ h=>h),?_⟩
  exact((h5.keep hS (fun b o hb=>hX _ _ (h2 b o hb))).mono hms (fun _ _ h=>h)).congr fun j hj=>kg h4 (fun b o hb=>hX _ _ (h1 b o hb)) j hj
 | ref t off st=>
  obtain⟨k,cs,r,j,g,o,h1,h2,h3,h4⟩:=h
  obtain⟨e1,e2,e3⟩:=hu t (by simp[AV.uses])
  have hs:=hh t k cs h1
  rw[h1]at hs
  obtain⟨X1,Y,a1,a2,a3,a4,a5⟩:=hs
  refine⟨k,cs,r,j,g,o,e1 k cs h1,h2,?_,h4⟩
  rw[e2]
  exact(co.last hS st _ a5 h2 (fun b o hb=>e3 _ _ (a2 b o hb)) (fun x hx=>kg a4 (fun b o hb=>e3 _ _ (a1 b o hb)) x hx)).1.trans h3
 | bor t off st ag=>
  obtain⟨k,cs,r,j,h1,h2,h3,h4⟩:=h
  obtain⟨e1,e2,e3⟩:=hu t (by simp[AV.uses])
  have hs:=hh t k cs h1
  rw[h1]at hs
  obtain⟨X1,Y,a1,a2,a3,a4,a5⟩:=hs
  refine⟨k,cs,r,j,e1 k cs h1,h2,h3,?_⟩
  rw[h4,e2]
  have hl:=(co.last hS st none a5 h2 (fun b o hb=>e3 _ _ (a2 b o hb)) (fun x hx=>kg a4 (fun b o hb=>e3 _ _ (a1 b o hb)) x hx)).2
  cases ag with
  | none=>exact(hl 0 (by simp at h3;omega)).symm
  | some n=>
   simp only[mkv]
   congr 2
   exact List.map_congr_left fun d hd=>(hl d (by simp at h3;have:=List.mem_range.1 hd;omega)).symm
 | iref r off=>
  obtain⟨g,b,u,h1,h2,h3⟩:=h
  exact⟨g,b,u,h1,fun d hd=>⟨hms _ _ (h2 d hd).1,(hS _ _ (h2 d hd).1).1.trans (h2 d hd).2⟩,(h3.keep hS (fun _ _ h=>h.elim)).mono hms (fun _ _ h=>h)⟩
 | fn f caps=>
  refine h.trans ?_
  congr 2
  exact List.map_congr_left fun t ht=>((hu t (by simp only[AV.uses,List.any_eq_true];exact⟨t,ht,Nat.beq_refl t⟩)).2.1).symm
 | fv Ok=>
  obtain⟨S1,w1,h1,h2,h3⟩:=h
  exact⟨S1,w1,fun b o hb=>hms _ _ (h1 b o hb),fun b o hb=>⟨(hS b o (h1 b o hb)).1.trans (h2 b o hb).1,(hS b o (h1 b o hb)).2.trans (h2 b o hb).2⟩,h3⟩
structure bw (M:ab) (w w':World):Prop where
 os:w'.os=w.os
 tape:w'.tape=w.tape
 output:w'.output=w.output
 size:w.heap.size≤w'.heap.size
 blk:∀ b,b<w.heap.size→(∀ o,¬M b o)→w'.heap[b]? = w.heap[b]?
 cel:∀ b o,b<w.heap.size→¬M b o→cel w' b o=cel w b o
 fro:∀ b o,b<w.heap.size→¬M b o→fro w' b o=fro w b o
theorem bw.refl (M:ab) (w:World):bw M w w:=⟨rfl,rfl,rfl,Nat.le_refl _,fun _ _ _=>rfl,fun _ _ _ _=>rfl,fun _ _ _ _=>rfl⟩
theorem bw.trans {M M':ab} {a b c:World} (h:bw M a b) (h':bw M' b c) (hm:∀ x o,M' x o→a.heap.size≤x∨M x o):bw M a c:=by
 have hno:∀ x o,x<a.heap.size→¬M x o→¬M' x o:=fun x o hx hn h=>(hm x o h).elim (by omega) hn
 have hlt:∀ x,x<a.heap.size→x<b.heap.size:=fun x hx=>Nat.lt_of_lt_of_le hx h.size
 exact⟨h'.os.trans h.os,h'.tape.trans h.tape,h'.output.trans h.output,Nat.le_trans h.size h'.size,fun x hx hn=>(h'.blk x (hlt x hx) (fun o=>hno x o hx (hn o))).trans (h.blk x hx hn),
   fun x o hx hn=>(h'.cel x o (hlt x hx) (hno x o hx hn)).trans (h.cel x o hx hn),fun x o hx hn=>(h'.fro x o (hlt x hx) (hno x o hx hn)).trans (h.fro x o hx hn)⟩
theorem bw.of_below {w w':World} (h:Below w.heap.size w w') (M:ab):bw M w w':=
 ⟨h.os,h.tape,h.output,h.size,fun b hb _=>h.block b hb,fun _ _ hb _=>h.cell hb,fun b o hb _=>Prod.ext (h.frozen hb) (by show mp w' b=mp w b;unfold mp;rw[h.block b hb])⟩
theorem bw.below {w w':World} (h:bw NO w w'):Below w.heap.size w w':=⟨h.os,h.tape,h.output,h.size,fun b hb=>h.blk b hb (fun _ h=>h)⟩
theorem Nd {w:World} {b o:Nat} {z:Value} (h:cel w b o=some z):b<w.heap.size:=by
 rcases Nat.lt_or_ge b w.heap.size with hlt|hge
 ·exact hlt
 ·simp[cel,World.cell?,Array.getElem?_eq_none hge]at h
def tvs (a:Act) (t:Nat):Value:=a.tmps.getD t undef
structure fF where
 n:Nat
 kp:List (Nat × Value)
 mo:List (Nat × List Nat):=[]
def fF.free (N:fF) (d:Nat):Bool:=Nat.blt d N.n&&!N.kp.any fun p=>Nat.beq p.1 d
theorem fF.free_lt {N:fF} {d:Nat} (h:N.free d=true):d<N.n:=by
 simp only[fF.free,Bool.and_eq_true]at h
 simpa[Nat.blt_eq] using h.1
theorem fF.free_ne {N:fF} {d:Nat} (h:N.free d=true) {p:Nat × Value} (hp:p∈N.kp):p.1≠d:=fun e=>by
 simp only[fF.free,Bool.and_eq_true,Bool.not_eq_true']at h
 have:N.kp.any (fun p=>Nat.beq p.1 d)=true:=List.any_eq_true.2 ⟨p,hp,by rw[e];exact Nat.beq_refl d⟩
 rw[this]at h;cases h.2
structure bj (w0:World) (M S0:ab) (N:fF) (S:ab) (φ:Nat→ab) (F:Nat→AV) (a:Act) (w:World):Prop where
 slot:∀ t,cz w S F (tvs a) (φ t) (F t) (tvs a t)
 dis:∀ t t',t≠t'→∀ b o,φ t b o→¬φ t' b o
 disS:∀ t b o,φ t b o→¬S b o
 ex:∀ t b o,φ t b o→b<w.heap.size∧(w0.heap.size≤b∨M b o)
 sub:∀ b o,S0 b o→S b o
 sup:∀ b o,S b o→b<w.heap.size∧(S0 b o∨w0.heap.size≤b∨M b o)
 old:bw M w0 w
 size:a.tmps.size=N.n
 defers:a.defers=[]
 par:∀ p,p∈N.kp→tvs a p.1=p.2
def St (w0:World) (M S0:ab) (N:fF) (F:Nat→AV) (a:Act) (w:World):Prop:=∃ S φ,bj w0 M S0 N S φ F a w
theorem My (a:Act) (d:Nat) (v:Value) (t:Nat) (hd:d<a.tmps.size):tvs (a.put (some d) v) t=if t=d then v else tvs a t:=by
 simp only[tvs,Act.put,Array.getD_eq_getD_getElem?,Array.getElem?_setIfInBounds]
 by_cases h:d=t
 ·subst h;simp[hd]
 ·rw[if_neg h,if_neg (fun e=>h e.symm)]
theorem mc (F:Nat→AV) (d:Nat) (v:AV):put F d v d=v:=by simp[put]
theorem gw (F:Nat→AV) {d t:Nat} (v:AV) (h:t≠d):put F d v t=kl d (F t):=by
 have:Nat.beq t d=false:=by rw[←Bool.not_eq_true,Nat.beq_eq];exact h
 simp[put,this]
theorem zD (d:Nat) (k:Kd) (cs:List C):kl d (.hold k cs)=.hold k cs:=rfl
section
variable {w0 w w1:World} {M S0 S:ab} {N:fF} {φ:Nat→ab} {F:Nat→AV} {a:Act}
theorem bj.put_gen (h:bj w0 M S0 N S φ F a w) (hk:bw NO w w1) {d:Nat} (hd:N.free d=true) {av:AV} {v:Value} {X:ab}
  (hv:cz w1 S F (tvs a) X av v) (hav:av.uses d=false) (hX:∀ b o,X b o→b<w1.heap.size∧(w0.heap.size≤b∨M b o)) (hXd:∀ t,t≠d→∀ b o,X b o→¬φ t b o) (hXS:∀ b o,X b o→¬S b o) :
  bj w0 M S0 N S (fun t=>if t=d then X else φ t) (put F d av) (a.put (some d) v) w1:=by
 have hsz:=h.size
 have hall:∀ X:ab,(∀ b o,X b o→b<w.heap.size)→bk X w w1:=fun X hX b o hb=>⟨hk.cel b o (hX b o hb) (fun h=>h),hk.fro b o (hX b o hb) (fun h=>h)⟩
 have hphi:∀ t,bk (φ t) w w1:=fun t=>hall _ fun b o hb=>(h.ex t b o hb).1
 have hS1:bk S w w1:=hall _ fun b o hb=>(h.sup b o hb).1
 have htv:∀ t,tvs (a.put (some d) v) t=if t=d then v else tvs a t:=fun t=>My a d v t (by have:=fF.free_lt hd;omega)
 refine⟨fun t=>?_,fun t t' hne b o hb hb'=>?_,fun t b o hb=>?_,fun t b o hb=>?_,h.sub,fun b o hb=>⟨Nat.lt_of_lt_of_le (h.sup b o hb).1 hk.size,(h.sup b o hb).2⟩,h.old.trans hk (fun _ _ h=>h.elim),by simp[Act.put];exact hsz,h.defers,fun p hp=>by rw[htv,if_neg (fF.free_ne hd hp)];exact h.par p hp⟩
 ·rw[htv]
  by_cases ht:t=d
  ·rw[if_pos ht,if_pos ht,ht,mc]
   refine hv.keep (φ:=φ) (fun t k cs he=>?_) (fun t hu=>?_) (fun _ _ _=>⟨rfl,rfl⟩) (fun _ _ _=>⟨rfl,rfl⟩) (fun _ _ h=>h) (fun _ _ h=>h)
   ·refine(h.slot t).keep (φ:=φ) (fun t _ _ _=>h.slot t) (fun t hu=>?_) (hphi t) hS1 (fun _ _ h=>h) (fun _ _ h=>h)
    exact⟨fun _ _ h=>h,rfl,hphi t⟩
   ·have hne:t≠d:=fun e=>by subst e;rw[hav]at hu;cases hu
    refine⟨fun k cs he=>by rw[gw _ _ hne,he,zD],by rw[htv,if_neg hne],fun _ _ _=>⟨rfl,rfl⟩⟩
  ·rw[gw _ _ ht,if_neg ht,if_neg ht]
   rw[yu]
   cases hu:(F t).uses d with
   | true=>trivial
   | false=>
    simp only[cond_false]
    refine(h.slot t).keep (φ:=φ) (fun t _ _ _=>h.slot t) (fun t' hu'=>?_) (hphi t) hS1 (fun _ _ h=>h) (fun _ _ h=>h)
    have hne:t'≠d:=fun e=>by subst e;rw[hu]at hu';cases hu'
    exact⟨fun k cs he=>by rw[gw _ _ hne,he,zD],by rw[htv,if_neg hne],hphi t'⟩
 ·by_cases ht:t=d
  ·rw[if_pos ht]at hb
   by_cases ht':t'=d
   ·exact hne (ht.trans ht'.symm)
   ·rw[if_neg ht']at hb';exact hXd t' ht' b o hb hb'
  ·rw[if_neg ht]at hb
   by_cases ht':t'=d
   ·rw[if_pos ht']at hb';exact hXd t ht b o hb' hb
   ·rw[if_neg ht']at hb';exact h.dis t t' hne b o hb hb'
 ·split at hb
  ·exact hXS b o hb
  ·exact h.disS t b o hb
 ·split at hb
  ·exact hX b o hb
  ·exact⟨Nat.lt_of_lt_of_le (h.ex t b o hb).1 hk.size,(h.ex t b o hb).2⟩
def Nv (d:Nat):AV→AV
 | .ref t off st=>bif Nat.beq t d then .dead else .ref t off st
 | .bor t off st ag=>bif Nat.beq t d then .dead else .bor t off st ag
 | .fn f caps=>.fn f caps
 | .hold k cs=>.hold k cs
 | .iref r off=>.iref r off
 | .fv Ok=>.fv Ok
 | .dead=>.dead
def kill (F:Nat→AV) (d:Nat):Nat→AV:=fun t=>bif Nat.beq t d then .dead else Nv d (F t)
theorem sL (F:Nat→AV) (d:Nat):kill F d d=.dead:=by simp[kill]
theorem pU (F:Nat→AV) {d t:Nat} (h:t≠d):kill F d t=Nv d (F t):=by
 have:Nat.beq t d=false:=by rw[←Bool.not_eq_true,Nat.beq_eq];exact h
 simp[kill,this]
theorem bj.forget (h:bj w0 M S0 N S φ F a w) (d:Nat):bj w0 M S0 N S (fun t=>if t=d then NO else φ t) (kill F d) a w:=by
 refine⟨fun t=>?_,fun t t' hne b o hb hb'=>?_,fun t b o hb=>?_,fun t b o hb=>?_,h.sub,h.sup,h.old,h.size,h.defers,h.par⟩
 ·by_cases ht:t=d
  ·subst ht;rw[sL];trivial
  ·rw[pU _ ht,if_neg ht]
   have hgen:Nv d (F t)=kl d (F t)→cz w S (kill F d) (tvs a) (φ t) (Nv d (F t)) (tvs a t):=fun e=>by
    rw[e,yu]
    cases hu:(F t).uses d with
    | true=>trivial
    | false=>
     simp only[cond_false]
     refine(h.slot t).keep (φ:=φ) (fun t _ _ _=>h.slot t) (fun t' hu'=>?_) (fun _ _ _=>⟨rfl,rfl⟩) (fun _ _ _=>⟨rfl,rfl⟩) (fun _ _ h=>h) (fun _ _ h=>h)
     have hne:t'≠d:=fun e=>by subst e;rw[hu]at hu';cases hu'
     exact⟨fun k cs he=>by rw[pU _ hne,he];rfl,rfl,fun _ _ _=>⟨rfl,rfl⟩⟩
   cases hFt:F t with
   | fn f caps=>have hs:=h.slot t;rw[hFt]at hs;exact hs
   | _=>rw[←hFt];exact hgen (by rw[hFt];rfl)
 ·split at hb
  ·exact hb.elim
  ·split at hb'
   ·exact hb'.elim
   ·exact h.dis t t' hne b o hb hb'
 ·split at hb
  ·exact hb.elim
  ·exact h.disS t b o hb
 ·split at hb
  ·exact hb.elim
  ·exact h.ex t b o hb
end
end Go.Proofs.YtplcalfnngkffaaGreat.Ab
/- The operations that write only their own slot, on abstract frames: what each yields; and that the model's own operation yields a value that fits. No condition. -/
namespace Go.Proofs.YtplcalfnngkffaaGreat.Ab
open Go.RowKit
inductive TK where
 |st (flds:List (Nat × Nat))
 |sl (elem:Nat)
 |sc (d:TypeDesc)
 |mp (key elem:Nat) (z:Value)
structure TI where
 size:Nat
 bytes:Nat
 zero:List C
 kind:TK
instance:Inhabited TI:=⟨⟨0,0,[],.st []⟩⟩
def TI.agg (i:TI):Bool:=match i.kind with|.st _=>true|_=>false
def cval:C→Value
 | .v x=>x
 | .z=>.slice none 0 0
 | _=>undef
def aF:List C→Prop
 | []=>True
 | .v x::cs=>x.oneCell'=true∧aF cs
 | .z::cs=>aF cs
 | _=>False
def bA (P:Program) (t:Nat) (i:TI):Prop:=
 (P.info? t).map (fun x=>(x.zero.map (·.cells.toList),x.size,x.bytes))=some (some (i.zero.map cval),i.size,i.bytes)∧aF i.zero∧
 match i.kind with
 | .st flds=>∃ fs,P.underlying t=some (.struct fs)∧fs.toList.map (fun f=>(f.offset,f.type))=flds
 | .sl e=>P.underlying t=some (.slice e)
 | .sc d=>P.underlying t=some d∧(match d with|.struct _|.array _ _=>False|_=>True)
 | .mp k e z=>P.underlying t=some (.map k e)∧P.underlying k=some (.int .i64)∧(P.info? e).bind (·.zero)=some z∧z.oneCell'=true
def eB:C→Bool
 | .s .own _=>true
 | .s (.tag _) _=>true
 | .m _=>true
 | .it _ _=>true
 | _=>false
def aW:List C→Bool
 | []=>true
 | c::cs=>bif eB c then false else aW cs
def bp (cs:List C) (off n:Nat):List C:=(cs.drop off).take n
def wg:Value→C
 | .slice none 0 0=>.z
 | v=>.v v
def kR:Value→AV
 | .agg arr=>bif arr.all (·.oneCell') then .hold .agg (arr.toList.map wg) else .dead
 | .tuple _=>.dead
 | .pointer (some _)=>.dead
 | v=>.hold .one [wg v]
def nj (F:Nat→AV):Operand→AV
 | .tmp t=>F t
 | .const v=>kR v
 | .global _=>.dead
 | .func f=>.fn f []
inductive Rw (cs:List C) (off:Nat) (st:cm) (K:List C→Nat→Prop):Prop
 |mk_ (h:∃ r j,bS cs off st=some (r,j)∧K r j)
theorem Rw.mk {cs:List C} {off:Nat} {st:cm} {K:List C→Nat→Prop} {r:List C} {j:Nat} (h:bS cs off st=some (r,j)) (hK:K r j):Rw cs off st K:=by refine .mk_ ?_;exact⟨r,j,h,hK⟩
theorem Rw.out {cs:List C} {off:Nat} {st:cm} {K:List C→Nat→Prop} (h:Rw cs off st K):∃ r j,bS cs off st=some (r,j)∧K r j:=by obtain⟨h⟩:=h;exact h
inductive Wr (k:IntKind) (x:Int) (K:Int→Prop):Prop
 |mk_ (h:∃ z,k.wrap x=z∧K z)
theorem Wr.mk {k:IntKind} {x z:Int} {K:Int→Prop} (h:k.wrap x=z) (hK:K z):Wr k x K:=by refine .mk_ ?_;exact⟨z,h,hK⟩
theorem Wr.out {k:IntKind} {x:Int} {K:Int→Prop} (h:Wr k x K):∃ z,k.wrap x=z∧K z:=by obtain⟨h⟩:=h;exact h
inductive Ev (x:Int) (K:Int→Prop):Prop
 |mk_ (h:∃ z,x=z∧K z)
theorem Ev.mk {x z:Int} {K:Int→Prop} (h:x=z) (hK:K z):Ev x K:=by refine .mk_ ?_;exact⟨z,h,hK⟩
theorem Ev.out {x:Int} {K:Int→Prop} (h:Ev x K):∃ z,x=z∧K z:=by obtain⟨h⟩:=h;exact h
inductive Ln (x:Nat) (K:Nat→Prop):Prop
 |mk_ (h:∃ z,x=z∧K z)
theorem Ln.mk {x z:Nat} {K:Nat→Prop} (h:x=z) (hK:K z):Ln x K:=by refine .mk_ ?_;exact⟨z,h,hK⟩
theorem Ln.out {x:Nat} {K:Nat→Prop} (h:Ln x K):K x:=by obtain⟨h⟩:=h;obtain⟨z,rfl,h⟩:=h;exact h
inductive Cd (p:Prop) (X:Prop):Prop
 |mk_ (h:p∧X)
theorem Cd.mk {p X:Prop} (h:p) (hX:X):Cd p X:=by refine .mk_ ?_;exact⟨h,hX⟩
theorem Cd.out {p X:Prop} (h:Cd p X):p∧X:=by obtain⟨h⟩:=h;exact h
inductive Ix (rows:List (List C)) (i:Int) (K:List C→Prop):Prop
 |mk_ (h:0≤i∧∃ r,rows[i.toNat]? = some r∧K r)
theorem Ix.mk {rows:List (List C)} {i:Int} {K:List C→Prop} {r:List C} (h0:0≤i) (h:rows[i.toNat]? = some r) (hK:K r):Ix rows i K:=by refine .mk_ ?_;exact⟨h0,r,h,hK⟩
theorem Ix.nat {rows:List (List C)} {i:Nat} {K:List C→Prop} {r:List C} (h:rows[i]? = some r) (hK:K r):Ix rows (i:Int) K:=Ix.mk (by omega) h hK
theorem Ix.out {rows:List (List C)} {i:Int} {K:List C→Prop} (h:Ix rows i K):0≤i∧∃ r,rows[i.toNat]? = some r∧K r:=by obtain⟨h⟩:=h;exact h
inductive Bf (b:Bool) (X Y:Prop):Prop
 |mk_ (h:bif b then X else Y)
theorem Bf.out {b:Bool} {X Y:Prop} (h:Bf b X Y):bif b then X else Y:=by obtain⟨h⟩:=h;exact h
theorem Bf.in_ {b:Bool} {X Y:Prop} (h:bif b then X else Y):Bf b X Y:=by refine .mk_ ?_;exact h
theorem Bf.t {b:Bool} {X Y:Prop} (h:b=true) (hX:X):Bf b X Y:=by subst h;exact .in_ hX
theorem Bf.f {b:Bool} {X Y:Prop} (h:b=false) (hY:Y):Bf b X Y:=by subst h;exact .in_ hY
theorem Bf.P {b:Bool} {X Y:Prop} (h1:b=true→X) (h2:b=false→Y):Bf b X Y:=by cases b;exact .f rfl (h2 rfl);exact .t rfl (h1 rfl)
theorem Bf.D {p:Prop} [Decidable p] {X Y:Prop} (h1:p→X) (h2:¬p→Y):Bf (decide p) X Y:=.P (fun h=>h1 (of_decide_eq_true h)) (fun h=>h2 (of_decide_eq_false h))
theorem Bf.E {a b:Int} {X Y:Prop} (h1:a=b→X) (h2:a≠b→Y):Bf (a == b) X Y:=.P (fun h=>h1 (by simpa using h)) (fun h=>h2 (by simpa using h))
theorem Bf.N {a b:Int} {X Y:Prop} (h1:a≠b→X) (h2:a=b→Y):Bf (a != b) X Y:=.P (fun h=>h1 (by simpa using h)) (fun h=>h2 (by simpa using h))
theorem Bf.not {b:Bool} {X Y:Prop} (h:Bf b Y X):Bf (!b) X Y:=by cases b<;>exact .in_ h.out
def tX (F:Nat→AV) (t off:Nat) (st:cm) (K:List C→Nat→Prop):Prop:=
 match F t with
 | .hold _ cs=>match st with
  | []=>K cs off
  | s::st=>Rw cs off (s::st) K
 | _=>False
def iA (F:Nat→AV):AV→(Option Nat→List C→Prop)→Prop
 | .hold .one cs,K=>K none cs
 | .hold .agg cs,K=>K (some cs.length) cs
 | .bor t off st ag,K=>tX F t off st fun r j=>K ag (bp r j (ag.getD 1))
 | .fn f [],K=>K none [.v (.func (.func f) #[] #[])]
 | _,_=>False
def bv (w:World) (S Y:ab) (ag:Option Nat) (cs:List C) (v:Value):Prop:=
 cs.length=ag.getD 1∧∃ u,v=mkv ag u∧co w S Y cs u
theorem pc {F:Nat→AV} {t off:Nat} {st:cm} {K:List C→Nat→Prop} (h:tX F t off st K):∃ k cs r j,F t=.hold k cs∧bS cs off st=some (r,j)∧K r j:=by
 unfold tX at h
 cases hF:F t with
 | hold k cs=>
  rw[hF]at h
  cases st with
  | nil=>exact⟨k,cs,cs,off,rfl,rfl,h⟩
  | cons s st=>obtain⟨r,j,e,h⟩:=Rw.out h;exact⟨k,cs,r,j,rfl,e,h⟩
 | _=>rw[hF]at h;exact h.elim
theorem mW (arr:Array Value):Value.agg arr=mkv (some arr.size) (fun j=>arr.toList.getD j undef):=by
 simp only[mkv]
 congr 1
 apply Array.ext'
 apply List.ext_getElem?
 intro j
 by_cases hj:j<arr.size
 ·simp[hj,List.getD]
 ·simp[hj]
theorem hJ {ag:Option Nat} {u u':Nat→Value} (h:∀ j,j<ag.getD 1→u j=u' j):mkv ag u=mkv ag u':=by
 cases ag with
 | none=>exact h 0 (by simp)
 | some n=>simp only[mkv];congr 2;exact List.map_congr_left fun j hj=>h j (by simpa using List.mem_range.1 hj)
section
variable {P:Program} {w0 w w1:World} {M S0 S:ab} {N:fF} {φ:Nat→ab} {F:Nat→AV} {a:Act}
theorem qr (S F:ab) {v:Value} (h:v.oneCell'=true):ez w S F (wg v) v:=by
 unfold wg
 split
 ·exact .z _ _
 ·exact .v _ _ h
theorem Hp (v:Value):cz w S F (tvs a) NO (kR v) v:=by
 cases v with
 | agg arr=>
  cases hall:arr.all (·.oneCell') with
  | false=>
   have e:kR (.agg arr)=.dead:=by simp only[kR,hall,cond_false]
   rw[e];trivial
  | true=>
   have e:kR (.agg arr)=.hold .agg (arr.toList.map wg):=by simp only[kR,hall,cond_true]
   rw[e]
   refine⟨NO,NO,fun _ _ h=>h,fun _ _ h=>h,fun _ _ _ h=>h,⟨arr,rfl,by simp⟩,fun _=>NO,fun j c hj=>?_,fun _ _ _ _ h=>h,fun _ _ _ _ _ _ _ h=>h.elim⟩
   rw[List.getElem?_map,Array.getElem?_toList]at hj
   cases hx:arr[j]? with
   | none=>rw[hx]at hj;cases hj
   | some x=>
    rw[hx]at hj;simp only[Option.map_some,Option.some.injEq]at hj;subst hj
    have hone:x.oneCell'=true:=by
     obtain⟨hlt,he⟩:=Array.getElem?_eq_some_iff.1 hx
     have:=Array.all_eq_true.1 hall j hlt
     rwa [he]at this
    have:bR w .agg (.agg arr) j=x:=by simp[bR,Value.cells,List.getD,hx]
    rw[this]
    exact qr _ _ hone
 | tuple _=>trivial
 | pointer p=>cases p with
  | some _=>trivial
  | none=>exact⟨NO,NO,fun _ _ h=>h,fun _ _ h=>h,fun _ _ _ h=>h,rfl,fun _=>NO,fun j c hj=>by cases j with|zero=>simp at hj;subst hj;exact qr _ _ rfl|succ j=>simp at hj,fun _ _ _ _ h=>h,fun _ _ _ _ _ _ _ h=>h.elim⟩
 | _=>exact⟨NO,NO,fun _ _ h=>h,fun _ _ h=>h,fun _ _ _ h=>h,rfl,fun _=>NO,fun j c hj=>by cases j with|zero=>simp at hj;subst hj;exact qr _ _ rfl|succ j=>simp at hj,fun _ _ _ _ h=>h,fun _ _ _ _ _ _ _ h=>h.elim⟩
def Pe (φ:Nat→ab):Operand→ab
 | .tmp t=>φ t
 | _=>NO
theorem bj.ev (h:bj w0 M S0 N S φ F a w) (x:Operand):cz w S F (tvs a) (Pe φ x) (nj F x) (a.eval x):=by
 cases x with
 | tmp t=>exact h.slot t
 | const v=>exact Hp v
 | global g=>trivial
 | func f=>rfl
theorem bj.place (h:bj w0 M S0 N S φ F a w) {t off:Nat} {st:cm} {k:Kd} {cs r:List C} {j:Nat} (hF:F t=.hold k cs) (hr:bS cs off st=some (r,j)) :
  ∃ Y u,(∀ b o,Y b o→φ t b o)∧co w S Y r u∧(∀ d,cellv w (bR w k (tvs a t)) off st d=u (j+d))∧
   (∀ g o,plc w (bR w k (tvs a t)) (pn k (tvs a t)) off st=some (g,o)→∃ b,o=b+j∧∀ d,d<r.length→cel w g (b+d)=some (u d)):=by
 have hs:=h.slot t
 rw[hF]at hs
 obtain⟨X1,Y,h1,h2,h3,h4,h5⟩:=hs
 obtain⟨F',u',e1,e2,e3,e0,e4⟩:=co.at_ st (pn k (tvs a t)) h5 hr
 refine⟨F',u',fun b o hb=>h2 b o (e1 b o hb),e2,e3,fun g o hp=>?_⟩
 by_cases hst:st=[]
 ·subst hst
  simp only[bS,Option.some.injEq,Prod.mk.injEq]at hr
  obtain⟨rfl,rfl⟩:=hr
  rw[e0 rfl]
  cases k with
  | box=>
   obtain⟨g',o',hv,hcell⟩:=h4
   rw[hv]at hp ⊢
   simp only[plc,pn,Option.map_some,Option.some.injEq,Prod.mk.injEq]at hp
   obtain⟨rfl,rfl⟩:=hp
   refine⟨o',rfl,fun d hd=>?_⟩
   obtain⟨-,⟨z,hz⟩,-⟩:=hcell d hd
   simp only[bR,hz,Option.getD_some]
  | _=>simp[plc,pn]at hp
 ·obtain⟨g',b,hp',hc⟩:=e4 hst
  rw[hp']at hp
  simp only[Option.some.injEq,Prod.mk.injEq]at hp
  obtain⟨rfl,rfl⟩:=hp
  exact⟨b,rfl,hc⟩
theorem bj.val (h:bj w0 M S0 N S φ F a w) {av:AV} {v:Value} {X:ab} {K:Option Nat→List C→Prop} (hs:cz w S F (tvs a) X av v) (hp:iA F av K) :
  ∃ ag cs Y,K ag cs∧bv w S Y ag cs v∧∀ b o,Y b o→X b o∨∃ t,φ t b o:=by
 cases av with
 | hold k cs=>
  obtain⟨X1,Y,h1,h2,h3,h4,h5⟩:=hs
  cases k with
  | one=>exact⟨none,cs,Y,hp,⟨h4,_,rfl,h5⟩,fun b o hb=>.inl (h2 b o hb)⟩
  | agg=>
   obtain⟨arr,rfl,hsz⟩:=h4
   exact⟨some cs.length,cs,Y,hp,⟨rfl,bR w .agg (.agg arr),by have:=mW arr;rw[hsz]at this;exact this,h5⟩,fun b o hb=>.inl (h2 b o hb)⟩
  | _=>exact hp.elim
 | bor t off st ag=>
  replace hp:tX F t off st (fun r j=>K ag (bp r j (ag.getD 1))):=hp
  obtain⟨k,cs,r,j,hF,hr,hK⟩:=pc hp
  obtain⟨k',cs',r',j',hF',hr',hlen,hv⟩:=hs
  rw[hF]at hF'
  simp only[AV.hold.injEq]at hF'
  obtain⟨rfl,rfl⟩:=hF'
  rw[hr]at hr'
  simp only[Option.some.injEq,Prod.mk.injEq]at hr'
  obtain⟨rfl,rfl⟩:=hr'
  obtain⟨Y,u,hY,hrow,hcv,-⟩:=h.place hF hr
  refine⟨ag,_,Y,hK,⟨by simp[bp];omega,fun d=>u (j+d),?_,hrow.part j _⟩,fun b o hb=>.inr ⟨t,hY b o hb⟩⟩
  rw[hv]
  exact hJ fun d _=>hcv d
 | fn f caps=>
  cases caps with
  | cons c cs=>exact hp.elim
  | nil=>
   refine⟨none,_,NO,hp,⟨rfl,fun _=>v,rfl,fun _=>NO,fun j c hj=>?_,fun _ _ _ _ h=>h,fun _ _ _ _ _ _ _ h=>h.elim⟩,fun _ _ h=>h.elim⟩
   cases j with
   | zero=>simp at hj;subst hj;rw[show v=.func (.func f) #[] #[] from hs];exact .v _ _ rfl
   | succ j=>simp at hj
 | _=>exact hp.elim
end
end Go.Proofs.YtplcalfnngkffaaGreat.Ab
/- Each operation that writes only its own slot, on abstract frames, and that the model's own operation does so. No condition. -/
namespace Go.Proofs.YtplcalfnngkffaaGreat.Ab
open Go.RowKit
def uv (P:Program) (o:Oper) (a:Act) (w:World) (R:Value→World→Prop):Prop:=
 ∀ (Kc:Act→World→Prop) (Q:Exit→Act→World→Prop),(∀ v w1,R v w1→Kc (a.put o.dst v) w1)→o.wp P a w Kc Q
theorem uv.value {P:Program} {o:Oper} {a:Act} {w w1:World} {R:Value→World→Prop} {v:Value} (h:(execOp a.eval o).run P w=.ok (.value v) w1) (hR:R v w1):uv P o a w R:=by
 intro Kc Q hk
 unfold Oper.wp
 rw[h,Oper.upon_value]
 exact hk v w1 hR
theorem uv.skip {P:Program} {o:Oper} {a:Act} {w w1:World} {R:Value→World→Prop} (h:(execOp a.eval o).run P w=.ok .skip w1) (hR:R undef w1):uv P o a w R:=by
 intro Kc Q hk
 unfold Oper.wp
 rw[h,Oper.upon_skip]
 exact hk undef w1 hR
theorem uv.enter {P:Program} {o:Oper} {a:Act} {w:World} {R:Value→World→Prop} {f:FuncId} {args:Array Value} (h:(execOp a.eval o).run P w=.ok (.enter f args) w)
  (hc:Calls P f args w fun e w1=>∃ v,e=.returned v∧R v w1):uv P o a w R:=by
 intro Kc Q hk
 unfold Oper.wp
 rw[h,Oper.upon_enter]
 refine hc.mono fun e w1 he=>?_
 obtain⟨v,rfl,hR⟩:=he
 exact hk v w1 hR
theorem uv.mono {P:Program} {o:Oper} {a:Act} {w:World} {R R':Value→World→Prop} (h:uv P o a w R) (hR:∀ v w1,R v w1→R' v w1):uv P o a w R':=
 fun Kc Q hk=>h Kc Q fun v w1 hr=>hk v w1 (hR v w1 hr)
def lV (w:World) (S:ab) (F:Nat→AV) (a:Act) (av:AV) (v:Value) (w1:World):Prop:=
 bw NO w w1∧∃ X S1:ab,(∀ b o,X b o→b<w1.heap.size∧w.heap.size≤b)∧(∀ b o,S b o→S1 b o)∧(∀ b o,S1 b o→S b o∨(b<w1.heap.size∧w.heap.size≤b))∧(∀ b o,X b o→¬S1 b o)∧cz w1 S1 F (tvs a) X av v
theorem ez.bare {w:World} {S F F':ab} {c:C} {v:Value} (h:ez w S F c v) (hc:eB c=false):ez w S F' c v:=by
 induction h with
 | v F x h1=>exact .v _ x h1
 | x F u h1=>exact .x _ u h1
 | z F a=>exact .z _ a
 | nil F o a ho=>exact .nil _ o a ho
 | imm F g off k n cap rows u hn hk hcap hS hc2 _=>exact .imm _ g off k n cap rows u hn hk hcap hS hc2
 | own F o g k n cap rows u f ho=>cases o with|imm=>exact ho.elim|own=>cases hc|tag v=>cases hc
 | m F b clock es ents hF hb he hv hst=>cases hc
 | it=>cases hc
theorem qe:∀ {cs:List C},aW cs=true→∀ (j:Nat) (c:C),cs[j]? = some c→eB c=false
 | [],_,j,c,h=>by simp at h
 | c0::cs,h,j,c,hj=>by
  simp only[aW]at h
  cases h0:eB c0 with
  | true=>rw[h0]at h;cases h
  | false=>
   rw[h0]at h
   cases j with
   | zero=>simp at hj;subst hj;exact h0
   | succ j=>exact qe h j c (by simpa using hj)
theorem co.bare {w:World} {S F F':ab} {cs:List C} {u:Nat→Value} (h:co w S F cs u) (hc:aW cs=true):co w S F' cs u:=by
 obtain⟨f,h1,-,-⟩:=h
 exact⟨fun _=>NO,fun j c hj=>(h1 j c hj).bare (qe hc j c hj),fun _ _ _ _ h=>h.elim,fun _ _ _ _ _ _ _ h=>h.elim⟩
theorem By {w:World} {n:Nat} {u:Nat→Value} {j:Nat} (hj:j<n):bR w .agg (mkv (some n) u) j=u j:=by
 simp[bR,mkv,Value.cells,List.getD,hj]
def jc:Option Nat→Kd
 | none=>.one
 | some _=>.agg
theorem bv.slot {w:World} {S Y:ab} {F:Nat→AV} {tv:Nat→Value} {ag:Option Nat} {cs:List C} {v:Value} (h:bv w S Y ag cs v):cz w S F tv Y (.hold (jc ag) cs) v:=by
 obtain⟨hl,u,rfl,hr⟩:=h
 cases ag with
 | none=>
  refine⟨NO,Y,fun _ _ h=>h.elim,fun _ _ h=>h,fun _ _ h=>h.elim,hl,hr.congr fun j hj=>?_⟩
  have:j=0:=by simp at hl;omega
  subst this;rfl
 | some n=>
  simp only[Option.getD_some]at hl
  exact⟨NO,Y,fun _ _ h=>h.elim,fun _ _ h=>h,fun _ _ h=>h.elim,⟨_,rfl,by simp[hl]⟩,hr.congr fun j hj=>By (by omega)⟩
theorem bv.bare {w:World} {S Y Y':ab} {ag:Option Nat} {cs:List C} {v:Value} (h:bv w S Y ag cs v) (hc:aW cs=true):bv w S Y' ag cs v:=
 ⟨h.1,h.2.choose,h.2.choose_spec.1,h.2.choose_spec.2.bare hc⟩
def bo (F:Nat→AV) (x:Operand) (K:AV→Prop):Prop:=
 match x with
 | .tmp t=>match F t with
  | .hold .box _=>K (.ref t 0 [])
  | .hold .one cs=>bif aW cs then K (.hold .one cs) else K (.bor t 0 [] none)
  | .hold .agg cs=>bif aW cs then K (.hold .agg cs) else K (.bor t 0 [] (some cs.length))
  | .hold (.tup sh) cs=>bif aW cs then K (.hold (.tup sh) cs) else False
  | .ref t off st=>K (.ref t off st)
  | .bor t off st ag=>K (.bor t off st ag)
  | .iref r off=>K (.iref r off)
  | .fn f caps=>K (.fn f caps)
  | .fv Ok=>K (.fv Ok)
  | .dead=>K .dead
 | .const v=>K (kR v)
 | .global _=>K .dead
 | .func f=>K (.fn f [])
section
variable {P:Program} {w0 w w1:World} {M S0 S:ab} {N:fF} {φ:Nat→ab} {F:Nat→AV} {a:Act}
theorem bj.move (h:bj w0 M S0 N S φ F a w) {x:Operand} {K:AV→Prop} (hp:bo F x K):∃ av,K av∧cz w S F (tvs a) NO av (a.eval x):=by
 have hev:=h.ev x
 cases x with
 | tmp t=>
  simp only[bo]at hp
  simp only[nj,Pe]at hev
  show ∃ av,K av∧cz w S F (tvs a) NO av (tvs a t)
  replace hev:cz w S F (tvs a) (φ t) (F t) (tvs a t):=hev
  cases hF:F t with
  | hold k cs=>
   rw[hF]at hp hev
   obtain⟨X1,Y,h1,h2,h3,h4,h5⟩:=hev
   cases k with
   | box=>
    obtain⟨g,o,hv,-⟩:=h4
    exact⟨_,hp,.box,cs,cs,0,g,o,hF,rfl,by rw[hv];rfl,hv⟩
   | one=>
    simp only at hp
    cases hn:aW cs with
    | true=>rw[hn]at hp;exact⟨_,hp,NO,NO,fun _ _ h=>h,fun _ _ h=>h,fun _ _ h=>h.elim,h4,h5.bare hn⟩
    | false=>
     rw[hn]at hp
     exact⟨_,hp,.one,cs,cs,0,hF,rfl,by simp[show cs.length=1 from h4],rfl⟩
   | agg=>
    simp only at hp
    cases hn:aW cs with
    | true=>rw[hn]at hp;exact⟨_,hp,NO,NO,fun _ _ h=>h,fun _ _ h=>h,fun _ _ h=>h.elim,h4,h5.bare hn⟩
    | false=>
     rw[hn]at hp
     refine⟨_,hp,.agg,cs,cs,0,hF,rfl,by simp,?_⟩
     obtain⟨arr,hv,hsz⟩:=h4
     rw[hv,mW,hsz]
     refine hJ fun j hj=>?_
     show _=bR w .agg _ (0+j)
     rw[Nat.zero_add,By (by simpa using hj)]
   | tup sh=>
    simp only at hp
    cases hn:aW cs with
    | true=>rw[hn]at hp;exact⟨_,hp,NO,NO,fun _ _ h=>h,fun _ _ h=>h,fun _ _ h=>h.elim,h4,h5.bare hn⟩
    | false=>rw[hn]at hp;exact hp.elim
  | dead=>rw[hF]at hp;exact⟨_,hp,trivial⟩
  | ref=>rw[hF]at hp hev;exact⟨_,hp,hev⟩
  | bor=>rw[hF]at hp hev;exact⟨_,hp,hev⟩
  | iref=>rw[hF]at hp hev;exact⟨_,hp,hev⟩
  | fn=>rw[hF]at hp hev;exact⟨_,hp,hev⟩
  | fv=>rw[hF]at hp hev;exact⟨_,hp,hev⟩
 | const v=>exact⟨_,hp,hev⟩
 | global g=>exact⟨_,hp,hev⟩
 | func f=>exact⟨_,hp,hev⟩
theorem uv.same {o:Oper} {av:AV} {v:Value} (h:(execOp a.eval o).run P w=.ok (.value v) w) (hs:cz w S F (tvs a) NO av v):uv P o a w (lV w S F a av):=
 .value h ⟨bw.refl _ _,NO,S,fun _ _ h=>h.elim,fun _ _ h=>h,fun _ _ h=>.inl h,fun _ _ h=>h.elim,hs⟩
def pf (i:TI):Option Nat:=bif i.agg then some i.size else none
def Nk (F:Nat→AV) (i:TI) (t off:Nat) (st:cm) (K:AV→Prop):Prop:=
 tX F t off st fun r j=>bif Nat.beq (bp r j i.size).length i.size then(bif aW (bp r j i.size) then K (.hold (jc (pf i)) (bp r j i.size)) else K (.bor t off st (pf i))) else False
def ta (TE:Nat→Option TI) (F:Nat→AV) (T:Nat) (x:Operand) (K:AV→Prop):Prop:=
 match TE T with
 | none=>False
 | some i=>bif i.agg || Nat.beq i.size 1 then(match x with
   | .tmp t=>match F t with
     | .hold .box _=>Nk F i t 0 [] K
     | .ref t off st=>Nk F i t off st K
     | .iref r off=>bif Nat.beq (bp r off i.size).length i.size then K (.hold (jc (pf i)) (bp r off i.size)) else False
     | _=>False
   | _=>False) else False
theorem ja (g o j:Nat):(⟨g,o,none⟩ : Addr).add j = ⟨g,o+j,none⟩:=by unfold Addr.add;split<;>simp_all
theorem bA.size {t:Nat} {i:TI} (h:bA P t i):(P.info? t).map (·.size)=some i.size:=by
 have:=h.1
 cases hq:P.info? t with
 | none=>rw[hq]at this;cases this
 | some q=>rw[hq]at this;simp only[Option.map_some,Option.some.injEq,Prod.mk.injEq]at this ⊢;exact this.2.1
theorem bA.isAgg {t:Nat} {i:TI} (h:bA P t i):(isAgg t).run P w=.ok i.agg w:=by
 have:=h.2.2
 unfold Go.isAgg TI.agg
 cases hk:i.kind with
 | st flds=>rw[hk]at this;obtain⟨fs,h1,-⟩:=this;simp[run_underlying h1]
 | sl e=>rw[hk]at this;simp[run_underlying this]
 | sc d=>rw[hk]at this;obtain⟨h1,h2⟩:=this;simp[run_underlying h1];cases d<;>first|exact h2.elim|rfl
 | mp k e z=>rw[hk]at this;simp[run_underlying this.1]
theorem jf {t n:Nat} (h:(P.info? t).map (·.size)=some n):(sizeOf t).run P w=.ok n w:=by
 cases hq:P.info? t with
 | none=>rw[hq]at h;cases h
 | some q=>rw[hq]at h;simp only[Option.map_some,Option.some.injEq]at h;simp[sizeOf,typeInfo,hq,h]
theorem vW {T:Nat} {i:TI} (ht:bA P T i) (ha:(i.agg || Nat.beq i.size 1)=true) {g o:Nat} {u:Nat→Value} (hc:∀ d,d<i.size→cel w g (o+d)=some (u d)) :
  (Instr.loadAt T (.pointer (some ⟨g,o,none⟩))).run P w=.ok (mkv (pf i) u) w:=by
 have hA:=ht.isAgg (w:=w)
 unfold Instr.loadAt Instr.sureAddr loadVar pf
 cases hagg:i.agg with
 | true=>
  rw[hagg]at hA
  have:=run_loadCells (P:=P) w ⟨g,o,none⟩ i.size u (fun j hj=>by rw[ja];exact hc j hj)
  simp[hA,jf ht.size,this,mkv]
 | false=>
  rw[hagg]at hA ha
  have h1:i.size=1:=by simpa using ha
  have:=hc 0 (by omega)
  simp only[Nat.add_zero]at this
  simp[hA,this,mkv]
theorem zn {r:List C} {j n:Nat} (h:Nat.beq (bp r j n).length n=true):n=0∨j+n≤r.length:=by
 have:=Nat.eq_of_beq_eq_true h
 simp[bp]at this
 omega
theorem nO {i:TI} (ha:(i.agg || Nat.beq i.size 1)=true):(pf i).getD 1=i.size:=by
 unfold pf
 cases h:i.agg with
 | true=>rfl
 | false=>rw[h]at ha;simp at ha ⊢;omega
theorem bj.ld (h:bj w0 M S0 N S φ F a w) {T:Nat} {i:TI} (ht:bA P T i) (ha:(i.agg || Nat.beq i.size 1)=true) {t off:Nat} {st:cm} {k:Kd} {cs r:List C} {j g o:Nat} {K:AV→Prop} (hF:F t=.hold k cs)
  (hr:bS cs off st=some (r,j)) (hpl:plc w (bR w k (tvs a t)) (pn k (tvs a t)) off st=some (g,o)) (hp:Nk F i t off st K) :
  ∃ av v,K av∧(Instr.loadAt T (.pointer (some ⟨g,o,none⟩))).run P w=.ok v w∧cz w S F (tvs a) NO av v:=by
 obtain⟨Y,u,hY,hrow,hcv,hcell⟩:=h.place hF hr
 obtain⟨k',cs',r',j',hF',hr',hK⟩:=pc hp
 rw[hF]at hF'
 simp only[AV.hold.injEq]at hF'
 obtain⟨rfl,rfl⟩:=hF'
 rw[hr]at hr'
 simp only[Option.some.injEq,Prod.mk.injEq]at hr'
 obtain⟨rfl,rfl⟩:=hr'
 cases hlen:Nat.beq (bp r j i.size).length i.size with
 | false=>rw[hlen]at hK;exact hK.elim
 | true=>
  rw[hlen]at hK
  simp only[cond_true]at hK
  obtain⟨b,rfl,hc⟩:=hcell g o hpl
  have hln:=zn hlen
  have hrun:=vW (w:=w) ht ha (g:=g) (o:=b+j) (u:=fun d=>u (j+d)) (fun d hd=>by rw[Nat.add_assoc];exact hc _ (by omega))
  have hval:bv w S Y (pf i) (bp r j i.size) (mkv (pf i) fun d=>u (j+d)):=⟨by rw[nO ha];exact Nat.eq_of_beq_eq_true hlen,_,rfl,hrow.part j _⟩
  cases hn:aW (bp r j i.size) with
  | true=>
   rw[hn]at hK
   exact⟨_,_,hK,hrun,(hval.bare hn).slot⟩
  | false=>
   rw[hn]at hK
   have h0:i.size≠0:=fun e=>by simp[bp,e,aW]at hn
   refine⟨_,_,hK,hrun,k,cs,r,j,hF,hr,by rw[nO ha];omega,?_⟩
   exact hJ fun d _=>(hcv d).symm
theorem bj.load (h:bj w0 M S0 N S φ F a w) {TE:Nat→Option TI} (hTE:∀ t i,TE t=some i→bA P t i) {T:Nat} {x:Operand} {K:AV→Prop} (hp:ta TE F T x K) :
  ∃ av v,K av∧(Instr.loadAt T (a.eval x)).run P w=.ok v w∧cz w S F (tvs a) NO av v:=by
 unfold ta at hp
 cases hT:TE T with
 | none=>rw[hT]at hp;exact hp.elim
 | some i=>
  rw[hT]at hp
  have ht:=hTE T i hT
  simp only at hp
  cases ha:(i.agg || Nat.beq i.size 1) with
  | false=>rw[ha]at hp;exact hp.elim
  | true=>
   rw[ha]at hp
   cases x with
   | tmp t=>
    have hs:=h.slot t
    show ∃ av v,K av∧(Instr.loadAt T (tvs a t)).run P w=.ok v w∧_
    simp only[cond_true]at hp
    cases hF:F t with
    | hold k cs=>
     rw[hF]at hp hs
     cases k with
     | box=>
      obtain⟨X1,Y,h1,h2,h3,⟨g,o,hv,-⟩,h5⟩:=hs
      have hpl:plc w (bR w .box (tvs a t)) (pn .box (tvs a t)) 0 []=some (g,o):=by rw[hv];rfl
      rw[hv]
      exact h.ld ht ha hF rfl hpl hp
     | _=>exact hp.elim
    | ref t' off st=>
     rw[hF]at hp hs
     obtain⟨k,cs,r,j,g,o,h1,h2,h3,h4⟩:=hs
     rw[h4]
     exact h.ld ht ha h1 h2 h3 hp
    | iref r off=>
     rw[hF]at hp hs
     simp only at hp
     obtain⟨g,b,u,h1,h2,h3⟩:=hs
     cases hlen:Nat.beq (bp r off i.size).length i.size with
     | false=>rw[hlen]at hp;exact hp.elim
     | true=>
      rw[hlen]at hp
      simp only[cond_true]at hp
      have hln:=zn hlen
      rw[h1]
      refine⟨_,_,hp,vW ht ha (u:=fun d=>u (off+d)) (fun d hd=>by rw[Nat.add_assoc];exact(h2 _ (by omega)).2),?_⟩
      exact bv.slot ⟨by rw[nO ha];exact Nat.eq_of_beq_eq_true hlen,_,rfl,h3.part off _⟩
    | dead=>rw[hF]at hp;exact hp.elim
    | bor=>rw[hF]at hp;exact hp.elim
    | fn=>rw[hF]at hp;exact hp.elim
    | fv=>rw[hF]at hp;exact hp.elim
   | _=>exact hp.elim
theorem bj.more (h:bj w0 M S0 N S φ F a w) {S1:ab} (h1:∀ b o,S b o→S1 b o) (h2:∀ b o,S1 b o→S b o∨(b<w1.heap.size∧w.heap.size≤b)) (hk:bw NO w w1):bj w0 M S0 N S1 φ F a w1:=by
 have hall:∀ X:ab,(∀ b o,X b o→b<w.heap.size)→bk X w w1:=fun X hX b o hb=>⟨hk.cel b o (hX b o hb) (fun h=>h),hk.fro b o (hX b o hb) (fun h=>h)⟩
 have hphi:∀ t,bk (φ t) w w1:=fun t=>hall _ fun b o hb=>(h.ex t b o hb).1
 refine⟨fun t=>(h.slot t).keep (φ:=φ) (fun t _ _ _=>h.slot t) (fun t _=>⟨fun _ _ h=>h,rfl,hphi t⟩) (hphi t) (hall _ fun b o hb=>(h.sup b o hb).1) (fun _ _ h=>h) h1,h.dis,fun t b o hb hS=>?_,fun t b o hb=>⟨Nat.lt_of_lt_of_le (h.ex t b o hb).1 hk.size,(h.ex t b o hb).2⟩,
   fun b o hb=>h1 b o (h.sub b o hb),fun b o hb=>?_,h.old.trans hk (fun _ _ h=>h.elim),h.size,h.defers,h.par⟩
 ·rcases h2 b o hS with h'|h'
  ·exact h.disS t b o hb h'
  ·have:=(h.ex t b o hb).1;omega
 ·rcases h2 b o hb with h'|h'
  ·exact⟨Nat.lt_of_lt_of_le (h.sup b o h').1 hk.size,(h.sup b o h').2⟩
  ·exact⟨h'.1,.inr (.inl (Nat.le_trans h.old.size h'.2))⟩
theorem bj.put_newR (h:bj w0 M S0 N S φ F a w) {d:Nat} (hd:N.free d=true) {av:AV} {v:Value} (hv:lV w S F a av v w1) (hav:av.uses d=false):St w0 M S0 N (put F d av) (a.put (some d) v) w1:=by
 obtain⟨hk,X,S1,h1,h2,h3,h4,h5⟩:=hv
 have h':=h.more h2 h3 hk
 exact⟨S1,_,h'.put_gen (bw.refl _ _) hd h5 hav (fun b o hb=>⟨(h1 b o hb).1,.inl (Nat.le_trans h.old.size (h1 b o hb).2)⟩)
   (fun t _ b o hb hb'=>by have:=(h.ex t b o hb').1;have:=(h1 b o hb).2;omega) h4⟩
end
end Go.Proofs.YtplcalfnngkffaaGreat.Ab
/- More operations that write only their own slot: addresses, numbers, new memory, calls. No condition. -/
namespace Go.Proofs.YtplcalfnngkffaaGreat.Ab
open Go.RowKit
def jN:cm→Nat→cm
 | [],_=>[]
 | [(i,k,j)],o=>[(i,k,j+o)]
 | s::s2::st,o=>s::jN (s2::st) o
def pH (off:Nat):cm→Nat→Nat
 | [],o=>off+o
 | _::_,_=>off
theorem yK:∀ (st:cm) {cs:List C} {off:Nat} {r:List C} {j:Nat} (o:Nat),bS cs off st=some (r,j)→bS cs (pH off st o) (jN st o)=some (r,j+o)
 | [],cs,off,r,j,o,h=>by
  simp only[bS,Option.some.injEq,Prod.mk.injEq]at h
  obtain⟨rfl,rfl⟩:=h
  rfl
 | [(i,k,j0)],cs,off,r,j,o,h=>by
  simp only[bS]at h
  simp only[pH,jN,bS]
  split at h
  ·rename_i o' rows hc
   split at h
   ·rename_i r' hi
    split at h
    ·simp only[Option.some.injEq,Prod.mk.injEq]at h
     obtain⟨rfl,rfl⟩:=h
     rename_i hk
     rw[if_pos hk]
    ·cases h
   ·cases h
  ·cases h
 | s::s2::st,cs,off,r,j,o,h=>by
  obtain⟨i,k,j0⟩:=s
  rw[bS]at h
  simp only[pH,jN]
  rw[bS]
  split at h
  ·split at h
   ·split at h
    ·rename_i hk
     rw[if_pos hk]
     have:=yK (s2::st) o h
     simpa[pH] using this
    ·cases h
   ·cases h
  ·cases h
theorem Hc {w:World} : ∀ (st:cm) {u:Nat→Value} {top:Option (Nat × Nat)} {off g x:Nat} (o:Nat),plc w u top off st=some (g,x)→plc w u top (pH off st o) (jN st o)=some (g,x+o)
 | [],u,top,off,g,x,o,h=>by
  cases top with
  | none=>cases h
  | some p=>
   simp only[plc,Option.map_some,Option.some.injEq,Prod.mk.injEq]at h
   obtain⟨rfl,rfl⟩:=h
   simp only[plc,pH,jN,Option.map_some,Nat.add_assoc]
 | [(i,k,j0)],u,top,off,g,x,o,h=>by
  simp only[plc]at h
  simp only[pH,jN,plc]
  split at h
  ·simp only[Option.map_some,Option.some.injEq,Prod.mk.injEq]at h
   obtain⟨rfl,rfl⟩:=h
   simp only[Option.map_some,Nat.add_assoc]
  ·cases h
 | s::s2::st,u,top,off,g,x,o,h=>by
  obtain⟨i,k,j0⟩:=s
  rw[plc]at h
  simp only[pH,jN]
  rw[plc]
  split at h
  ·have:=Hc (s2::st) o h
   simpa[pH] using this
  ·cases h
def nN (F:Nat→AV) (x:Operand) (o:Nat) (K:AV→Prop):Prop:=
 match x with
 | .tmp t=>match F t with
  | .hold .box _=>K (.ref t o [])
  | .ref t off st=>K (.ref t (pH off st o) (jN st o))
  | .iref r off=>K (.iref r (off+o))
  | _=>False
 | _=>False
def gV (TE:Nat→Option TI) (F:Nat→AV) (T:Nat) (x:Operand) (f:Nat) (K:AV→Prop):Prop:=
 match TE T with
 | some ⟨_,_,_,.st flds⟩=>match flds[f]? with
  | some (o,ft)=>match TE ft with
   | some fi=>bif Nat.beq fi.size 0 then False else nN F x o K
   | none=>False
  | none=>False
 | _=>False
def qt (st:cm) (s:Nat × Nat × Nat):cm:=st++[s]
theorem uC:∀ (st:cm) {cs:List C} {off:Nat} {r:List C} {j i k:Nat} {o:dE} {rows:List (List C)} {r':List C},bS cs off st=some (r,j)→r[j]? = some (.s o rows)→rows[i]? = some r'→r'.length=k→
  bS cs off (qt st (i,k,0))=some (r',0)
 | [],cs,off,r,j,i,k,o,rows,r',h,h1,h2,h3=>by
  simp only[bS,Option.some.injEq,Prod.mk.injEq]at h
  obtain⟨rfl,rfl⟩:=h
  simp only[qt,List.nil_append,bS,h1,h2,h3,if_true]
 | (i0,k0,j0)::st,cs,off,r,j,i,k,o,rows,r',h,h1,h2,h3=>by
  simp only[bS]at h
  simp only[qt,List.cons_append,bS]
  split at h
  ·split at h
   ·split at h
    ·rename_i hk
     rw[if_pos hk]
     exact uC st h h1 h2 h3
    ·cases h
   ·cases h
  ·cases h
theorem BG {w:World} : ∀ (st:cm) {u:Nat→Value} {top:Option (Nat × Nat)} {off i k g b n cap:Nat},cellv w u off st 0=.slice (some ⟨g,b,none⟩) n cap→plc w u top off (qt st (i,k,0))=some (g,b+i*k)
 | [],u,top,off,i,k,g,b,n,cap,h=>by
  simp only[cellv,Nat.add_zero]at h
  simp only[qt,List.nil_append,plc,h,Option.map_some,Nat.add_zero]
 | (i0,k0,j0)::st,u,top,off,i,k,g,b,n,cap,h=>by
  simp only[cellv]at h
  simp only[qt,List.cons_append,plc]
  split at h
  ·exact BG st h
  ·cases h
def EE (F:Nat→AV) (x:Operand) (K:Value→Prop):Prop:=iA F (nj F x) fun ag cs=>match ag,cs with|none,[.v z]=>K z|_,_=>False
def Gc (size:Nat) (t off:Nat) (st:cm) (c:C) (i:Int) (K:AV→Prop):Prop:=
 match c with
 | .s o rows=>Ix rows i fun r=>bif Nat.beq r.length size then(bif o.mine then K (.ref t off (qt st (i.toNat,size,0))) else K (.iref r 0)) else False
 | _=>False
def mK (F:Nat→AV) (size:Nat) (x:Operand) (i:Int) (K:AV→Prop):Prop:=
 match x with
 | .tmp t=>match F t with
  | .hold .one [c]=>Gc size t 0 [] c i K
  | .bor t off st none=>tX F t off st fun r j=>match r[j]? with|some c=>Gc size t off st c i K|none=>False
  | _=>False
 | _=>False
def gY (TE:Nat→Option TI) (F:Nat→AV) (T:Nat) (x y:Operand) (K:AV→Prop):Prop:=
 match TE T with
 | some ⟨_,_,_,.sl e⟩=>match TE e with
  | some ei=>EE F y fun v=>match v with
   | .int _ i=>mK F ei.size x i K
   | _=>False
  | none=>False
 | _=>False
section
variable {P:Program} {w0 w w1:World} {M S0 S:ab} {N:fF} {φ:Nat→ab} {F:Nat→AV} {a:Act}
theorem bj.scalar (h:bj w0 M S0 N S φ F a w) {x:Operand} {K:Value→Prop} (hp:EE F x K):K (a.eval x)∧(a.eval x).oneCell'=true:=by
 obtain⟨ag,cs,Y,hK,⟨hl,u,hv,f,h1,-⟩,-⟩:=h.val (h.ev x) hp
 match ag,cs,hK with
 | none,[.v z],hK=>
  have hr:=h1 0 _ rfl
  have e:u 0=z∧z.oneCell'=true:=by
   generalize u 0=y at hr
   cases hr
   exact⟨rfl,by assumption⟩
  have:a.eval x=z:=by rw[hv];exact e.1
  rw[this]
  exact⟨hK,e.2⟩
theorem bj.fieldAddr (h:bj w0 M S0 N S φ F a w) {TE:Nat→Option TI} (hTE:∀ t i,TE t=some i→bA P t i) {T:Nat} {x:Operand} {f:Nat} {K:AV→Prop} (hp:gV TE F T x f K) :
  ∃ av v,K av∧(Instr.fieldAt T (a.eval x) f).run P w=.ok v w∧cz w S F (tvs a) NO av v:=by
 unfold gV at hp
 split at hp
 case h_2=>exact hp.elim
 rename_i sz by_ z flds hT
 split at hp
 case h_2=>exact hp.elim
 rename_i o ft hf
 split at hp
 case h_2=>exact hp.elim
 rename_i fi hfi
 cases h0:Nat.beq fi.size 0 with
 | true=>rw[h0]at hp;exact hp.elim
 | false=>
  rw[h0]at hp
  simp only[cond_false]at hp
  unfold nN at hp
  obtain⟨fs,hu,hfs⟩:=(hTE _ _ hT).2.2
  have hfd:∃ fd,fs[f]? = some fd∧fd.offset=o∧fd.type=ft:=by
   have:(fs.toList.map (fun f=>(f.offset,f.type)))[f]? = some (o,ft):=by rw[hfs];exact hf
   rw[List.getElem?_map,Array.getElem?_toList]at this
   cases hx:fs[f]? with
   | none=>rw[hx]at this;cases this
   | some fd=>rw[hx]at this;simp only[Option.map_some,Option.some.injEq,Prod.mk.injEq]at this;exact⟨fd,rfl,this⟩
  obtain⟨fd,hfd,rfl,rfl⟩:=hfd
  have hne:fi.size≠0:=fun e=>by rw[e]at h0;cases h0
  have hsz:=jf (w:=w) (hTE _ _ hfi).size
  have run:∀ g b,(Instr.fieldAt T (.pointer (some ⟨g,b,none⟩)) f).run P w=.ok (.pointer (some ⟨g,b+fd.offset,none⟩)) w:=fun g b=>by
   simp[Instr.fieldAt,run_underlying hu,hfd,Instr.sureAddr,fieldPlace,hsz,hne,ja]
  cases x with
  | tmp t=>
   have hs:=h.slot t
   show ∃ av v,K av∧(Instr.fieldAt T (tvs a t) f).run P w=.ok v w∧_
   simp only at hp
   cases hF:F t with
   | hold k cs=>
    rw[hF]at hp hs
    cases k with
    | box=>
     obtain⟨X1,Y,h1,h2,h3,⟨g,b,hv,-⟩,h5⟩:=hs
     exact⟨_,_,hp,by rw[hv];exact run g b,.box,cs,cs,fd.offset,g,b+fd.offset,hF,rfl,by rw[hv];rfl,rfl⟩
    | _=>exact hp.elim
   | ref t' off st=>
    rw[hF]at hp hs
    obtain⟨k,cs,r,j,g,b,h1,h2,h3,h4⟩:=hs
    exact⟨_,_,hp,by rw[h4];exact run g b,k,cs,r,j+fd.offset,g,b+fd.offset,h1,yK st _ h2,Hc st _ h3,rfl⟩
   | iref r off=>
    rw[hF]at hp hs
    obtain⟨g,b,u,h1,h2,h3⟩:=hs
    exact⟨_,_,hp,by rw[h1];exact run g (b+off),g,b,u,by rw[Nat.add_assoc],h2,h3⟩
   | dead=>rw[hF]at hp;exact hp.elim
   | bor=>rw[hF]at hp;exact hp.elim
   | fn=>rw[hF]at hp;exact hp.elim
   | fv=>rw[hF]at hp;exact hp.elim
  | _=>exact hp.elim
theorem ez.rowImm {w:World} {S F:ab} {rows:List (List C)} {v:Value} (h:ez w S F (.s .imm rows) v) {i:Nat} {r:List C} (hi:rows[i]? = some r) :
  ∃ g b n cap u,v=.slice (some ⟨g,b,none⟩) n cap∧i<n∧(∀ d,d<r.length→S g (b+i*r.length+d)∧cel w g (b+i*r.length+d)=some (u d))∧co w S NO r u:=by
 generalize hc:C.s .imm rows=c at h
 induction h with
 | v=>cases hc
 | x=>cases hc
 | z=>cases hc
 | m=>cases hc
 | it=>cases hc
 | nil F o a ho=>cases hc;simp at hi
 | own F o g k n cap rows u f ho=>cases hc;exact ho.elim
 | imm F g off k n cap rows' u hn hk hcap hS hcc _=>
  cases hc
  have hr:r.length=k:=hk r (List.mem_of_getElem? hi)
  have hin:i<n:=by have:=(List.getElem?_eq_some_iff.1 hi).1;omega
  refine⟨g,off,n,cap,fun d=>u (i*k+d),rfl,hin,fun d hd=>?_,fun _=>NO,fun j c hj=>hcc i j r c hi hj,fun _ _ _ _ h=>h,fun _ _ _ _ _ _ _ h=>h.elim⟩
  have:=hS (i*k+d) (eZ hin (by omega))
  rw[hr,Nat.add_assoc]
  exact this
theorem tK {T e sz g b n cap:Nat} {i:Int} {k:IntKind} (hu:P.underlying T=some (.slice e)) (hs:(P.info? e).map (·.size)=some sz) (h0:0≤i) (hn:i.toNat<n) :
  (Instr.indexAt T (.slice (some ⟨g,b,none⟩) n cap) (.int k i)).run P w=.ok (.pointer (some ⟨g,b+i.toNat*sz,none⟩)) w:=by
 have hin:i<n:=by omega
 simp[Instr.indexAt,run_underlying hu,asIntOf,h0,hin,jf hs,ja]
theorem bj.indexAddr (h:bj w0 M S0 N S φ F a w) {TE:Nat→Option TI} (hTE:∀ t i,TE t=some i→bA P t i) {T:Nat} {x y:Operand} {K:AV→Prop} (hp:gY TE F T x y K) :
  ∃ av v,K av∧(Instr.indexAt T (a.eval x) (a.eval y)).run P w=.ok v w∧cz w S F (tvs a) NO av v:=by
 unfold gY at hp
 split at hp
 case h_2=>exact hp.elim
 rename_i sz by_ z e hT
 split at hp
 case h_2=>exact hp.elim
 rename_i ei hei
 obtain⟨hy,-⟩:=h.scalar hp
 generalize a.eval y=vy at hy
 have hu:P.underlying T=some (.slice e):=(hTE _ _ hT).2.2
 have hsz:=(hTE _ _ hei).size
 cases vy with
 | int k i=>
  have go:∀ (t off:Nat) (st:cm) (k0:Kd) (cs r:List C) (j:Nat) (c:C) (v:Value) (Y:ab),F t=.hold k0 cs→bS cs off st=some (r,j)→r[j]? = some c→v=cellv w (bR w k0 (tvs a t)) off st 0→ez w S Y c v→Gc ei.size t off st c i K→
    ∃ av v',K av∧(Instr.indexAt T v (.int k i)).run P w=.ok v' w∧cz w S F (tvs a) NO av v':=by
   intro t off st k0 cs r j c v Y hF hr hj hv hrep hix
   cases c with
   | s o rows=>
    obtain⟨h0,r',hr',hK⟩:=Ix.out hix
    cases hl:Nat.beq r'.length ei.size with
    | false=>rw[hl]at hK;exact hK.elim
    | true=>
     rw[hl]at hK
     simp only[cond_true]at hK
     have hl':=Nat.eq_of_beq_eq_true hl
     cases hm:o.mine with
     | true=>
      rw[hm]at hK
      obtain⟨g,b,n,cap,hv',hin,-⟩:=hrep.row hr'
      refine⟨_,_,hK,by rw[hv'];exact tK hu hsz h0 hin,k0,cs,r',0,g,b+i.toNat*ei.size,hF,uC st hr hj hr' hl',BG st (by rw[←hv,hv']),rfl⟩
     | false=>
      rw[hm]at hK
      have:o=.imm:=by cases o with|imm=>rfl|own=>cases hm|tag v=>cases hm
      subst this
      obtain⟨g,b,n,cap,u,hv',hin,hcell,hrow⟩:=hrep.rowImm hr'
      refine⟨_,_,hK,by rw[hv'];exact tK hu hsz h0 hin,g,b+i.toNat*ei.size,u,rfl,fun d hd=>?_,hrow⟩
      rw[←hl'];exact hcell d hd
   | _=>exact hix.elim
  simp only at hy
  unfold mK at hy
  cases x with
  | tmp t=>
   have hs:=h.slot t
   show ∃ av v,K av∧(Instr.indexAt T (tvs a t) (.int k i)).run P w=.ok v w∧_
   simp only at hy
   cases hF:F t with
   | hold k0 cs=>
    rw[hF]at hy hs
    cases k0 with
    | one=>
     match cs,hy,hs,hF with
     | [c],hy,hs,hF=>
      obtain⟨X1,Y,h1,h2,h3,h4,f,h5,-⟩:=hs
      exact go t 0 [] .one [c] [c] 0 c (tvs a t) _ hF rfl rfl rfl (h5 0 c rfl) hy
    | _=>exact hy.elim
   | bor t' off st ag=>
    rw[hF]at hy hs
    cases ag with
    | none=>
     replace hy:tX F t' off st fun r j=>match r[j]? with|some c=>Gc ei.size t' off st c i K|none=>False:=hy
     obtain⟨k0,cs,r,j,hF',hr,hy⟩:=pc hy
     obtain⟨k1,cs1,r1,j1,hF1,hr1,hlen,hv⟩:=hs
     rw[hF']at hF1
     simp only[AV.hold.injEq]at hF1
     obtain⟨rfl,rfl⟩:=hF1
     rw[hr]at hr1
     simp only[Option.some.injEq,Prod.mk.injEq]at hr1
     obtain⟨rfl,rfl⟩:=hr1
     obtain⟨Y,u,hY,⟨f,hf,-⟩,hcv,-⟩:=h.place hF' hr
     cases hc:r[j]? with
     | none=>rw[hc]at hy;exact hy.elim
     | some c=>
      rw[hc]at hy
      refine go t' off st k0 cs r j c _ (f j) hF' hr hc hv ?_ hy
      rw[hv]
      show ez w S (f j) c (cellv w _ off st 0)
      rw[hcv 0,Nat.add_zero]
      exact hf j c hc
    | some n=>exact hy.elim
   | dead=>rw[hF]at hy;exact hy.elim
   | ref=>rw[hF]at hy;exact hy.elim
   | iref=>rw[hF]at hy;exact hy.elim
   | fn=>rw[hF]at hy;exact hy.elim
   | fv=>rw[hF]at hy;exact hy.elim
  | _=>exact hy.elim
 | _=>exact hy.elim
def gc:IntKind→IntKind→Bool
 | .i64,.i64=>true
 | .u8,.u8=>true
 | .u64,.u64=>true
 | .u32,.u32=>true
 | .i32,.i32=>true
 | .u16,.u16=>true
 | .i16,.i16=>true
 | .i8,.i8=>true
 | _,_=>false
theorem KO {k k':IntKind} (h:gc k k'=true):k=k':=by cases k<;>cases k'<;>first|rfl|cases h
def zz (op:BinOp) (x y:Value) (K:Value→Prop):Prop:=
 match x,y with
 | .int k a,.int k' b=>
  match op with
  | .add=>bif gc k k' then Wr k (a+b) fun z=>K (.int k z) else False
  | .sub=>bif gc k k' then Wr k (a - b) fun z=>K (.int k z) else False
  | .mul=>bif gc k k' then Wr k (a*b) fun z=>K (.int k z) else False
  | .quo=>bif gc k k' then Cd (b≠0) (Wr k (a.tdiv b) fun z=>K (.int k z)) else False
  | .rem=>bif gc k k' then Cd (b≠0) (Ev (a.tmod b) fun z=>K (.int k z)) else False
  | .and=>bif gc k k' then Wr k (BitVec.ofInt k.bits a &&& BitVec.ofInt k.bits b).toNat fun z=>K (.int k z) else False
  | .or=>bif gc k k' then Wr k (BitVec.ofInt k.bits a ||| BitVec.ofInt k.bits b).toNat fun z=>K (.int k z) else False
  | .xor=>bif gc k k' then Wr k (BitVec.ofInt k.bits a ^^^ BitVec.ofInt k.bits b).toNat fun z=>K (.int k z) else False
  | .andNot=>bif gc k k' then Wr k (BitVec.ofInt k.bits a &&& ~~~BitVec.ofInt k.bits b).toNat fun z=>K (.int k z) else False
  | .shl=>Cd (0≤b) (Wr k (a*2 ^ (min b.toNat k.bits)) fun z=>K (.int k z))
  | .shr=>Cd (0≤b) (Ev (a.fdiv (2 ^ (min b.toNat k.bits))) fun z=>K (.int k z))
  | .eql=>bif gc k k' then K (.bool (a == b)) else False
  | .neq=>bif gc k k' then K (.bool (a != b)) else False
  | .lss=>bif gc k k' then K (.bool (decide (a<b))) else False
  | .leq=>bif gc k k' then K (.bool (decide (a≤b))) else False
  | .gtr=>bif gc k k' then K (.bool (decide (a > b))) else False
  | .geq=>bif gc k k' then K (.bool (decide (a≥b))) else False
 | _,_=>False
theorem KF {op:BinOp} {T:Nat} {vx vy:Value} {K:Value→Prop} {x y:Operand} (hp:zz op vx vy K):∃ v,K v∧v.oneCell'=true∧(do eqGuard op T x y vx vy;binOp op T vx vy:Sem Value).run P w=.ok v w:=by
 cases vx<;>cases vy<;>try exact hp.elim
 rename_i k a k' b
 have hg:(eqGuard op T x y (.int k a) (.int k' b)).run P w=.ok () w:=by
  unfold eqGuard;split<;>rfl
 rw[Sem.run_bind,hg]
 have sk:∀ {X:Prop},(bif gc k k' then X else False)→k=k'∧X:=fun {X} h=>by
  cases hs:gc k k' with
  | true=>rw[hs]at h;exact⟨KO hs,h⟩
  | false=>rw[hs]at h;exact h.elim
 cases op<;>simp only[zz]at hp
 case add=>obtain⟨rfl,h⟩:=sk hp;obtain⟨z,rfl,h⟩:=h.out;exact⟨_,h,rfl,by simp[binOp,Op.intArith]⟩
 case sub=>obtain⟨rfl,h⟩:=sk hp;obtain⟨z,rfl,h⟩:=h.out;exact⟨_,h,rfl,by simp[binOp,Op.intArith]⟩
 case mul=>obtain⟨rfl,h⟩:=sk hp;obtain⟨z,rfl,h⟩:=h.out;exact⟨_,h,rfl,by simp[binOp,Op.intArith]⟩
 case quo=>obtain⟨rfl,h⟩:=sk hp;obtain⟨h0,h⟩:=h.out;obtain⟨z,rfl,h⟩:=h.out;exact⟨_,h,rfl,by simp[binOp,Op.intDiv,h0]⟩
 case rem=>obtain⟨rfl,h⟩:=sk hp;obtain⟨h0,h⟩:=h.out;obtain⟨z,rfl,h⟩:=h.out;exact⟨_,h,rfl,by simp[binOp,Op.intDiv,h0]⟩
 case and=>obtain⟨rfl,h⟩:=sk hp;obtain⟨z,rfl,h⟩:=h.out;exact⟨_,h,rfl,by simp[binOp,Op.intBits]⟩
 case or=>obtain⟨rfl,h⟩:=sk hp;obtain⟨z,rfl,h⟩:=h.out;exact⟨_,h,rfl,by simp[binOp,Op.intBits]⟩
 case xor=>obtain⟨rfl,h⟩:=sk hp;obtain⟨z,rfl,h⟩:=h.out;exact⟨_,h,rfl,by simp[binOp,Op.intBits]⟩
 case andNot=>obtain⟨rfl,h⟩:=sk hp;obtain⟨z,rfl,h⟩:=h.out;exact⟨_,h,rfl,by simp[binOp,Op.intBits]⟩
 case shl=>obtain⟨h0,h⟩:=hp.out;obtain⟨z,rfl,h⟩:=h.out;exact⟨_,h,rfl,by simp[binOp,Op.shift,Int.not_lt.2 h0]⟩
 case shr=>obtain⟨h0,h⟩:=hp.out;obtain⟨z,rfl,h⟩:=h.out;exact⟨_,h,rfl,by simp[binOp,Op.shift,Int.not_lt.2 h0]⟩
 case eql=>obtain⟨rfl,h⟩:=sk hp;exact⟨_,h,rfl,by simp[binOp,Op.intCmp]⟩
 case neq=>obtain⟨rfl,h⟩:=sk hp;exact⟨_,h,rfl,by simp[binOp,Op.intCmp]⟩
 case lss=>obtain⟨rfl,h⟩:=sk hp;exact⟨_,h,rfl,by simp[binOp,Op.intCmp]⟩
 case leq=>obtain⟨rfl,h⟩:=sk hp;exact⟨_,h,rfl,by simp[binOp,Op.intCmp]⟩
 case gtr=>obtain⟨rfl,h⟩:=sk hp;exact⟨_,h,rfl,by simp[binOp,Op.intCmp]⟩
 case geq=>obtain⟨rfl,h⟩:=sk hp;exact⟨_,h,rfl,by simp[binOp,Op.intCmp]⟩
theorem lg {v:Value} (h:v.oneCell'=true):cz w S F (tvs a) NO (.hold .one [.v v]) v:=
 ⟨NO,NO,fun _ _ h=>h,fun _ _ h=>h,fun _ _ _ h=>h,rfl,fun _=>NO,fun j c hj=>by cases j with|zero=>simp at hj;subst hj;exact .v _ _ h|succ j=>simp at hj,fun _ _ _ _ h=>h,fun _ _ _ _ _ _ _ h=>h.elim⟩
end
end Go.Proofs.YtplcalfnngkffaaGreat.Ab
/- Operations that make memory or call, on abstract frames; all slot-only operations together. No condition. -/
namespace Go.Proofs.YtplcalfnngkffaaGreat.Ab
open Go.RowKit
def wU (TE:Nat→Option TI) (T:Nat) (K:AV→Prop):Prop:=
 match TE T with
 | some i=>K (.hold .box i.zero)
 | none=>False
def LX (F:Nat→AV) (x:Operand) (K:AV→Prop):Prop:=
 iA F (nj F x) fun _ cs=>bif aW cs then K (.hold .box cs) else False
section
variable {P:Program} {w0 w w1:World} {M S0 S:ab} {N:fF} {φ:Nat→ab} {F:Nat→AV} {a:Act}
theorem gM (w:World) (cells:Array Value) (e:TypeId) (j:Nat):cel (w.alloc (.cells cells e)) w.heap.size j=cells[j]?:=
 cell_of_row (w.alloc (.cells cells e)) w.heap.size j cells e (0,0) (heap_alloc_new w _)
theorem iO (w:World) (cells:Array Value) (e:TypeId) (j:Nat):fro (w.alloc (.cells cells e)) w.heap.size j=NF:=by
 have h:=heap_alloc_new w (.cells cells e)
 refine Prod.ext ?_ (by show mp _ _=none;unfold mp;rw[h])
 show World.frozen? _ _=false
 simp only[World.frozen?,h]
 simp
theorem cQ (w:World) (o:Obj):bw NO w (w.alloc o):=bw.of_below ((Below.refl _ _).alloc (Nat.le_refl _) o) NO
theorem f0 (w:World) (o:Obj):(w.alloc o).heap.size=w.heap.size+1:=by show(w.heap.push o).size=_;simp
theorem hB {X:ab} (hk:bw NO w w1) (hX:∀ b o,X b o→b<w.heap.size):bk X w w1:=fun b o hb=>⟨hk.cel b o (hX b o hb) (fun h=>h),hk.fro b o (hX b o hb) (fun h=>h)⟩
theorem bj.newBox (h:bj w0 M S0 N S φ F a w) {cells:Array Value} {e:TypeId} {cs:List C} {u:Nat→Value} (hl:cs.length=cells.size) (hu:∀ j,j<cs.length→cells[j]? = some (u j)) (hr:co w S NO cs u) :
  lV w S F a (.hold .box cs) (.pointer (some ⟨w.heap.size,0,none⟩)) (w.alloc (.cells cells e)):=by
 refine⟨cQ w _,fun b o=>b=w.heap.size∧o<cs.length,S,fun b o hb=>⟨by rw[f0];omega,by omega⟩,fun _ _ h=>h,fun _ _ h=>.inl h,fun b o hb hS=>by have:=(h.sup b o hS).1;omega,?_⟩
 refine⟨fun b o=>b=w.heap.size∧o<cs.length,NO,fun _ _ h=>h,fun _ _ h=>h.elim,fun _ _ _ h=>h,⟨_,_,rfl,fun j hj=>⟨⟨rfl,by omega⟩,?_,?_⟩⟩,?_⟩
 ·rw[Nat.zero_add,gM];exact⟨_,hu j hj⟩
 ·rw[Nat.zero_add,iO]
 ·refine(hr.keep (hB (cQ w _) fun b o hb=>(h.sup b o hb).1) (fun _ _ h=>h.elim)).congr fun j hj=>?_
  simp only[bR,Nat.zero_add,gM,hu j hj,Option.getD_some]
theorem sv:∀ {cs:List C},aF cs→∀ c∈cs,eB c=false
 | [],_,c,h=>by simp at h
 | c0::cs,h,c,hc=>by
  rcases List.mem_cons.1 hc with rfl|hm
  ·cases c with|s o rows=>exact h.elim|m es=>exact h.elim|it=>exact h.elim|_=>rfl
  ·exact sv (cs:=cs) (by cases c0 with|v x=>exact h.2|z=>exact h|x=>exact h.elim|s o rows=>exact h.elim|m es=>exact h.elim|it=>exact h.elim) c hm
theorem oD:∀ {cs:List C},aF cs→∀ (S:ab),co w S NO cs (fun j=>(cs.map cval).getD j undef)
 | [],_,S=>co.nil _ _ _ _
 | c::cs,h,S=>by
  refine⟨fun _=>NO,fun j c' hj=>?_,fun _ _ _ _ h=>h,fun _ _ _ _ _ _ _ h=>h.elim⟩
  cases j with
  | zero=>
   simp only[List.getElem?_cons_zero,Option.some.injEq]at hj
   subst hj
   cases c with
   | v x=>exact .v _ x h.1
   | z=>exact .z _ none
   | x=>exact h.elim
   | s o rows=>exact h.elim
   | m es=>exact h.elim
   | it=>exact h.elim
  | succ j=>
   have h':aF cs:=by cases c with|v x=>exact h.2|z=>exact h|x=>exact h.elim|s o rows=>exact h.elim|m es=>exact h.elim|it=>exact h.elim
   obtain⟨f,h1,-,-⟩:=oD (cs:=cs) h' S
   have hc:=h1 j c' (by simpa using hj)
   have hown:eB c'=false:=sv h' c' (List.mem_of_getElem? (i:=j) (by simpa using hj))
   have:=hc.bare (F':=NO) hown
   simpa using this
theorem bA.zero {t:Nat} {i:TI} (h:bA P t i):∃ z,(zeroValue t).run P w=.ok z w∧z.cells.toList=i.zero.map cval:=by
 have:=h.1
 cases hq:P.info? t with
 | none=>rw[hq]at this;cases this
 | some q=>
  rw[hq]at this
  simp only[Option.map_some,Option.some.injEq,Prod.mk.injEq]at this
  cases hz:q.zero with
  | none=>rw[hz]at this;cases this.1
  | some z=>rw[hz]at this;exact⟨z,by simp[zeroValue,typeInfo,hq,hz],by simpa using this.1⟩
theorem bj.alloc (h:bj w0 M S0 N S φ F a w) {TE:Nat→Option TI} (hTE:∀ t i,TE t=some i→bA P t i) {T:Nat} {K:AV→Prop} (hp:wU TE T K) :
  ∃ av v w1,K av∧(Instr.alloc T true (.tuple #[])).run P w=.ok v w1∧lV w S F a av v w1:=by
 unfold wU at hp
 split at hp
 case h_2=>exact hp.elim
 rename_i i hT
 have ht:=hTE _ _ hT
 obtain⟨z,hz,hzc⟩:=ht.zero (w:=w)
 refine⟨_,_,w.alloc (.cells z.cells T),hp,?_,h.newBox (u:=fun j=>(i.zero.map cval).getD j undef) ?_ (fun j hj=>?_) (oD ht.2.1 S)⟩
 ·simp[Instr.alloc,hz,newVar,newRow]
 ·have:=congrArg List.length hzc;simpa using this.symm
 ·rw[←Array.getElem?_toList,hzc,List.getD,List.getElem?_eq_getElem (by simpa using hj)];rfl
theorem oI {ag:Option Nat} {u:Nat→Value} (h1:ag=none→(u 0).oneCell'=true):(mkv ag u).cells.toList=(List.range (ag.getD 1)).map u:=by
 cases ag with
 | none=>
  have:=h1 rfl
  show(u 0).cells.toList=_
  cases hu:u 0<;>first|(rw[hu]at this;cases this;done)|simp[Value.cells,hu,List.range_succ]
 | some n=>simp[mkv,Value.cells]
theorem bv.cells {Y:ab} {ag:Option Nat} {cs:List C} {v:Value} (h:bv w S Y ag cs v):∃ u,v.cells.toList=(List.range cs.length).map u∧co w S Y cs u:=by
 obtain⟨hl,u,rfl,hr⟩:=h
 refine⟨u,?_,hr⟩
 rw[oI (fun e=>by subst e;exact hr.one (by simp at hl;omega)),hl]
theorem bj.box (h:bj w0 M S0 N S φ F a w) {T:Nat} {x:Operand} {K:AV→Prop} (hp:LX F x K) :
  ∃ av v w1,K av∧(Instr.box T (a.eval x)).run P w=.ok v w1∧lV w S F a av v w1:=by
 obtain⟨ag,cs,Y,hK,hv,-⟩:=h.val (h.ev x) hp
 cases hn:aW cs with
 | false=>rw[hn]at hK;exact hK.elim
 | true=>
  rw[hn]at hK
  obtain⟨u,hu,hr⟩:=hv.cells
  refine⟨_,_,w.alloc (.cells (a.eval x).cells T),hK,by simp[Instr.box,newVar,newRow],h.newBox (u:=u) ?_ (fun j hj=>?_) (hr.bare hn)⟩
  ·have:=congrArg List.length hu;simpa using this.symm
  ·rw[←Array.getElem?_toList,hu];simp[hj]
def G3 (F:Nat→AV) (c x y:Operand) (K:AV→Prop):Prop:=
 EE F c fun v=>match v with|.bool b=>Bf b (bo F x K) (bo F y K)|_=>False
theorem bj.pick (h:bj w0 M S0 N S φ F a w) {c x y:Operand} {K:AV→Prop} (hp:G3 F c x y K) :
  ∃ av b,K av∧a.eval c=.bool b∧cz w S F (tvs a) NO av (if b then a.eval x else a.eval y):=by
 obtain⟨hc,-⟩:=h.scalar hp
 cases hv:a.eval c<;>rw[hv]at hc<;>try exact hc.elim
 rename_i b
 cases b with
 | true=>obtain⟨av,hK,hs⟩:=h.move (Bf.out hc);exact⟨av,true,hK,rfl,hs⟩
 | false=>obtain⟨av,hK,hs⟩:=h.move (Bf.out hc);exact⟨av,false,hK,rfl,hs⟩
def LU (op:UnOp) (x:Value) (K:Value→Prop):Prop:=
 match op,x with
 | .not,.bool b=>K (.bool !b)
 | .neg,.int k n=>Wr k (0 - n) fun z=>K (.int k z)
 | _,_=>False
theorem Mp {op:UnOp} {x:Value} {K:Value→Prop} (hp:LU op x K):∃ v,K v∧v.oneCell'=true∧(Op.unary op x).run P w=.ok v w:=by
 unfold LU at hp
 split at hp
 ·exact⟨_,hp,rfl,rfl⟩
 ·obtain⟨z,rfl,h⟩:=hp.out;exact⟨_,h,rfl,rfl⟩
 ·exact hp.elim
def FU (TE:Nat→Option TI) (F:Nat→AV) (T:Nat) (x:Operand) (K:AV→Prop):Prop:=
 match TE T with
 | some ⟨_,_,_,.sl _⟩=>iA F (nj F x) fun ag cs=>match ag,cs with
  | none,[.s _ rows]=>Ln rows.length fun n=>K (.hold .one [.v (.int .i64 (n:Nat))])
  | none,[.z]=>K (.hold .one [.v (.int .i64 0)])
  | _,_=>False
 | some ⟨_,_,_,.sc .string⟩=>EE F x fun v=>match v with
  | .string s=>Ln s.size fun n=>K (.hold .one [.v (.int .i64 (n:Nat))])
  | _=>False
 | _=>False
theorem ez.slice {F:ab} {o:dE} {rows:List (List C)} {v:Value} (h:ez w S F (.s o rows) v):∃ b cap,v=.slice b rows.length cap:=by
 generalize hc:C.s o rows=c at h
 cases h with
 | v=>cases hc
 | x=>cases hc
 | z=>cases hc
 | m=>cases hc
 | it=>cases hc
 | nil=>cases hc;exact⟨_,_,rfl⟩
 | own=>cases hc;subst_vars;exact⟨_,_,rfl⟩
 | imm=>cases hc;subst_vars;exact⟨_,_,rfl⟩
theorem bj.len (h:bj w0 M S0 N S φ F a w) {TE:Nat→Option TI} (hTE:∀ t i,TE t=some i→bA P t i) {T ty:Nat} {x:Operand} {K:AV→Prop} (hp:FU TE F T x K) :
  ∃ v,K (.hold .one [.v v])∧v.oneCell'=true∧(Builtin.len_ #[T] ty #[a.eval x]).run P w=.ok v w:=by
 unfold FU at hp
 split at hp
 ·rename_i hT
  have hu:=(hTE _ _ hT).2.2
  obtain⟨ag,cs,Y,hK,⟨hl,u,hv,f,h1,-⟩,-⟩:=h.val (h.ev x) hp
  match ag,cs,hK with
  | none,[.s o rows],hK=>
   obtain⟨b,cap,hs⟩:=(h1 0 _ rfl).slice
   have:a.eval x=.slice b rows.length cap:=hv.trans hs
   rw[this]
   exact⟨_,Ln.out hK,rfl,by simp[Builtin.len_,run_underlying hu,goInt]⟩
  | none,[.z],hK=>
   have hr:=h1 0 _ rfl
   have:∃ b,u 0=.slice b 0 0:=by
    generalize u 0=y at hr
    cases hr;exact⟨_,rfl⟩
   obtain⟨b,hb⟩:=this
   have:a.eval x=.slice b 0 0:=hv.trans hb
   rw[this]
   exact⟨_,hK,rfl,by simp[Builtin.len_,run_underlying hu,goInt]⟩
 ·rename_i hT
  have hu:=(hTE _ _ hT).2.2.1
  obtain⟨hc,-⟩:=h.scalar hp
  cases hv:a.eval x<;>rw[hv]at hc<;>try exact hc.elim
  exact⟨_,Ln.out hc,rfl,by simp[Builtin.len_,run_underlying hu,goInt]⟩
 ·exact hp.elim
end
end Go.Proofs.YtplcalfnngkffaaGreat.Ab
/- A slot's cells taken away or written, on abstract frames. No condition. -/
namespace Go.Proofs.YtplcalfnngkffaaGreat.Ab
open Go.RowKit
def qW (t:Nat):AV→AV
 | .bor t' off st ag=>bif Nat.beq t' t then .dead else .bor t' off st ag
 | .ref t' off (s::st)=>bif Nat.beq t' t then .dead else .ref t' off (s::st)
 | .ref t' off []=>.ref t' off []
 | .hold k cs=>.hold k cs
 | .iref r off=>.iref r off
 | .fn f caps=>.fn f caps
 | .fv Ok=>.fv Ok
 | .dead=>.dead
def updH (F:Nat→AV) (t:Nat) (k:Kd) (cs:List C):Nat→AV:=fun s=>bif Nat.beq s t then .hold k cs else qW t (F s)
def splice (cs:List C) (off:Nat) (xs:List C):List C:=cs.take off++xs++cs.drop (off+xs.length)
theorem gd {cs xs:List C} {off:Nat} (h:off+xs.length≤cs.length) (j:Nat):(splice cs off xs)[j]? = if off≤j∧j<off+xs.length then xs[j - off]? else cs[j]?:=by
 unfold splice
 by_cases h1:j<off
 ·rw[if_neg (by omega),List.append_assoc,List.getElem?_append_left (by simp;omega),List.getElem?_take,if_pos h1]
 ·by_cases h2:j<off+xs.length
  ·rw[if_pos (by omega),List.getElem?_append_left (by simp;omega),List.getElem?_append_right (by simp;omega)]
   congr 1;simp;omega
  ·rw[if_neg (by omega),List.getElem?_append_right (by simp;omega),List.getElem?_drop]
   congr 1;simp;omega
theorem bW {cs xs:List C} {off:Nat} (h:off+xs.length≤cs.length):(splice cs off xs).length=cs.length:=by
 simp[splice];omega
theorem gr (F:Nat→AV) (t:Nat) (k:Kd) (cs:List C):updH F t k cs t=.hold k cs:=by simp[updH]
theorem eU (F:Nat→AV) {t s:Nat} (k:Kd) (cs:List C) (h:s≠t):updH F t k cs s=qW t (F s):=by
 have:Nat.beq s t=false:=by rw[←Bool.not_eq_true,Nat.beq_eq];exact h
 simp[updH,this]
section
variable {P:Program} {w0 w w1:World} {M S0 S:ab} {N:fF} {φ:Nat→ab} {F:Nat→AV} {a:Act}
theorem bj.upd {t:Nat} (h:bj w0 M S0 N S φ F a w) (hk:bw (φ t) w w1) {k:Kd} {cs cs':List C} (hF:F t=.hold k cs) {X:ab} (hX:∀ b o,X b o→φ t b o∨((∀ t',t'≠t→¬φ t' b o)∧¬S b o∧b<w.heap.size∧(w0.heap.size≤b∨M b o)))
  (hs:cz w1 S F (tvs a) X (.hold k cs') (tvs a t)):bj w0 M S0 N S (fun s=>if s=t then X else φ s) (updH F t k cs') a w1:=by
 have hne:∀ t',t'≠t→bk (φ t') w w1:=fun t' ht b o hb=>⟨hk.cel b o (h.ex t' b o hb).1 (h.dis t' t ht b o hb),hk.fro b o (h.ex t' b o hb).1 (h.dis t' t ht b o hb)⟩
 have hS:bk S w w1:=fun b o hb=>⟨hk.cel b o (h.sup b o hb).1 (fun h'=>h.disS t b o h' hb),hk.fro b o (h.sup b o hb).1 (fun h'=>h.disS t b o h' hb)⟩
 have holdsame:∀ t',t'≠t→∀ k cs,F t'=.hold k cs→updH F t k cs' t'=.hold k cs:=by
  intro t' ht k2 cs2 he
  rw[eU _ _ _ ht,he];rfl
 refine⟨fun s=>?_,fun s s' hss b o hb hb'=>?_,fun s b o hb=>?_,fun s b o hb=>?_,h.sub,fun b o hb=>⟨Nat.lt_of_lt_of_le (h.sup b o hb).1 hk.size,(h.sup b o hb).2⟩,h.old.trans hk (fun b o hb=>(h.ex t b o hb).2),h.size,h.defers,h.par⟩
 ·by_cases hst:s=t
  ·subst hst
   rw[gr,if_pos rfl]
   exact hs
  ·rw[eU _ _ _ hst,if_neg hst]
   have hsl:=h.slot s
   have keep:(F s).uses t=false→cz w1 S (updH F t k cs') (tvs a) (φ s) (F s) (tvs a s):=fun hu=>
    hsl.keep (φ:=φ) (fun t _ _ _=>h.slot t) (fun t' hu'=>by
      have ht:t'≠t:=fun e=>by subst e;rw[hu]at hu';cases hu'
      exact⟨fun k cs he=>by rw[eU _ _ _ ht,he];rfl,rfl,hne t' ht⟩) (hne s hst) hS (fun _ _ h=>h) (fun _ _ h=>h)
   cases hFs:F s with
   | dead=>trivial
   | hold k2 cs2=>rw[hFs]at keep;exact keep rfl
   | iref r off=>rw[hFs]at keep;exact keep rfl
   | fn f caps=>rw[hFs]at hsl;exact hsl
   | fv Ok=>rw[hFs]at hsl;obtain⟨S1,w2,e1,e2,e3⟩:=hsl;exact⟨S1,w2,e1,fun b o hb=>⟨(hS b o (e1 b o hb)).1.trans (e2 b o hb).1,(hS b o (e1 b o hb)).2.trans (e2 b o hb).2⟩,e3⟩
   | bor t' off st ag=>
    rw[hFs]at keep
    by_cases ht:t'=t
    ·subst ht;simp[qW,cz]
    ·have hb:Nat.beq t' t=false:=by rw[←Bool.not_eq_true,Nat.beq_eq];exact ht
     simp only[qW,hb,cond_false]
     exact keep hb
   | ref t' off st=>
    rw[hFs]at keep hsl
    by_cases ht:t'=t
    ·subst ht
     cases st with
     | cons s st=>simp[qW,cz]
     | nil=>
      obtain⟨k2,cs2,r,j,g,o,h1,h2,h3,h4⟩:=hsl
      rw[hF]at h1
      simp only[AV.hold.injEq]at h1
      obtain⟨rfl,rfl⟩:=h1
      exact⟨k,cs',cs',off,g,o,gr _ _ _ _,rfl,h3,h4⟩
    ·have hb:Nat.beq t' t=false:=by rw[←Bool.not_eq_true,Nat.beq_eq];exact ht
     cases st with
     | nil=>exact keep hb
     | cons s st=>
      simp only[qW,hb,cond_false]
      exact keep hb
 ·by_cases hst:s=t
  ·rw[if_pos hst]at hb
   rw[if_neg (fun e=>hss (hst.trans e.symm))]at hb'
   rcases hX b o hb with h1|⟨h1,-⟩
   ·exact h.dis t s' (fun e=>hss (hst.trans e)) b o h1 hb'
   ·exact h1 s' (fun e=>hss (hst.trans e.symm)) hb'
  ·rw[if_neg hst]at hb
   by_cases hst':s'=t
   ·rw[if_pos hst']at hb'
    rcases hX b o hb' with h1|⟨h1,-⟩
    ·exact h.dis t s (Ne.symm hst) b o h1 hb
    ·exact h1 s hst hb
   ·rw[if_neg hst']at hb'
    exact h.dis s s' hss b o hb hb'
 ·split at hb
  ·rcases hX b o hb with h1|⟨-,h1,-⟩
   ·exact h.disS t b o h1
   ·exact h1
  ·exact h.disS s b o hb
 ·split at hb
  ·rcases hX b o hb with h1|⟨-,-,h1,h2⟩
   ·exact⟨Nat.lt_of_lt_of_le (h.ex t b o h1).1 hk.size,(h.ex t b o h1).2⟩
   ·exact⟨Nat.lt_of_lt_of_le h1 hk.size,h2⟩
  ·exact⟨Nat.lt_of_lt_of_le (h.ex s b o hb).1 hk.size,(h.ex s b o hb).2⟩
theorem co.split {Y:ab} {cs:List C} {u:Nat→Value} (h:co w S Y cs u) {off n:Nat} (hl:off+n≤cs.length) :
  ∃ Y1 Y2:ab,(∀ b o,Y1 b o→Y b o)∧(∀ b o,Y2 b o→Y b o)∧(∀ b o,Y1 b o→¬Y2 b o)∧co w S Y1 (splice cs off (List.replicate n .x)) u∧co w S Y2 (bp cs off n) (fun j=>u (off+j)):=by
 have hone:=fun j hj=>h.one (j:=j) hj
 obtain⟨f,h1,h2,h3⟩:=h
 have hl':off+(List.replicate n C.x).length≤cs.length:=by simpa using hl
 refine⟨fun b o=>∃ j,j<cs.length∧¬(off≤j∧j<off+n)∧f j b o,fun b o=>∃ j,off≤j∧j<off+n∧f j b o,fun b o ⟨j,hj,_,hb⟩=>h2 j hj b o hb,fun b o ⟨j,_,hj,hb⟩=>h2 j (by omega) b o hb,
   fun b o ⟨j,hj,hn,hb⟩ ⟨j',h4,h5,hb'⟩=>h3 j j' hj (by omega) (fun e=>hn (by omega)) b o hb hb',⟨fun j=>if off≤j∧j<off+n then NO else f j,fun j c hj=>?_,fun j hj b o hb=>?_,fun j j' hj hj' hne b o hb hb'=>?_⟩,
   ⟨fun j=>f (off+j),fun j c hj=>?_,fun j hj b o hb=>⟨off+j,by omega,by simp[bp]at hj;omega,hb⟩,fun j j' hj hj' hne=>h3 _ _ (by simp[bp]at hj;omega) (by simp[bp]at hj';omega) (by omega)⟩⟩
 ·rw[gd hl',List.length_replicate]at hj
  by_cases hr:off≤j∧j<off+n
  ·rw[if_pos hr,List.getElem?_replicate,if_pos (by omega)]at hj
   simp only[Option.some.injEq]at hj
   subst hj
   exact .x _ _ (hone j (by omega))
  ·rw[if_neg hr]at hj
   simp only[if_neg hr]
   exact h1 j c hj
 ·rw[bW hl']at hj
  split at hb
  ·exact hb.elim
  ·rename_i hr
   exact⟨j,hj,hr,hb⟩
 ·rw[bW hl']at hj hj'
  split at hb
  ·exact hb.elim
  ·split at hb'
   ·exact hb'.elim
   ·exact h3 j j' hj hj' hne b o hb hb'
 ·have hlt:=(List.getElem?_eq_some_iff.1 hj).1
  simp only[bp,List.length_take,List.length_drop]at hlt
  rw[bp,List.getElem?_take,if_pos (by omega),List.getElem?_drop]at hj
  exact h1 _ c hj
theorem co.join {Y1 Y2:ab} {cs xs:List C} {u u2:Nat→Value} (h:co w S Y1 cs u) (h':co w S Y2 xs u2) {off:Nat} (hl:off+xs.length≤cs.length) (hd:∀ b o,Y1 b o→¬Y2 b o) :
  co w S (fun b o=>Y1 b o∨Y2 b o) (splice cs off xs) (fun j=>if off≤j∧j<off+xs.length then u2 (j - off) else u j):=by
 obtain⟨f,h1,h2,h3⟩:=h
 obtain⟨f',h1',h2',h3'⟩:=h'
 refine⟨fun j=>if off≤j∧j<off+xs.length then f' (j - off) else f j,fun j c hj=>?_,fun j hj b o hb=>?_,fun j j' hj hj' hne b o hb hb'=>?_⟩
 ·rw[gd hl]at hj
  by_cases hr:off≤j∧j<off+xs.length
  ·simp only[if_pos hr]at hj ⊢
   exact h1' _ c hj
  ·simp only[if_neg hr]at hj ⊢
   exact h1 j c hj
 ·rw[bW hl]at hj
  split at hb
  ·exact .inr (h2' _ (by omega) b o hb)
  ·exact .inl (h2 j hj b o hb)
 ·rw[bW hl]at hj hj'
  by_cases hr:off≤j∧j<off+xs.length
  ·rw[if_pos hr]at hb
   by_cases hr':off≤j'∧j'<off+xs.length
   ·rw[if_pos hr']at hb'
    exact h3' _ _ (by omega) (by omega) (by omega) b o hb hb'
   ·rw[if_neg hr']at hb'
    exact hd b o (h2 j' hj' b o hb') (h2' _ (by omega) b o hb)
  ·rw[if_neg hr]at hb
   by_cases hr':off≤j'∧j'<off+xs.length
   ·rw[if_pos hr']at hb'
    exact hd b o (h2 j hj b o hb) (h2' _ (by omega) b o hb')
   ·rw[if_neg hr']at hb'
    exact h3 j j' hj hj' hne b o hb hb'
theorem bj.take (h:bj w0 M S0 N S φ F a w) {t:Nat} {k:Kd} {cs:List C} (hF:F t=.hold k cs) {off n:Nat} (hl:off+n≤cs.length) :
  ∃ V X:ab,(∀ b o,V b o→φ t b o)∧(∀ b o,V b o→¬X b o)∧(∀ b o,X b o→φ t b o)∧co w S V (bp cs off n) (fun j=>bR w k (tvs a t) (off+j))∧
   bj w0 M S0 N S (fun s=>if s=t then X else φ s) (updH F t k (splice cs off (List.replicate n .x))) a w:=by
 have hs:=h.slot t
 rw[hF]at hs
 obtain⟨X1,Y,h1,h2,h3,h4,h5⟩:=hs
 obtain⟨Y1,Y2,e1,e2,e3,e4,e5⟩:=h5.split hl
 have hl':off+(List.replicate n C.x).length≤cs.length:=by simpa using hl
 refine⟨Y2,fun b o=>X1 b o∨Y1 b o,fun b o hb=>h2 b o (e2 b o hb),fun b o hb hx=>hx.elim (fun hx=>h3 b o hx (e2 b o hb)) (fun hx=>e3 b o hx hb),fun b o hb=>hb.elim (h1 b o) (fun hb=>h2 b o (e1 b o hb)),e5,?_⟩
 refine h.upd (bw.refl _ _) hF (fun b o hb=>.inl (hb.elim (h1 b o) (fun hb=>h2 b o (e1 b o hb)))) ⟨X1,Y1,fun _ _ h=>.inl h,fun _ _ h=>.inr h,fun b o hb hy=>h3 b o hb (e1 b o hy),?_,e4⟩
 rw[bW hl']
 exact h4
theorem bj.store (h:bj w0 M S0 N S φ F a w) {t:Nat} {bs cs:List C} (hF:F t=.hold .box bs) {off:Nat} (hl:off+cs.length≤bs.length) {V:ab} {u:Nat→Value} (hr:co w S V cs u)
  (hV:∀ b o,V b o→(∀ t',¬φ t' b o)∧¬S b o∧b<w.heap.size∧(w0.heap.size≤b∨M b o)) {T:Nat} (hsz:(P.info? T).map (·.size)=some cs.length) {v:Value} (hv:v.cells.toList=(List.range cs.length).map u)
  {g o:Nat} (hp:plc w (bR w .box (tvs a t)) (pn .box (tvs a t)) off []=some (g,o)) :
  ∃ w1,(Instr.storeAt T (.pointer (some ⟨g,o,none⟩)) v).run P w=.ok () w1∧St w0 M S0 N (updH F t .box (splice bs off cs)) a w1:=by
 have hs:=h.slot t
 rw[hF]at hs
 obtain⟨X1,Y,h1,h2,h3,⟨g',b0,hpt,hbox⟩,h5⟩:=hs
 rw[hpt]at hp h5
 simp only[plc,pn,Option.map_some,Option.some.injEq,Prod.mk.injEq]at hp
 obtain⟨rfl,rfl⟩:=hp
 have hvl:v.cells.toList.length=cs.length:=by rw[hv];simp
 have hin:∀ j,j<cs.length→X1 g' (b0+off+j)∧(∃ z,cel w g' (b0+off+j)=some z)∧fro w g' (b0+off+j)=NF:=fun j hj=>by
  have:=hbox (off+j) (by omega)
  rwa [←Nat.add_assoc]at this
 have hone:∀ x∈v.cells.toList,x.oneCell'=true:=fun x hx=>by
  rw[hv]at hx
  obtain⟨j,hj,rfl⟩:=List.mem_map.1 hx
  exact hr.one (List.mem_range.1 hj)
 have hst:=run_storeCells_cells (P:=P) g' (b0+off) v.cells.toList 0 w (fun j hj=>by obtain⟨z,hz⟩:=(hin j (by omega)).2.1;simp only[Nat.add_zero];show(cel w g' (b0+off+j)).isSome=true;rw[hz];rfl)
  (fun j hj=>by simp only[Nat.add_zero];exact congrArg Prod.fst (hin j (by omega)).2.2) hone
 simp only[Nat.add_zero]at hst
 refine⟨w.setCells g' (b0+off) v.cells.toList,?_,?_⟩
 ·have hvs:v.cells.size=cs.length:=by simpa using hvl
  simp[Instr.storeAt,Instr.sureAddr,storeVar,jf hsz,hvs,hst]
 ·have hout:∀ b o,¬(b=g'∧b0+off≤o∧o<b0+off+cs.length)→cel (w.setCells g' (b0+off) v.cells.toList) b o=cel w b o:=fun b o hn=>
   World.cell?_setCells_out g' v.cells.toList (b0+off) w ⟨b,o,none⟩ (fun e _=>by simp only at e ⊢;rw[hvl];omega)
  have hfro:∀ b o,fro (w.setCells g' (b0+off) v.cells.toList) b o=fro w b o:=fun b o=>Prod.ext (World.frozen?_setCells g' _ _ w ⟨b,o,none⟩) (kZ _ _ _ _ _)
  have hcin:∀ j,j<cs.length→cel (w.setCells g' (b0+off) v.cells.toList) g' (b0+off+j)=some (u j):=fun j hj=>by
   have:=World.cell?_setCells_in g' v.cells.toList (b0+off) w (fun j hj=>by obtain⟨z,hz⟩:=(hin j (by omega)).2.1;show(cel w g' (b0+off+j)).isSome=true;rw[hz];rfl) j (by omega)
   show World.cell? _ _=_
   rw[this]
   congr 1
   have h0:v.cells.toList[j]? = some (u j):=by rw[hv];simp[hj]
   exact(List.getElem?_eq_some_iff.1 h0).2
  have hkk:bw (φ t) w (w.setCells g' (b0+off) v.cells.toList):=by
   have hkept:∀ (vs:List Value) (o:Nat) (w:World),(w.setCells g' o vs).os=w.os∧(w.setCells g' o vs).tape=w.tape∧(w.setCells g' o vs).output=w.output∧(w.setCells g' o vs).heap.size=w.heap.size∧∀ b,b≠g'→(w.setCells g' o vs).heap[b]? = w.heap[b]?:=by
    intro vs
    induction vs with
    | nil=>exact fun _ _=>⟨rfl,rfl,rfl,rfl,fun _ _=>rfl⟩
    | cons x vs ih=>
     intro o w
     obtain⟨i1,i2,i3,i4,i5⟩:=ih (o+1) (w.setCell ⟨g',o,none⟩ x)
     exact⟨i1,i2,i3,i4.trans (by simp[World.setCell]),fun b hb=>(i5 b hb).trans (Below.heap_setCell w ⟨g',o,none⟩ x b hb)⟩
   obtain⟨i1,i2,i3,i4,i5⟩:=hkept v.cells.toList (b0+off) w
   refine⟨i1,i2,i3,by omega,fun b hb hn=>?_,fun b o hb hn=>hout b o (fun⟨e1,e2,e3⟩=>hn ?_),fun b o _ _=>hfro b o⟩
   ·by_cases he:b=g'
    ·subst he
     by_cases h0:cs.length=0
     ·have:v.cells.toList=[]:=List.eq_nil_of_length_eq_zero (by omega)
      rw[this];rfl
     ·exact absurd (h1 _ _ (hin 0 (by omega)).1) (hn _)
    ·exact i5 b he
   ·subst e1
    have:=(hin (o - (b0+off)) (by omega)).1
    rw[show b0+off+(o - (b0+off))=o by omega]at this
    exact h1 _ _ this
  have hSY:bk S w (w.setCells g' (b0+off) v.cells.toList):=fun b o hb=>⟨hkk.cel b o (h.sup b o hb).1 (fun h'=>h.disS t b o h' hb),hfro b o⟩
  have hYY:bk Y w (w.setCells g' (b0+off) v.cells.toList):=fun b o hb=>⟨hout b o (fun⟨e1,e2,e3⟩=>by
    subst e1
    have:=(hin (o - (b0+off)) (by omega)).1
    rw[show b0+off+(o - (b0+off))=o by omega]at this
    exact h3 _ _ this hb),hfro b o⟩
  have hVV:bk V w (w.setCells g' (b0+off) v.cells.toList):=fun b o hb=>⟨hkk.cel b o (hV b o hb).2.2.1 ((hV b o hb).1 t),hfro b o⟩
  have hj:=(h5.keep hSY hYY).join (hr.keep hSY hVV) hl (fun b o hb hb'=>(hV b o hb').1 t (h2 b o hb))
  refine⟨S,_,h.upd hkk hF (X:=fun b o=>X1 b o∨Y b o∨V b o) (fun b o hb=>?_) ⟨X1,fun b o=>Y b o∨V b o,fun _ _ h=>.inl h,fun _ _ h=>.inr h,fun b o hb hy=>hy.elim (h3 b o hb) (fun hy=>(hV b o hy).1 t (h1 b o hb)),⟨g',b0,hpt,fun j hj=>?_⟩,?_⟩⟩
  ·rcases hb with hb|hb|hb
   ·exact .inl (h1 b o hb)
   ·exact .inl (h2 b o hb)
   ·exact .inr ⟨fun t' _=>(hV b o hb).1 t',(hV b o hb).2⟩
  ·rw[bW hl]at hj
   obtain⟨a1,⟨z,hz⟩,a3⟩:=hbox j hj
   refine⟨a1,?_,by rw[hfro];exact a3⟩
   by_cases hjr:off≤j∧j<off+cs.length
   ·have:=hcin (j - off) (by omega)
    rw[show b0+off+(j - off)=b0+j by omega]at this
    exact⟨_,this⟩
   ·exact⟨z,by rw[hout _ _ (by omega)];exact hz⟩
  ·refine hj.congr fun j hjl=>?_
   rw[bW hl]at hjl
   rw[hpt]
   simp only[bR]
   by_cases hjr:off≤j∧j<off+cs.length
   ·have:=hcin (j - off) (by omega)
    rw[show b0+off+(j - off)=b0+j by omega]at this
    rw[if_pos hjr,this];rfl
   ·rw[if_neg hjr,hout _ _ (by omega)]
end
end Go.Proofs.YtplcalfnngkffaaGreat.Ab
/- Data that lead only to memory of their own. No condition. -/
namespace Go.Proofs.YtplcalfnngkffaaGreat.Ab
open Go.RowKit
mutual
def Nw:C→Prop
 | .s o rows=>(o≠.imm∨rows=[])∧MD rows
 | .v _=>True
 | .x=>True
 | .z=>True
 | .m _=>True
 | .it _ _=>True
def MD:List (List C)→Prop
 | []=>True
 | r::rs=>gq r∧MD rs
def gq:List C→Prop
 | []=>True
 | c::cs=>Nw c∧gq cs
end
theorem zX:∀ {cs:List C} {j:Nat} {c:C},gq cs→cs[j]? = some c→Nw c
 | [],j,c,_,h=>by simp at h
 | c0::cs,j,c,h,hj=>by
  simp only[gq]at h
  cases j with
  | zero=>simp at hj;subst hj;exact h.1
  | succ j=>exact zX h.2 (by simpa using hj)
theorem Hh:∀ {rs:List (List C)} {j:Nat} {r:List C},MD rs→rs[j]? = some r→gq r
 | [],j,c,_,h=>by simp at h
 | c0::cs,j,c,h,hj=>by
  simp only[MD]at h
  cases j with
  | zero=>simp at hj;subst hj;exact h.1
  | succ j=>exact Hh h.2 (by simpa using hj)
theorem aP {a b:List C} (ha:gq a) (hb:gq b):gq (a++b):=by
 induction a with
 | nil=>exact hb
 | cons c cs ih=>simp only[gq]at ha;exact⟨ha.1,ih ha.2⟩
theorem aT {α:Type} (f:α→List C) (l:List α) (h:∀ x∈l,gq (f x)):MD (l.map f):=by
 induction l with
 | nil=>simp[MD]
 | cons a l ih=>simp only[List.map_cons,MD];exact⟨h a (by simp),ih fun x hx=>h x (by simp[hx])⟩
theorem ez.fresh {w:World} {S F:ab} {c:C} {v:Value} (h:ez w S F c v):Nw c→ez w NO F c v:=by
 induction h with
 | v F x h1=>exact fun _=>.v _ x h1
 | x F u h1=>exact fun _=>.x _ u h1
 | z F a=>exact fun _=>.z _ a
 | nil F o a ho=>exact fun _=>.nil _ o a ho
 | imm F g off k n cap rows u hn hk hcap hS hc ih=>
  intro hf
  simp only[Nw]at hf
  rcases hf.1 with h|rfl
  ·exact absurd rfl h
  ·subst hn
   exact .imm _ g off k 0 cap [] u rfl hk (Nat.zero_le _) (fun q hq=>by simp at hq) (fun i j r c hi=>by simp at hi)
 | own F o g k n cap rows u f ho hn hk hcap hpos hF hu hf hd hc ih=>
  intro hfr
  simp only[Nw]at hfr
  exact .own _ o g k n cap rows u f ho hn hk hcap hpos hF hu hf hd fun i j r c hi hj=>ih i j r c hi hj (zX (Hh hfr.2 hi) hj)
 | m F b clock es ents hF hb he hv hst=>exact fun _=>.m _ b clock es ents hF hb he hv hst
 | it F r b since c0 clock seen ents cur left hF hr hb hst hc hv hl hcur=>exact fun _=>.it _ r b since c0 clock seen ents cur left hF hr hb hst hc hv hl hcur
theorem co.fresh {w:World} {S F:ab} {cs:List C} {u:Nat→Value} (h:co w S F cs u) (hf:gq cs):co w NO F cs u:=by
 obtain⟨f,h1,h2,h3⟩:=h
 exact⟨f,fun j c hj=>(h1 j c hj).fresh (zX hf hj),h2,h3⟩
end Go.Proofs.YtplcalfnngkffaaGreat.Ab
