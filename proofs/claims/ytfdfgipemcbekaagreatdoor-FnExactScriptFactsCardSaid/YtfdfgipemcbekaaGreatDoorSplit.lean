/- Plain facts on the fields of a line: no program in sight. -/
import Derived.Lib.Strings
namespace Go.Proofs.YtfdfgipemcbekaaGreatDoor.Sp
open Go
def sp (s:ByteArray):Nat→List (Nat × Nat) × Nat
  | 0=>([],0)
  | k+1=>if k<s.size∧s.data[k]?≠some 32 then sp s k else((if(sp s k).2<k then(sp s k).1++[((sp s k).2,k)] else(sp s k).1),k+1)
def OkTo (s:ByteArray) (k:Nat):Prop:=∀ j c,j<k→s.data[j]? = some c→32≤c.toNat∧c.toNat≤126
def spans (s:ByteArray):List (Nat × Nat):=(sp s (s.size+1)).1
def cut (s:ByteArray) (p:Nat × Nat):ByteArray:=s.extract p.1 p.2
def fields (s:ByteArray):List ByteArray:=(spans s).map (cut s)
def LineOk (s:ByteArray):Prop:=s.size≤600∧OkTo s s.size∧(spans s).length≤24
open Classical in
noncomputable def lineB (s:ByteArray):Bool:=decide (LineOk s)
theorem sp_skip {s:ByteArray} {k:Nat} (hk:k<s.size) (h:s.data[k]?≠some 32):sp s (k+1)=sp s k:=by
  simp only[sp];rw[if_pos ⟨hk,h⟩]
theorem sp_cut {s:ByteArray} {k:Nat} (h:s.size≤k∨s.data[k]? = some 32) (hb:(sp s k).2<k):sp s (k+1)=((sp s k).1++[((sp s k).2,k)],k+1):=by
  simp only[sp]
  rw[if_neg (by rintro⟨a,b⟩;rcases h with h|h;omega;exact b h),if_pos hb]
theorem sp_none {s:ByteArray} {k:Nat} (h:s.size≤k∨s.data[k]? = some 32) (hb:¬(sp s k).2<k):sp s (k+1)=((sp s k).1,k+1):=by
  simp only[sp]
  rw[if_neg (by rintro⟨a,b⟩;rcases h with h|h;omega;exact b h),if_neg hb]
theorem sp_le (s:ByteArray) (k:Nat):(sp s k).2≤k∧(sp s k).1.length≤k:=by
  induction k with
  | zero=>simp[sp]
  | succ k ih=>
    simp only[sp]
    split
    · omega
    · split<;>simp<;>omega
theorem sp_mem (s:ByteArray) (k:Nat):∀ p∈(sp s k).1,p.1<p.2∧p.2≤k:=by
  induction k with
  | zero=>simp[sp]
  | succ k ih=>
    simp only[sp]
    split
    · intro p hp;have:=ih p hp;omega
    · split
      · intro p hp
        rcases List.mem_append.1 hp with hp|hp
        · have:=ih p hp;omega
        · simp at hp;subst hp;simp;omega
      · intro p hp;have:=ih p hp;omega
theorem spans_mem (s:ByteArray):∀ p∈spans s,p.1<p.2∧p.2≤s.size:=by
  intro p hp
  unfold spans at hp
  have h1:=sp_mem s (s.size+1) p hp
  refine⟨h1.1,?_⟩
  simp only[sp]at hp
  rw[if_neg (by omega)]at hp
  split at hp
  · rcases List.mem_append.1 hp with hp|hp
    · exact(sp_mem s s.size p hp).2
    · simp at hp;subst hp;simp
  · exact(sp_mem s s.size p hp).2
theorem okTo_step {s:ByteArray} {k:Nat} (h:OkTo s k) (hk:k<s.size) (h1:32≤(s.data[k]).toNat) (h2:(s.data[k]).toNat≤126):OkTo s (k+1):=by
  intro j c hj hc
  by_cases e:j=k
  · subst e
    rw[Array.getElem?_eq_getElem hk]at hc
    injection hc with hc
    subst hc
    exact⟨h1,h2⟩
  · exact h j c (by omega) hc
theorem okTo_bad {s:ByteArray} {k:Nat} (hk:k<s.size) (h:¬(32≤(s.data[k]).toNat∧(s.data[k]).toNat≤126)):¬LineOk s:=fun hl=>
  h (hl.2.1 k _ hk (Array.getElem?_eq_getElem hk))
def At (s:ByteArray) (i:Nat) (l:List (Nat × Nat)):Prop:=
  i≤s.size∧(sp s i=(l,i)∨∃ a l0,sp s i=(l0,a)∧a<i∧l=l0++[(a,i)]∧(i=s.size∨s.data[i]? = some 32))
theorem At.blank {s:ByteArray} {i:Nat} {l:List (Nat × Nat)} (h:At s i l) (hi:i<s.size) (hc:s.data[i]? = some 32):At s (i+1) l:=by
  refine⟨by omega,.inl ?_⟩
  rcases h.2 with h|⟨a,l0,h1,h2,rfl,h3⟩
  · have:=sp_none (.inr hc) (k:=i) (s:=s) (by rw[h];simp)
    rw[this,h]
  · have:=sp_cut (.inr hc) (k:=i) (s:=s) (by rw[h1];exact h2)
    rw[this,h1]
theorem At.fresh {s:ByteArray} {i:Nat} {l:List (Nat × Nat)} (h:At s i l) (hi:i<s.size) (hc:s.data[i]?≠some 32):sp s i=(l,i):=by
  rcases h.2 with h|⟨a,l0,h1,h2,rfl,h3|h3⟩
  · exact h
  · omega
  · exact absurd h3 hc
theorem At.done {s:ByteArray} {l:List (Nat × Nat)} (h:At s s.size l):l=spans s:=by
  unfold spans
  rcases h.2 with h|⟨a,l0,h1,h2,rfl,h3⟩
  · have:=sp_none (.inl (Nat.le_refl _)) (s:=s) (k:=s.size) (by rw[h];simp)
    rw[this,h]
  · have:=sp_cut (.inl (Nat.le_refl _)) (s:=s) (k:=s.size) (by rw[h1];exact h2)
    rw[this,h1]
theorem At.len {s:ByteArray} {i:Nat} {l:List (Nat × Nat)} (h:At s i l):l.length≤s.size+1:=by
  have hi:=h.1
  rcases h.2 with h|⟨a,l0,h1,h2,rfl,h3⟩
  · have:=(sp_le s i).2;rw[h]at this;simp at this;omega
  · have:=(sp_le s i).2;rw[h1]at this;simp at this ⊢;omega
end Go.Proofs.YtfdfgipemcbekaaGreatDoor.Sp
