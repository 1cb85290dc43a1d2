/- Plain facts on decimal numerals: no program in sight. -/
import Derived.Lib.ItoaNum
import Derived.Lib.ItoaLen
namespace Go.Proofs.YtfdfgipemcbekaaGreatDoor.Tx
open Go Go.Lib
def valL (l:List UInt8):Nat:=l.foldl (fun n c=>n*10+(c.toNat - 48)) 0
def Dig (c:UInt8):Prop:=48≤c.toNat∧c.toNat≤57
instance (c:UInt8):Decidable (Dig c):=by unfold Dig;infer_instance
def Canon (l:List UInt8):Prop:=l≠[]∧l.length≤10∧(l.length=1∨l.head?≠some 48)∧(∀ c∈l,Dig c)∧valL l≤1000000000
instance (l:List UInt8):Decidable (Canon l):=by unfold Canon;infer_instance
def pN (l:List UInt8):Int:=if Canon l then(valL l:Int) else 0
def pB (l:List UInt8):Bool:=decide (Canon l)
theorem snoc_ind {α:Type} {p:List α→Prop} (h0:p []) (h1:∀ l a,p l→p (l++[a])) (l:List α):p l:=by
  rw[←l.reverse_reverse]
  induction l.reverse with
  | nil=>exact h0
  | cons a t ih=>rw[List.reverse_cons];exact h1 _ _ ih
theorem head_app {α:Type} (l m:List α) (h:l≠[]):(l++m).head? = l.head?:=by cases l<;>simp_all
theorem valL_snoc (l:List UInt8) (c:UInt8):valL (l++[c])=valL l*10+(c.toNat - 48):=by
  unfold valL;rw[List.foldl_append];rfl
theorem valL_lt (l:List UInt8) (h:∀ c∈l,Dig c):valL l<10 ^ l.length:=by
  induction l using snoc_ind with
  | h0=>simp[valL]
  | h1 l c ih=>
    have h1:=ih fun x hx=>h x (by simp[hx])
    have h2:=h c (by simp)
    unfold Dig at h2
    rw[valL_snoc,List.length_append,List.length_singleton,Nat.pow_succ]
    omega
theorem ofNat_dig (c:UInt8) (h:Dig c):UInt8.ofNat (48+(c.toNat - 48))=c:=by
  unfold Dig at h
  rw[show 48+(c.toNat - 48)=c.toNat by omega]
  exact UInt8.ofNat_toNat
theorem dec_big (u:Nat) (h:¬u<10):decDigits u=decDigits (u / 10)++[UInt8.ofNat (48+u % 10)]:=by rw[decDigits,dif_neg h]
theorem nDigits_le (k u:Nat) (hk:1≤k) (h:u<10 ^ k):nDigits u≤k:=by
  induction k generalizing u with
  | zero=>omega
  | succ k ih=>
    by_cases h10:u<10
    · rw[nDigits_small h10];omega
    · rw[nDigits_big h10]
      rcases Nat.eq_zero_or_pos k with h0|h0
      · subst h0;simp at h;omega
      · have:=ih (u / 10) h0 (by rw[Nat.pow_succ]at h;omega)
        omega
theorem valL_pos (l:List UInt8) (h:∀ c∈l,Dig c) (hne:l≠[]) (hh:l.head?≠some 48):1≤valL l:=by
  induction l using snoc_ind with
  | h0=>exact absurd rfl hne
  | h1 l c ih=>
    rw[valL_snoc]
    rcases List.eq_nil_or_concat l with rfl|⟨l',d,hl⟩
    · have h2:=h c (by simp)
      unfold Dig at h2
      have h3:c≠48:=by simpa using hh
      have h4:c.toNat≠48:=fun e=>h3 (by rw[←UInt8.ofNat_toNat (x:=c),e];rfl)
      omega
    · have hl0:l≠[]:=by rw[hl,List.concat_eq_append];simp
      have h1:=ih (fun x hx=>h x (by simp[hx])) hl0 (by
        rw[head_app _ _ hl0]at hh;exact hh)
      omega
theorem dec_val (l:List UInt8) (h:∀ c∈l,Dig c) (hne:l≠[]) (hh:l.length=1∨l.head?≠some 48):decDigits (valL l)=l:=by
  induction l using snoc_ind with
  | h0=>exact absurd rfl hne
  | h1 l c ih=>
    have h2:=h c (by simp)
    have h2':=h2
    unfold Dig at h2'
    rcases List.eq_nil_or_concat l with rfl|⟨l',d,hl⟩
    · rw[valL_snoc]
      simp only[valL,List.foldl_nil,Nat.zero_mul,Nat.zero_add,List.nil_append]
      rw[decDigits_one (by omega),ofNat_dig c h2]
    · have hl0:l≠[]:=by rw[hl,List.concat_eq_append];simp
      have hll:1≤l.length:=by rw[hl,List.concat_eq_append];simp
      have hh2:l.head?≠some 48:=by
        rcases hh with hh|hh
        · rw[List.length_append,List.length_singleton]at hh;omega
        · rw[head_app _ _ hl0]at hh;exact hh
      have h1:=valL_pos l (fun x hx=>h x (by simp[hx])) hl0 hh2
      have e1:(valL l*10+(c.toNat - 48)) / 10=valL l:=by omega
      have e2:(valL l*10+(c.toNat - 48)) % 10=c.toNat - 48:=by omega
      rw[valL_snoc,dec_big _ (by omega),e1,e2,ofNat_dig c h2,ih (fun x hx=>h x (by simp[hx])) hl0 (.inr hh2)]
theorem dec_val_iff (l:List UInt8) (h:∀ c∈l,Dig c):decDigits (valL l)=l↔l≠[]∧(l.length=1∨l.head?≠some 48):=by
  constructor
  · intro he
    have hne:l≠[]:=by
      rintro rfl
      have:=congrArg List.length he
      rw[decDigits_length]at this
      have h1:=nDigits_pos (valL [])
      simp at this;omega
    refine⟨hne,?_⟩
    by_cases h1:l.length=1
    · exact .inl h1
    · right
      intro h48
      match l,h48,h1,h,he with
      | c::t,h48,h1,h,he=>
        simp at h48
        subst h48
        have e:valL (48::t)=valL t:=by simp[valL]
        have hlt:=valL_lt t fun x hx=>h x (by simp[hx])
        have hlen:=congrArg List.length he
        rw[decDigits_length,e]at hlen
        simp at h1 hlen
        have ht:1≤t.length:=by
          rcases Nat.eq_zero_or_pos t.length with h0|h0
          · exact absurd (List.eq_nil_of_length_eq_zero h0) h1
          · exact h0
        have:=nDigits_le t.length (valL t) ht hlt
        omega
  · rintro⟨h1,h2⟩
    exact dec_val l h h1 h2
def dz (u:Nat):List UInt8:=if u=0 then [] else decDigits u
theorem dz_step (u:Nat) (h:u≠0):dz u=dz (u / 10)++[UInt8.ofNat (48+u % 10)]:=by
  unfold dz
  rw[if_neg h]
  by_cases h10:u<10
  · rw[if_pos (by omega),decDigits_one h10,Nat.mod_eq_of_lt h10,List.nil_append]
  · rw[if_neg (by omega),dec_big u h10]
theorem dz_len (u:Nat) (h:u<18446744073709551616):(dz u).length≤20:=by
  unfold dz
  split
  · simp
  · rw[decDigits_length];exact nDigits_le20 u h
theorem itoa_dz (n:Int) (h:n≠0):itoa n=if n<0 then 45::dz n.natAbs else dz n.natAbs:=by
  unfold itoa dz
  by_cases h0:n<0
  · rw[if_pos h0,if_pos h0,if_neg (by omega)]
  · rw[if_neg h0,if_neg h0,if_neg (by omega),show n.toNat=n.natAbs by omega]
theorem itoa_zero:itoa 0=[48]:=by
  unfold itoa
  rw[if_neg (by omega)]
  exact decDigits_one (by decide)
theorem itoa_nat (u:Nat):itoa (u:Int)=decDigits u:=by
  unfold itoa
  rw[if_neg (by omega)]
  rfl
end Go.Proofs.YtfdfgipemcbekaaGreatDoor.Tx
