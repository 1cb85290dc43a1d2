/- Plain facts on scripts: the lines of a text, what each is; no program in sight. -/
import Derived.Test.YtebiefhfhjgmaaaDoorJReadI
import Derived.Lib.Split
import Derived.Lib.IndexLaws
namespace Go.Proofs.YtebiefhfhjgmaaaDoor.Ps
set_option maxRecDepth 100000
open Go Ac Mm Tx Sp Jr PaS

/-- The lines of a text, as lists of bytes. -/
def splitL : List UInt8 → List (List UInt8)
  | [] => [[]]
  | c :: l => if c = 10 then [] :: splitL l else match splitL l with
    | [] => [[c]]
    | x :: r => (c :: x) :: r
theorem splitL_ne (l : List UInt8) : splitL l ≠ [] := by
  cases l with
  | nil => simp [splitL]
  | cons c l =>
    simp only [splitL]
    split
    · simp
    · split <;> simp
theorem splitL_app (a : List UInt8) (l : List UInt8) (h : (10 : UInt8) ∉ a) : splitL (a ++ 10 :: l) = a :: splitL l := by
  induction a with
  | nil => simp [splitL]
  | cons c a ih =>
    have hc : c ≠ 10 := fun e => h (by simp [e])
    have ih' := ih fun e => h (by simp [e])
    simp only [List.cons_append, splitL]
    rw [if_neg hc, ih']
theorem splitL_end (a : List UInt8) (h : (10 : UInt8) ∉ a) : splitL a = [a] := by
  induction a with
  | nil => rfl
  | cons c a ih =>
    have hc : c ≠ 10 := fun e => h (by simp [e])
    have ih' := ih fun e => h (by simp [e])
    simp only [splitL]
    rw [if_neg hc, ih']
def linesOf (s : ByteArray) : List ByteArray := (splitL s.data.toList).map fun l => ⟨l.toArray⟩
/-- A line that is passed over. -/
def Skip (l : ByteArray) : Prop := LineOk l ∧ (fields l = [] ∨ ∃ f r, fields l = f :: r ∧ f.data[0]? = some 59)
def Bad (l : ByteArray) : Prop := ¬ Skip l ∧ ∀ z, ¬ IsAct l z
/-- The lines L hold the acts m. -/
def Proc : List ByteArray → List (List Int) → Prop
  | [], m => m = []
  | l :: L, m => (Skip l ∧ Proc L m) ∨ (¬ Skip l ∧ ∃ z m', IsAct l z ∧ m = z :: m' ∧ Proc L m')
theorem proc_fun : ∀ {L : List ByteArray} {m m' : List (List Int)}, Proc L m → Proc L m' → m = m'
  | [], _, _, h, h' => (show _ = _ from h).trans (show _ = _ from h').symm
  | l :: L, m, m', h, h' => by
    rcases h with ⟨hs, h⟩ | ⟨hs, z, m1, hz, rfl, h⟩
    · rcases h' with ⟨_, h'⟩ | ⟨hs', _⟩
      · exact proc_fun h h'
      · exact absurd hs hs'
    · rcases h' with ⟨hs', _⟩ | ⟨_, z', m2, hz', rfl, h'⟩
      · exact absurd hs' hs
      · rw [isAct_fun hz hz', proc_fun h h']
theorem proc_skip : ∀ {L : List ByteArray} {m : List (List Int)} {l : ByteArray}, Proc L m → Skip l → Proc (L ++ [l]) m
  | [], m, l, h, hs => .inl ⟨hs, h⟩
  | x :: L, m, l, h, hs => by
    rcases h with ⟨hx, h⟩ | ⟨hx, z, m1, hz, rfl, h⟩
    · exact .inl ⟨hx, proc_skip h hs⟩
    · exact .inr ⟨hx, z, m1, hz, rfl, proc_skip h hs⟩
theorem proc_act : ∀ {L : List ByteArray} {m : List (List Int)} {l : ByteArray} {z : List Int}, Proc L m → ¬ Skip l → IsAct l z → Proc (L ++ [l]) (m ++ [z])
  | [], m, l, z, h, hs, hz => by
    obtain rfl : m = [] := h
    exact .inr ⟨hs, z, [], hz, rfl, rfl⟩
  | x :: L, m, l, z, h, hs, hz => by
    rcases h with ⟨hx, h⟩ | ⟨hx, y, m1, hy, rfl, h⟩
    · exact .inl ⟨hx, proc_act h hs hz⟩
    · exact .inr ⟨hx, y, m1 ++ [z], hy, rfl, proc_act h hs hz⟩
theorem proc_len : ∀ {L : List ByteArray} {m : List (List Int)}, Proc L m → m.length ≤ L.length
  | [], m, h => by obtain rfl : m = [] := h; simp
  | x :: L, m, h => by
    rcases h with ⟨hx, h⟩ | ⟨hx, y, m1, hy, rfl, h⟩
    · have := proc_len h; simp; omega
    · have := proc_len h; simp; omega
theorem proc_bad : ∀ {L1 : List ByteArray} {l : ByteArray} {L2 : List ByteArray} {m : List (List Int)}, Proc (L1 ++ l :: L2) m → ¬ Bad l
  | [], l, L2, m, h => by
    rintro ⟨hs, hn⟩
    rcases h with ⟨hx, _⟩ | ⟨_, y, _, hy, _⟩
    · exact hs hx
    · exact hn y hy
  | x :: L1, l, L2, m, h => by
    rcases h with ⟨_, h⟩ | ⟨_, _, _, _, _, h⟩ <;> exact proc_bad h
theorem bad_fun : ∀ {L1 L1' L2 L2' : List ByteArray} {l l' : ByteArray} {m m' : List (List Int)}, L1 ++ l :: L2 = L1' ++ l' :: L2' → Proc L1 m → Proc L1' m' → Bad l → Bad l' → L1.length = L1'.length
  | [], [], _, _, _, _, _, _, _, _, _, _, _ => rfl
  | [], x :: L1', _, _, l, _, m, m', h, _, hp', hb, _ => by
    simp at h
    obtain ⟨rfl, _⟩ := h
    rcases hp' with ⟨hx, _⟩ | ⟨_, y, _, hy, _⟩
    · exact absurd hx hb.1
    · exact absurd hy (hb.2 y)
  | x :: L1, [], _, _, _, l', m, m', h, hp, _, _, hb' => by
    simp at h
    obtain ⟨rfl, _⟩ := h
    rcases hp with ⟨hx, _⟩ | ⟨_, y, _, hy, _⟩
    · exact absurd hx hb'.1
    · exact absurd hy (hb'.2 y)
  | x :: L1, x' :: L1', _, _, _, _, m, m', h, hp, hp', hb, hb' => by
    simp at h
    obtain ⟨rfl, h⟩ := h
    have h1 : ∃ m, Proc L1 m := by rcases hp with ⟨_, hp⟩ | ⟨_, _, m1, _, _, hp⟩ <;> exact ⟨_, hp⟩
    have h2 : ∃ m, Proc L1' m := by rcases hp' with ⟨_, hp⟩ | ⟨_, _, m1, _, _, hp⟩ <;> exact ⟨_, hp⟩
    obtain ⟨_, h1⟩ := h1
    obtain ⟨_, h2⟩ := h2
    simp [bad_fun h h1 h2 hb hb']
/-- What a script is: the acts m, the number j, the flag ok. -/
def PsOf (s : ByteArray) (m : List (List Int)) (j : Nat) (ok : Bool) : Prop :=
  (20000 < s.size ∧ m = [] ∧ j = 0 ∧ ok = false) ∨
  (s.size ≤ 20000 ∧ ∃ L1 l L2 m1, linesOf s = L1 ++ l :: L2 ∧ Proc L1 m1 ∧ Bad l ∧ m = [] ∧ j = L1.length + 1 ∧ ok = false) ∨
  (s.size ≤ 20000 ∧ ∃ m1, Proc (linesOf s) m1 ∧ ((80 < m1.length ∧ m = [] ∧ j = 0 ∧ ok = false) ∨ (m1.length ≤ 80 ∧ m = m1 ∧ j = (linesOf s).length ∧ ok = true)))
theorem ps_fun {s : ByteArray} {m m' : List (List Int)} {j j' : Nat} {ok ok' : Bool} (h : PsOf s m j ok) (h' : PsOf s m' j' ok') : m = m' ∧ j = j' ∧ ok = ok' := by
  rcases h with ⟨h0, rfl, rfl, rfl⟩ | ⟨h0, L1, l, L2, m1, hl, hp, hb, rfl, rfl, rfl⟩ | ⟨h0, m1, hp, h⟩
  · rcases h' with ⟨_, rfl, rfl, rfl⟩ | ⟨h0', _⟩ | ⟨h0', _⟩
    · exact ⟨rfl, rfl, rfl⟩
    · omega
    · omega
  · rcases h' with ⟨h0', _⟩ | ⟨_, L1', l', L2', m1', hl', hp', hb', rfl, rfl, rfl⟩ | ⟨_, m1', hp', _⟩
    · omega
    · exact ⟨rfl, by rw [bad_fun (hl.symm.trans hl') hp hp' hb hb'], rfl⟩
    · rw [hl] at hp'; exact absurd hb (proc_bad hp')
  · rcases h' with ⟨h0', _⟩ | ⟨_, L1', l', L2', m1', hl', hp', hb', rfl, rfl, rfl⟩ | ⟨_, m1', hp', h'⟩
    · omega
    · rw [hl'] at hp; exact absurd hb' (proc_bad hp)
    · obtain rfl := proc_fun hp hp'
      rcases h with ⟨_, rfl, rfl, rfl⟩ | ⟨_, rfl, rfl, rfl⟩
      · rcases h' with ⟨_, rfl, rfl, rfl⟩ | ⟨_, rfl, rfl, rfl⟩
        · exact ⟨rfl, rfl, rfl⟩
        · omega
      · rcases h' with ⟨_, rfl, rfl, rfl⟩ | ⟨_, rfl, rfl, rfl⟩
        · omega
        · exact ⟨rfl, rfl, rfl⟩
theorem splitL_len (l : List UInt8) : (splitL l).length ≤ l.length + 1 := by
  induction l with
  | nil => simp [splitL]
  | cons c l ih =>
    simp only [splitL]
    split
    · simp; omega
    · split <;> rename_i h <;> rw [h] at ih <;> simp at ih ⊢ <;> omega
theorem ps_len {s : ByteArray} {m : List (List Int)} {j : Nat} {ok : Bool} (h : PsOf s m j ok) : m.length ≤ 80 ∧ j ≤ 20002 := by
  have hl := splitL_len s.data.toList
  have h1 : s.data.toList.length = s.size := rfl
  have h2 : (linesOf s).length = (splitL s.data.toList).length := by simp [linesOf]
  rcases h with ⟨h0, rfl, rfl, rfl⟩ | ⟨h0, L1, l, L2, m1, he, hp, hb, rfl, rfl, rfl⟩ | ⟨h0, m1, hp, h⟩
  · simp
  · have := congrArg List.length he
    simp at this
    simp; omega
  · rcases h with ⟨_, rfl, rfl, rfl⟩ | ⟨_, rfl, rfl, rfl⟩
    · simp
    · omega
/-- The lines from place b on. -/
def Rest (s : ByteArray) (b : Nat) : List ByteArray := if b ≤ s.size then (splitL (s.data.toList.drop b)).map (fun l => ⟨l.toArray⟩) else []
theorem rest_zero (s : ByteArray) : linesOf s = [] ++ Rest s 0 := by
  unfold Rest linesOf
  rw [if_pos (Nat.zero_le _), List.drop_zero, List.nil_append]
theorem ext_bytes (s : ByteArray) (a b : Nat) : s.extract a b = ⟨((s.data.toList.drop a).take (b - a)).toArray⟩ := by
  apply ByteArray.ext
  apply Array.ext'
  rw [ByteArray.data_extract]
  simp
theorem rest_line {s : ByteArray} {b i : Nat} (hb : b ≤ i) (hi : i < s.size) (hc : s.data[i]? = some 10) (hn : ∀ j, b ≤ j → j < i → s.data[j]? ≠ some 10) : Rest s b = s.extract b i :: Rest s (i + 1) := by
  have hsl : s.data.toList.length = s.size := rfl
  have hsplit : s.data.toList.drop b = (s.data.toList.drop b).take (i - b) ++ 10 :: s.data.toList.drop (i + 1) := by
    have h1 : s.data.toList.drop b = (s.data.toList.drop b).take (i - b) ++ (s.data.toList.drop b).drop (i - b) := (List.take_append_drop _ _).symm
    rw [List.drop_drop, show b + (i - b) = i by omega] at h1
    have h2 : s.data.toList.drop i = 10 :: s.data.toList.drop (i + 1) := by
      rw [List.drop_eq_getElem_cons (by omega)]
      congr 1
      rw [← Array.getElem?_toList, List.getElem?_eq_getElem (by omega)] at hc
      exact Option.some.inj hc
    rw [h2] at h1
    exact h1
  have hno : (10 : UInt8) ∉ (s.data.toList.drop b).take (i - b) := fun hm => by
    obtain ⟨j, hj⟩ := List.getElem?_of_mem hm
    rw [List.getElem?_take] at hj
    split at hj
    · rw [List.getElem?_drop, Array.getElem?_toList] at hj
      exact hn (b + j) (by omega) (by omega) hj
    · cases hj
  unfold Rest
  rw [if_pos (by omega), if_pos (by omega), hsplit, splitL_app _ _ hno, List.map_cons, ext_bytes s b i]
theorem rest_last {s : ByteArray} {b : Nat} (hb : b ≤ s.size) (hn : ∀ j, b ≤ j → j < s.size → s.data[j]? ≠ some 10) : Rest s b = [s.extract b s.size] ∧ Rest s (s.size + 1) = [] := by
  have hsl : s.data.toList.length = s.size := rfl
  have hno : (10 : UInt8) ∉ s.data.toList.drop b := fun hm => by
    obtain ⟨j, hj⟩ := List.getElem?_of_mem hm
    have hjl : j < (s.data.toList.drop b).length := (List.getElem?_eq_some_iff.1 hj).1
    rw [List.length_drop] at hjl
    rw [List.getElem?_drop, Array.getElem?_toList] at hj
    exact hn (b + j) (by omega) (by omega) hj
  unfold Rest
  rw [if_pos hb, if_neg (by omega), splitL_end _ hno, List.map_cons, ext_bytes, List.take_of_length_le (by rw [List.length_drop]; omega)]
  exact ⟨rfl, rfl⟩
/-- The library's split is the split by lines. -/
theorem splitK_lines : ∀ (fuel : Nat) (l : List UInt8), l.length < fuel → Lib.splitK [10] 0 (Lib.countFrom [10] fuel l) l = splitL l
  | 0, _, h => absurd h (by omega)
  | fuel + 1, l, h => by
    have hge := Lib.indexByte_ge l 10
    unfold Lib.countFrom
    rw [index_byte]
    by_cases hm : Lib.indexByte l 10 = -1
    · rw [hm, if_pos (by decide)]
      have hno : (10 : UInt8) ∉ l := fun hx => by
        obtain ⟨j, hj⟩ := List.getElem?_of_mem hx
        exact Lib.indexByte_none hm j hj
      rw [splitL_end _ hno]
      rfl
    · obtain ⟨o, ho⟩ : ∃ o : Nat, Lib.indexByte l 10 = (o : Int) := ⟨(Lib.indexByte l 10).toNat, by omega⟩
      obtain ⟨h1, h2⟩ := Lib.indexByte_some ho
      have hol : o < l.length := (List.getElem?_eq_some_iff.1 h1).1
      have hne : ((o : Int) == -1) = false := beq_eq_false_iff_ne.2 (by omega)
      rw [ho, hne, if_neg (by decide), Int.toNat_natCast, Nat.add_comm 1, Lib.splitK, index_byte, ho, hne, if_neg (by decide), Int.toNat_natCast, Nat.add_zero]
      have hd : l = l.take o ++ 10 :: l.drop (o + 1) := by
        have e1 := (List.take_append_drop o l).symm
        rw [List.drop_eq_getElem_cons hol] at e1
        rw [List.getElem?_eq_getElem hol] at h1
        rwa [Option.some.inj h1] at e1
      have hno : (10 : UInt8) ∉ l.take o := fun hx => by
        obtain ⟨j, hj⟩ := List.getElem?_of_mem hx
        rw [List.getElem?_take] at hj
        split at hj
        · exact h2 j (by omega) hj
        · cases hj
      have ih := splitK_lines fuel (l.drop (o + 1)) (by rw [List.length_drop]; omega)
      have e2 : ([10] : List UInt8).length = 1 := rfl
      rw [e2, ih]
      conv => rhs; rw [hd]
      rw [splitL_app _ _ hno]
theorem splitB_lines (s : ByteArray) : Lib.splitB ⟨#[10]⟩ 0 (Lib.countB s ⟨#[10]⟩) s = linesOf s := by
  have h := Lib.splitB_data ⟨#[10]⟩ 0 (Lib.countB s ⟨#[10]⟩) s
  have e : (⟨#[10]⟩ : ByteArray).data.toList = [10] := rfl
  have h2 := splitK_lines (s.data.toList.length + 1) s.data.toList (by omega)
  have e3 : Lib.countB s ⟨#[10]⟩ = Lib.countFrom [10] (s.data.toList.length + 1) s.data.toList := rfl
  rw [e, e3, h2] at h
  rw [e3]
  unfold linesOf
  rw [← h, List.map_map]
  conv => lhs; rw [← List.map_id (Lib.splitB ⟨#[10]⟩ 0 (Lib.countFrom [10] (s.data.toList.length + 1) s.data.toList) s)]
  apply List.map_congr_left
  intro a _
  rfl
end Go.Proofs.YtebiefhfhjgmaaaDoor.Ps
