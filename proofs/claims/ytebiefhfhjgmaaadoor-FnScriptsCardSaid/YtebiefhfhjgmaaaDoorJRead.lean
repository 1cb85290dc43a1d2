/- spec.JournalRead: what it hands back, for every string of bounded length. -/
import Derived.Test.YtebiefhfhjgmaaaDoorJRec
namespace Go.Proofs.YtebiefhfhjgmaaaDoor.Jr
set_option maxRecDepth 100000
open Go.RowKit Mm Ac AcM AcW Fp Tb Ja Sp Tx PaS

/-- From place b a record of the act z leads to place e. -/
def Step (s : ByteArray) (b : Nat) (z : List Int) (e : Nat) : Prop := ∃ i, b ≤ i ∧ e = i + 1 ∧ i < s.size ∧ s.data[i]? = some 59 ∧ (∀ j, b ≤ j → j < i → s.data[j]? ≠ some 59) ∧ Rec (s.extract b i) z
def Chain (s : ByteArray) : Nat → List (List Int) → Nat → Prop
  | b, [], b' => b' = b
  | b, z :: m, b' => ∃ e, Step s b z e ∧ Chain s e m b'
def Stop (s : ByteArray) (b : Nat) : Prop := ∀ z e, ¬ Step s b z e
theorem step_fun {s : ByteArray} {b e e' : Nat} {z z' : List Int} (h : Step s b z e) (h' : Step s b z' e') : z = z' ∧ e = e' := by
  obtain ⟨i, h1, rfl, h2, h3, h4, h5⟩ := h
  obtain ⟨i', h1', rfl, h2', h3', h4', h5'⟩ := h'
  have hi : i = i' := by
    rcases Nat.lt_trichotomy i i' with hlt | he | hlt
    · exact absurd h3 (h4' i h1 hlt)
    · exact he
    · exact absurd h3' (h4 i' h1' hlt)
  subst hi
  exact ⟨rec_fun h5 h5', rfl⟩
theorem chain_snoc {s : ByteArray} : ∀ {b : Nat} {m : List (List Int)} {b' e : Nat} {z : List Int}, Chain s b m b' → Step s b' z e → Chain s b (m ++ [z]) e
  | b, [], b', e, z, h, hs => by
    have h' : b' = b := h
    subst h'
    exact ⟨e, hs, rfl⟩
  | b, x :: m, b', e, z, ⟨e1, h1, h2⟩, hs => ⟨e1, h1, chain_snoc h2 hs⟩
theorem chain_fun {s : ByteArray} : ∀ {b : Nat} {m m' : List (List Int)} {b1 b1' : Nat}, Chain s b m b1 → Stop s b1 → Chain s b m' b1' → Stop s b1' → m = m' ∧ b1 = b1'
  | b, [], [], b1, b1', h, _, h', _ => ⟨rfl, (show b1 = b from h).trans (show b1' = b from h').symm⟩
  | b, [], z :: m', b1, b1', h, hs, ⟨e, h1, _⟩, _ => by
    have h0 : b1 = b := h
    subst h0
    exact absurd h1 (hs z e)
  | b, z :: m, [], b1, b1', ⟨e, h1, _⟩, _, h', hs' => by
    have h0 : b1' = b := h'
    subst h0
    exact absurd h1 (hs' z e)
  | b, z :: m, z' :: m', b1, b1', ⟨e, h1, h2⟩, hs, ⟨e', h1', h2'⟩, hs' => by
    obtain ⟨rfl, rfl⟩ := step_fun h1 h1'
    obtain ⟨rfl, rfl⟩ := chain_fun h2 hs h2' hs'
    exact ⟨rfl, rfl⟩
theorem chain_len {s : ByteArray} : ∀ {b : Nat} {m : List (List Int)} {b' : Nat}, Chain s b m b' → b + m.length ≤ b'
  | b, [], b', h => by have h' : b' = b := h; simp; omega
  | b, z :: m, b', ⟨e, ⟨i, h1, h2, _⟩, h3⟩ => by
    have := chain_len h3
    simp; omega
/-- The cells of a row of acts. -/
def rows (m : List (List Int)) : List Int := m.flatMap fun z => [gI z 0, gI z 1, gI z 2, gI z 3, gI z 4]
theorem rows_snoc (m : List (List Int)) (z : List Int) : rows (m ++ [z]) = rows m ++ [gI z 0, gI z 1, gI z 2, gI z 3, gI z 4] := by simp [rows]
theorem rows_len (m : List (List Int)) : (rows m).length = m.length * 5 := by
  induction m with
  | nil => rfl
  | cons z m ih =>
    have e : rows (z :: m) = [gI z 0, gI z 1, gI z 2, gI z 3, gI z 4] ++ rows m := by simp [rows]
    rw [e, List.length_append, ih]
    simp; omega
def JOf (s : ByteArray) (m : List (List Int)) (b : Nat) : Prop := (8000 < s.size ∧ m = [] ∧ b = 0) ∨ (s.size ≤ 8000 ∧ Chain s 0 m b ∧ Stop s b)
theorem jof_fun {s : ByteArray} {m m' : List (List Int)} {b b' : Nat} (h : JOf s m b) (h' : JOf s m' b') : m = m' ∧ b = b' := by
  rcases h with ⟨h0, rfl, rfl⟩ | ⟨h0, h1, h2⟩
  · rcases h' with ⟨_, rfl, rfl⟩ | ⟨h0', _⟩
    · exact ⟨rfl, rfl⟩
    · omega
  · rcases h' with ⟨h0', _⟩ | ⟨_, h1', h2'⟩
    · omega
    · exact chain_fun h1 h2 h1' h2'
/-- What JournalRead hands back. -/
def JRt (s : ByteArray) (w : World) (e : Ending) (w' : World) : Prop :=
  ∃ m b A c, JOf s m b ∧ e = .returned (.tuple #[.slice A m.length c, I ((b : Nat) : Int)]) ∧ w'.ownsRow w.heap.size 44 5 (.slice A m.length c) m.length ((rows m).map I) ∧ Below w.heap.size w w'
theorem jrt_of {s : ByteArray} {m : List (List Int)} {b : Nat} {w w' : World} {v : Value} (h : JOf s m b) (ho : w'.ownsRow w.heap.size 44 5 v m.length ((rows m).map I)) (hb : Below w.heap.size w w') : JRt s w (.returned (.tuple #[v, I ((b : Nat) : Int)])) w' := by
  obtain ⟨A, c, rfl⟩ := own_form ho
  exact ⟨m, b, A, c, h, rfl, ho, hb⟩
theorem info_a : (Tryd.prog.info? 44).map (fun i => (i.zero, i.size, i.bytes)) = some (some (.agg #[I 0, I 0, I 0, I 0, I 0]), 5, 40) := by kernel_rfl

set_option maxHeartbeats 4000000 in
theorem spec_any (s : ByteArray) (w : World) (hs : s.size ≤ 1048576) :
    Calls Tryd.prog 46 #[.string s] w (JRt s w) := by
  obtain ⟨i0, hi0, hz0, hz1, hz2⟩ := info_parts info_a
  by_cases h8 : 8000 < s.size
  · have Hj : Hid (JOf s [] 0) := .inl ⟨h8, rfl, rfl⟩
    go_enter Tryd.func46, Tryd.ntmps46
    go_wp2
    go_ret2
    exact jrt_of Hj.out (World.ownsRow_made _ _ _ (Nat.le_refl _) (Nat.zero_le _) rfl) (by go_grown)
  have h8' : s.size ≤ 8000 := by omega
  clear h8
  go_enter Tryd.func46, Tryd.ntmps46
  go_wp2
  go_loopw [4, 5, 6] (fun v q i wr => ∃ (k b : Nat) (m : List (List Int)), k ≤ s.size ∧ b ≤ k ∧ i = .int .i64 k ∧ q = .int .i64 b ∧ Chain s 0 m b ∧ (∀ j, b ≤ j → j < k → s.data[j]? ≠ some 59) ∧ wr.ownsRow w.heap.size 44 5 v m.length ((rows m).map I) ∧ Below w.heap.size w wr) (fun _ _ i _ => s.size - (intOf i).toNat)
  case atStart => exact ⟨0, 0, [], Nat.zero_le _, Nat.le_refl _, rfl, rfl, rfl, fun j _ h => by omega, World.ownsRow_made _ _ _ (Nat.le_refl _) (Nat.zero_le _) rfl, by go_grown⟩
  case round =>
    obtain ⟨k, b, m, hk, hbk, rfl, rfl, hch, hno, hown, hbel⟩ := hrel
    obtain ⟨A, c, rfl⟩ := own_form hown
    have hml := chain_len hch
    have Hch := Lib.hid hch
    have Hno := Lib.hid hno
    have Hown := Lib.hid hown
    have Hbel := Lib.hid hbel
    have hsz := hbel.size
    clear hch hno hown hbel
    by_cases hlt : k < s.size
    · have hdat : s.data[k]? = some s[k] := by rw [Array.getElem?_eq_getElem hlt]; rfl
      have Hdat := Lib.hid hdat
      clear hdat
      by_cases h59 : s[k].toNat = 59
      · have hb : ((s[k].toNat : Int) != 59) = false := by rw [h59]; rfl
        have H59 : Hid (s.data[k]? = some 59) := by show _ = _; rw [Hdat.out]; congr 1; rw [← UInt8.ofNat_toNat (x := s[k]), h59]; rfl
        have hes : (s.extract b k).size ≤ 1048576 := by rw [ByteArray.size_extract]; omega
        have Hes := Lib.hid hes
        clear h59 hes
        go_wp2_with fail
        refine (record_any (s.extract b k) _ Hes.out).mono ?_
        rintro e w1 ⟨hr, hb1⟩
        have Hown1 := Lib.hid (own_below Hown.out hb1)
        have Hbel1 := Lib.hid (Hbel.out.trans (hb1.mono hsz))
        have hsz1 := Hbel1.out.size
        clear hb1
        rcases hr with ⟨z, hz, rfl⟩ | ⟨hz, z, rfl⟩
        · have HS : Hid (Step s b z (k + 1)) := ⟨k, hbk, rfl, hlt, H59.out, Hno.out, hz⟩
          clear hz
          go_wp2_with (at_builtin; refine wpList_append_own _ rfl (.tmp 34) (.tmp 36) 52 rfl w.heap.size 44 i0 _ 5 40 Tryd.underlying52 hi0 hz0 hz1 hz2 rfl (by omega) _ _ _ rfl ((Hown1.out.alloc _).alloc _) ⟨w1.heap.size + 1, 0, none⟩ 1 1 [I (gI z 0), I (gI z 1), I (gI z 2), I (gI z 3), I (gI z 4)] rfl rfl ?c1 ?c2 ?c3 ?c4 ?c5 ?_)
          case c1 => have := cells_new (w1.alloc (.cells #[I (gI z 0), I (gI z 1), I (gI z 2), I (gI z 3), I (gI z 4)] 44)) #[I (gI z 0), I (gI z 1), I (gI z 2), I (gI z 3), I (gI z 4)] 44; rw [World.size_alloc] at this; exact this
          case c2 => intro u hu; simp at hu; rcases hu with rfl | rfl | rfl | rfl | rfl <;> rfl
          case c3 => unfold maxLen; omega
          case c4 => omega
          case c5 => simp; omega
          intro v2 w2 hown2 hgr2 _
          have Hown2 : Hid (w2.ownsRow w.heap.size 44 5 v2 (m ++ [z]).length ((rows (m ++ [z])).map I)) := by rw [rows_snoc, List.map_append, List.length_append]; exact hown2
          have Hbel2 := Lib.hid (below_own ((Hbel1.out.alloc hsz1 _).alloc (by simp; omega) _) ((Hown1.out.alloc _).alloc _) hgr2 (Nat.le_refl _))
          clear hown2 hgr2 Hown1 Hbel1
          go_wp2
          go_roundw
          case rel => exact ⟨k + 1, k + 1, m ++ [z], by omega, Nat.le_refl _, by go_num, by go_num, chain_snoc Hch.out HS.out, fun j h1 h2 => by omega, Hown2.out, Hbel2.out⟩
          case measure => simp [intOf]; omega
        · have Hj : Hid (JOf s m b) := .inr ⟨h8', Hch.out, fun z' e' ⟨i, h1, _, h2, h3, h4, h5⟩ => by
            have hi : i = k := by
              rcases Nat.lt_trichotomy i k with h | h | h
              · exact absurd h3 (Hno.out i h1 h)
              · exact h
              · exact absurd H59.out (h4 k hbk h)
            subst hi
            exact hz z' h5⟩
          clear hz
          go_wp2
          go_ret2
          exact jrt_of Hj.out (Hown1.out.alloc _) (Hbel1.out.alloc hsz1 _)
      · have hb : ((s[k].toNat : Int) != 59) = true := by rw [bne_iff_ne]; omega
        have Hne : Hid (s.data[k]? ≠ some 59) := by
          show _ ≠ _
          rw [Hdat.out]; intro e; injection e with e; exact h59 (by rw [e]; rfl)
        clear h59
        go_wp2
        go_roundw
        case rel => exact ⟨k + 1, b, m, by omega, by omega, by go_num, rfl, Hch.out, fun j h1 h2 => by
          rcases Nat.lt_or_ge j k with h | h
          · exact Hno.out j h1 h
          · obtain rfl : j = k := by omega
            exact Hne.out, Hown.out, Hbel.out⟩
        case measure => simp [intOf]; omega
    · obtain rfl : k = s.size := by omega
      have Hj : Hid (JOf s m b) := .inr ⟨h8', Hch.out, fun z' e' ⟨i, h1, _, h2, h3, _⟩ => Hno.out i h1 h2 h3⟩
      clear hlt
      go_wp2
      go_ret2
      exact jrt_of Hj.out Hown.out Hbel.out
end Go.Proofs.YtebiefhfhjgmaaaDoor.Jr
