/- ScriptText of both sides: what they hand back, for every row of acts of bounded length. -/
import Derived.Test.YtebiefhfhjgmaaaDoorJAdd
import Derived.Test.YtebiefhfhjgmaaaDoorMem2
namespace Go.Proofs.YtebiefhfhjgmaaaDoor.Sc
set_option maxRecDepth 100000
open Go.RowKit Mm Ac AcM AcW Fp Tb Ja

/-- The q-th act of a row. -/
def az (zs : List Int) (q : Nat) : List Int := [gI zs (q * 5), gI zs (q * 5 + 1), gI zs (q * 5 + 2), gI zs (q * 5 + 3), gI zs (q * 5 + 4)]
/-- s holds the lines of the first q acts. -/
def ST (zs : List Int) : Nat → ByteArray → Prop
  | 0, s => s = ⟨#[]⟩
  | q + 1, s => ∃ s' t, ST zs q s' ∧ FT (az zs q) t true ∧ s = s' ++ (t ++ ⟨#[10]⟩)
theorem st_fun {zs : List Int} : ∀ {q : Nat} {s s' : ByteArray}, ST zs q s → ST zs q s' → s = s'
  | 0, _, _, h, h' => h.trans h'.symm
  | q + 1, _, _, ⟨a, t, h, ht, e⟩, ⟨a', t', h', ht', e'⟩ => by rw [e, e', st_fun h h', (ft_fun ht ht').1]
theorem st_size {zs : List Int} : ∀ {q : Nat} {s : ByteArray}, ST zs q s → s.size ≤ q * 101
  | 0, _, h => by rw [h]; exact Nat.zero_le _
  | q + 1, _, ⟨a, t, h, ht, e⟩ => by
    have h1 := st_size h
    have h2 := ft_size ht
    have h4 : (⟨#[10]⟩ : ByteArray).size = 1 := rfl
    rw [e, ByteArray.size_append, ByteArray.size_append, h4]
    omega
theorem st_all {zs : List Int} : ∀ {n : Nat} {s : ByteArray}, ST zs n s → ∀ q, q < n → ∃ t, FT (az zs q) t true
  | 0, _, _, q, h => absurd h (by omega)
  | n + 1, _, ⟨a, t, h, ht, _⟩, q, hq => by
    by_cases e : q = n
    · subst e; exact ⟨t, ht⟩
    · exact st_all h q (by omega)
/-- What ScriptText hands back. -/
def SRet (zs : List Int) (n : Nat) (w : World) (e : Ending) (w' : World) : Prop :=
  ((∃ s, ST zs n s ∧ e = .returned (.tuple #[.string s, .bool true])) ∨ ((∃ q t, q < n ∧ FT (az zs q) t false) ∧ e = .returned (.tuple #[.string ⟨#[]⟩, .bool false]))) ∧ Below w.heap.size w w'

theorem agg_az (zs : List Int) (q : Nat) : Value.agg #[I (gI zs (q * 5)), I (gI zs (q * 5 + 1)), I (gI zs (q * 5 + 2)), I (gI zs (q * 5 + 3)), I (gI zs (q * 5 + 4))] = Agg (az zs q) := by
  unfold Agg az
  rfl
theorem impl_act (zs : List Int) (q : Nat) (w : World) (ht : Tab w) : Calls Tryd.prog 28 #[.agg #[I (gI zs (q * 5)), I (gI zs (q * 5 + 1)), I (gI zs (q * 5 + 2)), I (gI zs (q * 5 + 3)), I (gI zs (q * 5 + 4))]] w (FaI.FRet (az zs q) w) := by
  rw [agg_az]
  exact FaI.impl_any _ _ ht
theorem spec_act (zs : List Int) (q : Nat) (w : World) : Calls Tryd.prog 26 #[.agg #[I (gI zs (q * 5)), I (gI zs (q * 5 + 1)), I (gI zs (q * 5 + 2)), I (gI zs (q * 5 + 3)), I (gI zs (q * 5 + 4))]] w (FaI.FRet (az zs q) w) := by
  rw [agg_az]
  exact FaS.spec_any _ _

set_option maxHeartbeats 600000 in
theorem impl_any (A : Option Addr) (n c : Nat) (zs : List Int) (w : World) (h : IRow w w.heap.size A n 5 zs) (hn : n ≤ 1048576) (ht : Tab w) :
    Calls Tryd.prog 34 #[.slice A n c] w (SRet zs n w) := by
  go_enter Tryd.func34, Tryd.ntmps34
  go_wp2
  go_loopw [4, 11] (fun v i wr => ∃ (q : Nat) (s : ByteArray), q ≤ n ∧ i = .int .i64 (q : Int) ∧ v = .string s ∧ ST zs q s ∧ Below w.heap.size w wr) (fun _ i _ => n - (intOf i).toNat)
  case atStart => exact ⟨0, ⟨#[]⟩, Nat.zero_le _, rfl, rfl, rfl, by go_grown⟩
  case round =>
    obtain ⟨q, s, hq, rfl, rfl, hst, hbel⟩ := hrel
    have hss := st_size hst
    have hsz := hbel.size
    have Hst := Lib.hid hst
    have Hbel := Lib.hid hbel
    by_cases hlt : q < n
    · obtain ⟨b, off, rfl, hbB⟩ := h.form (by omega)
      have g0 := (hbel.cell (p := ⟨b, off + q * 5, none⟩) hbB).trans (h.at_ hlt (j := 0) (by omega))
      have g1 := (hbel.cell (p := ⟨b, off + q * 5 + 1, none⟩) hbB).trans (h.at_ hlt (j := 1) (by omega))
      have g2 := (hbel.cell (p := ⟨b, off + q * 5 + 2, none⟩) hbB).trans (h.at_ hlt (j := 2) (by omega))
      have g3 := (hbel.cell (p := ⟨b, off + q * 5 + 3, none⟩) hbB).trans (h.at_ hlt (j := 3) (by omega))
      have g4 := (hbel.cell (p := ⟨b, off + q * 5 + 4, none⟩) hbB).trans (h.at_ hlt (j := 4) (by omega))
      have hbel' := hbel
      clear h hst hbel
      go_wp2_with fail
      refine (impl_act zs q _ (tab_alloc (tab_below ht hbel') _)).mono ?_
      rintro e w1 hr
      obtain ⟨t, b, rfl, hf, hb1⟩ := ft_of hr
      have Hf := Lib.hid hf
      have Hb1 : Hid (Below w.heap.size w w1) := Hbel.out.trans ((FaS.below_in hb1).mono hsz)
      have hts := ft_size hf
      clear hr hf hb1
      cases b
      · go_wp2
        go_ret2
        exact ⟨.inr ⟨⟨q, t, hlt, Hf.out⟩, rfl⟩, Hb1.out⟩
      · go_wp2
        go_roundw
        case rel => exact ⟨q + 1, _, by omega, by go_num, rfl, ⟨s, t, Hst.out, Hf.out, rfl⟩, Hb1.out⟩
        case measure => simp [intOf]; omega
    · obtain rfl : q = n := by omega
      go_wp2
      go_ret2
      exact ⟨.inl ⟨s, Hst.out, rfl⟩, Hbel.out⟩

end Go.Proofs.YtebiefhfhjgmaaaDoor.Sc
