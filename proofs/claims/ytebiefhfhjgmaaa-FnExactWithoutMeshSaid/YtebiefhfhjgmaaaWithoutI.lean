/- impl.WithoutMesh: a copy of the acts, those that mesh struck from it. -/
import Derived.Test.YtebiefhfhjgmaaaDelete
namespace Go.Proofs.Ytebiefhfhjgmaaa.Wom
open Go.RowKit Mm Codes

/-- The cells of a row that came in, as an append's source. -/
theorem irow_src {w : World} {B n k b off : Nat} {zs : List Int} (h : IRow w B (some ⟨b, off, none⟩) n k zs) (o : Obj) : ∀ j u, (zs.map I)[j]? = some u → B ≤ w.heap.size → (w.alloc o).cell? ((⟨b, off, none⟩ : Addr).add j) = some u := by
  intro j u hu hB
  have hadd : (⟨b, off, none⟩ : Addr).add j = ⟨b, off + j, none⟩ := by unfold Addr.add; split <;> simp_all
  have hj : j < zs.length := by
    rcases Nat.lt_or_ge j zs.length with hlt | hge
    · exact hlt
    · rw [List.getElem?_eq_none (by simpa using hge)] at hu; cases hu
  have hl := h.1
  have hn : 0 < n := by
    rcases Nat.eq_zero_or_pos n with h0 | h0
    · rw [h0, Nat.zero_mul] at hl; omega
    · exact h0
  obtain ⟨b', off', e, hb, hc⟩ := h.2 hn
  injection e with e; injection e with e1 e2; subst e1 e2
  rw [hadd, World.cell?_alloc_lt w o ⟨b, off + j, none⟩ (by show b < _; omega), hc j (by omega)]
  simp [hj] at hu
  simp [← hu, gI, List.getD, hj]

set_option maxHeartbeats 400000 in
theorem impl_any (b off : Nat) (n c : Nat) (zs : List Int) (w : World) (h : IRow w w.heap.size (some ⟨b, off, none⟩) n 5 zs) (hn : n ≤ 1048576) :
    Calls Try.prog 26 #[.slice (some ⟨b, off, none⟩) n c] w (OwnRet w 45 5 (cntA zs n) (keepA zs n)) := by
  obtain ⟨i0, hi0, hz0, hz1, hz2⟩ := info_parts info_t
  have hlen := Lib.hid h.1
  go_enter Try.func26, Try.ntmps26
  go_wp2_with (at_builtin; refine wpList_append_own _ rfl (.tmp 3) (.tmp 4) 34 rfl w.heap.size 45 i0 _ 5 40 Try.underlying34 hi0 hz0 hz1 hz2 rfl (by omega) (.slice (some ⟨w.heap.size, 0, none⟩) 0 0) 0 [] rfl (World.ownsRow_made _ _ _ (Nat.le_refl _) (Nat.zero_le _) rfl) ⟨b, off, none⟩ n c (zs.map I) rfl ?c1 ?c2 ?c3 ?c4 ?c5 ?c6 ?_)
  case c1 => simpa using hlen.out
  case c2 => exact fun j u hu => irow_src h _ j u hu (Nat.le_refl _)
  case c3 => exact one_I _
  case c4 => unfold maxLen; omega
  case c5 => omega
  case c6 => simp
  intro v1 w1 hown hgr hnn
  have hex : ∃ g cap, v1 = .slice (some ⟨g, 0, none⟩) n cap := by
    rcases hown.2 with ⟨hv, _⟩ | ⟨g, cap, cur, hv, _⟩
    · exact absurd hv hnn
    · exact ⟨g, cap, hv⟩
  have hb1 : Below w.heap.size w w1 := ((Below.refl _ _).alloc (Nat.le_refl _) _).grown hgr (by simp) (by intro k hk; simp [Value.ownBlock] at hk; omega)
  obtain ⟨g, cap, rfl⟩ := hex
  have Hown := Lib.hid hown
  have Hb1 := Lib.hid hb1
  clear hown hgr hnn hb1 h hi0 hz0 hz1 hz2
  go_wp2_with fail
  refine (delete_any g n cap w.heap.size zs _ Hown.out hn).mono ?_
  rintro e w2 ⟨rfl, hown2, hg2⟩
  have Hown2 := Lib.hid hown2
  have Hb2 := Lib.hid (below_own Hb1.out Hown.out hg2 (Nat.le_refl _))
  clear hown2 hg2
  go_wp2_with fail
  go_ret
  exact ownRet_of Hown2.out Hb2.out
end Go.Proofs.Ytebiefhfhjgmaaa.Wom
