/- Writing at a place all of whose way is the call's own. No condition. -/
import Derived.Test.YthinjmmlpgjhnaaGreatAbP
namespace Go.Proofs.YthinjmmlpgjhnaaGreat.Ab
open Go.RowKit

/-- Element i of an own slice replaced: its cells in the slice's block may hold other values (u2), its parts other sets (inside F1, what element i had, and N, which is new). -/
theorem Rep.own_set {w w' : World} {S F G F1 : CellSet} {o : Own} {g k n cap : Nat} {rows : List (List C)} {u : Nat → Value} {f : Nat → CellSet} (ho : o.ok (.slice (some ⟨g, 0, none⟩) n cap)) (hn : rows.length = n) (hk : ∀ r ∈ rows, r.length = k) (hcap : n ≤ cap)
    (hF : ∀ q, q < cap * k → F g q ∧ (∃ z, cel w g q = some z ∧ z.oneCell' = true) ∧ fro w g q = NF)
    (hu : ∀ q, q < n * k → cel w g q = some (u q))
    (hf : ∀ q, q < n * k → ∀ b o, f q b o → F b o ∧ ¬ (b = g ∧ o < cap * k))
    (hd : ∀ q q', q < n * k → q' < n * k → q ≠ q' → ∀ b o, f q b o → ¬ f q' b o)
    (hc : ∀ i j r c, rows[i]? = some r → r[j]? = some c → Rep w S (f (i * k + j)) c (u (i * k + j)))
    (i : Nat) (hi : i < n) (r' : List C) (hr' : r'.length = k) (u2 : Nat → Value)
    (hF1 : ∀ b o, F1 b o → ∃ j, j < k ∧ f (i * k + j) b o)
    (hS : SameOn S w w') (hrest : ∀ b o, F b o → ¬ F1 b o → ¬ (b = g ∧ i * k ≤ o ∧ o < i * k + k) → cel w' b o = cel w b o ∧ fro w' b o = fro w b o)
    (hcell : ∀ d, d < k → cel w' g (i * k + d) = some (u2 d) ∧ fro w' g (i * k + d) = NF)
    (hrow : Row w' S G r' u2) (hG : ∀ b o, G b o → F1 b o ∨ ¬ F b o) :
    Rep w' S (fun b o => (F b o ∧ ¬ F1 b o) ∨ G b o) (.s o (rows.set i r')) (.slice (some ⟨g, 0, none⟩) n cap) := by
  obtain ⟨f2, e1, e2, e3⟩ := hrow
  have hik : i * k + k ≤ n * k := by
    have : (i + 1) * k ≤ n * k := Nat.mul_le_mul_right k hi
    rw [Nat.add_mul] at this; omega
  have hnk : n * k ≤ cap * k := Nat.mul_le_mul_right k hcap
  have hg1 : ∀ o, o < cap * k → ¬ F1 g o := fun o ho h => by
    obtain ⟨j, hj, hb⟩ := hF1 g o h
    exact (hf _ (by omega) g o hb).2 ⟨rfl, ho⟩
  have hin : ∀ q, (i * k ≤ q ∧ q < i * k + k) → q - i * k < k := fun q h => by omega
  refine .own _ o g k n cap _ (fun q => if i * k ≤ q ∧ q < i * k + k then u2 (q - i * k) else u q) (fun q => if i * k ≤ q ∧ q < i * k + k then f2 (q - i * k) else f q)
    ho (by simpa using hn) (fun r hr => ?_) hcap (by omega) (fun q hq => ?_) (fun q hq => ?_) (fun q hq b o hb => ?_) (fun q q' hq hq' hne b o hb hb' => ?_) (fun i2 j2 r c hi2 hj2 => ?_)
  · rcases List.mem_or_eq_of_mem_set hr with h | rfl
    · exact hk r h
    · exact hr'
  · obtain ⟨h1, h2, h3⟩ := hF q hq
    by_cases hqi : i * k ≤ q ∧ q < i * k + k
    · obtain ⟨c1, c2⟩ := hcell (q - i * k) (hin q hqi)
      have he : i * k + (q - i * k) = q := by omega
      rw [he] at c1 c2
      have hlt : q - i * k < r'.length := by omega
      exact ⟨.inl ⟨h1, hg1 q hq⟩, ⟨_, c1, (e1 (q - i * k) r'[q - i * k] (List.getElem?_eq_getElem hlt)).one⟩, c2⟩
    · obtain ⟨c1, c2⟩ := hrest g q h1 (hg1 q hq) (fun h => hqi h.2)
      exact ⟨.inl ⟨h1, hg1 q hq⟩, by rw [c1]; exact h2, by rw [c2]; exact h3⟩
  · split
    · rename_i hqi
      have := (hcell (q - i * k) (hin q hqi)).1
      rwa [show i * k + (q - i * k) = q by omega] at this
    · rename_i hqi
      rw [(hrest g q (hF q (by omega)).1 (hg1 q (by omega)) (fun h => hqi h.2)).1]
      exact hu q hq
  · split at hb
    · rename_i hqi
      have hb2 := e2 _ (by have := hin q hqi; omega) b o hb
      rcases hG b o hb2 with h | h
      · obtain ⟨j, hj, hb'⟩ := hF1 b o h
        have := hf _ (by omega) b o hb'
        exact ⟨.inr hb2, this.2⟩
      · exact ⟨.inr hb2, fun e => h (by rw [e.1]; exact (hF o e.2).1)⟩
    · rename_i hqi
      have := hf q hq b o hb
      refine ⟨.inl ⟨this.1, fun h => ?_⟩, this.2⟩
      obtain ⟨j, hj, hb'⟩ := hF1 b o h
      exact hd (i * k + j) q (by omega) hq (by omega) b o hb' hb
  · have hx : ∀ q q', q < n * k → (i * k ≤ q ∧ q < i * k + k) → q' < n * k → ¬ (i * k ≤ q' ∧ q' < i * k + k) → ∀ b o, f2 (q - i * k) b o → ¬ f q' b o := by
      intro q q' hq h hq' h' b o hb hb'
      rcases hG b o (e2 _ (by have := hin q h; omega) b o hb) with h1 | h1
      · obtain ⟨j, hj, hbj⟩ := hF1 b o h1
        exact hd (i * k + j) q' (by omega) hq' (by omega) b o hbj hb'
      · exact h1 (hf q' hq' b o hb').1
    by_cases h : i * k ≤ q ∧ q < i * k + k
    · rw [if_pos h] at hb
      by_cases h' : i * k ≤ q' ∧ q' < i * k + k
      · rw [if_pos h'] at hb'
        exact e3 (q - i * k) (q' - i * k) (by have := hin q h; omega) (by have := hin q' h'; omega) (by omega) b o hb hb'
      · rw [if_neg h'] at hb'
        exact hx q q' hq h hq' h' b o hb hb'
    · rw [if_neg h] at hb
      by_cases h' : i * k ≤ q' ∧ q' < i * k + k
      · rw [if_pos h'] at hb'
        exact hx q' q hq' h' hq h b o hb' hb
      · rw [if_neg h'] at hb'
        exact hd q q' hq hq' hne b o hb hb'
  · rw [List.getElem?_set] at hi2
    by_cases hii : i = i2
    · subst hii
      rw [if_pos rfl] at hi2
      split at hi2
      · simp only [Option.some.injEq] at hi2
        subst hi2
        have hj3 := (List.getElem?_eq_some_iff.1 hj2).1
        have hq : i * k ≤ i * k + j2 ∧ i * k + j2 < i * k + k := by omega
        simp only [if_pos hq, Nat.add_sub_cancel_left]
        exact e1 j2 c hj2
      · cases hi2
    · rw [if_neg hii] at hi2
      obtain ⟨a1, a2⟩ := row_lt hn hk hi2 hj2
      have hq : ¬ (i * k ≤ i2 * k + j2 ∧ i2 * k + j2 < i * k + k) := by
        rcases Nat.lt_or_ge i i2 with h | h
        · have : (i + 1) * k ≤ i2 * k := Nat.mul_le_mul_right k h
          rw [Nat.add_mul] at this; omega
        · have : (i2 + 1) * k ≤ i * k := Nat.mul_le_mul_right k (by omega)
          rw [Nat.add_mul] at this; omega
      simp only [if_neg hq]
      have hfl := flat_lt a1 a2
      refine (hc i2 j2 r c hi2 hj2).keep hS (fun b o hb => hrest b o (hf _ hfl b o hb).1 (fun h => ?_) (fun h => (hf _ hfl b o hb).2 ⟨h.1, by omega⟩)) |>.mono (fun _ _ h => h) (fun _ _ h => h)
      obtain ⟨j, hj, hbj⟩ := hF1 b o h
      exact hd (i * k + j) (i2 * k + j2) (by omega) hfl (by omega) b o hbj hb

/-- Writing at a place below the top: where it lies; and whoever lays the cells of that row anew (with parts of the row's own set F', or of a new set N) has the whole row at the top again. -/
theorem Row.focus {w : World} {S : CellSet} : ∀ (st : Steps) {F : CellSet} {cs : List C} {u : Nat → Value} {off : Nat} {r : List C} {j : Nat} (top : Option (Nat × Nat)), st ≠ [] → Row w S F cs u → rowAt cs off st = some (r, j) → ownAt cs off st →
    ∃ g b F' u', (∀ b o, F' b o → F b o) ∧ Row w S F' r u' ∧ plc w u top off st = some (g, b + j) ∧
      (∀ d, d < r.length → F g (b + d) ∧ ¬ F' g (b + d) ∧ cel w g (b + d) = some (u' d) ∧ fro w g (b + d) = NF) ∧
      ∀ (w' : World) (r' : List C) (u2 : Nat → Value) (G : CellSet), SameOn S w w' → (∀ b' o, F b' o → ¬ F' b' o → ¬ (b' = g ∧ b ≤ o ∧ o < b + r.length) → cel w' b' o = cel w b' o ∧ fro w' b' o = fro w b' o) →
        (∀ d, d < r.length → cel w' g (b + d) = some (u2 d) ∧ fro w' g (b + d) = NF) → r'.length = r.length → Row w' S G r' u2 → (∀ b o, G b o → F' b o ∨ ¬ F b o) →
        Row w' S (fun b o => (F b o ∧ ¬ F' b o) ∨ G b o) (updAt cs off st r') u
  | [], _, _, _, _, _, _, _, h, _, _, _ => absurd rfl h
  | (i, k, j0) :: st, F, cs, u, off, r, j, top, _, h, hr, ho => by
    simp only [rowAt] at hr
    simp only [ownAt] at ho
    cases hc : cs[off]? with
    | none => rw [hc] at hr; cases hr
    | some c =>
      rw [hc] at hr ho
      cases c with
      | v x => cases hr
      | x => cases hr
      | z => cases hr
      | m es => cases hr
      | s o rows =>
        simp only at hr ho
        obtain ⟨hoi, ho⟩ := ho
        cases hi : rows[i]? with
        | none => rw [hi] at hr; cases hr
        | some r1 =>
          rw [hi] at hr ho
          simp only at hr ho
          split at hr
          case isFalse => cases hr
          rename_i hk1
          subst hk1
          obtain ⟨f, h1, h2, h3⟩ := h
          have hoff := (List.getElem?_eq_some_iff.1 hc).1
          have hrep := h1 off _ hc
          have hup : ∀ r', updAt cs off ((i, r1.length, j0) :: st) r' = cs.set off (.s o (rows.set i (updAt r1 j0 st r'))) := fun r' => by simp only [updAt, hc, hi]
          -- the top row, once the slice at 'off' has been laid anew
          have back : ∀ (w' : World) (c' : C) (F2 G : CellSet), SameOn S w w' → (∀ j c, j ≠ off → cs[j]? = some c → SameOn (f j) w w') → (∀ b o, F2 b o → f off b o) → Rep w' S (fun b o => (f off b o ∧ ¬ F2 b o) ∨ G b o) c' (u off) → (∀ b o, G b o → F2 b o ∨ ¬ F b o) →
              Row w' S (fun b o => (F b o ∧ ¬ F2 b o) ∨ G b o) (cs.set off c') u := by
            intro w' c' F2 G hS hsame hF2 hrep' hG
            refine ⟨fun j => if j = off then (fun b o => (f off b o ∧ ¬ F2 b o) ∨ G b o) else f j, fun j c hj => ?_, fun j hj b o hb => ?_, fun j j' hj hj' hne b o hb hb' => ?_⟩
            · rw [List.getElem?_set] at hj
              by_cases hjo : off = j
              · subst hjo
                rw [if_pos rfl, if_pos hoff] at hj
                simp only [Option.some.injEq] at hj
                subst hj
                simpa using hrep'
              · rw [if_neg hjo] at hj
                simp only [if_neg (Ne.symm hjo)]
                exact (h1 j c hj).keep hS (hsame j c (Ne.symm hjo) hj)
            · simp only [List.length_set] at hj
              simp only at hb
              split at hb
              · rename_i e
                exact hb.imp (fun h => ⟨h2 off hoff b o h.1, h.2⟩) id
              · rename_i e
                exact .inl ⟨h2 j hj b o hb, fun h => h3 j off hj hoff e b o hb (hF2 b o h)⟩
            · simp only [List.length_set] at hj hj'
              simp only at hb hb'
              by_cases e : j = off
              · rw [if_pos e] at hb
                have e' : j' ≠ off := fun h => hne (e.trans h.symm)
                rw [if_neg e'] at hb'
                rcases hb with hb | hb
                · exact h3 off j' hoff hj' (Ne.symm e') b o hb.1 hb'
                · rcases hG b o hb with h | h
                  · exact h3 off j' hoff hj' (Ne.symm e') b o (hF2 b o h) hb'
                  · exact h (h2 j' hj' b o hb')
              · rw [if_neg e] at hb
                by_cases e' : j' = off
                · rw [if_pos e'] at hb'
                  rcases hb' with hb' | hb'
                  · exact h3 off j hoff hj (Ne.symm e) b o hb'.1 hb
                  · rcases hG b o hb' with h | h
                    · exact h3 off j hoff hj (Ne.symm e) b o (hF2 b o h) hb
                    · exact h (h2 j hj b o hb)
                · rw [if_neg e'] at hb'
                  exact h3 j j' hj hj' hne b o hb hb'
          generalize hv : u off = v at hrep
          cases hrep with
          | nil => simp at hi
          | imm => exact absurd rfl hoi
          | own _ _ g k n cap _ u1 f1 hoo hn hk hcap hpos hF hu hf hd hcr =>
            have hr1 : r1.length = k := hk r1 (List.mem_of_getElem? hi)
            subst hr1
            have hin : i < n := by have := (List.getElem?_eq_some_iff.1 hi).1; omega
            have hik : i * r1.length + r1.length ≤ n * r1.length := by
              have : (i + 1) * r1.length ≤ n * r1.length := Nat.mul_le_mul_right _ hin
              rw [Nat.add_mul] at this; omega
            have hnk : n * r1.length ≤ cap * r1.length := Nat.mul_le_mul_right _ hcap
            -- what element i has
            let F1 : CellSet := fun b o => ∃ j, j < r1.length ∧ f1 (i * r1.length + j) b o
            have hF1 : ∀ b o, F1 b o → f off b o ∧ ¬ (b = g ∧ o < cap * r1.length) := fun b o ⟨j, hj, hb⟩ => hf _ (by omega) b o hb
            have hcel : ∀ d, d < r1.length → cel w g (i * r1.length + d) = some (u1 (i * r1.length + d)) := fun d hd => hu _ (by omega)
            have hrow1 : Row w S F1 r1 (fun d => u1 (i * r1.length + d)) :=
              ⟨fun j => f1 (i * r1.length + j), fun j c hj => hcr i j r1 c hi hj, fun j hj b o hb => ⟨j, hj, hb⟩, fun j j' hj hj' hne => hd _ _ (by omega) (by omega) (by omega)⟩
            have hread : Row w S F1 r1 (fun d => (cel w g (0 + i * r1.length + d)).getD undef) := hrow1.congr fun d hd => by rw [Nat.zero_add, hcel d hd]; rfl
            cases st with
            | nil =>
              simp only [rowAt, Option.some.injEq, Prod.mk.injEq] at hr
              obtain ⟨rfl, rfl⟩ := hr
              refine ⟨g, i * r1.length, F1, fun d => u1 (i * r1.length + d), fun b o hb => h2 off hoff b o (hF1 b o hb).1, hrow1, by simp only [plc, hv, Nat.zero_add, Option.map_some], fun d hd => ?_, ?_⟩
              · exact ⟨h2 off hoff _ _ (hF _ (by omega)).1, fun h => (hF1 _ _ h).2 ⟨rfl, by omega⟩, hcel d hd, (hF _ (by omega)).2.2⟩
              · intro w' r' u2 G hS hrest hcell hlen hrow hG
                rw [hup]
                simp only [updAt]
                refine back w' _ F1 G hS (fun j c hj hjc b o hb => ?_) (fun b o h => (hF1 b o h).1) ?_ hG
                · have hj' := (List.getElem?_eq_some_iff.1 hjc).1
                  refine hrest b o (h2 j hj' b o hb) (fun h => h3 off j hoff hj' (Ne.symm hj) b o (hF1 b o h).1 hb) (fun h => ?_)
                  exact h3 off j hoff hj' (Ne.symm hj) b o (by rw [h.1]; exact (hF o (by omega)).1) hb
                · rw [hv]
                  exact Rep.own_set (F1 := F1) hoo hn hk hcap hF hu hf hd hcr i hin r' hlen u2 (fun b o h => h) hS (fun b o hb hnb hno => hrest b o (h2 off hoff b o hb) hnb hno) hcell hrow (fun b o hb => (hG b o hb).imp id (fun h h' => h (h2 off hoff b o h')))
            | cons s st' =>
              obtain ⟨g2, b2, F2, u2, e1, e2, e3, e4, e5⟩ := Row.focus (s :: st') (some (g, 0 + i * r1.length)) (by simp) hread hr ho
              refine ⟨g2, b2, F2, u2, fun b o hb => h2 off hoff b o (hF1 b o (e1 b o hb)).1, e2, by simp only [plc, hv]; exact e3, fun d hd => ?_, ?_⟩
              · obtain ⟨a1, a2, a3, a4⟩ := e4 d hd
                exact ⟨h2 off hoff _ _ (hF1 _ _ a1).1, a2, a3, a4⟩
              · intro w' r' u3 G hS hrest hcell hlen hrow hG
                have hrow' := e5 w' r' u3 G hS (fun b o hb hnb hno => hrest b o (h2 off hoff b o (hF1 b o hb).1) hnb hno) hcell hlen hrow (fun b o hb => (hG b o hb).imp id (fun h h' => h (h2 off hoff b o (hF1 b o h').1)))
                rw [hup]
                -- the inner row's cells: all of them in F1, none in the block of element i
                have hin2 : ∀ o, b2 ≤ o → o < b2 + r.length → F1 g2 o := fun o ho1 ho2 => by
                  have := (e4 (o - b2) (by omega)).1
                  rwa [show b2 + (o - b2) = o by omega] at this
                have hsame : ∀ b o, f off b o → ¬ F1 b o → cel w' b o = cel w b o ∧ fro w' b o = fro w b o := fun b o hb hnb =>
                  hrest b o (h2 off hoff b o hb) (fun h => hnb (e1 b o h)) (fun h => hnb (by rw [h.1]; exact hin2 o h.2.1 h.2.2))
                refine back w' _ F2 G hS (fun j c hj hjc b o hb => ?_) (fun b o h => (hF1 b o (e1 b o h)).1) ?_ hG
                · have hj' := (List.getElem?_eq_some_iff.1 hjc).1
                  refine hrest b o (h2 j hj' b o hb) (fun h => h3 off j hoff hj' (Ne.symm hj) b o (hF1 b o (e1 b o h)).1 hb) (fun h => ?_)
                  exact h3 off j hoff hj' (Ne.symm hj) b o (hF1 b o (by rw [h.1]; exact hin2 o h.2.1 h.2.2)).1 hb
                · rw [hv]
                  have hlen' : (updAt r1 j0 (s :: st') r').length = r1.length := by
                    obtain ⟨i', k', j'⟩ := s
                    simp only [updAt]
                    split
                    · split <;> simp
                    · rfl
                  refine (Rep.own_set (F1 := F1) (G := fun b o => (F1 b o ∧ ¬ F2 b o) ∨ G b o) hoo hn hk hcap hF hu hf hd hcr i hin _ hlen' (fun d => u1 (i * r1.length + d)) (fun b o h => h) hS (fun b o hb hnb _ => hsame b o hb hnb) (fun d hd => ?_) (hrow'.congr fun d hd => ?_) (fun b o hb => hb.elim (fun h => .inl h.1) (fun h => (hG b o h).imp (e1 b o) (fun h h' => h (h2 off hoff b o h'))))).mono (fun _ _ h => h) (fun b o hb => hb.elim (fun h => .inl ⟨h.1, fun h' => h.2 (e1 b o h')⟩) (fun h => h.imp (fun h => ⟨(hF1 b o h.1).1, h.2⟩) id))
                  · have hnf : ¬ F1 g (i * r1.length + d) := fun h => (hF1 _ _ h).2 ⟨rfl, by omega⟩
                    have := hsame g (i * r1.length + d) (hF _ (by omega)).1 hnf
                    exact ⟨this.1.trans (hcel d hd), this.2.trans (hF _ (by omega)).2.2⟩
                  · rw [hlen'] at hd
                    show _ = (cel w g (0 + i * r1.length + d)).getD undef
                    rw [Nat.zero_add, hcel d hd]; rfl
end Go.Proofs.YthinjmmlpgjhnaaGreat.Ab
