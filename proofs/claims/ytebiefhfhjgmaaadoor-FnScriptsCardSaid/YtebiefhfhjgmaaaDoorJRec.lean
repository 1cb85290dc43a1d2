/- The records of a journal: plain facts; spec.l36Record: what it hands back, for every string of bounded length. -/
import Derived.Test.YtebiefhfhjgmaaaDoorJAdd
import Derived.Test.YtebiefhfhjgmaaaDoorParseI
import Derived.Test.YtebiefhfhjgmaaaDoorOpen3
import Derived.Lib.IndexLaws
import Derived.Lib.IndexMore
import Derived.Outline
namespace Go.Proofs.YtebiefhfhjgmaaaDoor.Jr
set_option maxRecDepth 100000
open Go.RowKit Mm Ac AcM AcW Fp Tb Ja Sp Tx PaS

/-- The first byte c lies at i. -/
def FirstAt (r : ByteArray) (c : UInt8) (i : Nat) : Prop := i < r.size ∧ r.data[i]? = some c ∧ ∀ j, j < i → r.data[j]? ≠ some c
theorem firstAt_fun {r : ByteArray} {c : UInt8} {i j : Nat} (h : FirstAt r c i) (h' : FirstAt r c j) : i = j := by
  rcases Nat.lt_trichotomy i j with hlt | he | hlt
  · exact absurd h.2.1 (h'.2.2 i hlt)
  · exact he
  · exact absurd h'.2.1 (h.2.2 j hlt)
theorem first_of {r : ByteArray} {c : UInt8} {k : Nat} (h : r.data[k]? = some c) : ∃ i, i ≤ k ∧ FirstAt r c i := by
  induction k using Nat.strongRecOn with
  | ind k ih =>
    by_cases hx : ∃ j, j < k ∧ r.data[j]? = some c
    · obtain ⟨j, hj, hc⟩ := hx
      obtain ⟨i, hi, hf⟩ := ih j hj hc
      exact ⟨i, by omega, hf⟩
    · exact ⟨k, Nat.le_refl _, (Array.getElem?_eq_some_iff.1 h).1, h, fun j hj hc => hx ⟨j, hj, hc⟩⟩
/-- r is the record of the act z, without its last byte. -/
def Rec (r : ByteArray) (z : List Int) : Prop := ∃ i t, FirstAt r 47 i ∧ IsAct (r.extract 0 i) z ∧ FT z t true ∧ mk t = r ++ ⟨#[59]⟩
theorem rec_fun {r : ByteArray} {z z' : List Int} (h : Rec r z) (h' : Rec r z') : z = z' := by
  obtain ⟨i, _, hi, ha, _⟩ := h
  obtain ⟨j, _, hj, ha', _⟩ := h'
  obtain rfl := firstAt_fun hi hj
  exact isAct_fun ha ha'
/-- The act of a line has a text. -/
theorem zs_ok (k : Nat) (h1 : 1 ≤ k) (h2 : k ≤ 10) (rs : List ByteArray) (hr : ∀ r ∈ rs, Canon r.data.toList) (hl : rs.length = (idx k).length) : Okz (zsP k rs (idx k).length) k := by
  have hv : ∀ q, q < rs.length → (0 : Int) ≤ ((valL ((rs.getD q ByteArray.empty).data.toList) : Nat) : Int) ∧ ((valL ((rs.getD q ByteArray.empty).data.toList) : Nat) : Int) ≤ 1000000000 := fun q hq => by
    have h := (hr (rs.getD q ByteArray.empty) (by simp [List.getD, hq])).2.2.2.2
    omega
  rcases kinds k h1 h2 with rfl | rfl | rfl | rfl | rfl | rfl | rfl | rfl | rfl | rfl
  all_goals
    simp only [idx, List.length_cons, List.length_nil, Nat.zero_add, Nat.reduceAdd] at hl
    refine ⟨by decide, by decide, rfl, fun i hi => ?_, fun i hi h0 hn => ?_⟩
    · simp only [idx, List.mem_cons, List.not_mem_nil, or_false] at hi <;> first
        | (rcases hi with rfl | rfl | rfl <;> first | exact hv 0 (by omega) | exact hv 1 (by omega) | exact hv 2 (by omega))
        | (rcases hi with rfl | rfl <;> first | exact hv 0 (by omega) | exact hv 1 (by omega))
        | (subst hi; exact hv 0 (by omega))
    · simp only [idx, List.mem_cons, List.not_mem_nil, or_false, not_or] at hn
      rcases (show i = 1 ∨ i = 2 ∨ i = 3 ∨ i = 4 by omega) with rfl | rfl | rfl | rfl <;> first | rfl | (exfalso; omega)
theorem isAct_ok {s : ByteArray} {z : List Int} (h : IsAct s z) : ∃ k, Okz z k := by
  obtain ⟨_, k, hf, hc, rfl⟩ := h
  refine ⟨k, zs_ok k hf.1 hf.2.1 _ hc ?_⟩
  have := hf.2.2.2
  rw [List.length_tail]
  omega
theorem isAct_ft {s : ByteArray} {z : List Int} {t : ByteArray} {b : Bool} (h : IsAct s z) (hf : FT z t b) : b = true := by
  obtain ⟨k, hk⟩ := isAct_ok h
  rcases hf with ⟨_, _, _, hb⟩ | ⟨hn, _⟩
  · exact hb
  · exact absurd hk (hn k)
theorem ft_act {s : ByteArray} {z : List Int} (h : IsAct s z) : ∃ t, FT z t true := by
  obtain ⟨k, hk⟩ := isAct_ok h
  exact ⟨_, .inl ⟨k, hk, rfl, rfl⟩⟩
theorem mk_slash (t : ByteArray) : (mk t).data[t.size]? = some 47 := by
  have e : (mk t).data.toList = t.data.toList ++ (47 :: (Lib.itoa (Sm.sumL t.data.toList) ++ [59])) := by
    unfold mk; simp [ByteArray.data_append]
  rw [← Array.getElem?_toList, e, List.getElem?_append_right (by exact Nat.le_refl _)]
  have : t.size - t.data.toList.length = 0 := by exact Nat.sub_self _
  rw [this]; rfl
theorem rec_slash {r : ByteArray} {t : ByteArray} (h : mk t = r ++ ⟨#[59]⟩) : ∃ i, FirstAt r 47 i := by
  have h1 := mk_slash t
  rw [h, ByteArray.data_append] at h1
  have hlt : t.size < r.size := by
    rcases Nat.lt_or_ge t.size r.size with hlt | hge
    · exact hlt
    · exfalso
      rw [Array.getElem?_append_right hge] at h1
      rcases Nat.eq_or_lt_of_le hge with he | hl
      · have : t.size - r.data.size = 0 := by show t.size - r.size = 0; omega
        rw [this] at h1
        exact absurd h1 (by decide)
      · rw [Array.getElem?_eq_none (by show 1 ≤ t.size - r.size; omega)] at h1; cases h1
  rw [Array.getElem?_append_left hlt] at h1
  exact (first_of h1).imp fun _ h => h.2
def RRet (r : ByteArray) (w : World) (e : Ending) (w' : World) : Prop :=
  ((∃ z, Rec r z ∧ e = .returned (.tuple #[Agg z, .bool true])) ∨ ((∀ z, ¬ Rec r z) ∧ ∃ z, e = .returned (.tuple #[Agg z, .bool false]))) ∧ Below w.heap.size w w'
theorem rret_no {r : ByteArray} {w w' : World} {z : List Int} (h : ∀ z, ¬ Rec r z) (hb : Below w.heap.size w w') : RRet r w (.returned (.tuple #[Agg z, .bool false])) w' := ⟨.inr ⟨h, z, rfl⟩, hb⟩
theorem rret_of {r : ByteArray} {w w' : World} {z : List Int} {v : Bool} (h : v = true ↔ Rec r z) (hu : ∀ z', Rec r z' → z' = z) (hb : Below w.heap.size w w') : RRet r w (.returned (.tuple #[Agg z, .bool v])) w' := by
  cases v
  · exact ⟨.inr ⟨fun z' hz' => by obtain rfl := hu z' hz'; exact absurd (h.2 hz') (by decide), z, rfl⟩, hb⟩
  · exact ⟨.inl ⟨z, h.1 rfl, rfl⟩, hb⟩

/-- What JournalAdd hands back for an empty journal. -/
def NRet (z : List Int) (w : World) (e : Ending) (w' : World) : Prop := (∃ t b, FT z t b ∧ e = .returned (.tuple #[.string (if b then mk t else ⟨#[]⟩), .bool b])) ∧ Below w.heap.size w w'
theorem jadd_nil (z : List Int) (w : World) : Calls Tryd.prog 29 #[.string ⟨#[]⟩, Agg z] w (NRet z w) :=
  (Ja.spec_any ⟨#[]⟩ z w (by decide)).mono fun e w' ⟨⟨t, b, hf, he⟩, hb⟩ => by
    refine ⟨⟨t, b, hf, ?_⟩, hb⟩
    have h1 := mk_size t
    have h2 := ft_size hf
    have h3 : (⟨#[]⟩ : ByteArray).size = 0 := rfl
    have e1 : jb ⟨#[]⟩ t b = b := by
      unfold jb
      rw [decide_eq_true (by rw [h3]; omega), Bool.and_true]
    have e2 : (⟨#[]⟩ : ByteArray) ++ mk t = mk t := by apply ByteArray.ext; simp [ByteArray.data_append]
    rw [he]
    unfold jt
    rw [e1, e2]
set_option maxHeartbeats 4000000 in
theorem record_any (r : ByteArray) (w : World) (hs : r.size ≤ 1048576) :
    Calls Tryd.prog 76 #[.string r] w (RRet r w) := by
  go_enter Tryd.func76, Tryd.ntmps76
  go_wp2
  go_loop [4] (fun i => ∃ k : Nat, k ≤ r.size ∧ i = .int .i64 k ∧ ∀ j, j < k → r.data[j]? ≠ some 47) (fun i => r.size - (intOf i).toNat)
  case atStart => exact ⟨0, Nat.zero_le _, rfl, fun j hj => by omega⟩
  case round =>
    obtain ⟨k, hk, rfl, hno⟩ := hrel
    have Hno := Lib.hid hno
    clear hno
    by_cases hlt : k < r.size
    · have hdat : r.data[k]? = some r[k] := by rw [Array.getElem?_eq_getElem hlt]; rfl
      have Hdat := Lib.hid hdat
      clear hdat
      by_cases h47 : r[k].toNat = 47
      · have hb : ((r[k].toNat : Int) != 47) = false := by rw [h47]; rfl
        have hf : FirstAt r 47 k := ⟨hlt, by rw [Hdat.out]; congr 1; rw [← UInt8.ofNat_toNat (x := r[k]), h47]; rfl, Hno.out⟩
        have Hf := Lib.hid hf
        have hes : (r.extract 0 k).size ≤ maxLen := by rw [ByteArray.size_extract]; unfold maxLen; omega
        have Hes := Lib.hid hes
        clear h47 hf hes
        go_wp2_with fail
        refine (PaS.spec_any (r.extract 0 k) _ Hes.out).mono ?_
        rintro e w1 ⟨hr, hb1⟩
        have hbox := (Blk.new w 44 #[I 0, I 0, I 0, I 0, I 0]).below hb1 (by simp)
        have Hbox := Lib.hid hbox
        have Hb1 : Hid (Below w.heap.size w w1) := ((Below.refl _ _).alloc (Nat.le_refl _) _).trans (hb1.mono (by simp))
        have hgl := hbox.lt
        clear hbox hb1
        rcases hr with ⟨z, hz, rfl⟩ | ⟨hz, rfl⟩
        · have Hz := Lib.hid hz
          clear hz
          go_wp2_with fail
          refine (jadd_nil z _).mono ?_
          rintro e w2 ⟨⟨t, b, hf, rfl⟩, hb2⟩
          obtain rfl := isAct_ft Hz.out hf
          have Hft := Lib.hid hf
          have hk2 := (Blk.new w1 44 #[I (gI z 0), I (gI z 1), I (gI z 2), I (gI z 3), I (gI z 4)]).below hb2 (by simp)
          have hx2 := (Hbox.out.alloc (.cells #[I (gI z 0), I (gI z 1), I (gI z 2), I (gI z 3), I (gI z 4)] 44)).below hb2 (by simp; omega)
          have HB2 : Hid (Below w.heap.size w w2) := (Hb1.out.alloc Hb1.out.size _).trans (hb2.mono (by have := Hb1.out.size; simp; omega))
          have hs2 : w1.heap.size < w2.heap.size := hk2.lt
          have c0 : w2.cell? ⟨w1.heap.size, 0, none⟩ = some (I (gI z 0)) := hk2.cell 0
          have c1 : w2.cell? ⟨w1.heap.size, 1, none⟩ = some (I (gI z 1)) := hk2.cell 1
          have c2 : w2.cell? ⟨w1.heap.size, 2, none⟩ = some (I (gI z 2)) := hk2.cell 2
          have c3 : w2.cell? ⟨w1.heap.size, 3, none⟩ = some (I (gI z 3)) := hk2.cell 3
          have c4 : w2.cell? ⟨w1.heap.size, 4, none⟩ = some (I (gI z 4)) := hk2.cell 4
          have b0 : w2.cell? ⟨w.heap.size, 0, none⟩ = some (I 0) := hx2.cell 0
          have b1 : w2.cell? ⟨w.heap.size, 1, none⟩ = some (I 0) := hx2.cell 1
          have b2 : w2.cell? ⟨w.heap.size, 2, none⟩ = some (I 0) := hx2.cell 2
          have b3 : w2.cell? ⟨w.heap.size, 3, none⟩ = some (I 0) := hx2.cell 3
          have b4 : w2.cell? ⟨w.heap.size, 4, none⟩ = some (I 0) := hx2.cell 4
          have f0 : w2.frozen? ⟨w.heap.size, 0, none⟩ = false := hx2.frozen 0
          have f1 : w2.frozen? ⟨w.heap.size, 1, none⟩ = false := hx2.frozen 1
          have f2 : w2.frozen? ⟨w.heap.size, 2, none⟩ = false := hx2.frozen 2
          have f3 : w2.frozen? ⟨w.heap.size, 3, none⟩ = false := hx2.frozen 3
          have f4 : w2.frozen? ⟨w.heap.size, 4, none⟩ = false := hx2.frozen 4
          have Hx2 := Lib.hid hx2
          obtain ⟨v, hv⟩ : ∃ v, ((mk t).toList == (r ++ ⟨#[59]⟩).toList) = v := ⟨_, rfl⟩
          have Hv : Hid (v = true ↔ Rec r z) := by
            show _ ↔ _
            rw [← hv, beq_iff_eq]
            constructor
            · intro e
              refine ⟨k, t, Hf.out, Hz.out, Hft.out, ?_⟩
              apply ByteArray.ext
              rw [ByteArray.toList_eq, ByteArray.toList_eq] at e
              exact Array.toList_inj.1 e
            · rintro ⟨i, t', hi, ha, hf', he⟩
              rw [(ft_fun Hft.out hf').1, he]
          have Hu : Hid (∀ z', Rec r z' → z' = z) := fun z' ⟨i, _, hi, ha, _⟩ => by
            obtain rfl := firstAt_fun hi Hf.out
            exact isAct_fun ha Hz.out
          clear hf hb2 hk2 hx2
          go_wp2
          refine bodyPost_ret (ret_act Tryd.results76 (p := 2) (u := 3) (g := w.heap.size) rfl (Blk.set5 Hx2.out (I (gI z 0)) (I (gI z 1)) (I (gI z 2)) (I (gI z 3)) (I (gI z 4)))) rfl (rret_of Hv.out Hu.out ?_)
          exact (((((Below.setCell HB2.out (Nat.le_refl _) _).setCell (Nat.le_refl _) _).setCell (Nat.le_refl _) _).setCell (Nat.le_refl _) _).setCell (Nat.le_refl _) _)
        · have Hn : Hid (∀ z, ¬ Rec r z) := fun z ⟨i, _, hi, ha, _⟩ => by
            obtain rfl := firstAt_fun hi Hf.out
            exact hz z ha
          clear hz
          go_wp2_with fail
          refine (jadd_nil [] _).mono ?_
          rintro e w2 ⟨⟨t, b, hf, rfl⟩, hb2⟩
          have hk2 := (Blk.new w1 44 #[I (gI [] 0), I (gI [] 1), I (gI [] 2), I (gI [] 3), I (gI [] 4)]).below hb2 (by simp)
          have hx2 := (Hbox.out.alloc (.cells #[I (gI [] 0), I (gI [] 1), I (gI [] 2), I (gI [] 3), I (gI [] 4)] 44)).below hb2 (by simp; omega)
          have HB2 : Hid (Below w.heap.size w w2) := (Hb1.out.alloc Hb1.out.size _).trans (hb2.mono (by have := Hb1.out.size; simp; omega))
          have hs2 : w1.heap.size < w2.heap.size := hk2.lt
          have c0 : w2.cell? ⟨w1.heap.size, 0, none⟩ = some (I (gI [] 0)) := hk2.cell 0
          have c1 : w2.cell? ⟨w1.heap.size, 1, none⟩ = some (I (gI [] 1)) := hk2.cell 1
          have c2 : w2.cell? ⟨w1.heap.size, 2, none⟩ = some (I (gI [] 2)) := hk2.cell 2
          have c3 : w2.cell? ⟨w1.heap.size, 3, none⟩ = some (I (gI [] 3)) := hk2.cell 3
          have c4 : w2.cell? ⟨w1.heap.size, 4, none⟩ = some (I (gI [] 4)) := hk2.cell 4
          have b0 : w2.cell? ⟨w.heap.size, 0, none⟩ = some (I 0) := hx2.cell 0
          have b1 : w2.cell? ⟨w.heap.size, 1, none⟩ = some (I 0) := hx2.cell 1
          have b2 : w2.cell? ⟨w.heap.size, 2, none⟩ = some (I 0) := hx2.cell 2
          have b3 : w2.cell? ⟨w.heap.size, 3, none⟩ = some (I 0) := hx2.cell 3
          have b4 : w2.cell? ⟨w.heap.size, 4, none⟩ = some (I 0) := hx2.cell 4
          have f0 : w2.frozen? ⟨w.heap.size, 0, none⟩ = false := hx2.frozen 0
          have f1 : w2.frozen? ⟨w.heap.size, 1, none⟩ = false := hx2.frozen 1
          have f2 : w2.frozen? ⟨w.heap.size, 2, none⟩ = false := hx2.frozen 2
          have f3 : w2.frozen? ⟨w.heap.size, 3, none⟩ = false := hx2.frozen 3
          have f4 : w2.frozen? ⟨w.heap.size, 4, none⟩ = false := hx2.frozen 4
          have Hx2 := Lib.hid hx2
          clear hf hb2 hk2 hx2
          cases b
          all_goals
            go_wp2
            refine bodyPost_ret (ret_act Tryd.results76 (p := 2) (u := 3) (g := w.heap.size) rfl (Blk.set5 Hx2.out (I (gI [] 0)) (I (gI [] 1)) (I (gI [] 2)) (I (gI [] 3)) (I (gI [] 4)))) rfl (rret_no Hn.out ?_)
            exact (((((Below.setCell HB2.out (Nat.le_refl _) _).setCell (Nat.le_refl _) _).setCell (Nat.le_refl _) _).setCell (Nat.le_refl _) _).setCell (Nat.le_refl _) _)
      · have hb : ((r[k].toNat : Int) != 47) = true := by rw [bne_iff_ne]; omega
        have Hne : Hid (r.data[k]? ≠ some 47) := by
          show _ ≠ _
          rw [Hdat.out]; intro e; injection e with e; exact h47 (by rw [e]; rfl)
        clear h47
        go_wp2
        go_round
        case rel => exact ⟨k + 1, by omega, by go_num, fun j hj => by
          rcases Nat.lt_or_ge j k with h | h
          · exact Hno.out j h
          · obtain rfl : j = k := by omega
            exact Hne.out⟩
        case measure => simp [intOf]; omega
    · obtain rfl : k = r.size := by omega
      have Hn : Hid (∀ z, ¬ Rec r z) := fun z hz => by
        obtain ⟨i, _, hi, _⟩ := hz
        exact Hno.out i hi.1 hi.2.1
      clear hlt
      go_wp2
      refine bodyPost_ret (ret_act Tryd.results76 (p := 2) (u := 3) (g := w.heap.size) rfl (Blk.new _ _ _)) rfl (rret_no (z := []) Hn.out ?_)
      go_grown
end Go.Proofs.YtebiefhfhjgmaaaDoor.Jr
