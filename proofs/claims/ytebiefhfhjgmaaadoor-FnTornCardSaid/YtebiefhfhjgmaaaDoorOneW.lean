/- FnOneByte: the walk: for every list of bytes the law returns true. -/
import Derived.Test.YtebiefhfhjgmaaaDoorActsW
import Derived.Test.YtebiefhfhjgmaaaDoorOneP
import Derived.Laws.IdiomStrings
namespace Go.Proofs.YtebiefhfhjgmaaaDoor.Ow
set_option maxRecDepth 100000
open Go.RowKit Mm Ac AcM AcW Fp Tb Ja Jr Rd Dr Aw

/-- Block g begins with the bytes l, none of them frozen. -/
def BB (w : World) (g : Nat) (l : List UInt8) : Prop := g < w.heap.size ∧ ∀ (j : Nat) (c : UInt8), l[j]? = some c → w.cell? ⟨g, j, none⟩ = some (.int .u8 (c.toNat : Int)) ∧ w.frozen? ⟨g, j, none⟩ = false
theorem BB.set {w : World} {g : Nat} {l : List UInt8} (h : BB w g l) (i : Nat) (y : UInt8) {v : Value} (hv : v = .int .u8 (y.toNat : Int)) : BB (w.setCell ⟨g, i, none⟩ v) g (l.set i y) := by
  subst hv
  refine ⟨by simpa [World.setCell] using h.1, fun j c hj => ?_⟩
  rw [World.frozen?_setCell]
  by_cases e : i = j
  · subst e
    have hl : i < l.length := by
      have := (List.getElem?_eq_some_iff.1 hj).1
      simpa using this
    rw [List.getElem?_set_self hl] at hj
    injection hj with hj
    subst hj
    have h0 := h.2 i l[i] (List.getElem?_eq_getElem hl)
    exact ⟨World.cell?_setCell_same _ _ _ h0.1, h0.2⟩
  · rw [List.getElem?_set_ne e] at hj
    have h0 := h.2 j c hj
    refine ⟨?_, h0.2⟩
    rw [World.cell?_setCell_other _ _ _ _ (by intro E; injection E with _ E2; exact e E2)]
    exact h0.1
theorem BB.drewN {w : World} {g : Nat} {l : List UInt8} (h : BB w g l) (n : Nat) : BB (w.drewN n) g l := h
theorem BB.drew {w : World} {g : Nat} {l : List UInt8} (h : BB w g l) : BB w.drew g l := h
theorem BB.back {w : World} {g : Nat} {l : List UInt8} (h : BB w g l) (cap n : Nat) (hn : l.length = n) : (convert 22 9 (.slice (some ⟨g, 0, none⟩) n cap)).run Tryd.prog w = .ok (.string ⟨l.toArray⟩) w := by
  subst hn
  refine run_convert_bytes_back (P := Tryd.prog) w 22 9 5 ⟨g, 0, none⟩ cap l Tryd.underlying22 Tryd.underlying5 Tryd.underlying9 fun j hj => ?_
  have hadd : (⟨g, 0, none⟩ : Addr).add j = ⟨g, j, none⟩ := by unfold Addr.add; split <;> simp_all
  rw [hadd]
  exact (h.2 j l[j] (List.getElem?_eq_getElem hj)).1
theorem frozen_range {w : World} {g : Nat} {C : Array Value} {t : TypeId} {a b j : Nat} (h : w.heap[g]? = some (.cells C t (a, b))) (hj : j < a) : w.frozen? ⟨g, j, none⟩ = false := by
  simp [World.frozen?, h]
  omega
/-- '[]byte(s)': the bytes, in a new block. -/
theorem to_bytes (w : World) (s : ByteArray) : ∃ W cap, (convert 9 22 (.string s)).run Tryd.prog w = .ok (.slice (some ⟨w.heap.size, 0, none⟩) s.size cap) W ∧ BB W w.heap.size s.data.toList ∧ Below w.heap.size w W := by
  refine ⟨_, _, run_bytes_of_string (P := Tryd.prog) w 9 22 5 s Tryd.underlying9 Tryd.underlying22 Tryd.underlying5, ?_, ?_⟩
  · obtain ⟨C, hC⟩ : ∃ C, bytesRow s (grownCap w s.size 0 5) = C := ⟨_, rfl⟩
    have hsz : s.size ≤ C.size := by rw [← hC]; simp [bytesRow]
    have hat : ∀ (j : Nat) (c : UInt8), s.data.toList[j]? = some c → C[j]? = some (.int .u8 (c.toNat : Int)) ∧ j < s.size := fun j c hj => by
      rw [Array.getElem?_toList] at hj
      obtain ⟨hl, hc⟩ := Array.getElem?_eq_some_iff.1 hj
      rw [← hC, bytesRow_at s _ j hl, hc]
      exact ⟨rfl, hl⟩
    rw [hC]
    have hh : (w.drew.alloc (.cells C 5 (C.size, C.size + 1))).heap[w.heap.size]? = some (.cells C 5 (C.size, C.size + 1)) := heap_alloc_new w.drew _
    refine ⟨by have := (Array.getElem?_eq_some_iff.1 hh).1; exact this, fun j c hj => ?_⟩
    obtain ⟨h1, h2⟩ := hat j c hj
    refine ⟨by rw [cell_of_row _ _ _ C 5 _ hh]; exact h1, ?_⟩
    exact frozen_range hh (by omega)
  · exact (Below.refl _ _).drew.alloc (Nat.le_refl _) _
def PlF (w : World) (A : Option Addr) (zl : List Int) : Prop := ∃ g, A = some ⟨g, 0, none⟩ ∧ g < w.heap.size ∧ w.cell? ⟨g, 0, none⟩ = some (I (gI zl 0)) ∧ w.cell? ⟨g, 1, none⟩ = some (I (gI zl 1))
theorem pl_cells {w : World} {base c : Nat} {A : Option Addr} {zl : List Int} (h : w.ownsRow base 3 1 (.slice A 12 c) 12 (zl.map I)) : PlF w A zl := by
  have hr := IRow.of_own h (Nat.le_refl _)
  rcases h.2 with ⟨_, h0⟩ | ⟨g, cap, cur, hv, _, hh, _⟩
  · omega
  · injection hv with hA _ _
    subst hA
    have h0 := hr.at1 (i := 0) (by decide)
    have h1 := hr.at1 (i := 1) (by decide)
    exact ⟨g, rfl, (Array.getElem?_eq_some_iff.1 hh).1, h0, h1⟩
theorem pl_below {w w' : World} {g : Nat} {zl : List Int} (hg : g < w.heap.size) (h0 : w.cell? ⟨g, 0, none⟩ = some (I (gI zl 0))) (h1 : w.cell? ⟨g, 1, none⟩ = some (I (gI zl 1))) (hb : Below w.heap.size w w') : g < w'.heap.size ∧ w'.cell? ⟨g, 0, none⟩ = some (I (gI zl 0)) ∧ w'.cell? ⟨g, 1, none⟩ = some (I (gI zl 1)) :=
  ⟨Nat.lt_of_lt_of_le hg hb.size, (hb.cell (p := ⟨g, 0, none⟩) hg).trans h0, (hb.cell (p := ⟨g, 1, none⟩) hg).trans h1⟩
def TRs (t : ByteArray) (w : World) (e : Ending) (w' : World) : Prop := e = .returned (.tuple #[.string t, .bool true]) ∧ Below w.heap.size w w'
theorem fmts_yes {z : List Int} {k : Nat} (h : Okz z k) (w : World) : Calls Tryd.prog 26 #[Agg z] w (TRs (text k z) w) :=
  (FaS.spec_any z w).mono fun e w' hr => by
    obtain ⟨t, b, he, hf, hb⟩ := ft_of hr
    obtain ⟨rfl, rfl⟩ := ft_fun hf (.inl ⟨k, h, rfl, rfl⟩)
    exact ⟨he, hb⟩
def RetNo (w : World) (e : Ending) (w' : World) : Prop := ∃ A c, e = .returned (.tuple #[.slice A 0 c, I 0]) ∧ Below w.heap.size w w'
theorem read_no {s : ByteArray} (hj : JOf s [] 0) (w : World) (hs : s.size ≤ 1048576) (ht : Tab w) (hv : MaxV w) : Calls Tryd.prog 42 #[.string s] w (RetNo w) :=
  (read_yes hj w hs ht hv).mono fun _ _ ⟨A, c, he, _, hb⟩ => ⟨A, c, he, hb⟩
theorem mk_byte {t : ByteArray} {i : Nat} {y : UInt8} (hi : i < t.size) {hm : i < (mk t).size} (h : t.data[i]? = some y) : (mk t)[i] = y := by
  have h1 : (mk t).data.toList[i]? = t.data.toList[i]? := by
    rw [mk_list, rb, List.append_assoc, List.getElem?_append_left (by exact hi)]
  rw [Array.getElem?_toList, Array.getElem?_toList, h] at h1
  exact (Array.getElem?_eq_some_iff.1 h1).2
set_option maxHeartbeats 4000000 in
theorem walk (A : Option Addr) (n c : Nat) (zs : List Int) (w : World) (hr : BRow w w.heap.size A n zs) (_ : n ≤ maxLen) (ht : Tab w) (hv : MaxV w) :
    Calls Tryd.prog 13 #[.slice A n c] w fun e w' => e = .returned (.bool true) ∧ Below w.heap.size w w' := by
  by_cases hbig : 1048576 < n
  · go_enter Tryd.func13, Tryd.ntmps13
    go_wp2_with fail
    refine (Cn.big_yes _ _ _ _ hbig).mono ?_
    rintro e w' ⟨rfl, rfl⟩
    go_wp2
    go_ret
    exact ⟨rfl, Below.refl _ _⟩
  have hn : n ≤ 1048576 := by omega
  clear hbig
  have Ht := Lib.hid ht
  have Hv := Lib.hid hv
  have Hr := Lib.hid hr
  clear ht hv hr
  go_enter Tryd.func13, Tryd.ntmps13
  go_wp2_with fail
  refine (Cn.big_no _ _ _ _ hn).mono ?_
  rintro e w' ⟨rfl, rfl⟩
  go_wp2_with fail
  refine (drawAct_any A n c zs _ Hr.out hn).mono ?_
  rintro e w1 ⟨z, k, hz, hzn, rfl, hb1⟩
  have Hz := Lib.hid hz
  have Hzn := Lib.hid hzn
  have Hb1 := Lib.hid hb1
  have hs1 := hb1.size
  have hts : (text k z).size ≤ 100 := strP_size k z _ (by rw [List.take_of_length_le (Nat.le_refl _)]; exact hz.2.2.2.1)
  have hms := mk_size (text k z)
  have htp : 0 < (text k z).size := by
    have hl : (text k z).data.toList.length = (text k z).size := rfl
    rw [← hl, text_list, tws, joinS_cons, List.length_append]
    have := List.length_pos_iff.2 (word_low k hz.1 hz.2.1).1
    omega
  have htm : (text k z).size < (mk (text k z)).size := by rw [mk_len, rb, List.length_append]; have hl : (text k z).data.toList.length = (text k z).size := rfl; omega
  clear hz hzn hb1
  go_wp2_with fail
  refine (places_any A n c zs _ ((Hr.out.below (Hb1.out.alloc hs1 _)).more (by simp; omega)) hn).mono ?_
  rintro e w2 ⟨Ap, cp, zl, hzl, hzb, rfl, hop, hb2⟩
  have Hk2 := Lib.hid ((Blk.new w1 44 #[I (gI z 0), I (gI z 1), I (gI z 2), I (gI z 3), I (gI z 4)]).below hb2 (by simp))
  have Hb2 := Lib.hid ((Hb1.out.alloc hs1 _).trans (hb2.mono (by simp; omega)))
  obtain ⟨gp, rfl, hgp, p0, p1⟩ := pl_cells hop
  obtain ⟨c0, c1, c2, c3, c4⟩ := box_cells Hk2.out
  have hl2 := Hk2.out.lt
  have P0 := Lib.hid p0
  have P1 := Lib.hid p1
  have hz0 := hzb 0
  have hz1 := hzb 1
  clear hb2 Hb1 hop hzl hzb p0 p1
  go_wp2_with fail
  refine (fmts_yes Hz.out _).mono ?_
  rintro e w3 ⟨rfl, hb3⟩
  have Hk3 := Lib.hid (Hk2.out.below hb3 hl2)
  have Hp3 := Lib.hid (pl_below hgp P0.out P1.out hb3)
  have Hb3 := Lib.hid (Hb2.out.trans (hb3.mono Hb2.out.size))
  have hl3 := Hk3.out.lt
  clear c0 c1 c2 c3 c4
  obtain ⟨c0, c1, c2, c3, c4⟩ := box_cells Hk3.out
  clear hb3 Hb2 Hk2 P0 P1
  go_wp2_with fail
  refine (jadd_nil_yes Hz.out _ (tab_below Ht.out Hb3.out)).mono ?_
  rintro e w4 ⟨rfl, hb4⟩
  obtain ⟨hg4, p0, p1⟩ := pl_below Hp3.out.1 Hp3.out.2.1 Hp3.out.2.2 hb4
  have Hb4 := Lib.hid (Hb3.out.trans (hb4.mono Hb3.out.size))
  obtain ⟨w5, cap, hconv, hbb, hb5⟩ := to_bytes w4 (mk (text k z))
  have Hbb := Lib.hid hbb
  have Hb5 := Lib.hid (Hb4.out.trans (hb5.mono Hb4.out.size))
  have q0 := (hb5.cell (p := ⟨gp, 0, none⟩) hg4).trans p0
  have q1 := (hb5.cell (p := ⟨gp, 1, none⟩) hg4).trans p1
  obtain ⟨kk, hkk⟩ : ∃ kk : Nat, gI zl 0 % ((text k z).size : Int) = (kk : Int) := ⟨(gI zl 0 % ((text k z).size : Int)).toNat, by have := Int.emod_nonneg (gI zl 0) (show ((text k z).size : Int) ≠ 0 by omega); omega⟩
  have hkk' : (gI zl 0).tmod ((text k z).size : Int) = (kk : Int) := by rw [Int.tmod_eq_emod_of_nonneg hz0.1]; exact hkk
  have hkt : kk < (text k z).size := by have := Int.emod_lt_of_pos (gI zl 0) (show (0 : Int) < ((text k z).size : Int) by omega); omega
  have hkj : kk < (mk (text k z)).size := by omega
  obtain ⟨q, hq⟩ : ∃ q, gI zl 1 % 20 = q := ⟨_, rfl⟩
  have hq' : (gI zl 1).tmod 20 = q := by rw [Int.tmod_eq_emod_of_nonneg hz1.1]; exact hq
  have hqb : 0 ≤ q ∧ q ≤ 19 := by omega
  have hxb : ((mk (text k z))[kk]).toNat < 256 := UInt8.toNat_lt _
  obtain ⟨v, hv⟩ : ∃ v, (((mk (text k z))[kk].toNat : Int) + 1 + q) % 25 = v := ⟨_, rfl⟩
  have hv' : (((mk (text k z))[kk].toNat : Int) + 1 + q).tmod 25 = v := by rw [Int.tmod_eq_emod_of_nonneg (by omega)]; exact hv
  have hvb : 0 ≤ v ∧ v ≤ 24 := by omega
  have hcell := hbb.2 kk ((mk (text k z))[kk]) (by rw [Array.getElem?_toList]; exact Array.getElem?_eq_getElem hkj)
  have s0 := hcell.1
  have f0 := hcell.2
  clear hb4 Hb3 Hk3 c0 c1 c2 c3 c4 hbb hb5 Hp3 hcell p0 p1
  go_wp2_with fail
  have hy1 : (((UInt8.ofNat (97 + v).toNat).toNat : Nat) : Int) = 97 + v := by rw [UInt8.toNat_ofNat']; omega
  have hset := Hbb.out.set kk (UInt8.ofNat (97 + v).toNat) (v := .int .u8 (97 + v)) (by rw [hy1])
  have Hy1 := Lib.hid hy1
  have Hset := Lib.hid hset
  have hw4 := Hb4.out.size
  have hw45 : w.heap.size ≤ w4.heap.size := hw4
  clear hset hy1 hkk hkk'
  go_region
  obtain ⟨b, hb⟩ : ∃ b, ((97 + v) == ((mk (text k z))[kk].toNat : Int)) = b := ⟨_, rfl⟩
  have s1 : (w5.setCell ⟨w4.heap.size, kk, none⟩ (.int .u8 (97 + v))).cell? ⟨w4.heap.size, kk, none⟩ = some (.int .u8 (97 + v)) := World.cell?_setCell_same _ _ _ s0
  cases b
  all_goals
    go_wp2_with fail
    go_quiet (fail)
  · have Hq := Lib.hid (show 97 + v ≠ ((mk (text k z))[kk].toNat : Int) by simpa using hb)
    generalize hW : World.drewN _ nq = W6
    have hB6 : BB W6 w4.heap.size ((mk (text k z)).data.toList.set kk (UInt8.ofNat (97 + v).toNat)) := by rw [← hW]; exact Hset.out
    have hbl : Below w.heap.size w W6 := by rw [← hW]; exact below_drewN ((Hb5.out.setCell (p := ⟨w4.heap.size, kk, none⟩) hw45 _).drew) nq
    have hcv := hB6.back cap (mk (text k z)).size (by rw [List.length_set]; rfl)
    have Hj : Hid (JOf (⟨((mk (text k z)).data.toList.set kk (UInt8.ofNat (97 + v).toNat)).toArray⟩ : ByteArray) [] 0) := jof_bad Hz.out hkt (by have := Hy1.out; omega) (fun e => Hq.out (by
      rw [← Hy1.out, mk_byte hkt e])) rfl
    have Hbl := Lib.hid hbl
    clear hb hW hB6 hbl Hset s1 Hbb Hb5 s0 f0
    go_wp2_with fail
    refine (read_no Hj.out _ (by show ((mk (text k z)).data.toList.set kk (UInt8.ofNat (97 + v).toNat)).length ≤ _; rw [List.length_set]; show (mk (text k z)).size ≤ _; omega) (tab_below Ht.out Hbl.out) (max_below Hv.out Hbl.out)).mono ?_
    rintro e w7 ⟨A7, c7, rfl, hb7⟩
    have Hb7 := Lib.hid (Hbl.out.trans (hb7.mono Hbl.out.size))
    clear hb7
    go_wp2_with fail
    refine (read_one Hz.out Hzn.out _ (tab_below Ht.out Hb7.out) (max_below Hv.out Hb7.out)).mono ?_
    rintro e w8 ⟨g8, c8, rfl, hg8, r0, r1, r2, r3, r4, hb8⟩
    have Hb8 := Lib.hid (Hb7.out.trans (hb8.mono Hb7.out.size))
    clear hb8 Hb7 r0 r1 r2 r3 r4
    go_wp2
    go_ret
    exact ⟨rfl, Hb8.out⟩
  · have Hq := Lib.hid (show 97 + v = ((mk (text k z))[kk].toNat : Int) by simpa using hb)
    generalize hW : World.drewN _ nq = W6
    have hB6 : BB W6 w4.heap.size ((mk (text k z)).data.toList.set kk (UInt8.ofNat (97 + v).toNat)) := by rw [← hW]; exact Hset.out
    have hbl : Below w.heap.size w W6 := by rw [← hW]; exact below_drewN ((Hb5.out.setCell (p := ⟨w4.heap.size, kk, none⟩) hw45 _).drew) nq
    have hB7 : BB (W6.setCell ⟨w4.heap.size, kk, none⟩ (.int .u8 122)) w4.heap.size ((mk (text k z)).data.toList.set kk 122) := by
      have := hB6.set kk 122 (v := .int .u8 122) rfl
      rwa [List.set_set] at this
    have hl6 := hB6.2 kk (UInt8.ofNat (97 + v).toNat) (List.getElem?_set_self hkj)
    have s6 := hl6.1
    have f6 := hl6.2
    have hcv := hB7.back cap (mk (text k z)).size (by rw [List.length_set]; rfl)
    have Hj : Hid (JOf (⟨((mk (text k z)).data.toList.set kk 122).toArray⟩ : ByteArray) [] 0) := jof_bad Hz.out hkt (by decide) (fun e => by
      have h1 := Hq.out
      rw [mk_byte hkt e] at h1
      have h2 : (122 : UInt8).toNat = 122 := rfl
      omega) rfl
    have Hbl : Hid (Below w.heap.size w (W6.setCell ⟨w4.heap.size, kk, none⟩ (.int .u8 122))) := hbl.setCell (p := ⟨w4.heap.size, kk, none⟩) hw45 _
    clear hb hW hB6 hB7 hbl hl6 Hset s1 Hbb Hb5 s0 f0
    go_wp2_with fail
    refine (read_no Hj.out _ (by show ((mk (text k z)).data.toList.set kk 122).length ≤ _; rw [List.length_set]; show (mk (text k z)).size ≤ _; omega) (tab_below Ht.out Hbl.out) (max_below Hv.out Hbl.out)).mono ?_
    rintro e w7 ⟨A7, c7, rfl, hb7⟩
    have Hb7 := Lib.hid (Hbl.out.trans (hb7.mono Hbl.out.size))
    clear hb7
    go_wp2_with fail
    refine (read_one Hz.out Hzn.out _ (tab_below Ht.out Hb7.out) (max_below Hv.out Hb7.out)).mono ?_
    rintro e w8 ⟨g8, c8, rfl, hg8, r0, r1, r2, r3, r4, hb8⟩
    have Hb8 := Lib.hid (Hb7.out.trans (hb8.mono Hb7.out.size))
    clear hb8 Hb7 r0 r1 r2 r3 r4
    go_wp2
    go_ret
    exact ⟨rfl, Hb8.out⟩
end Go.Proofs.YtebiefhfhjgmaaaDoor.Ow
