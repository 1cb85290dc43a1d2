/- spec.ParseAct: what it hands back, for every string. -/
import Derived.Test.YtebiefhfhjgmaaaDoorActM
import Derived.Test.YtebiefhfhjgmaaaDoorSplitW
import Derived.Test.YtebiefhfhjgmaaaDoorNum
namespace Go.Proofs.YtebiefhfhjgmaaaDoor.PaS
set_option maxRecDepth 100000
open Go.RowKit Mm Ac AcM Sp SpW Tx

def vO (r : ByteArray) : Int := (valL r.data.toList : Nat)
theorem act_zsP (k : Nat) (h1 : 1 ≤ k) (h2 : k ≤ 10) (rs : List ByteArray) (h : rs.length = (idx k).length) : actOf k (rs.map vO) = zsP k rs (idx k).length := by
  rcases kinds k h1 h2 with rfl | rfl | rfl | rfl | rfl | rfl | rfl | rfl | rfl | rfl
  all_goals
    simp only [idx, List.length_cons, List.length_nil] at h
    match rs, h with
    | [], h => first | (simp at h; done) | (simp [actOf, zsP, idx]; done)
    | [a], h => first | (simp at h; done) | (simp [actOf, zsP, idx, gI, vO]; done)
    | [a, b], h => first | (simp at h; done) | (simp [actOf, zsP, idx, gI, vO]; done)
    | [a, b, c], h => first | (simp at h; done) | (simp [actOf, zsP, idx, gI, vO]; done)
    | _ :: _ :: _ :: _ :: _, h => simp at h; try omega

theorem isAct_fun {s : ByteArray} {z z' : List Int} (h : IsAct s z) (h' : IsAct s z') : z = z' := by
  obtain ⟨_, k, hf, _, rfl⟩ := h
  obtain ⟨_, k', hf', _, rfl⟩ := h'
  rw [fits_inj hf hf']
theorem make_all (k : Nat) (h1 : 1 ≤ k) (h2 : k ≤ 10) (A : Option Addr) (m c base : Nat) (zs : List Int) (w : World) (h : w.ownsRow base 3 1 (.slice A m c) m (zs.map I)) (hbase : base ≤ w.heap.size) (hm : m ≤ 1000) :
    Calls Tryd.prog 90 #[.string (word k), .slice A m c] w (MkRet k base zs w) := by
  rcases kinds k h1 h2 with rfl | rfl | rfl | rfl | rfl | rfl | rfl | rfl | rfl | rfl
  · exact make_1 A m c base zs w h hbase hm
  · exact make_2 A m c base zs w h hbase hm
  · exact make_3 A m c base zs w h hbase hm
  · exact make_4 A m c base zs w h hbase hm
  · exact make_5 A m c base zs w h hbase hm
  · exact make_6 A m c base zs w h hbase hm
  · exact make_7 A m c base zs w h hbase hm
  · exact make_8 A m c base zs w h hbase hm
  · exact make_9 A m c base zs w h hbase hm
  · exact make_10 A m c base zs w h hbase hm
/-- The numbers of the first q texts. -/
def vals (rs : List ByteArray) (q : Nat) : List Int := (rs.take q).map vO
theorem below_box {B : Nat} {a w : World} (h : Below B a w) {g : Nat} (hg : B ≤ g) {v0 v1 v2 v3 v4 : Value} {o : Obj} (hs : B ≤ w.heap.size) :
    Below B a ((((((w.setCell ⟨g, 0, none⟩ v0).setCell ⟨g, 1, none⟩ v1).setCell ⟨g, 2, none⟩ v2).setCell ⟨g, 3, none⟩ v3).setCell ⟨g, 4, none⟩ v4).alloc o) := by
  have h5 := (((((h.setCell (p := ⟨g, 0, none⟩) hg v0).setCell (p := ⟨g, 1, none⟩) hg v1).setCell (p := ⟨g, 2, none⟩) hg v2).setCell (p := ⟨g, 3, none⟩) hg v3).setCell (p := ⟨g, 4, none⟩) hg v4)
  exact h5.alloc (by simpa [World.setCell] using hs) o
/-- What ParseAct hands back. -/
def ARet (s : ByteArray) (w : World) (e : Ending) (w' : World) : Prop :=
  ((∃ z, IsAct s z ∧ e = .returned (.tuple #[Agg z, .bool true])) ∨ ((∀ z, ¬ IsAct s z) ∧ e = .returned (.tuple #[Agg [], .bool false]))) ∧ Below w.heap.size w w'
theorem aret_no {s : ByteArray} {w w' : World} (h : ∀ z, ¬ IsAct s z) (hb : Below w.heap.size w w') : ARet s w (.returned (.tuple #[Agg [], .bool false])) w' := ⟨.inr ⟨h, rfl⟩, hb⟩
theorem own_cells {w : World} {base n c : Nat} {e : TypeId} {A : Option Addr} {xs : List Value} (h : w.ownsRow base e 1 (.slice A n c) n xs) (hn : 0 < n) : ∃ g, A = some ⟨g, 0, none⟩ ∧ g < w.heap.size ∧ ∀ i v, xs[i]? = some v → w.cell? ⟨g, i, none⟩ = some v := by
  rcases h.2 with ⟨_, h0⟩ | ⟨g, cap, cur, hv, _, hh, _⟩
  · omega
  · injection hv with hA _ _
    subst hA
    refine ⟨g, rfl, (Array.getElem?_eq_some_iff.1 hh).1, fun i v hi => ?_⟩
    have := h.cells (g := g) rfl i v hi
    have hadd : (⟨g, 0, none⟩ : Addr).add i = ⟨g, i, none⟩ := by unfold Addr.add; split <;> simp_all
    rwa [hadd] at this
theorem field_size (s f : ByteArray) (h : f ∈ fields s) : f.size ≤ s.size := by
  obtain ⟨p, hp, rfl⟩ := List.mem_map.1 h
  have := spans_mem s p hp
  simp [cut]
  omega
theorem spec_yes (s : ByteArray) (w : World) (hs : s.size ≤ maxLen) (h : Canon s.data.toList) : Calls Tryd.prog 89 #[.string s] w fun e w' => e = .returned (.tuple #[.int .i64 (vO s), .bool true]) ∧ Below w.heap.size w w' :=
  (Nm.spec_parse s w hs).mono fun e w' ⟨he, hb⟩ => ⟨by rw [he]; unfold pN pB vO; rw [if_pos h, decide_eq_true h], hb⟩
theorem spec_no (s : ByteArray) (w : World) (hs : s.size ≤ maxLen) (h : ¬ Canon s.data.toList) : Calls Tryd.prog 89 #[.string s] w fun e w' => e = .returned (.tuple #[.int .i64 0, .bool false]) ∧ Below w.heap.size w w' :=
  (Nm.spec_parse s w hs).mono fun e w' ⟨he, hb⟩ => ⟨by rw [he]; unfold pN pB; rw [if_neg h, decide_eq_false h], hb⟩
theorem vO_bd (s : ByteArray) (h : Canon s.data.toList) : 0 ≤ vO s ∧ vO s ≤ 1000000000 := by unfold vO; exact ⟨by omega, by have := h.2.2.2.2; omega⟩

set_option maxHeartbeats 4000000 in
theorem spec_any (s : ByteArray) (w : World) (hs : s.size ≤ maxLen) :
    Calls Tryd.prog 67 #[.string s] w (ARet s w) := by
  obtain ⟨i0, hi0, hz0, hz1, hz2⟩ := info_parts SInt.info_t
  go_enter Tryd.func67, Tryd.ntmps67
  go_wp2_with fail
  refine (SpW.spec_any s _ hs).mono ?_
  rintro e w2 (⟨hL, A, c, rfl, hown, hbel⟩ | ⟨hL, A, c, rfl, hbel⟩)
  rotate_left
  · have hbox := (Blk.new w 44 #[I 0, I 0, I 0, I 0, I 0]).below hbel (by simp)
    have Hbel := Lib.hid hbel
    have Hbox := Lib.hid hbox
    have b0 : w2.cell? ⟨w.heap.size, 0, none⟩ = some (I 0) := hbox.cell 0
    have b1 : w2.cell? ⟨w.heap.size, 1, none⟩ = some (I 0) := hbox.cell 1
    have b2 : w2.cell? ⟨w.heap.size, 2, none⟩ = some (I 0) := hbox.cell 2
    have b3 : w2.cell? ⟨w.heap.size, 3, none⟩ = some (I 0) := hbox.cell 3
    have b4 : w2.cell? ⟨w.heap.size, 4, none⟩ = some (I 0) := hbox.cell 4
    have f0 := hbox.frozen 0
    have f1 := hbox.frozen 1
    have f2 := hbox.frozen 2
    have f3 := hbox.frozen 3
    have f4 := hbox.frozen 4
    clear hbox hbel
    go_wp2
    have hB : Below w.heap.size w w2 := ((Below.refl _ _).alloc (Nat.le_refl _) _).trans (Hbel.out.mono (by simp))
    refine bodyPost_ret (ret_act Tryd.results67 (p := 2) (u := 3) (g := w.heap.size) rfl (Blk.set5 Hbox.out (I 0) (I 0) (I 0) (I 0) (I 0))) rfl (aret_no (fun z hz => hL hz.1) ?_)
    exact ((((hB.setCell (Nat.le_refl _) _).setCell (Nat.le_refl _) _).setCell (Nat.le_refl _) _).setCell (Nat.le_refl _) _).setCell (Nat.le_refl _) _
  · have hbox := (Blk.new w 44 #[I 0, I 0, I 0, I 0, I 0]).below hbel (by simp)
    have hB : Below w.heap.size w w2 := ((Below.refl _ _).alloc (Nat.le_refl _) _).trans (hbel.mono (by simp))
    have HB := Lib.hid hB
    have Hbox := Lib.hid hbox
    obtain ⟨fs, hfs⟩ : ∃ fs, fields s = fs := ⟨_, rfl⟩
    rw [hfs] at hown ⊢
    have Hfs := Lib.hid hfs
    have hfsz : ∀ f ∈ fs, f.size ≤ 600 := fun f hf => Nat.le_trans (field_size s f (by rw [hfs]; exact hf)) hL.1
    have hnn : fs.length ≤ 24 := by rw [← hfs]; simp only [fields, List.length_map]; exact hL.2.2
    clear hfs hbel hB
    by_cases hn0 : fs.length = 0
    · have hnil : fs = [] := List.eq_nil_of_length_eq_zero hn0
      have hn0' : ((fs.length : Int) == 0) = true := by rw [hn0]; rfl
      have b0 : w2.cell? ⟨w.heap.size, 0, none⟩ = some (I 0) := hbox.cell 0
      have f0 : w2.frozen? ⟨w.heap.size, 0, none⟩ = false := hbox.frozen 0
      have b1 : w2.cell? ⟨w.heap.size, 1, none⟩ = some (I 0) := hbox.cell 1
      have f1 : w2.frozen? ⟨w.heap.size, 1, none⟩ = false := hbox.frozen 1
      have b2 : w2.cell? ⟨w.heap.size, 2, none⟩ = some (I 0) := hbox.cell 2
      have f2 : w2.frozen? ⟨w.heap.size, 2, none⟩ = false := hbox.frozen 2
      have b3 : w2.cell? ⟨w.heap.size, 3, none⟩ = some (I 0) := hbox.cell 3
      have f3 : w2.frozen? ⟨w.heap.size, 3, none⟩ = false := hbox.frozen 3
      have b4 : w2.cell? ⟨w.heap.size, 4, none⟩ = some (I 0) := hbox.cell 4
      have f4 : w2.frozen? ⟨w.heap.size, 4, none⟩ = false := hbox.frozen 4
      clear hbox hown hn0 hnn
      go_wp2
      refine bodyPost_ret (ret_act Tryd.results67 (p := 2) (u := 3) (g := w.heap.size) rfl (Blk.set5 Hbox.out (I 0) (I 0) (I 0) (I 0) (I 0))) rfl (aret_no (fun z hz => by obtain ⟨_, k, hk, _⟩ := hz; have := hk.2.2.1; rw [Hfs.out, hnil] at this; cases this) ?_)
      exact (((((Below.setCell HB.out (Nat.le_refl _) _).setCell (Nat.le_refl _) _).setCell (Nat.le_refl _) _).setCell (Nat.le_refl _) _).setCell (Nat.le_refl _) _)
    · have hn0' : ((fs.length : Int) == 0) = false := beq_eq_false_iff_ne.2 (by omega)
      have hpos : 0 < fs.length := by omega
      obtain ⟨g, rfl, hg, hcell⟩ := own_cells hown hpos
      have hcells : ∀ i (hi : i < fs.length), w2.cell? ⟨g, i, none⟩ = some (.string fs[i]) := fun i hi => hcell i _ (by simp [hi])
      have Hcells := Lib.hid hcells
      have Hfsz := Lib.hid hfsz
      clear hcell hcells hn0 hown hbox hfsz
      have hw2 : w.heap.size ≤ w2.heap.size := HB.out.size
      have hgb : w.heap.size < w2.heap.size := Hbox.out.lt
      obtain ⟨f0, hf0, rs, hrs, hle, hge, hre⟩ : ∃ f0, fs[0]? = some f0 ∧ ∃ rs, fs.tail = rs ∧ rs.length + 1 ≤ fs.length ∧ fs.length ≤ rs.length + 1 ∧ ∀ q, q < rs.length → fs[q + 1]? = rs[q]? := by
        match fs, hpos with
        | f0 :: rs, _ => exact ⟨f0, by simp, rs, rfl, by simp, by simp, fun q hq => by simp⟩
      have Hf0 := Lib.hid hf0
      have Hrs := Lib.hid hrs
      have Hre := Lib.hid hre
      clear hf0 hrs hre
      go_wp2
      go_loopw [6, 7] (fun v i wr => ∃ q : Nat, q ≤ rs.length ∧ i = .int .i64 ((q : Int) + 1) ∧ wr.ownsRow w2.heap.size 3 1 v q ((vals rs q).map I) ∧ (∀ r ∈ rs.take q, Canon r.data.toList) ∧ Below w2.heap.size w2 wr) (fun _ i _ => rs.length + 1 - (intOf i).toNat)
      case atStart => exact ⟨0, Nat.zero_le _, rfl, World.ownsRow_made _ _ _ (Nat.le_refl _) (Nat.zero_le _) rfl, by simp, (Below.refl _ _).alloc (Nat.le_refl _) _⟩
      case round =>
        obtain ⟨q, hq, rfl, hown, hcan, hbel⟩ := hrel
        obtain ⟨A1, c1, rfl⟩ := own_form hown
        have Hown := Lib.hid hown
        have Hcan := Lib.hid hcan
        have Hbel := Lib.hid hbel
        have hsz := hbel.size
        have hboxr : Blk wr w.heap.size 44 #[I 0, I 0, I 0, I 0, I 0] := Hbox.out.below hbel hgb
        have hBr : Below w.heap.size w wr := HB.out.trans (hbel.mono hw2)
        have Hboxr := Lib.hid hboxr
        have HBr := Lib.hid hBr
        clear hcan hBr
        by_cases hlt : q < rs.length
        · have hfe := Hre.out q hlt
          rw [List.getElem?_eq_getElem hlt, List.getElem?_eq_getElem (by omega)] at hfe
          injection hfe with hfe
          have hc := (hbel.cell (p := ⟨g, q + 1, none⟩) hg).trans (Hcells.out (q + 1) (by omega))
          rw [hfe] at hc
          have hfz : rs[q].size ≤ 600 := Hfsz.out _ (by rw [← hfe]; exact List.getElem_mem _)
          have hlt2 : (q : Int) + 1 < (fs.length : Int) := by omega
          clear hown hbel hfe hboxr
          by_cases hC : Canon rs[q].data.toList
          · have hv := vO_bd _ hC
            go_wp2_with fail
            refine (spec_yes _ _ (by unfold maxLen; omega) hC).mono ?_
            rintro e w3 ⟨rfl, hb3⟩
            have Hown3 := Lib.hid (own_below Hown.out hb3)
            have Hbel3 := Lib.hid (Hbel.out.trans (hb3.mono hsz))
            have hsz3 := Nat.le_trans hsz hb3.size
            clear hb3 Hown Hbel Hboxr HBr
            go_wp2_with (at_builtin; refine wpList_append_own _ rfl (.tmp 43) (.tmp 45) 66 rfl w2.heap.size 3 i0 (I 0) 1 8 Tryd.underlying66 hi0 hz0 hz1 hz2 rfl (by decide) _ _ _ rfl (Hown3.out.alloc _) ⟨w3.heap.size, 0, none⟩ 1 1 [I (vO rs[q])] rfl rfl ?c1 ?c2 ?c3 ?c4 ?c5 ?_)
            case c1 => exact cells_new w3 #[I (vO rs[q])] _
            case c2 => exact one_I [vO rs[q]]
            case c3 => unfold maxLen; omega
            case c4 => omega
            case c5 => first | omega | (simp; omega)
            intro v4 w4 hown4 hgr4 _
            have Hown4 := Lib.hid hown4
            have Hbel4 := Lib.hid (Below.grown (Hbel3.out.alloc hsz3 (.cells #[I (vO rs[q])] 3)) hgr4 (by first | omega | (simp; omega)) (fun k hk => (Hown3.out.lt k hk).1))
            clear hown4 hgr4 Hown3 Hbel3
            go_wp2
            go_roundw
            case rel =>
              have e : rs.take (q + 1) = rs.take q ++ [rs[q]] := by rw [List.take_succ_eq_append_getElem hlt]
              refine ⟨q + 1, by omega, by go_num, ?_, ?_, Hbel4.out⟩
              · have e2 : vals rs (q + 1) = vals rs q ++ [vO rs[q]] := by unfold vals; rw [e, List.map_append]; rfl
                rw [e2, List.map_append]; exact Hown4.out
              · rw [e]
                intro r hr
                rcases List.mem_append.1 hr with hr | hr
                · exact Hcan.out r hr
                · simp at hr; subst hr; exact hC
            case measure => simp [intOf]; omega
          · go_wp2_with fail
            refine (spec_no _ _ (by unfold maxLen; omega) hC).mono ?_
            rintro e w3 ⟨rfl, hb3⟩
            have hbox3 : Blk w3 w.heap.size 44 #[I 0, I 0, I 0, I 0, I 0] := Hboxr.out.below hb3 Hboxr.out.lt
            have Hbox3 := Lib.hid hbox3
            have HB3 := Lib.hid (HBr.out.trans (hb3.mono HBr.out.size))
            have b0 : w3.cell? ⟨w.heap.size, 0, none⟩ = some (I 0) := hbox3.cell 0
            have f0 : w3.frozen? ⟨w.heap.size, 0, none⟩ = false := hbox3.frozen 0
            have b1 : w3.cell? ⟨w.heap.size, 1, none⟩ = some (I 0) := hbox3.cell 1
            have f1 : w3.frozen? ⟨w.heap.size, 1, none⟩ = false := hbox3.frozen 1
            have b2 : w3.cell? ⟨w.heap.size, 2, none⟩ = some (I 0) := hbox3.cell 2
            have f2 : w3.frozen? ⟨w.heap.size, 2, none⟩ = false := hbox3.frozen 2
            have b3 : w3.cell? ⟨w.heap.size, 3, none⟩ = some (I 0) := hbox3.cell 3
            have f3 : w3.frozen? ⟨w.heap.size, 3, none⟩ = false := hbox3.frozen 3
            have b4 : w3.cell? ⟨w.heap.size, 4, none⟩ = some (I 0) := hbox3.cell 4
            have f4 : w3.frozen? ⟨w.heap.size, 4, none⟩ = false := hbox3.frozen 4
            clear hbox3 hb3 Hown Hbel hc
            go_wp2
            refine bodyPost_ret (ret_act Tryd.results67 (p := 2) (u := 3) (g := w.heap.size) rfl (Blk.set5 Hbox3.out (I 0) (I 0) (I 0) (I 0) (I 0))) rfl (aret_no (fun z hz => by obtain ⟨_, k, _, hk, _⟩ := hz; rw [Hfs.out, Hrs.out] at hk; exact hC (hk _ (List.getElem_mem _))) ?_)
            exact (((((Below.setCell HB3.out (Nat.le_refl _) _).setCell (Nat.le_refl _) _).setCell (Nat.le_refl _) _).setCell (Nat.le_refl _) _).setCell (Nat.le_refl _) _)
        · obtain rfl : q = rs.length := by omega
          have hc := (hbel.cell (p := ⟨g, 0, none⟩) hg).trans (Hcells.out 0 hpos)
          have hf0 := Hf0.out
          rw [List.getElem?_eq_getElem hpos] at hf0
          injection hf0 with hf0
          rw [hf0] at hc
          have hh : Hid (fs.head? = some f0) := by have := Hf0.out; rw [← List.head?_eq_getElem?] at this; exact this
          have hge2 : ¬ (rs.length : Int) + 1 < (fs.length : Int) := by omega
          have hpos0 : (0 : Int) < (fs.length : Int) := by omega
          have htk : rs.take rs.length = rs := List.take_of_length_le (Nat.le_refl _)
          rw [htk] at Hcan
          have hvals : vals rs rs.length = rs.map vO := by unfold vals; rw [htk]
          have Hvals := Lib.hid hvals
          clear hown hbel hboxr hf0 htk hvals
          by_cases hex : ∃ k, 1 ≤ k ∧ k ≤ 10 ∧ f0 = word k
          · obtain ⟨k, hk1, hk2, rfl⟩ := hex
            go_wp2_with fail
            refine (make_all k hk1 hk2 _ _ _ w2.heap.size (vals rs rs.length) _ Hown.out hsz (by omega)).mono ?_
            rintro e w3 ⟨rfl, hb3⟩
            have hbox3 : Blk w3 w.heap.size 44 #[I 0, I 0, I 0, I 0, I 0] := Hboxr.out.below hb3 (by omega)
            have Hbox3 := Lib.hid hbox3
            have HB3 := Lib.hid (HBr.out.trans (hb3.mono hw2))
            have hg3 : w.heap.size < w3.heap.size := hbox3.lt
            have b0 : w3.cell? ⟨w.heap.size, 0, none⟩ = some (I 0) := hbox3.cell 0
            have f0 : w3.frozen? ⟨w.heap.size, 0, none⟩ = false := hbox3.frozen 0
            have b1 : w3.cell? ⟨w.heap.size, 1, none⟩ = some (I 0) := hbox3.cell 1
            have f1 : w3.frozen? ⟨w.heap.size, 1, none⟩ = false := hbox3.frozen 1
            have b2 : w3.cell? ⟨w.heap.size, 2, none⟩ = some (I 0) := hbox3.cell 2
            have f2 : w3.frozen? ⟨w.heap.size, 2, none⟩ = false := hbox3.frozen 2
            have b3 : w3.cell? ⟨w.heap.size, 3, none⟩ = some (I 0) := hbox3.cell 3
            have f3 : w3.frozen? ⟨w.heap.size, 3, none⟩ = false := hbox3.frozen 3
            have b4 : w3.cell? ⟨w.heap.size, 4, none⟩ = some (I 0) := hbox3.cell 4
            have f4 : w3.frozen? ⟨w.heap.size, 4, none⟩ = false := hbox3.frozen 4
            clear hbox3 hb3 Hown Hbel hc
            by_cases ha : (idx k).length = rs.length
            · have ha' : (((idx k).length : Int) != (rs.length : Int)) = false := by rw [ha]; simp
              have hz : IsAct s (actOf k (vals rs rs.length)) := ⟨hL, k, ⟨hk1, hk2, by rw [Hfs.out]; exact hh.out, by rw [Hfs.out]; omega⟩, by rw [Hfs.out, Hrs.out]; exact Hcan.out, by rw [Hvals.out, Hfs.out, Hrs.out]; exact act_zsP k hk1 hk2 rs ha.symm⟩
              have Hz := Lib.hid hz
              clear hz ha
              go_wp2
              refine bodyPost_ret (ret_act Tryd.results67 (p := 2) (u := 3) (g := w.heap.size) rfl ((Blk.set5 Hbox3.out (I (gI (actOf k (vals rs rs.length)) 0)) (I (gI (actOf k (vals rs rs.length)) 1)) (I (gI (actOf k (vals rs rs.length)) 2)) (I (gI (actOf k (vals rs rs.length)) 3)) (I (gI (actOf k (vals rs rs.length)) 4))).alloc _)) rfl ⟨.inl ⟨_, Hz.out, rfl⟩, ?_⟩
              exact below_box HB3.out (Nat.le_refl _) HB3.out.size
            · skip
              have ha' : (((idx k).length : Int) != (rs.length : Int)) = true := by rw [bne_iff_ne]; omega
              have hno : ∀ z, ¬ IsAct s z := fun z hz => by
                obtain ⟨_, k', hk', _, _⟩ := hz
                have e1 := hk'.2.2.1
                rw [Hfs.out, hh.out] at e1
                injection e1 with e1
                have e2 := word_inj k k' hk1 hk2 hk'.1 hk'.2.1 e1
                subst e2
                have := hk'.2.2.2
                rw [Hfs.out] at this
                omega
              have Hno := Lib.hid hno
              clear hno ha
              go_wp2
              refine bodyPost_ret (ret_act Tryd.results67 (p := 2) (u := 3) (g := w.heap.size) rfl ((Blk.set5 Hbox3.out (I 0) (I 0) (I 0) (I 0) (I 0)).alloc _)) rfl (aret_no Hno.out ?_)
              exact below_box HB3.out (Nat.le_refl _) HB3.out.size
          · have hno : ∀ z, ¬ IsAct s z := fun z hz => by
              obtain ⟨_, k', hk', _, _⟩ := hz
              have e1 := hk'.2.2.1
              rw [Hfs.out, hh.out] at e1
              injection e1 with e1
              exact hex ⟨k', hk'.1, hk'.2.1, e1⟩
            have Hno := Lib.hid hno
            have Hex := Lib.hid hex
            clear hno hex
            go_wp2_with fail
            refine (make_no f0 (fun k a b e => Hex.out ⟨k, a, b, e⟩) _ _ _ w2.heap.size (vals rs rs.length) _ Hown.out hsz (by omega)).mono ?_
            rintro e w3 ⟨rfl, hb3⟩
            have hbox3 : Blk w3 w.heap.size 44 #[I 0, I 0, I 0, I 0, I 0] := Hboxr.out.below hb3 (by omega)
            have Hbox3 := Lib.hid hbox3
            have HB3 := Lib.hid (HBr.out.trans (hb3.mono hw2))
            have hg3 : w.heap.size < w3.heap.size := hbox3.lt
            have hm1 : ((-1 : Int) != (rs.length : Int)) = true := by rw [bne_iff_ne]; omega
            have b0 : w3.cell? ⟨w.heap.size, 0, none⟩ = some (I 0) := hbox3.cell 0
            have f0 : w3.frozen? ⟨w.heap.size, 0, none⟩ = false := hbox3.frozen 0
            have b1 : w3.cell? ⟨w.heap.size, 1, none⟩ = some (I 0) := hbox3.cell 1
            have f1 : w3.frozen? ⟨w.heap.size, 1, none⟩ = false := hbox3.frozen 1
            have b2 : w3.cell? ⟨w.heap.size, 2, none⟩ = some (I 0) := hbox3.cell 2
            have f2 : w3.frozen? ⟨w.heap.size, 2, none⟩ = false := hbox3.frozen 2
            have b3 : w3.cell? ⟨w.heap.size, 3, none⟩ = some (I 0) := hbox3.cell 3
            have f3 : w3.frozen? ⟨w.heap.size, 3, none⟩ = false := hbox3.frozen 3
            have b4 : w3.cell? ⟨w.heap.size, 4, none⟩ = some (I 0) := hbox3.cell 4
            have f4 : w3.frozen? ⟨w.heap.size, 4, none⟩ = false := hbox3.frozen 4
            clear hbox3 hb3 Hown Hbel hc
            go_wp2
            refine bodyPost_ret (ret_act Tryd.results67 (p := 2) (u := 3) (g := w.heap.size) rfl ((Blk.set5 Hbox3.out (I 0) (I 0) (I 0) (I 0) (I 0)).alloc _)) rfl (aret_no Hno.out ?_)
            exact below_box HB3.out (Nat.le_refl _) HB3.out.size
end Go.Proofs.YtebiefhfhjgmaaaDoor.PaS
