/- Slots and addresses: whom an address belongs to; contracts of the functions that ask it, the reference's and the program's. No condition. -/
import Derived.Test.YtogajjgmcnjkbaaGreatMf
import Derived.Test.YtogajjgmcnjkbaaGreatMe

namespace Go.Proofs.YtogajjgmcnjkbaaGreat.Ab
open Go.RowKit
set_option maxRecDepth 20000
set_option maxHeartbeats 4000000
theorem spanOk_class {s : DSpan} (h : spanOk s = true) : 0 ≤ s.Page ∧ s.Page ≤ 31 ∧ 0 ≤ s.Class ∧ s.Class ≤ 3 := by
 unfold spanOk at h; simp only [decide_eq_true_eq] at h; omega
theorem csz_cases {k : Int} (h : 0 ≤ k ∧ k ≤ 3) : csz k = 1 ∨ csz k = 2 ∨ csz k = 4 ∨ csz k = 8 := by
 obtain rfl | rfl | rfl | rfl : k = 0 ∨ k = 1 ∨ k = 2 ∨ k = 3 := by omega
 all_goals decide
theorem tdiv_pos {x y : Int} (h : 0 ≤ x) : x.tdiv y = x / y := Int.tdiv_eq_ediv_of_nonneg h
theorem tmod_pos {x y : Int} (h : 0 ≤ x) : x.tmod y = x % y := Int.tmod_eq_emod_of_nonneg h
def S2 (p : Int × Int) : List C := [I p.1, I p.2]
theorem s2_eq {x1 x2 : Int} {p : Int × Int} (h : (x1, x2) = p) : [I x1, I x2] = S2 p := by subst h; rfl
theorem SlotAt_spec (s : DSpan) (a : Int) (ha : wfI a) : CallsA Tryz.prog 294 false [.val (some 3) (DSpan.enc .imm s), .val none [I a]] (.tup [none, none]) (S2 (slotAt s a)) := by
 have h1 := SpanOk_spec s
 have h2 := ClassSize_spec s.Class
 obtain ⟨ha1, ha2⟩ := ha
 cases e1 : spanOk s <;> rw [e1] at h1
 ·refine fO (n := 33) [(4,12,[23,24,25,26,27,28,29,30,31,32,4,5])] Tryz.func294 (by kernel_rfl) rfl (by kernel_rfl) (by rfl) (.inr ⟨trivial, trivial, trivial⟩) ?_
  repeat' ((conv=>whnf);first|with_reducible (first|refine Lm ?_|refine Wm (by omega) ?_|refine Bn ?_|refine Fm rfl ?_)|refine Bt ?_|refine Bu ?_|refine Cl.mk h1 ?_)
  exact s2_eq (by unfold slotAt slotIn; rw [e1]; rfl)
 ·have hc := spanOk_class e1
  have hz := csz_cases ⟨hc.2.2.1, hc.2.2.2⟩
  by_cases hin : 16 * s.Page ≤ a ∧ a ≤ 16 * s.Page + 15
  ·have h0 : 0 ≤ a := by omega
   refine fO (n := 33) [(4,12,[23,24,25,26,27,28,29,30,31,32,4,5])] Tryz.func294 (by kernel_rfl) rfl (by kernel_rfl) (by rfl) (.inr ⟨trivial, trivial, trivial⟩) ?_
   repeat' ((conv=>whnf);first|with_reducible (first|refine Lm ?_|refine Wm (by omega) ?_|refine dF (by omega) (fun hq => ?_)|refine Bf.N (fun hq => ?_) (fun hq => ?_)|refine Bn ?_|refine Fm rfl ?_)|refine Bt ?_|refine Bu ?_|refine Cl.mk h1 ?_|refine Cl.mk h2 ?_|refine Cd.mk (by decide) ?_|refine Cd.mk (by omega) ?_|refine Wr.mk ((congrArg _ (tdiv_pos h0)).trans (wrapI (by omega) (by omega))) ?_|refine Ev.mk (tmod_pos h0) ?_|refine Wr.mk ((congrArg _ (tdiv_pos (by omega))).trans (wrapI (by rcases hz with e|e|e|e <;> rw [e] <;> omega) (by rcases hz with e|e|e|e <;> rw [e] <;> omega))) ?_|refine Ev.mk (tmod_pos (by omega)) ?_)
   all_goals first
    |(exfalso; omega)
    |exact s2_eq (by unfold slotAt slotIn; rw [e1, decide_eq_true hin]; show _ = ((a - 16 * s.Page) / csz s.Class, (a - 16 * s.Page) % csz s.Class); rw [show a % 16 = a - 16 * s.Page by omega])
  ·refine fO (n := 33) [(4,12,[23,24,25,26,27,28,29,30,31,32,4,5])] Tryz.func294 (by kernel_rfl) rfl (by kernel_rfl) (by rfl) (.inr ⟨trivial, trivial, trivial⟩) ?_
   repeat' ((conv=>whnf);first|with_reducible (first|refine Lm ?_|refine Wm (by omega) ?_|refine Bf.D (fun hq => ?_) (fun hq => ?_)|refine Bf.N (fun hq => ?_) (fun hq => ?_)|refine Bn ?_|refine Fm rfl ?_)|refine Bt ?_|refine Bu ?_|refine Cl.mk h1 ?_|refine Cd.mk (by decide) ?_|refine Wr.mk ((congrArg _ (tdiv_pos (by omega))).trans (wrapI (by omega) (by omega))) ?_)
   all_goals first
    |exact s2_eq (by unfold slotAt slotIn; rw [e1, decide_eq_false hin]; rfl)
    |(exfalso; omega)
theorem SlotAt_impl (s : DSpan) (a : Int) : CallsA Tryz.prog 311 false [.val (some 3) (DSpan.enc .imm s), .val none [I a]] (.tup [none, none]) (S2 (slotAt s a)) := by
 have h1 := SpanOk_impl s
 have h2 := ClassSize_impl s.Class
 cases e1 : spanOk s <;> rw [e1] at h1
 ·refine fO (n := 38) [(4,12,[28,29,30,31,32,33,34,35,36,37,4,5])] Tryz.func311 (by kernel_rfl) rfl (by kernel_rfl) (by rfl) (.inr ⟨trivial, trivial, trivial⟩) ?_
  repeat' ((conv=>whnf);first|with_reducible (first|refine Lm ?_|refine Wm (by omega) ?_|refine Bn ?_|refine Fm rfl ?_)|refine Bt ?_|refine Bu ?_|refine Cl.mk h1 ?_)
  exact s2_eq (by unfold slotAt slotIn; rw [e1]; rfl)
 ·have hc := spanOk_class e1
  have hz := csz_cases ⟨hc.2.2.1, hc.2.2.2⟩
  by_cases hin : 16 * s.Page ≤ a ∧ a ≤ 16 * s.Page + 15
  ·refine fO (n := 38) [(4,12,[28,29,30,31,32,33,34,35,36,37,4,5])] Tryz.func311 (by kernel_rfl) rfl (by kernel_rfl) (by rfl) (.inr ⟨trivial, trivial, trivial⟩) ?_
   repeat' ((conv=>whnf);first|with_reducible (first|refine Lm ?_|refine Wm (by omega) ?_|refine dT (by omega) (fun hq => ?_)|refine dF (by omega) (fun hq => ?_)|refine Bf.D (fun hq => ?_) (fun hq => ?_)|refine Bn ?_|refine Fm rfl ?_)|refine Bt ?_|refine Bu ?_|refine Cl.mk h1 ?_|refine Cl.mk h2 ?_|refine Cl.mk (between_ok _ _ _) ?_|refine Cd.mk (by omega) ?_|refine Wr.mk ((congrArg _ (tdiv_pos (by omega))).trans (wrapI (by rcases hz with e|e|e|e <;> rw [e] <;> omega) (by rcases hz with e|e|e|e <;> rw [e] <;> omega))) ?_|refine Ev.mk (tmod_pos (by omega)) ?_)
   all_goals exact s2_eq (by unfold slotAt slotIn; rw [e1, decide_eq_true hin]; show _ = ((a - 16 * s.Page) / csz s.Class, (a - 16 * s.Page) % csz s.Class); rw [show a - s.Page * 16 = a - 16 * s.Page by omega])
  ·refine fO (n := 38) [(4,12,[28,29,30,31,32,33,34,35,36,37,4,5])] Tryz.func311 (by kernel_rfl) rfl (by kernel_rfl) (by rfl) (.inr ⟨trivial, trivial, trivial⟩) ?_
   repeat' ((conv=>whnf);first|with_reducible (first|refine Lm ?_|refine Wm (by omega) ?_|refine dT (by omega) (fun hq => ?_)|refine dF (by omega) (fun hq => ?_)|refine Bf.D (fun hq => ?_) (fun hq => ?_)|refine Bn ?_|refine Fm rfl ?_)|refine Bt ?_|refine Bu ?_|refine Cl.mk h1 ?_|refine Cl.mk (between_ok _ _ _) ?_)
   all_goals exact s2_eq (by unfold slotAt slotIn; rw [e1, decide_eq_false hin]; rfl)
theorem l02Bit_ok (b i : Int) : CallsA Tryz.prog 347 false [.val none [I b], .val none [I i]] .one [B (decide (0 ≤ b ∧ 0 ≤ i ∧ i ≤ 15))] := by
 refine fO (n := 11) [] Tryz.func347 (by kernel_rfl) rfl (by kernel_rfl) (by rfl) (.inr ⟨trivial, trivial⟩) ?_
 repeat' ((conv=>whnf);first|with_reducible (first|refine Lm ?_|refine Wm (by omega) ?_|refine Bf.D (fun hq => ?_) (fun hq => ?_)|refine Bn ?_|refine Fm rfl ?_)|refine Bt ?_|refine Bu ?_|refine Cl.mk (l01In_ok _ 0 15) ?_)
 all_goals exact congrArg (fun z => [B z]) ((by first | (symm; exact decide_eq_false (by omega)) | exact decide_eq_decide.2 (by omega)))
theorem slotOk_ok (b i : Int) : CallsA Tryz.prog 352 false [.val none [I b], .val none [I i]] .one [B (decide (0 ≤ b ∧ 0 ≤ i ∧ i ≤ 15))] := by
 refine fO (n := 11) [] Tryz.func352 (by kernel_rfl) rfl (by kernel_rfl) (by rfl) (.inr ⟨trivial, trivial⟩) ?_
 repeat' ((conv=>whnf);first|with_reducible (first|refine Lm ?_|refine Wm (by omega) ?_|refine Bf.D (fun hq => ?_) (fun hq => ?_)|refine Bn ?_|refine Fm rfl ?_)|refine Bt ?_|refine Bu ?_|refine Cl.mk (between_ok _ 0 15) ?_)
 all_goals exact congrArg (fun z => [B z]) ((by first | (symm; exact decide_eq_false (by omega)) | exact decide_eq_decide.2 (by omega)))
theorem shr_ok {b i : Int} (hb : 0 ≤ b ∧ b ≤ 9223372036854775807) (hi : 0 ≤ i ∧ i ≤ 15) : b.fdiv (2 ^ min i.toNat IntKind.i64.bits) = b / 2 ^ i.toNat ∧ 0 ≤ b / 2 ^ i.toNat ∧ b / 2 ^ i.toNat ≤ 9223372036854775807 := by
 have h1 : min i.toNat IntKind.i64.bits = i.toNat := Nat.min_eq_left (show i.toNat ≤ 64 by omega)
 rw [h1]
 have h2 : (0 : Int) ≤ 2 ^ i.toNat := Int.pow_nonneg (by decide)
 refine ⟨Int.fdiv_eq_ediv_of_nonneg _ h2, Int.ediv_nonneg hb.1 h2, ?_⟩
 have := Int.ediv_le_self (2 ^ i.toNat : Int) hb.1
 omega
theorem hasSlot_eq {b i : Int} (hb : 0 ≤ b) (hi : 0 ≤ i ∧ i ≤ 15) : ((((b / 2 ^ i.toNat).toNat &&& (1 : Int).toNat : Nat) : Int) == 1) = hasSlot b i := by
 have h2 : (0 : Int) ≤ b / 2 ^ i.toNat := Int.ediv_nonneg hb (Int.pow_nonneg (by decide))
 have h3 : (b / 2 ^ i.toNat).toNat &&& (1 : Int).toNat = (b / 2 ^ i.toNat).toNat % 2 := Nat.and_one_is_mod _
 rw [h3]
 unfold hasSlot
 generalize b / 2 ^ i.toNat = q at h2 ⊢
 rw [Bool.eq_iff_iff, beq_iff_eq, decide_eq_true_eq]
 omega
theorem HasSlot_spec (b i : Int) (hb : b ≤ 9223372036854775807) : CallsA Tryz.prog 295 false [.val none [I b], .val none [I i]] .one [B (hasSlot b i)] := by
 by_cases h : 0 ≤ b ∧ 0 ≤ i ∧ i ≤ 15
 ·obtain ⟨s1, s2⟩ := shr_ok (b := b) (i := i) ⟨h.1, hb⟩ h.2
  have hw : IntKind.u64.wrap i = i := by unfold IntKind.wrap; simp [IntKind.signed, IntKind.bits]; omega
  refine fO (n := 16) [] Tryz.func295 (by kernel_rfl) rfl (by kernel_rfl) (by rfl) (.inr ⟨trivial, trivial⟩) ?_
  repeat' ((conv=>whnf);first|with_reducible (first|refine Lm ?_|refine Wm (by omega) ?_|refine dT (by omega) (fun hq => ?_)|refine dF (by omega) (fun hq => ?_)|refine Bf.D (fun hq => ?_) (fun hq => ?_)|refine Bn ?_|refine Fm rfl ?_)|refine Bt ?_|refine Bu ?_|refine Cl.mk (l02Bit_ok _ _) ?_|refine Cd.mk (by omega) ?_|refine Wr.mk hw ?_|refine Ev.mk s1 ?_|refine Wr.mk (and64 s2 ⟨by decide, by decide⟩) ?_)
  all_goals exact congrArg (fun z => [B z]) ((hasSlot_eq h.1 h.2))
 ·refine fO (n := 16) [] Tryz.func295 (by kernel_rfl) rfl (by kernel_rfl) (by rfl) (.inr ⟨trivial, trivial⟩) ?_
  repeat' ((conv=>whnf);first|with_reducible (first|refine Lm ?_|refine Wm (by omega) ?_|refine dT (by omega) (fun hq => ?_)|refine dF (by omega) (fun hq => ?_)|refine Bf.D (fun hq => ?_) (fun hq => ?_)|refine Bn ?_|refine Fm rfl ?_)|refine Bt ?_|refine Bu ?_|refine Cl.mk (l02Bit_ok _ _) ?_)
  all_goals exact congrArg (fun z => [B z]) ((by unfold hasSlot; symm; exact decide_eq_false fun e => h ⟨e.1, e.2.1, e.2.2.1⟩))
theorem HasSlot_impl (b i : Int) (hb : b ≤ 9223372036854775807) : CallsA Tryz.prog 312 false [.val none [I b], .val none [I i]] .one [B (hasSlot b i)] := by
 by_cases h : 0 ≤ b ∧ 0 ≤ i ∧ i ≤ 15
 ·obtain ⟨s1, s2⟩ := shr_ok (b := b) (i := i) ⟨h.1, hb⟩ h.2
  refine fO (n := 15) [] Tryz.func312 (by kernel_rfl) rfl (by kernel_rfl) (by rfl) (.inr ⟨trivial, trivial⟩) ?_
  repeat' ((conv=>whnf);first|with_reducible (first|refine Lm ?_|refine Wm (by omega) ?_|refine dT (by omega) (fun hq => ?_)|refine dF (by omega) (fun hq => ?_)|refine Bf.D (fun hq => ?_) (fun hq => ?_)|refine Bn ?_|refine Fm rfl ?_)|refine Bt ?_|refine Bu ?_|refine Cl.mk (slotOk_ok _ _) ?_|refine Cd.mk (by omega) ?_|refine Ev.mk s1 ?_|refine Wr.mk (and64 s2 ⟨by decide, by decide⟩) ?_)
  all_goals exact congrArg (fun z => [B z]) ((hasSlot_eq h.1 h.2))
 ·refine fO (n := 15) [] Tryz.func312 (by kernel_rfl) rfl (by kernel_rfl) (by rfl) (.inr ⟨trivial, trivial⟩) ?_
  repeat' ((conv=>whnf);first|with_reducible (first|refine Lm ?_|refine Wm (by omega) ?_|refine dT (by omega) (fun hq => ?_)|refine dF (by omega) (fun hq => ?_)|refine Bf.D (fun hq => ?_) (fun hq => ?_)|refine Bn ?_|refine Fm rfl ?_)|refine Bt ?_|refine Bu ?_|refine Cl.mk (slotOk_ok _ _) ?_)
  all_goals exact congrArg (fun z => [B z]) ((by unfold hasSlot; symm; exact decide_eq_false fun e => h ⟨e.1, e.2.1, e.2.2.1⟩))
theorem largeOk_facts {l : DLarge} (h : largeOk l = true) : 9 ≤ l.Size ∧ l.Size ≤ 1000 ∧ 0 ≤ l.Page ∧ l.Page ≤ 31 := by
 unfold largeOk at h; simp only [decide_eq_true_eq] at h; omega
theorem LargeHas_spec (l : DLarge) (a : Int) : CallsA Tryz.prog 296 false [.val (some 3) (DLarge.enc .imm l), .val none [I a]] .one [B (largeHas l a)] := by
 have h1 := LargeOk_spec l
 cases e1 : largeOk l <;> rw [e1] at h1
 ·refine fO (n := 24) [] Tryz.func296 (by kernel_rfl) rfl (by kernel_rfl) (by rfl) (.inr ⟨trivial, trivial⟩) ?_
  repeat' ((conv=>whnf);first|with_reducible (first|refine Lm ?_|refine Wm (by omega) ?_|refine Bn ?_|refine Fm rfl ?_)|refine Bt ?_|refine Bu ?_|refine Cl.mk h1 ?_)
  exact congrArg (fun z => [B z]) ((by unfold largeHas; rw [e1]; rfl))
 ·have hf := largeOk_facts e1
  refine fO (n := 24) [] Tryz.func296 (by kernel_rfl) rfl (by kernel_rfl) (by rfl) (.inr ⟨trivial, trivial⟩) ?_
  repeat' ((conv=>whnf);first|with_reducible (first|refine Lm ?_|refine Wm (by omega) ?_|refine Bf.D (fun hq => ?_) (fun hq => ?_)|refine Bn ?_|refine Fm rfl ?_)|refine Bt ?_|refine Bu ?_|refine Cl.mk h1 ?_)
  all_goals exact congrArg (fun z => [B z]) ((by unfold largeHas; rw [e1, Bool.true_and]; first | (symm; exact decide_eq_false (by omega)) | exact decide_eq_decide.2 (by omega)))
theorem LargeHas_impl (l : DLarge) (a : Int) : CallsA Tryz.prog 313 false [.val (some 3) (DLarge.enc .imm l), .val none [I a]] .one [B (largeHas l a)] := by
 have h1 := LargeOk_impl l
 cases e1 : largeOk l <;> rw [e1] at h1
 ·refine fO (n := 21) [] Tryz.func313 (by kernel_rfl) rfl (by kernel_rfl) (by rfl) (.inr ⟨trivial, trivial⟩) ?_
  repeat' ((conv=>whnf);first|with_reducible (first|refine Lm ?_|refine Wm (by omega) ?_|refine Bn ?_|refine Fm rfl ?_)|refine Bt ?_|refine Bu ?_|refine Cl.mk h1 ?_)
  exact congrArg (fun z => [B z]) ((by unfold largeHas; rw [e1]; rfl))
 ·have hf := largeOk_facts e1
  refine fO (n := 21) [] Tryz.func313 (by kernel_rfl) rfl (by kernel_rfl) (by rfl) (.inr ⟨trivial, trivial⟩) ?_
  repeat' ((conv=>whnf);first|with_reducible (first|refine Lm ?_|refine Wm (by omega) ?_|refine Bf.D (fun hq => ?_) (fun hq => ?_)|refine Bn ?_|refine Fm rfl ?_)|refine Bt ?_|refine Bu ?_|refine Cl.mk h1 ?_|refine Cl.mk (between_ok _ _ _) ?_)
  all_goals exact congrArg (fun z => [B z]) ((by unfold largeHas; rw [e1, Bool.true_and]; exact decide_eq_decide.2 (by omega)))
theorem LargeOffset_spec (l : DLarge) (a : Int) (h : largeHas l a = true) : CallsA Tryz.prog 297 false [.val (some 3) (DLarge.enc .imm l), .val none [I a]] .one [I (a - 16 * l.Page)] := by
 have h1 := LargeHas_spec l a
 rw [h] at h1
 unfold largeHas at h
 simp only [Bool.and_eq_true, decide_eq_true_eq] at h
 have hf := largeOk_facts h.1
 refine fO (n := 14) [] Tryz.func297 (by kernel_rfl) rfl (by kernel_rfl) (by rfl) (.inr ⟨trivial, trivial⟩) ?_
 repeat' ((conv=>whnf);first|with_reducible (first|refine Lm ?_|refine Wm (by omega) ?_|refine Bn ?_|refine Fm rfl ?_)|refine Bt ?_|refine Bu ?_|refine Cl.mk h1 ?_)
 exact congrArg (fun z => [I z]) (by omega)
theorem LargeOffset_impl (l : DLarge) (a : Int) (h : largeHas l a = true) : CallsA Tryz.prog 314 false [.val (some 3) (DLarge.enc .imm l), .val none [I a]] .one [I (a - 16 * l.Page)] := by
 have h1 := LargeHas_impl l a
 rw [h] at h1
 unfold largeHas at h
 simp only [Bool.and_eq_true, decide_eq_true_eq] at h
 have hf := largeOk_facts h.1
 refine fO (n := 14) [] Tryz.func314 (by kernel_rfl) rfl (by kernel_rfl) (by rfl) (.inr ⟨trivial, trivial⟩) ?_
 repeat' ((conv=>whnf);first|with_reducible (first|refine Lm ?_|refine Wm (by omega) ?_|refine Bn ?_|refine Fm rfl ?_)|refine Bt ?_|refine Bu ?_|refine Cl.mk h1 ?_)
 exact congrArg (fun z => [I z]) (by omega)
end Go.Proofs.YtogajjgmcnjkbaaGreat.Ab
/- Mail and quarantine: the contracts of the functions that ask whether they are valid, the reference's and the program's. No condition. -/
namespace Go.Proofs.YtogajjgmcnjkbaaGreat.Ab
open Go.RowKit
set_option maxRecDepth 20000
set_option maxHeartbeats 4000000
theorem mailOk_no {m : DMail} {i : Nat} (hi : i < m.Buffers.length) (h : mailRow m i = false) : mailOk m = false := by
 unfold mailOk; rw [allN_no hi h]; simp
theorem mailOk_len {m : DMail} (h : ¬ (1 ≤ m.Buffers.length ∧ m.Buffers.length ≤ 4 ∧ m.Inbox.length = m.Buffers.length)) : mailOk m = false := by
 unfold mailOk; rw [decide_eq_false h]; rfl
theorem mailOk_end {m : DMail} (h1 : 1 ≤ m.Buffers.length ∧ m.Buffers.length ≤ 4 ∧ m.Inbox.length = m.Buffers.length) (h2 : allN m.Buffers.length (mailRow m) = true) : mailOk m = decide (mailSum m m.Buffers.length ≤ 30) := by
 unfold mailOk; rw [decide_eq_true h1, h2]; rfl
theorem MailOk_spec (m : DMail) (hs : DMail.sml m) : CallsA Tryz.prog 94 false [.val (some 2) (DMail.enc .imm m)] .one [B (mailOk m)] := by
 have hl1 : m.Buffers.length ≤ 1048576 := hs.1.1
 have hl2 : m.Inbox.length ≤ 1048576 := hs.2.1
 by_cases hn : 1 ≤ m.Buffers.length ∧ m.Buffers.length ≤ 4 ∧ m.Inbox.length = m.Buffers.length
 ·refine fO (n := 92) [(19,15,[75,76,77,78,79,80,81,82,83,84,85,86,87,88,89])] Tryz.func94 (by kernel_rfl) rfl (by kernel_rfl) (by rfl) (.inr ⟨trivial, trivial⟩) ?_
  repeat' ((conv=>whnf);first|with_reducible (first|refine Lm ?_|refine Wm (by omega) ?_|refine dT (by omega) (fun hq => ?_)|refine dF (by omega) (fun hq => ?_)|refine Bf.D (fun hq => ?_) (fun hq => ?_)|refine nT (by omega) (fun hq => ?_)|refine nF (by omega) (fun hq => ?_)|refine Bf.N (fun hq => ?_) (fun hq => ?_)|refine Bn ?_|refine Fm rfl ?_)|refine Bt ?_|refine Bu ?_|refine Cl.mk (l01In_ok _ 1 4) ?_)
  (conv=>whnf)
  refine Lp.mk (ι := Nat) (fun i => [(1, .hold .box (DMail.enc .imm m)), (3, .hold .one [I (m.Buffers.length)]), (4, .hold .one [I (mailSum m i)]), (5, .hold .one [I ((i : Nat) : Int)])]) (fun i => i ≤ m.Buffers.length ∧ allN i (mailRow m) = true ∧ 0 ≤ mailSum m i ∧ mailSum m i ≤ 2097152 * i) (fun i => m.Buffers.length - i) (0) ?_ (⟨Nat.zero_le _, rfl, by simp [mailSum], by simp [mailSum]⟩) fun i hi => ?_
  ·repeat' (first|exact trivial|rfl|refine And.intro ?_ ?_)
  obtain ⟨hi, ai, s0, s1⟩ := hi
  by_cases li : i < m.Buffers.length
  ·have hx := get_nth li
   have hy := get_nth (xs := m.Inbox) (i := i) (by omega)
   have hb1 : (nth m.Buffers i).length ≤ 1048576 := (hs.1.2 _ (nth_mem li)).1
   have hb2 : (nth m.Inbox i).length ≤ 1048576 := hs.2.2 _ (nth_mem (by omega))
   repeat' ((conv=>whnf);first|with_reducible (first|refine Lm ?_|refine Wm (by omega) ?_|refine dT (by omega) (fun hq => ?_)|refine Bn ?_|refine Fm rfl ?_)|refine Bt ?_|refine Bu ?_)
   (conv=>whnf)
   refine Lp.mk (ι := Nat) (fun k => [(1, .hold .box (DMail.enc .imm m)), (3, .hold .one [I (m.Buffers.length)]), (4, .hold .one [I (mailSum m i)]), (5, .hold .one [I ((i : Nat) : Int)]), (6, .hold .one [I ((k : Nat) : Int)])]) (fun k => k ≤ (nth m.Buffers i).length ∧ ((nth m.Buffers i).take k).all (postOk m.Buffers.length) = true) (fun k => (nth m.Buffers i).length - k) (0) ?_ (⟨Nat.zero_le _, rfl⟩) fun k hk => ?_
   ·repeat' (first|exact trivial|rfl|refine And.intro ?_ ?_)
   obtain ⟨hk, ak⟩ := hk
   by_cases lk : k < (nth m.Buffers i).length
   ·have hz := get_nth lk
    repeat' ((conv=>whnf);first|with_reducible (first|refine Lm ?_|refine Wm (by omega) ?_|refine Ix.nat (get_map hx) ?_|refine Ix.nat (get_map hz) ?_|refine dT (by omega) (fun hq => ?_)|refine Bf.D (fun hq => ?_) (fun hq => ?_)|refine Bn ?_|refine Fm rfl ?_)|refine Bt ?_|refine Bu ?_|refine Cl.mk (l01In_ok _ 0 _) ?_)
    all_goals first
     | exact congrArg (fun z => [B z]) ((mailOk_no li (by unfold mailRow; rw [all_no hz (by unfold postOk; exact decide_eq_false (by omega))]; rfl)).symm)
     | ((conv=>whnf);refine Nx.mk (k + 1) ⟨by omega, all_yes hz ak (by unfold postOk; exact decide_eq_true (by omega))⟩ (by omega) ?_; (repeat' (first|exact trivial|rfl|refine And.intro ?_ ?_)))
   ·have ae := all_end (by omega) ak
    repeat' ((conv=>whnf);first|with_reducible (first|refine Lm ?_|refine Wm (by omega) ?_|refine Ix.nat (get_map hx) ?_|refine dF (by omega) (fun hq => ?_)|refine Bn ?_|refine Fm rfl ?_)|refine Bt ?_|refine Bu ?_)
    (conv=>whnf)
    refine Lp.mk (ι := Nat) (fun k2 => [(1, .hold .box (DMail.enc .imm m)), (3, .hold .one [I (m.Buffers.length)]), (4, .hold .one [I (mailSum m i)]), (5, .hold .one [I ((i : Nat) : Int)]), (8, .hold .one [I ((k2 : Nat) : Int)])]) (fun k2 => k2 ≤ (nth m.Inbox i).length ∧ ((nth m.Inbox i).take k2).all nnI = true) (fun k2 => (nth m.Inbox i).length - k2) (0) ?_ (⟨Nat.zero_le _, rfl⟩) fun k2 hk2 => ?_
    ·repeat' (first|exact trivial|rfl|refine And.intro ?_ ?_)
    obtain ⟨hk2, ak2⟩ := hk2
    by_cases lk2 : k2 < (nth m.Inbox i).length
    ·have hz := get_nth lk2
     repeat' ((conv=>whnf);first|with_reducible (first|refine Lm ?_|refine Wm (by omega) ?_|refine Ix.nat (get_map hy) ?_|refine Ix.nat (get_map hz) ?_|refine dT (by omega) (fun hq => ?_)|refine Bf.D (fun hq => ?_) (fun hq => ?_)|refine Bn ?_|refine Fm rfl ?_)|refine Bt ?_|refine Bu ?_)
     all_goals first
      | exact congrArg (fun z => [B z]) ((mailOk_no li (by unfold mailRow; rw [all_no hz (by unfold nnI; exact decide_eq_false (by omega))]; simp)).symm)
      | ((conv=>whnf);refine Nx.mk (k2 + 1) ⟨by omega, all_yes hz ak2 (by unfold nnI; exact decide_eq_true (by omega))⟩ (by omega) ?_; (repeat' (first|exact trivial|rfl|refine And.intro ?_ ?_)))
    ·have ae2 := all_end (by omega) ak2
     have hsum : mailSum m (i + 1) = mailSum m i + ((nth m.Buffers i).length + (nth m.Inbox i).length) := rfl
     have hsum2 : mailSum m (i + 1) = mailSum m i + (nth m.Buffers i).length + (nth m.Inbox i).length := by rw [hsum]; omega
     repeat' ((conv=>whnf);first|with_reducible (first|refine Lm ?_|refine Wm (by omega) ?_|refine Ix.nat (get_map hx) ?_|refine Ix.nat (get_map hy) ?_|refine dF (by omega) (fun hq => ?_)|refine Bn ?_|refine Fm rfl ?_)|refine Bt ?_|refine Bu ?_)
     ((conv=>whnf);refine Nx.mk (i + 1) ⟨by omega, allN_yes ai (by unfold mailRow; rw [ae, ae2]; rfl), by omega, by omega⟩ (by omega) ?_)
     rw [hsum2]
     repeat' (first|exact trivial|rfl|refine And.intro ?_ ?_)
  ·obtain rfl : i = m.Buffers.length := by omega
   repeat' ((conv=>whnf);first|with_reducible (first|refine Lm ?_|refine Wm (by omega) ?_|refine dF (by omega) (fun hq => ?_)|refine Bn ?_|refine Fm rfl ?_)|refine Bt ?_|refine Bu ?_)
   exact congrArg (fun z => [B z]) ((mailOk_end hn ai).symm)
 ·refine fO (n := 92) [(19,15,[75,76,77,78,79,80,81,82,83,84,85,86,87,88,89])] Tryz.func94 (by kernel_rfl) rfl (by kernel_rfl) (by rfl) (.inr ⟨trivial, trivial⟩) ?_
  repeat' ((conv=>whnf);first|with_reducible (first|refine Lm ?_|refine Wm (by omega) ?_|refine Bf.D (fun hq => ?_) (fun hq => ?_)|refine Bf.N (fun hq => ?_) (fun hq => ?_)|refine Bn ?_|refine Fm rfl ?_)|refine Bt ?_|refine Bu ?_|refine Cl.mk (l01In_ok _ 1 4) ?_)
  all_goals first
   | exact congrArg (fun z => [B z]) ((mailOk_len hn).symm)
   |(exfalso; omega)
theorem MailOk_impl (m : DMail) (hs : DMail.sml m) : CallsA Tryz.prog 123 false [.val (some 2) (DMail.enc .imm m)] .one [B (mailOk m)] := by
 have hl1 : m.Buffers.length ≤ 1048576 := hs.1.1
 have hl2 : m.Inbox.length ≤ 1048576 := hs.2.1
 by_cases hn : 1 ≤ m.Buffers.length ∧ m.Buffers.length ≤ 4 ∧ m.Inbox.length = m.Buffers.length
 ·refine fO (n := 82) [(20,15,[64,65,66,67,68,69,70,71,72,73,74,75,76,77,78])] Tryz.func123 (by kernel_rfl) rfl (by kernel_rfl) (by rfl) (.inr ⟨trivial, trivial⟩) ?_
  repeat' ((conv=>whnf);first|with_reducible (first|refine Lm ?_|refine Wm (by omega) ?_|refine dT (by omega) (fun hq => ?_)|refine dF (by omega) (fun hq => ?_)|refine Bf.D (fun hq => ?_) (fun hq => ?_)|refine nT (by omega) (fun hq => ?_)|refine nF (by omega) (fun hq => ?_)|refine Bf.N (fun hq => ?_) (fun hq => ?_)|refine Bn ?_|refine Fm rfl ?_)|refine Bt ?_|refine Bu ?_|refine Cl.mk (between_ok _ 1 4) ?_)
  (conv=>whnf)
  refine Lp.mk (ι := Nat) (fun i => [(1, .hold .box (DMail.enc .imm m)), (3, .hold .one [I (m.Buffers.length)]), (4, .hold .one [I (mailSum m i)]), (25, .hold .one [I (m.Buffers.length)]), (26, .hold .one [I ((i : Nat) : Int)])]) (fun i => i ≤ m.Buffers.length ∧ allN i (mailRow m) = true ∧ 0 ≤ mailSum m i ∧ mailSum m i ≤ 2097152 * i) (fun i => m.Buffers.length - i) (0) ?_ (⟨Nat.zero_le _, rfl, by simp [mailSum], by simp [mailSum]⟩) fun i hi => ?_
  ·repeat' (first|exact trivial|rfl|refine And.intro ?_ ?_)
  obtain ⟨hi, ai, s0, s1⟩ := hi
  by_cases li : i < m.Buffers.length
  ·have hx := get_nth li
   have hy := get_nth (xs := m.Inbox) (i := i) (by omega)
   have hb1 : (nth m.Buffers i).length ≤ 1048576 := (hs.1.2 _ (nth_mem li)).1
   have hb2 : (nth m.Inbox i).length ≤ 1048576 := hs.2.2 _ (nth_mem (by omega))
   repeat' ((conv=>whnf);first|with_reducible (first|refine Lm ?_|refine Wm (by omega) ?_|refine Ix.nat (get_map hx) ?_|refine dT (by omega) (fun hq => ?_)|refine Bn ?_|refine Fm rfl ?_)|refine Bt ?_|refine Bu ?_)
   (conv=>whnf)
   refine Lp.mk (ι := Nat) (fun k => [(1, .hold .box (DMail.enc .imm m)), (3, .hold .one [I (m.Buffers.length)]), (4, .hold .one [I (mailSum m i)]), (5, .hold .one [I ((i : Nat) : Int)]), (25, .hold .one [I (m.Buffers.length)]), (26, .hold .one [I ((i : Nat) : Int)]), (33, .hold .one (rDPostS .imm (nth m.Buffers i))), (34, .hold .one [I ((nth m.Buffers i).length)]), (35, .hold .one [I ((k : Nat) : Int)])]) (fun k => k ≤ (nth m.Buffers i).length ∧ ((nth m.Buffers i).take k).all (postOk m.Buffers.length) = true) (fun k => (nth m.Buffers i).length - k) (0) ?_ (⟨Nat.zero_le _, rfl⟩) fun k hk => ?_
   ·repeat' (first|exact trivial|rfl|refine And.intro ?_ ?_)
   obtain ⟨hk, ak⟩ := hk
   by_cases lk : k < (nth m.Buffers i).length
   ·have hz := get_nth lk
    repeat' ((conv=>whnf);first|with_reducible (first|refine Lm ?_|refine Wm (by omega) ?_|refine Ix.nat (get_map hx) ?_|refine Ix.nat (get_map hz) ?_|refine dT (by omega) (fun hq => ?_)|refine Bf.D (fun hq => ?_) (fun hq => ?_)|refine Bn ?_|refine Fm rfl ?_)|refine Bt ?_|refine Bu ?_|refine Cl.mk (between_ok _ 0 _) ?_)
    all_goals first
     | exact congrArg (fun z => [B z]) ((mailOk_no li (by unfold mailRow; rw [all_no hz (by unfold postOk; exact decide_eq_false (by omega))]; rfl)).symm)
     | ((conv=>whnf);refine Nx.mk (k + 1) ⟨by omega, all_yes hz ak (by unfold postOk; exact decide_eq_true (by omega))⟩ (by omega) ?_; (repeat' (first|exact trivial|rfl|refine And.intro ?_ ?_)))
   ·have ae := all_end (by omega) ak
    repeat' ((conv=>whnf);first|with_reducible (first|refine Lm ?_|refine Wm (by omega) ?_|refine Ix.nat (get_map hx) ?_|refine Ix.nat (get_map hy) ?_|refine dF (by omega) (fun hq => ?_)|refine Bn ?_|refine Fm rfl ?_)|refine Bt ?_|refine Bu ?_)
    (conv=>whnf)
    refine Lp.mk (ι := Nat) (fun k2 => [(1, .hold .box (DMail.enc .imm m)), (3, .hold .one [I (m.Buffers.length)]), (4, .hold .one [I (mailSum m i)]), (5, .hold .one [I ((i : Nat) : Int)]), (25, .hold .one [I (m.Buffers.length)]), (26, .hold .one [I ((i : Nat) : Int)]), (55, .hold .one (rIntS .imm (nth m.Inbox i))), (56, .hold .one [I ((nth m.Inbox i).length)]), (57, .hold .one [I ((k2 : Nat) : Int)])]) (fun k2 => k2 ≤ (nth m.Inbox i).length ∧ ((nth m.Inbox i).take k2).all nnI = true) (fun k2 => (nth m.Inbox i).length - k2) (0) ?_ (⟨Nat.zero_le _, rfl⟩) fun k2 hk2 => ?_
    ·repeat' (first|exact trivial|rfl|refine And.intro ?_ ?_)
    obtain ⟨hk2, ak2⟩ := hk2
    by_cases lk2 : k2 < (nth m.Inbox i).length
    ·have hz := get_nth lk2
     repeat' ((conv=>whnf);first|with_reducible (first|refine Lm ?_|refine Wm (by omega) ?_|refine Ix.nat (get_map hy) ?_|refine Ix.nat (get_map hz) ?_|refine dT (by omega) (fun hq => ?_)|refine Bf.D (fun hq => ?_) (fun hq => ?_)|refine Bn ?_|refine Fm rfl ?_)|refine Bt ?_|refine Bu ?_)
     all_goals first
      | exact congrArg (fun z => [B z]) ((mailOk_no li (by unfold mailRow; rw [all_no hz (by unfold nnI; exact decide_eq_false (by omega))]; simp)).symm)
      | ((conv=>whnf);refine Nx.mk (k2 + 1) ⟨by omega, all_yes hz ak2 (by unfold nnI; exact decide_eq_true (by omega))⟩ (by omega) ?_; (repeat' (first|exact trivial|rfl|refine And.intro ?_ ?_)))
    ·have ae2 := all_end (by omega) ak2
     have hsum : mailSum m (i + 1) = mailSum m i + ((nth m.Buffers i).length + (nth m.Inbox i).length) := rfl
     repeat' ((conv=>whnf);first|with_reducible (first|refine Lm ?_|refine Wm (by omega) ?_|refine Ix.nat (get_map hx) ?_|refine Ix.nat (get_map hy) ?_|refine dF (by omega) (fun hq => ?_)|refine Bn ?_|refine Fm rfl ?_)|refine Bt ?_|refine Bu ?_)
     ((conv=>whnf);refine Nx.mk (i + 1) ⟨by omega, allN_yes ai (by unfold mailRow; rw [ae, ae2]; rfl), by omega, by omega⟩ (by omega) ?_)
     rw [hsum]
     repeat' (first|exact trivial|rfl|refine And.intro ?_ ?_)
  ·obtain rfl : i = m.Buffers.length := by omega
   repeat' ((conv=>whnf);first|with_reducible (first|refine Lm ?_|refine Wm (by omega) ?_|refine dF (by omega) (fun hq => ?_)|refine Bn ?_|refine Fm rfl ?_)|refine Bt ?_|refine Bu ?_)
   exact congrArg (fun z => [B z]) ((mailOk_end hn ai).symm)
 ·refine fO (n := 82) [(20,15,[64,65,66,67,68,69,70,71,72,73,74,75,76,77,78])] Tryz.func123 (by kernel_rfl) rfl (by kernel_rfl) (by rfl) (.inr ⟨trivial, trivial⟩) ?_
  repeat' ((conv=>whnf);first|with_reducible (first|refine Lm ?_|refine Wm (by omega) ?_|refine Bf.D (fun hq => ?_) (fun hq => ?_)|refine Bf.N (fun hq => ?_) (fun hq => ?_)|refine Bn ?_|refine Fm rfl ?_)|refine Bt ?_|refine Bu ?_|refine Cl.mk (between_ok _ 1 4) ?_)
  all_goals first
   | exact congrArg (fun z => [B z]) ((mailOk_len hn).symm)
   |(exfalso; omega)
end Go.Proofs.YtogajjgmcnjkbaaGreat.Ab
/- Whom an address belongs to: the contracts of Denotes and denotes; classes of sizes; pages of a frame; spans on a page. No condition. -/
namespace Go.Proofs.YtogajjgmcnjkbaaGreat.Ab
open Go.RowKit
set_option maxRecDepth 20000
set_option maxHeartbeats 4000000
theorem slotAt_no {s : DSpan} {a : Int} (h : slotIn s a = false) : S2 (slotAt s a) = [I (-1), I (-1)] := by
 unfold slotAt; rw [h]; rfl
theorem slotAt_yes {s : DSpan} {a : Int} (h : slotIn s a = true) : S2 (slotAt s a) = [I ((a - 16 * s.Page) / csz s.Class), I ((a - 16 * s.Page) % csz s.Class)] := by
 unfold slotAt; rw [h]; rfl
theorem slotIn_facts {s : DSpan} {a : Int} (h : slotIn s a = true) : spanOk s = true ∧ 0 ≤ (a - 16 * s.Page) / csz s.Class ∧ (a - 16 * s.Page) / csz s.Class ≤ 15 := by
 unfold slotIn at h
 simp only [Bool.and_eq_true, decide_eq_true_eq] at h
 have hc := spanOk_class h.1
 refine ⟨h.1, ?_⟩
 rcases csz_cases ⟨hc.2.2.1, hc.2.2.2⟩ with e | e | e | e <;> rw [e] <;> omega
theorem denotes_span {sp : List DSpan} {la : List DLarge} {a : Int} {i : Nat} (hi : i < sp.length) (h : slotIn (nth sp i) a = true) (ha : ∀ (j : Nat) (z : DSpan), j < i → sp[j]? = some z → slotIn z a = false) : denotes sp la a = ownS i (nth sp i) a := by
 unfold denotes; rw [idx_yes (pr := (slotIn · a)) (get_nth hi) h ha]
theorem denotes_large {sp : List DSpan} {la : List DLarge} {a : Int} {i n : Nat} (hn : sp.length ≤ n) (hs : ∀ (j : Nat) (z : DSpan), j < n → sp[j]? = some z → slotIn z a = false) (hi : i < la.length) (h : largeHas (nth la i) a = true) (ha : ∀ (j : Nat) (z : DLarge), j < i → la[j]? = some z → largeHas z a = false) :
  denotes sp la a = ⟨3, i, 0, a - 16 * (nth la i).Page⟩ := by
 unfold denotes; rw [idx_no (pr := (slotIn · a)) hn hs, idx_yes (pr := (largeHas · a)) (get_nth hi) h ha]
theorem denotes_no {sp : List DSpan} {la : List DLarge} {a : Int} {n k : Nat} (hn : sp.length ≤ n) (hs : ∀ (j : Nat) (z : DSpan), j < n → sp[j]? = some z → slotIn z a = false) (hk : la.length ≤ k) (ha : ∀ (j : Nat) (z : DLarge), j < k → la[j]? = some z → largeHas z a = false) : denotes sp la a = ⟨0, 0, 0, 0⟩ := by
 unfold denotes; rw [idx_no (pr := (slotIn · a)) hn hs, idx_no (pr := (largeHas · a)) hk ha]
theorem Denotes_spec (sp : List DSpan) (la : List DLarge) (a : Int) (hs1 : smlDSpanS sp) (hs2 : smlDLargeS la) (hlay : layoutOk sp la = true) (hw : wfI a) : CallsA Tryz.prog 212 false [.val none (rDSpanS .imm sp), .val none (rDLargeS .imm la), .val none [I a]] .agg (DOwner.enc .own (denotes sp la a)) := by
 have hl1 := hs1.1
 have hl2 := hs2.1
 have h0 := LayoutOk_spec sp la hs1 hs2
 rw [hlay] at h0
 refine fO (n := 67) [] Tryz.func212 (by kernel_rfl) rfl (by kernel_rfl) (by rfl) (.inr (DOwner.enc_fr _)) ?_
 repeat' ((conv=>whnf);first|with_reducible (first|refine Lm ?_|refine Wm (by omega) ?_|refine Bn ?_|refine Fm rfl ?_)|refine Bt ?_|refine Bu ?_|refine Cl.mk h0 ?_)
 (conv=>whnf)
 refine Lp.mk (ι := Nat) (fun i => [(0, .hold .one (rDSpanS .imm sp)), (1, .hold .one (rDLargeS .imm la)), (2, .hold .one [I (a)]), (6, .hold .box ([I 0, I 0, I 0, I 0])), (7, .hold .one [I ((i : Nat) : Int)])]) (fun i => i ≤ sp.length ∧ ∀ (j : Nat) (z : DSpan), j < i → sp[j]? = some z → slotIn z a = false) (fun i => sp.length - i) (0) ?_ (⟨Nat.zero_le _, fun j z hj => by omega⟩) fun i hi => ?_
 ·repeat' (first|exact trivial|rfl|refine And.intro ?_ ?_)
 obtain ⟨hi, ai⟩ := hi
 by_cases li : i < sp.length
 ·have hx := get_nth li
  have h1 := SlotAt_spec (nth sp i) a hw
  cases e1 : slotIn (nth sp i) a with
  | false =>
   rw [slotAt_no e1] at h1
   repeat' ((conv=>whnf);first|with_reducible (first|refine Lm ?_|refine Wm (by omega) ?_|refine Ix.nat (get_map hx) ?_|refine dT (by omega) (fun hq => ?_)|refine dT (by omega) (fun hq => ?_)|refine dF (by omega) (fun hq => ?_)|refine Bf.D (fun hq => ?_) (fun hq => ?_)|refine Bn ?_|refine Fm rfl ?_)|refine Bt ?_|refine Bu ?_|refine Cl.mk h1 ?_)
   ((conv=>whnf);refine Nx.mk (i + 1) ⟨by omega, idx_next (pr := (slotIn · a)) hx e1 ai⟩ (by omega) ?_; (repeat' (first|exact trivial|rfl|refine And.intro ?_ ?_)))
  | true =>
   rw [slotAt_yes e1] at h1
   obtain ⟨f1, f2, f3⟩ := slotIn_facts e1
   have h2 := HasSlot_spec (nth sp i).Bits ((a - 16 * (nth sp i).Page) / csz (nth sp i).Class) (spanOk_bits f1).2
   cases e2 : hasSlot (nth sp i).Bits ((a - 16 * (nth sp i).Page) / csz (nth sp i).Class) <;> rw [e2] at h2
   all_goals
    repeat' ((conv=>whnf);first|with_reducible (first|refine Lm ?_|refine Wm (by omega) ?_|refine Ix.nat (get_map hx) ?_|refine dT (by omega) (fun hq => ?_)|refine dT (by omega) (fun hq => ?_)|refine dF (by omega) (fun hq => ?_)|refine Bf.D (fun hq => ?_) (fun hq => ?_)|refine Bn ?_|refine Fm rfl ?_)|refine Bt ?_|refine Bu ?_|refine Cl.mk h1 ?_|refine Cl.mk h2 ?_)
    all_goals (rw [denotes_span li e1 ai]; unfold ownS; rw [e2]; rfl)
 ·repeat' ((conv=>whnf);first|with_reducible (first|refine Lm ?_|refine Wm (by omega) ?_|refine dF (by omega) (fun hq => ?_)|refine Bn ?_|refine Fm rfl ?_)|refine Bt ?_|refine Bu ?_)
  (conv=>whnf)
  refine Lp.mk (ι := Nat) (fun k => [(1, .hold .one (rDLargeS .imm la)), (2, .hold .one [I (a)]), (6, .hold .box ([I 0, I 0, I 0, I 0])), (11, .hold .one [I ((k : Nat) : Int)])]) (fun k => k ≤ la.length ∧ ∀ (j : Nat) (z : DLarge), j < k → la[j]? = some z → largeHas z a = false) (fun k => la.length - k) (0) ?_ (⟨Nat.zero_le _, fun j z hj => by omega⟩) fun k hk => ?_
  ·repeat' (first|exact trivial|rfl|refine And.intro ?_ ?_)
  obtain ⟨hk, ak⟩ := hk
  by_cases lk : k < la.length
  ·have hx := get_nth lk
   have h1 := LargeHas_spec (nth la k) a
   cases e1 : largeHas (nth la k) a <;> rw [e1] at h1
   ·repeat' ((conv=>whnf);first|with_reducible (first|refine Lm ?_|refine Wm (by omega) ?_|refine Ix.nat (get_map hx) ?_|refine dT (by omega) (fun hq => ?_)|refine Bn ?_|refine Fm rfl ?_)|refine Bt ?_|refine Bu ?_|refine Cl.mk h1 ?_)
    ((conv=>whnf);refine Nx.mk (k + 1) ⟨by omega, idx_next (pr := (largeHas · a)) hx e1 ak⟩ (by omega) ?_; (repeat' (first|exact trivial|rfl|refine And.intro ?_ ?_)))
   ·repeat' ((conv=>whnf);first|with_reducible (first|refine Lm ?_|refine Wm (by omega) ?_|refine Ix.nat (get_map hx) ?_|refine dT (by omega) (fun hq => ?_)|refine Bn ?_|refine Fm rfl ?_)|refine Bt ?_|refine Bu ?_|refine Cl.mk h1 ?_|refine Cl.mk (LargeOffset_spec (nth la k) a e1) ?_)
    rw [denotes_large (n := i) (by omega) ai lk e1 ak]; rfl
  ·repeat' ((conv=>whnf);first|with_reducible (first|refine Lm ?_|refine Wm (by omega) ?_|refine dF (by omega) (fun hq => ?_)|refine Bn ?_|refine Fm rfl ?_)|refine Bt ?_|refine Bu ?_)
   rw [denotes_no (n := i) (k := k) (by omega) ai (by omega) ak]; rfl
theorem denotes_impl (sp : List DSpan) (la : List DLarge) (a : Int) (hs1 : smlDSpanS sp) (hs2 : smlDLargeS la) : CallsA Tryz.prog 238 false [.val none (rDSpanS .imm sp), .val none (rDLargeS .imm la), .val none [I a]] .agg (DOwner.enc .own (denotes sp la a)) := by
 have hl1 := hs1.1
 have hl2 := hs2.1
 refine fO (n := 56) [] Tryz.func238 (by kernel_rfl) rfl (by kernel_rfl) (by rfl) (.inr (DOwner.enc_fr _)) ?_
 repeat' ((conv=>whnf);first|with_reducible (first|refine Lm ?_|refine Wm (by omega) ?_|refine Bn ?_|refine Fm rfl ?_)|refine Bt ?_|refine Bu ?_)
 (conv=>whnf)
 refine Lp.mk (ι := Nat) (fun i => [(1, .hold .one (rDLargeS .imm la)), (2, .hold .one [I (a)]), (6, .hold .box ([I 0, I 0, I 0, I 0])), (14, .hold .one (rDSpanS .imm sp)), (15, .hold .one [I (sp.length)]), (16, .hold .one [I ((i : Nat) : Int)])]) (fun i => i ≤ sp.length ∧ ∀ (j : Nat) (z : DSpan), j < i → sp[j]? = some z → slotIn z a = false) (fun i => sp.length - i) (0) ?_ (⟨Nat.zero_le _, fun j z hj => by omega⟩) fun i hi => ?_
 ·repeat' (first|exact trivial|rfl|refine And.intro ?_ ?_)
 obtain ⟨hi, ai⟩ := hi
 by_cases li : i < sp.length
 ·have hx := get_nth li
  have h1 := SlotAt_impl (nth sp i) a
  cases e1 : slotIn (nth sp i) a with
  | false =>
   rw [slotAt_no e1] at h1
   repeat' ((conv=>whnf);first|with_reducible (first|refine Lm ?_|refine Wm (by omega) ?_|refine Ix.nat (get_map hx) ?_|refine dT (by omega) (fun hq => ?_)|refine dT (by omega) (fun hq => ?_)|refine dF (by omega) (fun hq => ?_)|refine Bf.D (fun hq => ?_) (fun hq => ?_)|refine Bn ?_|refine Fm rfl ?_)|refine Bt ?_|refine Bu ?_|refine Cl.mk h1 ?_)
   ((conv=>whnf);refine Nx.mk (i + 1) ⟨by omega, idx_next (pr := (slotIn · a)) hx e1 ai⟩ (by omega) ?_; (repeat' (first|exact trivial|rfl|refine And.intro ?_ ?_)))
  | true =>
   rw [slotAt_yes e1] at h1
   obtain ⟨f1, f2, f3⟩ := slotIn_facts e1
   have h2 := HasSlot_impl (nth sp i).Bits ((a - 16 * (nth sp i).Page) / csz (nth sp i).Class) (spanOk_bits f1).2
   cases e2 : hasSlot (nth sp i).Bits ((a - 16 * (nth sp i).Page) / csz (nth sp i).Class) <;> rw [e2] at h2
   all_goals
    repeat' ((conv=>whnf);first|with_reducible (first|refine Lm ?_|refine Wm (by omega) ?_|refine Ix.nat (get_map hx) ?_|refine dT (by omega) (fun hq => ?_)|refine dT (by omega) (fun hq => ?_)|refine dF (by omega) (fun hq => ?_)|refine Bf.D (fun hq => ?_) (fun hq => ?_)|refine Bn ?_|refine Fm rfl ?_)|refine Bt ?_|refine Bu ?_|refine Cl.mk h1 ?_|refine Cl.mk h2 ?_)
    all_goals (rw [denotes_span li e1 ai]; unfold ownS; rw [e2]; rfl)
 ·repeat' ((conv=>whnf);first|with_reducible (first|refine Lm ?_|refine Wm (by omega) ?_|refine dF (by omega) (fun hq => ?_)|refine Bn ?_|refine Fm rfl ?_)|refine Bt ?_|refine Bu ?_)
  (conv=>whnf)
  refine Lp.mk (ι := Nat) (fun k => [(2, .hold .one [I (a)]), (6, .hold .box ([I 0, I 0, I 0, I 0])), (39, .hold .one (rDLargeS .imm la)), (40, .hold .one [I (la.length)]), (41, .hold .one [I ((k : Nat) : Int)])]) (fun k => k ≤ la.length ∧ ∀ (j : Nat) (z : DLarge), j < k → la[j]? = some z → largeHas z a = false) (fun k => la.length - k) (0) ?_ (⟨Nat.zero_le _, fun j z hj => by omega⟩) fun k hk => ?_
  ·repeat' (first|exact trivial|rfl|refine And.intro ?_ ?_)
  obtain ⟨hk, ak⟩ := hk
  by_cases lk : k < la.length
  ·have hx := get_nth lk
   have h1 := LargeHas_impl (nth la k) a
   cases e1 : largeHas (nth la k) a <;> rw [e1] at h1
   ·repeat' ((conv=>whnf);first|with_reducible (first|refine Lm ?_|refine Wm (by omega) ?_|refine Ix.nat (get_map hx) ?_|refine dT (by omega) (fun hq => ?_)|refine Bn ?_|refine Fm rfl ?_)|refine Bt ?_|refine Bu ?_|refine Cl.mk h1 ?_)
    ((conv=>whnf);refine Nx.mk (k + 1) ⟨by omega, idx_next (pr := (largeHas · a)) hx e1 ak⟩ (by omega) ?_; (repeat' (first|exact trivial|rfl|refine And.intro ?_ ?_)))
   ·repeat' ((conv=>whnf);first|with_reducible (first|refine Lm ?_|refine Wm (by omega) ?_|refine Ix.nat (get_map hx) ?_|refine dT (by omega) (fun hq => ?_)|refine Bn ?_|refine Fm rfl ?_)|refine Bt ?_|refine Bu ?_|refine Cl.mk h1 ?_|refine Cl.mk (LargeOffset_impl (nth la k) a e1) ?_)
    rw [denotes_large (n := i) (by omega) ai lk e1 ak]; rfl
  ·repeat' ((conv=>whnf);first|with_reducible (first|refine Lm ?_|refine Wm (by omega) ?_|refine dF (by omega) (fun hq => ?_)|refine Bn ?_|refine Fm rfl ?_)|refine Bt ?_|refine Bu ?_)
   rw [denotes_no (n := i) (k := k) (by omega) ai (by omega) ak]; rfl
end Go.Proofs.YtogajjgmcnjkbaaGreat.Ab
/- Classes of sizes, the quarantine, used frames, pages of a frame, spans on a page: contracts, the reference's and the program's. No condition. -/
namespace Go.Proofs.YtogajjgmcnjkbaaGreat.Ab
open Go.RowKit
set_option maxRecDepth 20000
set_option maxHeartbeats 4000000
theorem IndexFunc_Stale (xs : List DStale) (pr : DStale → Bool) (hl : xs.length ≤ 9223372036854775807) : CallsA Tryz.prog 370 false [.val none (rDStaleS .imm xs), .fn (FnOk Tryz.prog (prQ (some 3) (DStale.enc .imm) pr xs))] .one [I (fstIx pr xs)] := by
 refine fO (n := 19) [] Tryz.func370 (by kernel_rfl) rfl (by kernel_rfl) (by rfl) (.inr ⟨trivial, trivial⟩) ?_
 repeat' ((conv=>whnf);first|with_reducible (first|refine Lm ?_|refine Wm (by omega) ?_|refine Bn ?_|refine Fm rfl ?_)|refine Bt ?_|refine Bu ?_)
 (conv=>whnf)
 refine Lp.mk (ι := Nat) (fun i => [(0, .hold .one (rDStaleS .imm xs)), (1, .fv (FnOk Tryz.prog (prQ (some 3) (DStale.enc .imm) pr xs))), (7, .hold .one [I xs.length]), (8, .hold .one [I (i : Nat)])]) (fun i => i ≤ xs.length ∧ ∀ (j : Nat) (z : DStale), j < i → xs[j]? = some z → pr z = false) (fun i => xs.length - i) 0 ?_ ⟨Nat.zero_le _, fun j z hj => by omega⟩ fun i hi => ?_
 ·repeat' (first|exact trivial|rfl|refine And.intro ?_ ?_)
 ·obtain ⟨hi, ha⟩ := hi
  by_cases hlt : i < xs.length
  ·obtain ⟨y, hy⟩ : ∃ y, xs[i]? = some y := ⟨_, List.getElem?_eq_getElem hlt⟩
   repeat' ((conv=>whnf);first|with_reducible (first|refine Lm ?_|refine Wm (by omega) ?_|refine Ix.nat (get_map hy) ?_|refine dT (by omega) (fun hq => ?_)|refine Bn ?_|refine Fm rfl ?_)|refine Bt ?_|refine Bu ?_|refine Fv.mk (k := .one) (rcs := [B (pr y)]) ⟨y, List.mem_of_getElem? hy, rfl, rfl, rfl⟩ ?_|refine Bf.P (fun hq => ?_) (fun hq => ?_))
   ·exact congrArg (fun z => [I z]) (fstIx_yes hy ‹_› ha).symm
   ·(conv=>whnf)
    refine Nx.mk (i + 1) ⟨by omega, idx_next hy (by assumption) ha⟩ (by omega) ?_
    repeat' (first|exact trivial|rfl|refine And.intro ?_ ?_)
  ·repeat' ((conv=>whnf);first|with_reducible (first|refine Lm ?_|refine Wm (by omega) ?_|refine dF (by omega) (fun hq => ?_)|refine Bn ?_|refine Fm rfl ?_)|refine Bt ?_|refine Bu ?_)
   exact congrArg (fun z => [I z]) (fstIx_no (by omega) ha).symm
theorem ContainsFunc_Stale (xs : List DStale) (pr : DStale → Bool) (hl : xs.length ≤ 9223372036854775807) : CallsA Tryz.prog 350 false [.val none (rDStaleS .imm xs), .fn (FnOk Tryz.prog (prQ (some 3) (DStale.enc .imm) pr xs))] .one [B (xs.any pr)] := by
 refine fO (n := 9) [] Tryz.func350 (by kernel_rfl) rfl (by kernel_rfl) (by rfl) (.inr ⟨trivial, trivial⟩) ?_
 repeat' ((conv=>whnf);first|with_reducible (first|refine Lm ?_|refine Wm (by omega) ?_|refine Bn ?_|refine Fm rfl ?_)|refine Bt ?_|refine Bu ?_|refine Cl.mk (IndexFunc_Stale xs pr hl) ?_)
 exact congrArg (fun z => [B z]) (fstIx_any pr xs)
theorem IndexFunc_Span (xs : List DSpan) (pr : DSpan → Bool) (hl : xs.length ≤ 9223372036854775807) : CallsA Tryz.prog 243 false [.val none (rDSpanS .imm xs), .fn (FnOk Tryz.prog (prQ (some 3) (DSpan.enc .imm) pr xs))] .one [I (fstIx pr xs)] := by
 refine fO (n := 19) [] Tryz.func243 (by kernel_rfl) rfl (by kernel_rfl) (by rfl) (.inr ⟨trivial, trivial⟩) ?_
 repeat' ((conv=>whnf);first|with_reducible (first|refine Lm ?_|refine Wm (by omega) ?_|refine Bn ?_|refine Fm rfl ?_)|refine Bt ?_|refine Bu ?_)
 (conv=>whnf)
 refine Lp.mk (ι := Nat) (fun i => [(0, .hold .one (rDSpanS .imm xs)), (1, .fv (FnOk Tryz.prog (prQ (some 3) (DSpan.enc .imm) pr xs))), (7, .hold .one [I xs.length]), (8, .hold .one [I (i : Nat)])]) (fun i => i ≤ xs.length ∧ ∀ (j : Nat) (z : DSpan), j < i → xs[j]? = some z → pr z = false) (fun i => xs.length - i) 0 ?_ ⟨Nat.zero_le _, fun j z hj => by omega⟩ fun i hi => ?_
 ·repeat' (first|exact trivial|rfl|refine And.intro ?_ ?_)
 ·obtain ⟨hi, ha⟩ := hi
  by_cases hlt : i < xs.length
  ·obtain ⟨y, hy⟩ : ∃ y, xs[i]? = some y := ⟨_, List.getElem?_eq_getElem hlt⟩
   repeat' ((conv=>whnf);first|with_reducible (first|refine Lm ?_|refine Wm (by omega) ?_|refine Ix.nat (get_map hy) ?_|refine dT (by omega) (fun hq => ?_)|refine Bn ?_|refine Fm rfl ?_)|refine Bt ?_|refine Bu ?_|refine Fv.mk (k := .one) (rcs := [B (pr y)]) ⟨y, List.mem_of_getElem? hy, rfl, rfl, rfl⟩ ?_|refine Bf.P (fun hq => ?_) (fun hq => ?_))
   ·exact congrArg (fun z => [I z]) (fstIx_yes hy ‹_› ha).symm
   ·(conv=>whnf)
    refine Nx.mk (i + 1) ⟨by omega, idx_next hy (by assumption) ha⟩ (by omega) ?_
    repeat' (first|exact trivial|rfl|refine And.intro ?_ ?_)
  ·repeat' ((conv=>whnf);first|with_reducible (first|refine Lm ?_|refine Wm (by omega) ?_|refine dF (by omega) (fun hq => ?_)|refine Bn ?_|refine Fm rfl ?_)|refine Bt ?_|refine Bu ?_)
   exact congrArg (fun z => [I z]) (fstIx_no (by omega) ha).symm
theorem IndexFunc_Obj (xs : List DObj) (pr : DObj → Bool) (hl : xs.length ≤ 9223372036854775807) : CallsA Tryz.prog 267 false [.val none (rDObjS .imm xs), .fn (FnOk Tryz.prog (prQ (some 4) (DObj.enc .imm) pr xs))] .one [I (fstIx pr xs)] := by
 refine fO (n := 19) [] Tryz.func267 (by kernel_rfl) rfl (by kernel_rfl) (by rfl) (.inr ⟨trivial, trivial⟩) ?_
 repeat' ((conv=>whnf);first|with_reducible (first|refine Lm ?_|refine Wm (by omega) ?_|refine Bn ?_|refine Fm rfl ?_)|refine Bt ?_|refine Bu ?_)
 (conv=>whnf)
 refine Lp.mk (ι := Nat) (fun i => [(0, .hold .one (rDObjS .imm xs)), (1, .fv (FnOk Tryz.prog (prQ (some 4) (DObj.enc .imm) pr xs))), (7, .hold .one [I xs.length]), (8, .hold .one [I (i : Nat)])]) (fun i => i ≤ xs.length ∧ ∀ (j : Nat) (z : DObj), j < i → xs[j]? = some z → pr z = false) (fun i => xs.length - i) 0 ?_ ⟨Nat.zero_le _, fun j z hj => by omega⟩ fun i hi => ?_
 ·repeat' (first|exact trivial|rfl|refine And.intro ?_ ?_)
 ·obtain ⟨hi, ha⟩ := hi
  by_cases hlt : i < xs.length
  ·obtain ⟨y, hy⟩ : ∃ y, xs[i]? = some y := ⟨_, List.getElem?_eq_getElem hlt⟩
   repeat' ((conv=>whnf);first|with_reducible (first|refine Lm ?_|refine Wm (by omega) ?_|refine Ix.nat (get_map hy) ?_|refine dT (by omega) (fun hq => ?_)|refine Bn ?_|refine Fm rfl ?_)|refine Bt ?_|refine Bu ?_|refine Fv.mk (k := .one) (rcs := [B (pr y)]) ⟨y, List.mem_of_getElem? hy, rfl, rfl, rfl⟩ ?_|refine Bf.P (fun hq => ?_) (fun hq => ?_))
   ·exact congrArg (fun z => [I z]) (fstIx_yes hy ‹_› ha).symm
   ·(conv=>whnf)
    refine Nx.mk (i + 1) ⟨by omega, idx_next hy (by assumption) ha⟩ (by omega) ?_
    repeat' (first|exact trivial|rfl|refine And.intro ?_ ?_)
  ·repeat' ((conv=>whnf);first|with_reducible (first|refine Lm ?_|refine Wm (by omega) ?_|refine dF (by omega) (fun hq => ?_)|refine Bn ?_|refine Fm rfl ?_)|refine Bt ?_|refine Bu ?_)
   exact congrArg (fun z => [I z]) (fstIx_no (by omega) ha).symm
theorem ContainsFunc_Obj (xs : List DObj) (pr : DObj → Bool) (hl : xs.length ≤ 9223372036854775807) : CallsA Tryz.prog 236 false [.val none (rDObjS .imm xs), .fn (FnOk Tryz.prog (prQ (some 4) (DObj.enc .imm) pr xs))] .one [B (xs.any pr)] := by
 refine fO (n := 9) [] Tryz.func236 (by kernel_rfl) rfl (by kernel_rfl) (by rfl) (.inr ⟨trivial, trivial⟩) ?_
 repeat' ((conv=>whnf);first|with_reducible (first|refine Lm ?_|refine Wm (by omega) ?_|refine Bn ?_|refine Fm rfl ?_)|refine Bt ?_|refine Bu ?_|refine Cl.mk (IndexFunc_Obj xs pr hl) ?_)
 exact congrArg (fun z => [B z]) (fstIx_any pr xs)
/- classes -/
theorem shl_csz {k : Nat} (hk : k ≤ 3) : IntKind.i64.wrap (1 * 2 ^ min ((k : Nat) : Int).toNat IntKind.i64.bits) = csz (k : Nat) := by
 obtain rfl | rfl | rfl | rfl : k = 0 ∨ k = 1 ∨ k = 2 ∨ k = 3 := by omega
 all_goals decide
theorem u64_nat {k : Nat} (hk : k ≤ 100) : IntKind.u64.wrap (k : Nat) = (k : Nat) := by
 unfold IntKind.wrap; simp [IntKind.signed, IntKind.bits]; omega
theorem csz_lt {k : Nat} {z : Int} (hk : k ≤ 3) (h : csz (k : Nat) < z) (hz : z ≤ 8) : k ≤ 2 := by
 have e8 : csz ((3 : Nat) : Int) = 8 := by decide
 obtain rfl | rfl | rfl | rfl : k = 0 ∨ k = 1 ∨ k = 2 ∨ k = 3 := by omega
 all_goals omega
theorem classOf_eq {k : Nat} {z : Int} (hk : k ≤ 3) (h1 : 1 ≤ z) (h2 : k = 0 ∨ csz ((k - 1 : Nat) : Int) < z) (h3 : ¬ csz (k : Nat) < z) : classOf z = (k : Nat) := by
 have e0 : csz ((0 : Nat) : Int) = 1 := by decide
 have e1 : csz ((1 : Nat) : Int) = 2 := by decide
 have e2 : csz ((2 : Nat) : Int) = 4 := by decide
 have e3 : csz ((3 : Nat) : Int) = 8 := by decide
 unfold classOf
 obtain rfl | rfl | rfl | rfl : k = 0 ∨ k = 1 ∨ k = 2 ∨ k = 3 := by omega
 all_goals simp only [Nat.reduceSub, e0, e1, e2, e3] at h2 h3
 all_goals (repeat' split) <;> omega
theorem ClassOf_spec (z : Int) : CallsA Tryz.prog 167 false [.val none [I z]] .one [I (classOf z)] := by
 refine fO (n := 15) [] Tryz.func167 (by kernel_rfl) rfl (by kernel_rfl) (by rfl) (.inr ⟨trivial, trivial⟩) ?_
 by_cases hz : 1 ≤ z ∧ z ≤ 8
 ·repeat' ((conv=>whnf);first|with_reducible (first|refine Lm ?_|refine Wm (by omega) ?_|refine dT (by omega) (fun hq => ?_)|refine dF (by omega) (fun hq => ?_)|refine Bf.D (fun hq => ?_) (fun hq => ?_)|refine Bn ?_|refine Fm rfl ?_)|refine Bt ?_|refine Bu ?_|refine Cl.mk (l01In_ok z 1 8) ?_)
  (conv=>whnf)
  refine Lp.mk (ι := Nat) (fun k => [(0, .hold .one [I (z)]), (3, .hold .one [I ((k : Nat) : Int)])]) (fun k => k ≤ 3 ∧ (k = 0 ∨ csz ((k - 1 : Nat) : Int) < z)) (fun k => 4 - k) (0) ?_ (⟨by omega, .inl rfl⟩) fun k hk => ?_
  ·repeat' (first|exact trivial|rfl|refine And.intro ?_ ?_)
  obtain ⟨hk, h2⟩ := hk
  repeat' ((conv=>whnf);first|with_reducible (first|refine Lm ?_|refine Wm (by omega) ?_|refine Bf.D (fun hq => ?_) (fun hq => ?_)|refine Bn ?_|refine Fm rfl ?_)|refine Bt ?_|refine Bu ?_|refine Wr.mk (u64_nat (by omega)) ?_|refine Wr.mk (shl_csz hk) ?_|refine Cd.mk (by omega) ?_)
  all_goals first
   | exact congrArg (fun z => [I z]) (classOf_eq hk hz.1 h2 (by assumption)).symm
   | ((conv=>whnf);refine Nx.mk (k + 1) ⟨by have := csz_lt hk (by assumption) hz.2; omega, .inr (by simpa using (by assumption : csz (k : Nat) < z))⟩ (by have := csz_lt hk (by assumption) hz.2; omega) ?_; (repeat' (first|exact trivial|rfl|refine And.intro ?_ ?_)))
 ·repeat' ((conv=>whnf);first|with_reducible (first|refine Lm ?_|refine Wm (by omega) ?_|refine dT (by omega) (fun hq => ?_)|refine dF (by omega) (fun hq => ?_)|refine Bf.D (fun hq => ?_) (fun hq => ?_)|refine Bn ?_|refine Fm rfl ?_)|refine Bt ?_|refine Bu ?_|refine Cl.mk (l01In_ok z 1 8) ?_)
  all_goals exact congrArg (fun z => [I z]) (by unfold classOf; (repeat' split) <;> omega)
theorem ClassOf_impl (z : Int) : CallsA Tryz.prog 178 false [.val none [I z]] .one [I (classOf z)] := by
 refine fO (n := 14) [] Tryz.func178 (by kernel_rfl) rfl (by kernel_rfl) (by rfl) (.inr ⟨trivial, trivial⟩) ?_
 by_cases hz : 1 ≤ z ∧ z ≤ 8
 ·repeat' ((conv=>whnf);first|with_reducible (first|refine Lm ?_|refine Wm (by omega) ?_|refine dT (by omega) (fun hq => ?_)|refine dF (by omega) (fun hq => ?_)|refine Bf.D (fun hq => ?_) (fun hq => ?_)|refine Bn ?_|refine Fm rfl ?_)|refine Bt ?_|refine Bu ?_|refine Cl.mk (between_ok z 1 8) ?_)
  (conv=>whnf)
  refine Lp.mk (ι := Nat) (fun k => [(0, .hold .one [I (z)]), (3, .hold .one [I ((k : Nat) : Int)])]) (fun k => k ≤ 3 ∧ (k = 0 ∨ csz ((k - 1 : Nat) : Int) < z)) (fun k => 4 - k) (0) ?_ (⟨by omega, .inl rfl⟩) fun k hk => ?_
  ·repeat' (first|exact trivial|rfl|refine And.intro ?_ ?_)
  obtain ⟨hk, h2⟩ := hk
  repeat' ((conv=>whnf);first|with_reducible (first|refine Lm ?_|refine Wm (by omega) ?_|refine Bf.D (fun hq => ?_) (fun hq => ?_)|refine Bn ?_|refine Fm rfl ?_)|refine Bt ?_|refine Bu ?_|refine Cl.mk (ClassSize_impl _) ?_)
  all_goals first
   | exact congrArg (fun z => [I z]) (classOf_eq hk hz.1 h2 (by assumption)).symm
   | ((conv=>whnf);refine Nx.mk (k + 1) ⟨by have := csz_lt hk (by assumption) hz.2; omega, .inr (by simpa using (by assumption : csz (k : Nat) < z))⟩ (by have := csz_lt hk (by assumption) hz.2; omega) ?_; (repeat' (first|exact trivial|rfl|refine And.intro ?_ ?_)))
 ·repeat' ((conv=>whnf);first|with_reducible (first|refine Lm ?_|refine Wm (by omega) ?_|refine dT (by omega) (fun hq => ?_)|refine dF (by omega) (fun hq => ?_)|refine Bf.D (fun hq => ?_) (fun hq => ?_)|refine Bn ?_|refine Fm rfl ?_)|refine Bt ?_|refine Bu ?_|refine Cl.mk (between_ok z 1 8) ?_)
  all_goals exact congrArg (fun z => [I z]) (by unfold classOf; (repeat' split) <;> omega)
/- the quarantine -/
theorem QuarHas_spec (q : DQuar) (a : Int) (hs : DQuar.sml q) : CallsA Tryz.prog 210 false [.val (some 2) (DQuar.enc .imm q), .val none [I a]] .one [B (q.Lst.any (sameAddr a))] := by
 have hl : q.Lst.length ≤ 1048576 := hs.1
 refine fO (n := 21) [] Tryz.func210 (by kernel_rfl) rfl (by kernel_rfl) (by rfl) (.inr ⟨trivial, trivial⟩) ?_
 repeat' ((conv=>whnf);first|with_reducible (first|refine Lm ?_|refine Wm (by omega) ?_|refine Bn ?_|refine Fm rfl ?_)|refine Bt ?_|refine Bu ?_)
 (conv=>whnf)
 refine Lp.mk (ι := Nat) (fun i => [(1, .hold .one [I (a)]), (2, .hold .box (DQuar.enc .imm q)), (5, .hold .one [I ((i : Nat) : Int)])]) (fun i => i ≤ q.Lst.length ∧ (q.Lst.take i).any (sameAddr a) = false) (fun i => q.Lst.length - i) (0) ?_ (⟨Nat.zero_le _, rfl⟩) fun i hi => ?_
 ·repeat' (first|exact trivial|rfl|refine And.intro ?_ ?_)
 obtain ⟨hi, ha⟩ := hi
 by_cases li : i < q.Lst.length
 ·have hx := get_nth li
  repeat' ((conv=>whnf);first|with_reducible (first|refine Lm ?_|refine Wm (by omega) ?_|refine Ix.nat (get_map hx) ?_|refine dT (by omega) (fun hq => ?_)|refine Bf.E (fun hq => ?_) (fun hq => ?_)|refine Bn ?_|refine Fm rfl ?_)|refine Bt ?_|refine Bu ?_)
  all_goals first
   | exact congrArg (fun z => [B z]) ((any_yes hx (decide_eq_true (by assumption))).symm)
   | ((conv=>whnf);refine Nx.mk (i + 1) ⟨by omega, any_next hx ha (decide_eq_false (by assumption))⟩ (by omega) ?_; (repeat' (first|exact trivial|rfl|refine And.intro ?_ ?_)))
 ·repeat' ((conv=>whnf);first|with_reducible (first|refine Lm ?_|refine Wm (by omega) ?_|refine dF (by omega) (fun hq => ?_)|refine Bn ?_|refine Fm rfl ?_)|refine Bt ?_|refine Bu ?_)
  exact congrArg (fun z => [B z]) ((any_end (by omega) ha).symm)
theorem quarCells_step (xs : List DStale) (i : Nat) : quarCells xs (i + 1) = quarCells xs i + csz (nth xs i).Class := rfl
theorem csz_bd (k : Int) : 0 ≤ csz k ∧ csz k ≤ 8 := by
 by_cases h : 0 ≤ k ∧ k ≤ 3
 ·rcases csz_cases h with e | e | e | e <;> rw [e] <;> decide
 ·unfold csz; rw [if_neg h]; decide
theorem l22Cells_ok (xs : List DStale) (hs : smlDStaleS xs) : CallsA Tryz.prog 211 false [.val none (rDStaleS .imm xs)] .one [I (quarCells xs xs.length)] := by
 have hl := hs.1
 refine fO (n := 20) [] Tryz.func211 (by kernel_rfl) rfl (by kernel_rfl) (by rfl) (.inr ⟨trivial, trivial⟩) ?_
 repeat' ((conv=>whnf);first|with_reducible (first|refine Lm ?_|refine Wm (by omega) ?_|refine Bn ?_|refine Fm rfl ?_)|refine Bt ?_|refine Bu ?_)
 (conv=>whnf)
 refine Lp.mk (ι := Nat) (fun i => [(0, .hold .one (rDStaleS .imm xs)), (3, .hold .one [I (quarCells xs i)]), (4, .hold .one [I ((i : Nat) : Int)])]) (fun i => i ≤ xs.length ∧ 0 ≤ quarCells xs i ∧ quarCells xs i ≤ 8 * i) (fun i => xs.length - i) (0) ?_ (⟨Nat.zero_le _, by simp [quarCells], by simp [quarCells]⟩) fun i hi => ?_
 ·repeat' (first|exact trivial|rfl|refine And.intro ?_ ?_)
 obtain ⟨hi, s0, s1⟩ := hi
 by_cases li : i < xs.length
 ·have hx := get_nth li
  have hb := csz_bd (nth xs i).Class
  have hst := quarCells_step xs i
  repeat' ((conv=>whnf);first|with_reducible (first|refine Lm ?_|refine Wm (by omega) ?_|refine Ix.nat (get_map hx) ?_|refine dT (by omega) (fun hq => ?_)|refine Bn ?_|refine Fm rfl ?_)|refine Bt ?_|refine Bu ?_|refine Cl.mk (ClassSize_spec _) ?_)
  ((conv=>whnf);refine Nx.mk (i + 1) ⟨by omega, by omega, by omega⟩ (by omega) ?_)
  rw [hst]
  repeat' (first|exact trivial|rfl|refine And.intro ?_ ?_)
 ·repeat' ((conv=>whnf);first|with_reducible (first|refine Lm ?_|refine Wm (by omega) ?_|refine dF (by omega) (fun hq => ?_)|refine Bn ?_|refine Fm rfl ?_)|refine Bt ?_|refine Bu ?_)
  obtain rfl : i = xs.length := by omega
  rfl
theorem quarCells_impl (xs : List DStale) (hs : smlDStaleS xs) : CallsA Tryz.prog 234 false [.val none (rDStaleS .imm xs)] .one [I (quarCells xs xs.length)] := by
 have hl := hs.1
 refine fO (n := 19) [] Tryz.func234 (by kernel_rfl) rfl (by kernel_rfl) (by rfl) (.inr ⟨trivial, trivial⟩) ?_
 repeat' ((conv=>whnf);first|with_reducible (first|refine Lm ?_|refine Wm (by omega) ?_|refine Bn ?_|refine Fm rfl ?_)|refine Bt ?_|refine Bu ?_)
 (conv=>whnf)
 refine Lp.mk (ι := Nat) (fun i => [(3, .hold .one [I (quarCells xs i)]), (6, .hold .one (rDStaleS .imm xs)), (7, .hold .one [I (xs.length)]), (8, .hold .one [I ((i : Nat) : Int)])]) (fun i => i ≤ xs.length ∧ 0 ≤ quarCells xs i ∧ quarCells xs i ≤ 8 * i) (fun i => xs.length - i) (0) ?_ (⟨Nat.zero_le _, by simp [quarCells], by simp [quarCells]⟩) fun i hi => ?_
 ·repeat' (first|exact trivial|rfl|refine And.intro ?_ ?_)
 obtain ⟨hi, s0, s1⟩ := hi
 by_cases li : i < xs.length
 ·have hx := get_nth li
  have hb := csz_bd (nth xs i).Class
  have hst := quarCells_step xs i
  repeat' ((conv=>whnf);first|with_reducible (first|refine Lm ?_|refine Wm (by omega) ?_|refine Ix.nat (get_map hx) ?_|refine dT (by omega) (fun hq => ?_)|refine Bn ?_|refine Fm rfl ?_)|refine Bt ?_|refine Bu ?_|refine Cl.mk (ClassSize_impl _) ?_)
  ((conv=>whnf);refine Nx.mk (i + 1) ⟨by omega, by omega, by omega⟩ (by omega) ?_)
  rw [hst]
  repeat' (first|exact trivial|rfl|refine And.intro ?_ ?_)
 ·repeat' ((conv=>whnf);first|with_reducible (first|refine Lm ?_|refine Wm (by omega) ?_|refine dF (by omega) (fun hq => ?_)|refine Bn ?_|refine Fm rfl ?_)|refine Bt ?_|refine Bu ?_)
  obtain rfl : i = xs.length := by omega
  rfl
theorem l22One_ok (x0 : DStale) : CallsA Tryz.prog 209 false [.val (some 3) (DStale.enc .imm x0)] .one [B (decide (0 ≤ x0.Class ∧ x0.Class ≤ 3 ∧ 0 ≤ x0.Addr ∧ 0 ≤ x0.Since))] := by
 refine fO (n := 16) [] Tryz.func209 (by kernel_rfl) rfl (by kernel_rfl) (by rfl) (.inr ⟨trivial, trivial⟩) ?_
 repeat' ((conv=>whnf);first|with_reducible (first|refine Lm ?_|refine Wm (by omega) ?_|refine Bf.D (fun hq => ?_) (fun hq => ?_)|refine Bn ?_|refine Fm rfl ?_)|refine Bt ?_|refine Bu ?_|refine Cl.mk (l01In_ok _ 0 3) ?_)
 all_goals exact congrArg (fun z => [B z]) ((by first | (symm; exact decide_eq_false (by omega)) | exact decide_eq_decide.2 (by omega)))
theorem sml_take {xs : List DStale} (hs : smlDStaleS xs) (i : Nat) : smlDStaleS (xs.take i) := ⟨by have := hs.1; rw [List.length_take]; omega, fun _ _ => trivial⟩
theorem QuarOk_spec (q : DQuar) (hs : DQuar.sml q) : CallsA Tryz.prog 95 false [.val (some 2) (DQuar.enc .imm q)] .one [B (quarOk q)] := by
 have hl : q.Lst.length ≤ 1048576 := hs.1
 refine fO (n := 57) [(5,29,[17,18,19,20,21,22,23,24,25,26,27,28,29,30,31,32,33,34,35,36,37,38,39,40,41,42,43,44,45]),(7,11,[46,47,48,49,50,51,52,53,54,55,56])] Tryz.func95 (by kernel_rfl) rfl (by kernel_rfl) (by rfl) (.inr ⟨trivial, trivial⟩) ?_
 repeat' ((conv=>whnf);first|with_reducible (first|refine Lm ?_|refine Wm (by omega) ?_|refine Bn ?_|refine Fm rfl ?_)|refine Bt ?_|refine Bu ?_)
 (conv=>whnf)
 refine Lp.mk (ι := Nat) (fun i => [(1, .hold .box (DQuar.enc .imm q)), (3, .hold .one [I ((i : Nat) : Int)])]) (fun i => i ≤ q.Lst.length ∧ allN i (staleAt q.Lst) = true) (fun i => q.Lst.length - i) 0 ?_ ⟨Nat.zero_le _, rfl⟩ fun i hi => ?_
 ·repeat' (first|exact trivial|rfl|refine And.intro ?_ ?_)
 obtain ⟨hi, ai⟩ := hi
 by_cases li : i < q.Lst.length
 ·have hx := get_nth li
  have h1 := QuarHas_spec ⟨0, q.Lst.take i⟩ (nth q.Lst i).Addr (sml_take hs i)
  cases e1 : (q.Lst.take i).any (sameAddr (nth q.Lst i).Addr) <;> rw [show (DQuar.mk 0 (q.Lst.take i)).Lst.any (sameAddr (nth q.Lst i).Addr) = _ from e1] at h1
  all_goals
   repeat' ((conv=>whnf);first|with_reducible (first|refine Lm ?_|refine Wm (by omega) ?_|refine Ix.nat (get_map hx) ?_|refine dT (by omega) (fun hq => ?_)|refine Bf.D (fun hq => ?_) (fun hq => ?_)|refine Bn ?_|refine Fm rfl ?_)|refine Bt ?_|refine Bu ?_|refine Cl.mk (l22One_ok _) ?_|refine Ix.mk (by omega) (get_map (get_pre (by omega) li)) ?_|refine Sl.pre i rfl (by simp; omega) (fun r hr => by obtain ⟨z, -, rfl⟩ := List.mem_map.1 hr; rfl) (List.map_take ..) ?_|refine Cl.mk h1 ?_)
   all_goals first
    | exact congrArg (fun z => [B z]) ((by symm; unfold quarOk; rw [allN_no li (by unfold staleAt; first | (rw [e1]; simp; done) | (rw [decide_eq_false (by omega)]; rfl))]; rfl))
    | ((conv=>whnf);refine Nx.mk (i + 1) ⟨by omega, allN_yes ai (by unfold staleAt; rw [e1, decide_eq_true (by omega)]; rfl)⟩ (by omega) ?_; (repeat' (first|exact trivial|rfl|refine And.intro ?_ ?_)))
 ·obtain rfl : i = q.Lst.length := by omega
  repeat' ((conv=>whnf);first|with_reducible (first|refine Lm ?_|refine Wm (by omega) ?_|refine dF (by omega) (fun hq => ?_)|refine Bf.D (fun hq => ?_) (fun hq => ?_)|refine Bn ?_|refine Fm rfl ?_)|refine Bt ?_|refine Bu ?_|refine Cl.mk (l01In_ok _ 0 500) ?_|refine Cl.mk (l22Cells_ok q.Lst hs) ?_)
  all_goals exact congrArg (fun z => [B z]) ((by unfold quarOk; rw [ai]; simp only [Bool.true_and]; first | (symm; exact decide_eq_false (by omega)) | exact decide_eq_decide.2 (by omega)))
theorem sameAddr_fn (x0 : DStale) (a : Int) : CallsA Tryz.prog 351 false [.val (some 3) (DStale.enc .imm x0), .ptr [I a]] .one [B (sameAddr a x0)] := by
 refine fO (n := 8) [] Tryz.func351 (by kernel_rfl) rfl (by kernel_rfl) (by rfl) (.inr ⟨trivial, trivial⟩) ?_
 repeat' ((conv=>whnf);first|with_reducible (first|refine Lm ?_|refine Wm (by omega) ?_|refine Bn ?_|refine Fm rfl ?_)|refine Bt ?_|refine Bu ?_)
 exact congrArg (fun z => [B z]) ((by unfold sameAddr; rw [Bool.eq_iff_iff]; simp))
theorem hasStale_impl (xs : List DStale) (a : Int) (hl : xs.length ≤ 9223372036854775807) : CallsA Tryz.prog 310 false [.val none (rDStaleS .imm xs), .val none [I a]] .one [B (xs.any (sameAddr a))] := by
 refine fO (n := 8) [] Tryz.func310 (by kernel_rfl) rfl (by kernel_rfl) (by rfl) (.inr ⟨trivial, trivial⟩) ?_
 repeat' ((conv=>whnf);first|with_reducible (first|refine Lm ?_|refine Wm (by omega) ?_|refine Bn ?_|refine Fm rfl ?_)|refine Bt ?_|refine Bu ?_|refine Cq.mk (prQ (some 3) (DStale.enc .imm) (sameAddr a) xs) (sameAddr_fn default a).has (fun L k rcs hQ => ?_) ?_|refine Cl.mk (ContainsFunc_Stale xs (sameAddr a) hl) ?_)
 ·obtain ⟨y, -, rfl, rfl, rfl⟩ := hQ
  exact sameAddr_fn y a
 ·rfl
def staleIn (xs : List DStale) (x0 : DStale) : Bool := decide (0 ≤ x0.Class ∧ x0.Class ≤ 3 ∧ 0 ≤ x0.Addr ∧ 0 ≤ x0.Since ∧ (xs.length = 0 ∨ (nth xs (xs.length - 1)).Since ≤ x0.Since)) && !xs.any (sameAddr x0.Addr)
theorem staleOk_impl (xs : List DStale) (x0 : DStale) (hl : xs.length ≤ 1048576) : CallsA Tryz.prog 233 false [.val none (rDStaleS .imm xs), .val (some 3) (DStale.enc .imm x0)] .one [B (staleIn xs x0)] := by
 have h1 := hasStale_impl xs x0.Addr (by omega)
 cases e1 : xs.any (sameAddr x0.Addr) <;> rw [e1] at h1
 ·by_cases hz : xs.length = 0
  ·refine fO (n := 40) [(3,15,[25,26,27,28,29,30,31,32,33,34,35,36,37,38,39])] Tryz.func233 (by kernel_rfl) rfl (by kernel_rfl) (by rfl) (.inr ⟨trivial, trivial⟩) ?_
   repeat' ((conv=>whnf);first|with_reducible (first|refine Lm ?_|refine Wm (by omega) ?_|refine Bf.D (fun hq => ?_) (fun hq => ?_)|refine Bf.E (fun hq => ?_) (fun hq => ?_)|refine Bn ?_|refine Fm rfl ?_)|refine Bt ?_|refine Bu ?_|refine Cl.mk (classOk_ok _) ?_|refine Cl.mk h1 ?_)
   all_goals first
    | exact congrArg (fun z => [B z]) ((by unfold staleIn; rw [e1, Bool.not_false, Bool.and_true]; first | (symm; exact decide_eq_false (by omega)) | (symm; exact decide_eq_true (by omega)) | exact decide_eq_decide.2 (by omega)))
    |(exfalso; omega)
    |trace_state
  ·have hx : xs[((xs.length : Int) - 1).toNat]? = some (nth xs (xs.length - 1)) := by rw [show ((xs.length : Int) - 1).toNat = xs.length - 1 by omega]; exact get_nth (by omega)
   refine fO (n := 40) [(3,15,[25,26,27,28,29,30,31,32,33,34,35,36,37,38,39])] Tryz.func233 (by kernel_rfl) rfl (by kernel_rfl) (by rfl) (.inr ⟨trivial, trivial⟩) ?_
   repeat' ((conv=>whnf);first|with_reducible (first|refine Lm ?_|refine Wm (by omega) ?_|refine Bf.D (fun hq => ?_) (fun hq => ?_)|refine Bf.E (fun hq => ?_) (fun hq => ?_)|refine Bn ?_|refine Fm rfl ?_)|refine Bt ?_|refine Bu ?_|refine Cl.mk (classOk_ok _) ?_|refine Cl.mk h1 ?_|refine Ix.mk (by omega) (get_map hx) ?_)
   all_goals first
    | exact congrArg (fun z => [B z]) ((by unfold staleIn; rw [e1, Bool.not_false, Bool.and_true]; first | (symm; exact decide_eq_false (by omega)) | (symm; exact decide_eq_true (by omega)) | exact decide_eq_decide.2 (by omega)))
    |(exfalso; omega)
    |trace_state
 ·refine fO (n := 40) [(3,15,[25,26,27,28,29,30,31,32,33,34,35,36,37,38,39])] Tryz.func233 (by kernel_rfl) rfl (by kernel_rfl) (by rfl) (.inr ⟨trivial, trivial⟩) ?_
  repeat' ((conv=>whnf);first|with_reducible (first|refine Lm ?_|refine Wm (by omega) ?_|refine Bf.D (fun hq => ?_) (fun hq => ?_)|refine Bn ?_|refine Fm rfl ?_)|refine Bt ?_|refine Bu ?_|refine Cl.mk (classOk_ok _) ?_|refine Cl.mk h1 ?_)
  all_goals exact congrArg (fun z => [B z]) ((by unfold staleIn; rw [e1]; simp))
theorem staleIn_at {xs : List DStale} {i : Nat} (hi : i < xs.length) : staleIn (xs.take i) (nth xs i) = staleAt xs i := by
 unfold staleIn staleAt
 have h1 : (xs.take i).length = i := by rw [List.length_take]; omega
 rw [h1]
 congr 1
 refine decide_eq_decide.2 ?_
 by_cases h0 : i = 0
 ·subst h0; simp
 ·have h2 : nth (xs.take i) (i - 1) = nth xs (i - 1) := by
   have := get_nth (xs := xs) (i := i - 1) (by omega)
   exact nth_of (by rw [List.getElem?_take_of_lt (by omega)]; exact this)
  rw [h2]
theorem QuarOk_impl (q : DQuar) (hs : DQuar.sml q) : CallsA Tryz.prog 124 false [.val (some 2) (DQuar.enc .imm q)] .one [B (quarOk q)] := by
 have hl : q.Lst.length ≤ 1048576 := hs.1
 refine fO (n := 32) [(4,7,[13,14,15,16,17,18,19]),(7,11,[21,22,23,24,25,26,27,28,29,30,31])] Tryz.func124 (by kernel_rfl) rfl (by kernel_rfl) (by rfl) (.inr ⟨trivial, trivial⟩) ?_
 repeat' ((conv=>whnf);first|with_reducible (first|refine Lm ?_|refine Wm (by omega) ?_|refine Bn ?_|refine Fm rfl ?_)|refine Bt ?_|refine Bu ?_)
 (conv=>whnf)
 refine Lp.mk (ι := Nat) (fun i => [(1, .hold .box (DQuar.enc .imm q)), (6, .hold .one (rDStaleS .imm q.Lst)), (7, .hold .one [I (q.Lst.length)]), (8, .hold .one [I ((i : Nat) : Int)])]) (fun i => i ≤ q.Lst.length ∧ allN i (staleAt q.Lst) = true) (fun i => q.Lst.length - i) 0 ?_ ⟨Nat.zero_le _, rfl⟩ fun i hi => ?_
 ·repeat' (first|exact trivial|rfl|refine And.intro ?_ ?_)
 obtain ⟨hi, ai⟩ := hi
 by_cases li : i < q.Lst.length
 ·have hx := get_nth li
  have h1 := staleOk_impl (q.Lst.take i) (nth q.Lst i) (by rw [List.length_take]; omega)
  rw [staleIn_at li] at h1
  cases e1 : staleAt q.Lst i <;> rw [e1] at h1
  all_goals
   repeat' ((conv=>whnf);first|with_reducible (first|refine Lm ?_|refine Wm (by omega) ?_|refine Ix.nat (get_map hx) ?_|refine dT (by omega) (fun hq => ?_)|refine Bn ?_|refine Fm rfl ?_)|refine Bt ?_|refine Bu ?_|refine Sl.pre i rfl (by simp; omega) (fun r hr => by obtain ⟨z, -, rfl⟩ := List.mem_map.1 hr; rfl) (List.map_take ..) ?_|refine Cl.mk h1 ?_)
   all_goals first
    | exact congrArg (fun z => [B z]) ((by symm; unfold quarOk; rw [allN_no li e1]; rfl))
    | ((conv=>whnf);refine Nx.mk (i + 1) ⟨by omega, allN_yes ai e1⟩ (by omega) ?_; (repeat' (first|exact trivial|rfl|refine And.intro ?_ ?_)))
 ·obtain rfl : i = q.Lst.length := by omega
  repeat' ((conv=>whnf);first|with_reducible (first|refine Lm ?_|refine Wm (by omega) ?_|refine dF (by omega) (fun hq => ?_)|refine Bf.D (fun hq => ?_) (fun hq => ?_)|refine Bn ?_|refine Fm rfl ?_)|refine Bt ?_|refine Bu ?_|refine Cl.mk (between_ok _ 0 500) ?_|refine Cl.mk (quarCells_impl q.Lst hs) ?_)
  all_goals exact congrArg (fun z => [B z]) ((by unfold quarOk; rw [ai]; simp only [Bool.true_and]; first | (symm; exact decide_eq_false (by omega)) | exact decide_eq_decide.2 (by omega)))
end Go.Proofs.YtogajjgmcnjkbaaGreat.Ab
/- Used frames, pages of a frame, spans on a page, addresses on their way and in use: contracts, the reference's and the program's. No condition. -/
namespace Go.Proofs.YtogajjgmcnjkbaaGreat.Ab
open Go.RowKit
set_option maxRecDepth 20000
set_option maxHeartbeats 4000000
/- pages -/
def smlT (h : DHeap) : Prop := DTable.sml h.Kernel.Machine.Table
theorem FramePages_spec (h : DHeap) (p : Int) (hs : smlT h) : CallsA Tryz.prog 206 false [.val (some 24) (DHeap.enc .imm h), .val none [I p]] .one (rIntS .own (framePages h p)) := by
 refine fO (n := 23) [] Tryz.func206 (by kernel_rfl) rfl (by kernel_rfl) (by rfl) (.inr (rIntS_fr _)) ?_
 repeat' ((conv=>whnf);first|with_reducible (first|refine Lm ?_|refine Wm (by omega) ?_|refine Bf.E (fun hq => ?_) (fun hq => ?_)|refine Bn ?_|refine Fin_.wk rfl ?_)|refine Bt ?_|refine Bu ?_|refine Cl.mk (PageEntry_spec h.Kernel.Machine.Table p hs) ?_|refine Cl.mk (PagesOn_spec h.Kernel.Machine.Table _ hs) ?_)
 all_goals (unfold framePages; first | rw [if_pos (by assumption)] | rw [if_neg (by assumption)])
 all_goals exact ⟨rfl, trivial⟩
theorem FramePages_impl (h : DHeap) (p : Int) (hs : smlT h) : CallsA Tryz.prog 229 false [.val (some 24) (DHeap.enc .imm h), .val none [I p]] .one (rIntS .own (framePages h p)) := by
 refine fO (n := 22) [] Tryz.func229 (by kernel_rfl) rfl (by kernel_rfl) (by rfl) (.inr (rIntS_fr _)) ?_
 repeat' ((conv=>whnf);first|with_reducible (first|refine Lm ?_|refine Wm (by omega) ?_|refine Bf.E (fun hq => ?_) (fun hq => ?_)|refine Bn ?_|refine Fin_.wk rfl ?_)|refine Bt ?_|refine Bu ?_|refine Cl.mk (PageEntry_impl h.Kernel.Machine.Table p hs) ?_|refine Cl.mk (PagesOn_impl h.Kernel.Machine.Table _ hs) ?_)
 all_goals (unfold framePages; first | rw [if_pos (by assumption)] | rw [if_neg (by assumption)])
 all_goals exact ⟨rfl, trivial⟩
theorem mapped_impl (k : DKernel) (p : Int) (hs : DTable.sml k.Machine.Table) : CallsA Tryz.prog 230 false [.val (some 5) (DKernel.enc .imm k), .val none [I p]] .one [B (decide ((pageEntry k.Machine.Table p).Mode ≠ 0))] := by
 refine fO (n := 12) [] Tryz.func230 (by kernel_rfl) rfl (by kernel_rfl) (by rfl) (.inr ⟨trivial, trivial⟩) ?_
 repeat' ((conv=>whnf);first|with_reducible (first|refine Lm ?_|refine Wm (by omega) ?_|refine Bn ?_|refine Fm rfl ?_)|refine Bt ?_|refine Bu ?_|refine Cl.mk (PageEntry_impl k.Machine.Table p hs) ?_)
 exact congrArg (fun z => [B z]) ((by rw [Bool.eq_iff_iff]; simp))
theorem seedOk_impl (z : Int) : CallsA Tryz.prog 128 false [.val none [I z]] .one [B (decide (0 ≤ z ∧ z ≤ 1073741823))] := by
 refine fO (n := 5) [] Tryz.func128 (by kernel_rfl) rfl (by kernel_rfl) (by rfl) (.inr ⟨trivial, trivial⟩) ?_
 repeat' ((conv=>whnf);first|with_reducible (first|refine Lm ?_|refine Wm (by omega) ?_|refine Bn ?_|refine Fm rfl ?_)|refine Bt ?_|refine Bu ?_|refine Cl.mk (between_ok z 0 1073741823) ?_)
 rfl
theorem SpanOn_spec (h : DHeap) (p : Int) (hl : h.Spans.length ≤ 1048576) : CallsA Tryz.prog 101 false [.val (some 24) (DHeap.enc .imm h), .val none [I p]] .one [I (spanOn h p)] := by
 refine fO (n := 22) [] Tryz.func101 (by kernel_rfl) rfl (by kernel_rfl) (by rfl) (.inr ⟨trivial, trivial⟩) ?_
 repeat' ((conv=>whnf);first|with_reducible (first|refine Lm ?_|refine Wm (by omega) ?_|refine Bn ?_|refine Fm rfl ?_)|refine Bt ?_|refine Bu ?_)
 (conv=>whnf)
 refine Lp.mk (ι := Nat) (fun i => [(1, .hold .one [I (p)]), (2, .hold .box (DHeap.enc .imm h)), (5, .hold .one [I ((i : Nat) : Int)])]) (fun i => i ≤ h.Spans.length ∧ ∀ (j : Nat) (z : DSpan), j < i → h.Spans[j]? = some z → atPage p z = false) (fun i => h.Spans.length - i) (0) ?_ (⟨Nat.zero_le _, fun j z hj => by omega⟩) fun i hi => ?_
 ·repeat' (first|exact trivial|rfl|refine And.intro ?_ ?_)
 obtain ⟨hi, ai⟩ := hi
 by_cases li : i < h.Spans.length
 ·have hx := get_nth li
  repeat' ((conv=>whnf);first|with_reducible (first|refine Lm ?_|refine Wm (by omega) ?_|refine Ix.nat (get_map hx) ?_|refine dT (by omega) (fun hq => ?_)|refine Bf.E (fun hq => ?_) (fun hq => ?_)|refine Bn ?_|refine Fm rfl ?_)|refine Bt ?_|refine Bu ?_)
  all_goals first
   | exact congrArg (fun z => [I z]) (fstIx_yes hx (decide_eq_true (by assumption)) ai).symm
   | ((conv=>whnf);refine Nx.mk (i + 1) ⟨by omega, idx_next hx (decide_eq_false (by assumption)) ai⟩ (by omega) ?_; (repeat' (first|exact trivial|rfl|refine And.intro ?_ ?_)))
 ·repeat' ((conv=>whnf);first|with_reducible (first|refine Lm ?_|refine Wm (by omega) ?_|refine dF (by omega) (fun hq => ?_)|refine Bn ?_|refine Fm rfl ?_)|refine Bt ?_|refine Bu ?_)
  exact congrArg (fun z => [I z]) (fstIx_no (by omega) ai).symm
theorem atPage_fn (s : DSpan) (p : Int) : CallsA Tryz.prog 244 false [.val (some 3) (DSpan.enc .imm s), .ptr [I p]] .one [B (atPage p s)] := by
 refine fO (n := 8) [] Tryz.func244 (by kernel_rfl) rfl (by kernel_rfl) (by rfl) (.inr ⟨trivial, trivial⟩) ?_
 repeat' ((conv=>whnf);first|with_reducible (first|refine Lm ?_|refine Wm (by omega) ?_|refine Bn ?_|refine Fm rfl ?_)|refine Bt ?_|refine Bu ?_)
 exact congrArg (fun z => [B z]) ((by unfold atPage; rw [Bool.eq_iff_iff]; simp))
theorem SpanOn_impl (h : DHeap) (p : Int) (hl : h.Spans.length ≤ 1048576) : CallsA Tryz.prog 130 false [.val (some 24) (DHeap.enc .imm h), .val none [I p]] .one [I (spanOn h p)] := by
 refine fO (n := 9) [] Tryz.func130 (by kernel_rfl) rfl (by kernel_rfl) (by rfl) (.inr ⟨trivial, trivial⟩) ?_
 repeat' ((conv=>whnf);first|with_reducible (first|refine Lm ?_|refine Wm (by omega) ?_|refine Bn ?_|refine Fm rfl ?_)|refine Bt ?_|refine Bu ?_|refine Cq.mk (prQ (some 3) (DSpan.enc .imm) (atPage p) h.Spans) (atPage_fn default p).has (fun L k rcs hQ => ?_) ?_|refine Cl.mk (IndexFunc_Span h.Spans (atPage p) (by omega)) ?_)
 ·obtain ⟨y, -, rfl, rfl, rfl⟩ := hQ
  exact atPage_fn y p
 ·rfl
/- on their way -/
def flight1 (m : DMail) (i : Nat) : List Int := (m.Buffers.take i).flatMap fun l => l.map (·.Addr)
def flight2 (m : DMail) (i : Nat) : List Int := (m.Inbox.take i).flatten
theorem flight1_step {m : DMail} {i : Nat} {l : List DPost} (h : m.Buffers[i]? = some l) : flight1 m (i + 1) = flight1 m i ++ l.map (·.Addr) := by
 unfold flight1; rw [List.take_add_one, h, List.flatMap_append]; simp
theorem flight2_step {m : DMail} {i : Nat} {l : List Int} (h : m.Inbox[i]? = some l) : flight2 m (i + 1) = flight2 m i ++ l := by
 unfold flight2; rw [List.take_add_one, h, List.flatten_append]; simp
theorem inFlight_ok {m : DMail} (h : mailOk m = true) : inFlight m = flight1 m m.Buffers.length ++ flight2 m m.Inbox.length := by
 unfold inFlight flight1 flight2; rw [if_pos h, List.take_length, List.take_length]
theorem inFlight_no {m : DMail} (h : mailOk m = false) : inFlight m = [] := by
 unfold inFlight; rw [h]; rfl
theorem mailOk_facts {m : DMail} (h : mailOk m = true) : 1 ≤ m.Buffers.length ∧ m.Buffers.length ≤ 4 ∧ m.Inbox.length = m.Buffers.length := by
 unfold mailOk at h; simp only [Bool.and_eq_true, decide_eq_true_eq] at h; exact h.1.1
theorem rowI_imm {l : List Int} : ∀ r ∈ l.map (rI .imm), r.length = 1 := by
 intro r hr; obtain ⟨z, -, rfl⟩ := List.mem_map.1 hr; rfl
theorem rowI_no {l : List Int} : ∀ r ∈ l.map (rI .imm), noOwn r = true := by
 intro r hr; obtain ⟨z, -, rfl⟩ := List.mem_map.1 hr; rfl
theorem InFlight_spec (m : DMail) (hs : DMail.sml m) : CallsA Tryz.prog 214 false [.val (some 2) (DMail.enc .imm m)] .one (rIntS .own (inFlight m)) := by
 have h1 := MailOk_spec m hs
 cases e1 : mailOk m <;> rw [e1] at h1
 ·refine fO (n := 56) [] Tryz.func214 (by kernel_rfl) rfl (by kernel_rfl) (by rfl) (.inr (rIntS_fr _)) ?_
  repeat' ((conv=>whnf);first|with_reducible (first|refine Lm ?_|refine Wm (by omega) ?_|refine Bn ?_|refine Fin_.wk rfl ?_)|refine Bt ?_|refine Bu ?_|refine Cl.mk h1 ?_)
  all_goals (rw [inFlight_no e1]; exact ⟨rfl, trivial⟩)
 ·obtain ⟨n1, n2, n3⟩ := mailOk_facts e1
  refine fO (n := 56) [] Tryz.func214 (by kernel_rfl) rfl (by kernel_rfl) (by rfl) (.inr (rIntS_fr _)) ?_
  repeat' ((conv=>whnf);first|with_reducible (first|refine Lm ?_|refine Wm (by omega) ?_|refine Bn ?_|refine Fm rfl ?_)|refine Bt ?_|refine Bu ?_|refine Cl.mk h1 ?_)
  (conv=>whnf)
  refine Lp.mk (ι := Nat × List Int) (fun i => [(1, .hold .box (DMail.enc .imm m)), (3, .hold .one (rIntS .own i.2)), (4, .hold .one [I ((i.1 : Nat) : Int)])]) (fun i => i.1 ≤ m.Buffers.length ∧ i.2 = flight1 m i.1 ∧ i.2.length ≤ 1048576 * i.1) (fun i => m.Buffers.length - i.1) ((0, [])) ?_ (⟨Nat.zero_le _, rfl, Nat.zero_le _⟩) fun i hi => ?_
  ·repeat' (first|exact trivial|rfl|refine And.intro ?_ ?_)
  obtain ⟨i, S⟩ := i
  obtain ⟨hi, hS, hb⟩ := hi
  simp only at hi hS hb ⊢
  by_cases li : i < m.Buffers.length
  ·have hx := get_nth li
   have hb1 : (nth m.Buffers i).length ≤ 1048576 := (hs.1.2 _ (nth_mem li)).1
   repeat' ((conv=>whnf);first|with_reducible (first|refine Lm ?_|refine Wm (by omega) ?_|refine Ix.nat (get_map hx) ?_|refine dT (by omega) (fun hq => ?_)|refine Bn ?_|refine Fm rfl ?_)|refine Bt ?_|refine Bu ?_)
   (conv=>whnf)
   refine Lp.mk (ι := Nat × List Int) (fun k => [(1, .hold .box (DMail.enc .imm m)), (3, .hold .one (rIntS .own k.2)), (4, .hold .one [I ((i : Nat) : Int)]), (5, .hold .one [I ((k.1 : Nat) : Int)])]) (fun k => k.1 ≤ (nth m.Buffers i).length ∧ k.2 = S ++ ((nth m.Buffers i).take k.1).map (·.Addr)) (fun k => (nth m.Buffers i).length - k.1) ((0, S)) ?_ (⟨Nat.zero_le _, by simp⟩) fun k hk => ?_
   ·repeat' (first|exact trivial|rfl|refine And.intro ?_ ?_)
   obtain ⟨k, S'⟩ := k
   obtain ⟨hk, hS'⟩ := hk
   simp only at hk hS' ⊢
   have hl' : S'.length = S.length + k := by rw [hS', List.length_append, List.length_map, List.length_take]; omega
   by_cases lk : k < (nth m.Buffers i).length
   ·have hz := get_nth lk
    repeat' ((conv=>whnf);first|with_reducible (first|refine Lm ?_|refine Wm (by omega) ?_|refine Ix.nat (get_map hx) ?_|refine Ix.nat (get_map hz) ?_|refine dT (by omega) (fun hq => ?_)|refine Bn ?_|refine Fm rfl ?_)|refine Bt ?_|refine Bu ?_|refine Ap.mk rowI_one (fun r hr => by rw [List.mem_singleton.1 hr]; rfl) (by simp [noOwn, isOwn]) (by simp; omega) (by show _ * 8 ≤ _; simp; omega) rfl ?_)
    ((conv=>whnf)
     refine Nx.mk (k + 1, S' ++ [(nth (nth m.Buffers i) k).Addr]) ⟨(by simp only; omega), (by simp only; rw [hS', List.take_add_one, hz, List.map_append, List.append_assoc]; simp)⟩ (by simp only; omega) ?_
     (repeat' (first|exact trivial|rfl|exact And.intro rfl (And.intro (congrArg (C.s Own.own) (by simp [rI])) trivial)|refine And.intro ?_ ?_)))
   ·obtain rfl : k = (nth m.Buffers i).length := by omega
    rw [List.take_length] at hS'
    repeat' ((conv=>whnf);first|with_reducible (first|refine Lm ?_|refine Wm (by omega) ?_|refine Ix.nat (get_map hx) ?_|refine dF (by omega) (fun hq => ?_)|refine Bn ?_|refine Fm rfl ?_)|refine Bt ?_|refine Bu ?_)
    ((conv=>whnf);refine Nx.mk (i + 1, S') ⟨(by simp only; omega), (by simp only; rw [flight1_step hx, ← hS, hS']), (by simp only; omega)⟩ (by simp only; omega) ?_; (repeat' (first|exact trivial|rfl|refine And.intro ?_ ?_)))
  ·obtain rfl : i = m.Buffers.length := by omega
   repeat' ((conv=>whnf);first|with_reducible (first|refine Lm ?_|refine Wm (by omega) ?_|refine dF (by omega) (fun hq => ?_)|refine Bn ?_|refine Fm rfl ?_)|refine Bt ?_|refine Bu ?_)
   (conv=>whnf)
   refine Lp.mk (ι := Nat × List Int) (fun k => [(1, .hold .box (DMail.enc .imm m)), (3, .hold .one (rIntS .own k.2)), (6, .hold .one [I ((k.1 : Nat) : Int)])]) (fun k => k.1 ≤ m.Inbox.length ∧ k.2 = S ++ flight2 m k.1 ∧ k.2.length ≤ S.length + 1048576 * k.1) (fun k => m.Inbox.length - k.1) ((0, S)) ?_ (⟨Nat.zero_le _, by simp [flight2], by simp⟩) fun k hk => ?_
   ·repeat' (first|exact trivial|rfl|refine And.intro ?_ ?_)
   obtain ⟨k, S'⟩ := k
   obtain ⟨hk, hS', hb'⟩ := hk
   simp only at hk hS' hb' ⊢
   by_cases lk : k < m.Inbox.length
   ·have hz := get_nth lk
    have hb2 : (nth m.Inbox k).length ≤ 1048576 := hs.2.2 _ (nth_mem lk)
    repeat' ((conv=>whnf);first|with_reducible (first|refine Lm ?_|refine Wm (by omega) ?_|refine Ix.nat (get_map hz) ?_|refine dT (by omega) (fun hq => ?_)|refine Bn ?_|refine Fm rfl ?_)|refine Bt ?_|refine Bu ?_|refine Ap.mk rowI_one rowI_imm (fun _ => rowI_no) (by simp; omega) (by show _ * 8 ≤ _; simp; omega) rfl ?_)
    ((conv=>whnf)
     refine Nx.mk (k + 1, S' ++ nth m.Inbox k) ⟨(by simp only; omega), (by simp only; rw [flight2_step hz, hS', List.append_assoc]), (by simp only; rw [List.length_append]; omega)⟩ (by simp only; omega) ?_
     (repeat' (first|exact trivial|rfl|exact And.intro rfl (And.intro (congrArg (C.s Own.own) (by simp [rI])) trivial)|refine And.intro ?_ ?_)))
   ·obtain rfl : k = m.Inbox.length := by omega
    repeat' ((conv=>whnf);first|with_reducible (first|refine Lm ?_|refine Wm (by omega) ?_|refine dF (by omega) (fun hq => ?_)|refine Bn ?_|refine Fm rfl ?_)|refine Bt ?_|refine Bu ?_)
    rw [inFlight_ok e1, ← hS, ← hS']; rfl
theorem InFlight_impl (m : DMail) (hs : DMail.sml m) : CallsA Tryz.prog 240 false [.val (some 2) (DMail.enc .imm m)] .one (rIntS .own (inFlight m)) := by
 have h1 := MailOk_impl m hs
 cases e1 : mailOk m <;> rw [e1] at h1
 ·refine fO (n := 46) [] Tryz.func240 (by kernel_rfl) rfl (by kernel_rfl) (by rfl) (.inr (rIntS_fr _)) ?_
  repeat' ((conv=>whnf);first|with_reducible (first|refine Lm ?_|refine Wm (by omega) ?_|refine Bn ?_|refine Fin_.wk rfl ?_)|refine Bt ?_|refine Bu ?_|refine Cl.mk h1 ?_)
  all_goals (rw [inFlight_no e1]; exact ⟨rfl, trivial⟩)
 ·obtain ⟨n1, n2, n3⟩ := mailOk_facts e1
  refine fO (n := 46) [] Tryz.func240 (by kernel_rfl) rfl (by kernel_rfl) (by rfl) (.inr (rIntS_fr _)) ?_
  repeat' ((conv=>whnf);first|with_reducible (first|refine Lm ?_|refine Wm (by omega) ?_|refine Bn ?_|refine Fm rfl ?_)|refine Bt ?_|refine Bu ?_|refine Cl.mk h1 ?_)
  (conv=>whnf)
  refine Lp.mk (ι := Nat × List Int) (fun i => [(1, .hold .box (DMail.enc .imm m)), (3, .hold .one (rIntS .own i.2)), (15, .hold .one (rDPostSS .imm m.Buffers)), (16, .hold .one [I (m.Buffers.length)]), (17, .hold .one [I ((i.1 : Nat) : Int)])]) (fun i => i.1 ≤ m.Buffers.length ∧ i.2 = flight1 m i.1 ∧ i.2.length ≤ 1048576 * i.1) (fun i => m.Buffers.length - i.1) ((0, [])) ?_ (⟨Nat.zero_le _, rfl, Nat.zero_le _⟩) fun i hi => ?_
  ·repeat' (first|exact trivial|rfl|refine And.intro ?_ ?_)
  obtain ⟨i, S⟩ := i
  obtain ⟨hi, hS, hb⟩ := hi
  simp only at hi hS hb ⊢
  by_cases li : i < m.Buffers.length
  ·have hx := get_nth li
   have hb1 : (nth m.Buffers i).length ≤ 1048576 := (hs.1.2 _ (nth_mem li)).1
   repeat' ((conv=>whnf);first|with_reducible (first|refine Lm ?_|refine Wm (by omega) ?_|refine Ix.nat (get_map hx) ?_|refine dT (by omega) (fun hq => ?_)|refine Bn ?_|refine Fm rfl ?_)|refine Bt ?_|refine Bu ?_)
   (conv=>whnf)
   refine Lp.mk (ι := Nat × List Int) (fun k => [(1, .hold .box (DMail.enc .imm m)), (3, .hold .one (rIntS .own k.2)), (15, .hold .one (rDPostSS .imm m.Buffers)), (16, .hold .one [I (m.Buffers.length)]), (17, .hold .one [I ((i : Nat) : Int)]), (21, .hold .one (rDPostS .imm (nth m.Buffers i))), (22, .hold .one [I ((nth m.Buffers i).length)]), (23, .hold .one [I ((k.1 : Nat) : Int)])]) (fun k => k.1 ≤ (nth m.Buffers i).length ∧ k.2 = S ++ ((nth m.Buffers i).take k.1).map (·.Addr)) (fun k => (nth m.Buffers i).length - k.1) ((0, S)) ?_ (⟨Nat.zero_le _, by simp⟩) fun k hk => ?_
   ·repeat' (first|exact trivial|rfl|refine And.intro ?_ ?_)
   obtain ⟨k, S'⟩ := k
   obtain ⟨hk, hS'⟩ := hk
   simp only at hk hS' ⊢
   have hl' : S'.length = S.length + k := by rw [hS', List.length_append, List.length_map, List.length_take]; omega
   by_cases lk : k < (nth m.Buffers i).length
   ·have hz := get_nth lk
    repeat' ((conv=>whnf);first|with_reducible (first|refine Lm ?_|refine Wm (by omega) ?_|refine Ix.nat (get_map hz) ?_|refine dT (by omega) (fun hq => ?_)|refine Bn ?_|refine Fm rfl ?_)|refine Bt ?_|refine Bu ?_|refine Ap.mk rowI_one (fun r hr => by rw [List.mem_singleton.1 hr]; rfl) (by simp [noOwn, isOwn]) (by simp; omega) (by show _ * 8 ≤ _; simp; omega) rfl ?_)
    ((conv=>whnf)
     refine Nx.mk (k + 1, S' ++ [(nth (nth m.Buffers i) k).Addr]) ⟨(by simp only; omega), (by simp only; rw [hS', List.take_add_one, hz, List.map_append, List.append_assoc]; simp)⟩ (by simp only; omega) ?_
     (repeat' (first|exact trivial|rfl|exact And.intro rfl (And.intro (congrArg (C.s Own.own) (by simp [rI])) trivial)|refine And.intro ?_ ?_)))
   ·obtain rfl : k = (nth m.Buffers i).length := by omega
    rw [List.take_length] at hS'
    repeat' ((conv=>whnf);first|with_reducible (first|refine Lm ?_|refine Wm (by omega) ?_|refine dF (by omega) (fun hq => ?_)|refine Bn ?_|refine Fm rfl ?_)|refine Bt ?_|refine Bu ?_)
    ((conv=>whnf);refine Nx.mk (i + 1, S') ⟨(by simp only; omega), (by simp only; rw [flight1_step hx, ← hS, hS']), (by simp only; omega)⟩ (by simp only; omega) ?_; (repeat' (first|exact trivial|rfl|refine And.intro ?_ ?_)))
  ·obtain rfl : i = m.Buffers.length := by omega
   repeat' ((conv=>whnf);first|with_reducible (first|refine Lm ?_|refine Wm (by omega) ?_|refine dF (by omega) (fun hq => ?_)|refine Bn ?_|refine Fm rfl ?_)|refine Bt ?_|refine Bu ?_)
   (conv=>whnf)
   refine Lp.mk (ι := Nat × List Int) (fun k => [(3, .hold .one (rIntS .own k.2)), (35, .hold .one (rIntSS .imm m.Inbox)), (36, .hold .one [I (m.Inbox.length)]), (37, .hold .one [I ((k.1 : Nat) : Int)])]) (fun k => k.1 ≤ m.Inbox.length ∧ k.2 = S ++ flight2 m k.1 ∧ k.2.length ≤ S.length + 1048576 * k.1) (fun k => m.Inbox.length - k.1) ((0, S)) ?_ (⟨Nat.zero_le _, by simp [flight2], by simp⟩) fun k hk => ?_
   ·repeat' (first|exact trivial|rfl|refine And.intro ?_ ?_)
   obtain ⟨k, S'⟩ := k
   obtain ⟨hk, hS', hb'⟩ := hk
   simp only at hk hS' hb' ⊢
   by_cases lk : k < m.Inbox.length
   ·have hz := get_nth lk
    have hb2 : (nth m.Inbox k).length ≤ 1048576 := hs.2.2 _ (nth_mem lk)
    repeat' ((conv=>whnf);first|with_reducible (first|refine Lm ?_|refine Wm (by omega) ?_|refine Ix.nat (get_map hz) ?_|refine dT (by omega) (fun hq => ?_)|refine Bn ?_|refine Fm rfl ?_)|refine Bt ?_|refine Bu ?_|refine Ap.mk rowI_one rowI_imm (fun _ => rowI_no) (by simp; omega) (by show _ * 8 ≤ _; simp; omega) rfl ?_)
    ((conv=>whnf)
     refine Nx.mk (k + 1, S' ++ nth m.Inbox k) ⟨(by simp only; omega), (by simp only; rw [flight2_step hz, hS', List.append_assoc]), (by simp only; rw [List.length_append]; omega)⟩ (by simp only; omega) ?_
     (repeat' (first|exact trivial|rfl|exact And.intro rfl (And.intro (congrArg (C.s Own.own) (by simp [rI])) trivial)|refine And.intro ?_ ?_)))
   ·obtain rfl : k = m.Inbox.length := by omega
    repeat' ((conv=>whnf);first|with_reducible (first|refine Lm ?_|refine Wm (by omega) ?_|refine dF (by omega) (fun hq => ?_)|refine Bn ?_|refine Fm rfl ?_)|refine Bt ?_|refine Bu ?_)
    rw [inFlight_ok e1, ← hS, ← hS']; rfl
end Go.Proofs.YtogajjgmcnjkbaaGreat.Ab
