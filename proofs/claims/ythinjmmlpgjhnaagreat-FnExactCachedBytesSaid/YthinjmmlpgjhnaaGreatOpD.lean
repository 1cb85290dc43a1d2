/- How the laws' types read. Printed by gen_op.py. No condition. -/
import Derived.Test.YthinjmmlpgjhnaaGreatDat
import Derived.Test.YthinjmmlpgjhnaaGreatAbOp
namespace Go.Proofs.YthinjmmlpgjhnaaGreat.Ab
open Go.RowKit
set_option maxRecDepth 20000
set_option maxHeartbeats 1000000
section
variable {H : Type} {e : TypeId × Value → H} {w : World}
theorem op_Int : OpT e Tryz.prog w 3 1 (rI .imm) wfI := op_int Tryz.underlying3
theorem op_Bool : OpT e Tryz.prog w 4 1 (rB .imm) wfB := op_bool Tryz.underlying4
theorem op_IntS : OpT e Tryz.prog w 31 1 (rIntS .imm) wfIntS := op_slice op_Int Tryz.underlying31 (by kernel_rfl) (by decide)
theorem op_IntSS : OpT e Tryz.prog w 22 1 (rIntSS .imm) wfIntSS := op_slice op_IntS Tryz.underlying22 (by kernel_rfl) (by decide)
theorem op_BoolS : OpT e Tryz.prog w 23 1 (rBoolS .imm) wfBoolS := op_slice op_Bool Tryz.underlying23 (by kernel_rfl) (by decide)
theorem op_DFrames : OpT e Tryz.prog w 25 2 (DFrames.enc .imm) DFrames.wf := by
  intro fuel cs x h
  obtain ⟨ys, n', -, -, hlen, -⟩ := DataW.trod_struct Tryz.underlying25 h
  obtain ⟨a0, w0, l0, r0⟩ := op_part Tryz.underlying25 h 0 _ rfl op_IntSS (by kernel_rfl)
  obtain ⟨a1, w1, l1, r1⟩ := op_part Tryz.underlying25 h 1 _ rfl op_BoolS (by kernel_rfl)
  have hrow := (op_cat r0 r1)
  exact ⟨hlen.trans (by kernel_rfl), ⟨a0, a1⟩, ⟨w0, w1⟩, rfl, hrow.congr fun j _ => by show cs.getD j undef = cs.getD (0 + j) undef; rw [Nat.zero_add]⟩
theorem op_DEntry : OpT e Tryz.prog w 209 2 (DEntry.enc .imm) DEntry.wf := by
  intro fuel cs x h
  obtain ⟨ys, n', -, -, hlen, -⟩ := DataW.trod_struct Tryz.underlying209 h
  obtain ⟨a0, w0, l0, r0⟩ := op_part Tryz.underlying209 h 0 _ rfl op_Int (by kernel_rfl)
  obtain ⟨a1, w1, l1, r1⟩ := op_part Tryz.underlying209 h 1 _ rfl op_Int (by kernel_rfl)
  have hrow := (op_cat r0 r1)
  exact ⟨hlen.trans (by kernel_rfl), ⟨a0, a1⟩, ⟨w0, w1⟩, rfl, hrow.congr fun j _ => by show cs.getD j undef = cs.getD (0 + j) undef; rw [Nat.zero_add]⟩
theorem op_DEntryS : OpT e Tryz.prog w 26 1 (rDEntryS .imm) wfDEntryS := op_slice op_DEntry Tryz.underlying26 (by kernel_rfl) (by decide)
theorem op_DTable : OpT e Tryz.prog w 28 1 (DTable.enc .imm) DTable.wf := by
  intro fuel cs x h
  obtain ⟨ys, n', -, -, hlen, -⟩ := DataW.trod_struct Tryz.underlying28 h
  obtain ⟨a0, w0, l0, r0⟩ := op_part Tryz.underlying28 h 0 _ rfl op_DEntryS (by kernel_rfl)
  have hrow := r0
  exact ⟨hlen.trans (by kernel_rfl), ⟨a0⟩, w0, rfl, hrow.congr fun j _ => by show cs.getD j undef = cs.getD (0 + j) undef; rw [Nat.zero_add]⟩
theorem op_DMachine : OpT e Tryz.prog w 30 3 (DMachine.enc .imm) DMachine.wf := by
  intro fuel cs x h
  obtain ⟨ys, n', -, -, hlen, -⟩ := DataW.trod_struct Tryz.underlying30 h
  obtain ⟨a0, w0, l0, r0⟩ := op_part Tryz.underlying30 h 0 _ rfl op_DFrames (by kernel_rfl)
  obtain ⟨a1, w1, l1, r1⟩ := op_part Tryz.underlying30 h 1 _ rfl op_DTable (by kernel_rfl)
  have hrow := (op_cat r0 r1)
  exact ⟨hlen.trans (by kernel_rfl), ⟨a0, a1⟩, ⟨w0, w1⟩, rfl, hrow.congr fun j _ => by show cs.getD j undef = cs.getD (0 + j) undef; rw [Nat.zero_add]⟩
theorem op_DKernel : OpT e Tryz.prog w 33 5 (DKernel.enc .imm) DKernel.wf := by
  intro fuel cs x h
  obtain ⟨ys, n', -, -, hlen, -⟩ := DataW.trod_struct Tryz.underlying33 h
  obtain ⟨a0, w0, l0, r0⟩ := op_part Tryz.underlying33 h 0 _ rfl op_DMachine (by kernel_rfl)
  obtain ⟨a1, w1, l1, r1⟩ := op_part Tryz.underlying33 h 1 _ rfl op_Int (by kernel_rfl)
  obtain ⟨a2, w2, l2, r2⟩ := op_part Tryz.underlying33 h 2 _ rfl op_IntS (by kernel_rfl)
  have hrow := (op_cat r0 (op_cat r1 r2))
  exact ⟨hlen.trans (by kernel_rfl), ⟨a0, a1, a2⟩, ⟨w0, w1, w2⟩, rfl, hrow.congr fun j _ => by show cs.getD j undef = cs.getD (0 + j) undef; rw [Nat.zero_add]⟩
theorem op_DRange : OpT e Tryz.prog w 138 2 (DRange.enc .imm) DRange.wf := by
  intro fuel cs x h
  obtain ⟨ys, n', -, -, hlen, -⟩ := DataW.trod_struct Tryz.underlying138 h
  obtain ⟨a0, w0, l0, r0⟩ := op_part Tryz.underlying138 h 0 _ rfl op_Int (by kernel_rfl)
  obtain ⟨a1, w1, l1, r1⟩ := op_part Tryz.underlying138 h 1 _ rfl op_Int (by kernel_rfl)
  have hrow := (op_cat r0 r1)
  exact ⟨hlen.trans (by kernel_rfl), ⟨a0, a1⟩, ⟨w0, w1⟩, rfl, hrow.congr fun j _ => by show cs.getD j undef = cs.getD (0 + j) undef; rw [Nat.zero_add]⟩
theorem op_DRangeS : OpT e Tryz.prog w 34 1 (rDRangeS .imm) wfDRangeS := op_slice op_DRange Tryz.underlying34 (by kernel_rfl) (by decide)
theorem op_DSpan : OpT e Tryz.prog w 142 3 (DSpan.enc .imm) DSpan.wf := by
  intro fuel cs x h
  obtain ⟨ys, n', -, -, hlen, -⟩ := DataW.trod_struct Tryz.underlying142 h
  obtain ⟨a0, w0, l0, r0⟩ := op_part Tryz.underlying142 h 0 _ rfl op_Int (by kernel_rfl)
  obtain ⟨a1, w1, l1, r1⟩ := op_part Tryz.underlying142 h 1 _ rfl op_Int (by kernel_rfl)
  obtain ⟨a2, w2, l2, r2⟩ := op_part Tryz.underlying142 h 2 _ rfl op_Int (by kernel_rfl)
  have hrow := (op_cat r0 (op_cat r1 r2))
  exact ⟨hlen.trans (by kernel_rfl), ⟨a0, a1, a2⟩, ⟨w0, w1, w2⟩, rfl, hrow.congr fun j _ => by show cs.getD j undef = cs.getD (0 + j) undef; rw [Nat.zero_add]⟩
theorem op_DSpanS : OpT e Tryz.prog w 35 1 (rDSpanS .imm) wfDSpanS := op_slice op_DSpan Tryz.underlying35 (by kernel_rfl) (by decide)
theorem op_DLarge : OpT e Tryz.prog w 146 3 (DLarge.enc .imm) DLarge.wf := by
  intro fuel cs x h
  obtain ⟨ys, n', -, -, hlen, -⟩ := DataW.trod_struct Tryz.underlying146 h
  obtain ⟨a0, w0, l0, r0⟩ := op_part Tryz.underlying146 h 0 _ rfl op_Int (by kernel_rfl)
  obtain ⟨a1, w1, l1, r1⟩ := op_part Tryz.underlying146 h 1 _ rfl op_Int (by kernel_rfl)
  obtain ⟨a2, w2, l2, r2⟩ := op_part Tryz.underlying146 h 2 _ rfl op_Int (by kernel_rfl)
  have hrow := (op_cat r0 (op_cat r1 r2))
  exact ⟨hlen.trans (by kernel_rfl), ⟨a0, a1, a2⟩, ⟨w0, w1, w2⟩, rfl, hrow.congr fun j _ => by show cs.getD j undef = cs.getD (0 + j) undef; rw [Nat.zero_add]⟩
theorem op_DLargeS : OpT e Tryz.prog w 36 1 (rDLargeS .imm) wfDLargeS := op_slice op_DLarge Tryz.underlying36 (by kernel_rfl) (by decide)
theorem op_DObj : OpT e Tryz.prog w 148 4 (DObj.enc .imm) DObj.wf := by
  intro fuel cs x h
  obtain ⟨ys, n', -, -, hlen, -⟩ := DataW.trod_struct Tryz.underlying148 h
  obtain ⟨a0, w0, l0, r0⟩ := op_part Tryz.underlying148 h 0 _ rfl op_Int (by kernel_rfl)
  obtain ⟨a1, w1, l1, r1⟩ := op_part Tryz.underlying148 h 1 _ rfl op_Int (by kernel_rfl)
  obtain ⟨a2, w2, l2, r2⟩ := op_part Tryz.underlying148 h 2 _ rfl op_Int (by kernel_rfl)
  obtain ⟨a3, w3, l3, r3⟩ := op_part Tryz.underlying148 h 3 _ rfl op_Int (by kernel_rfl)
  have hrow := (op_cat r0 (op_cat r1 (op_cat r2 r3)))
  exact ⟨hlen.trans (by kernel_rfl), ⟨a0, a1, a2, a3⟩, ⟨w0, w1, w2, w3⟩, rfl, hrow.congr fun j _ => by show cs.getD j undef = cs.getD (0 + j) undef; rw [Nat.zero_add]⟩
theorem op_DObjS : OpT e Tryz.prog w 37 1 (rDObjS .imm) wfDObjS := op_slice op_DObj Tryz.underlying37 (by kernel_rfl) (by decide)
theorem op_DCache : OpT e Tryz.prog w 128 1 (DCache.enc .imm) DCache.wf := by
  intro fuel cs x h
  obtain ⟨ys, n', -, -, hlen, -⟩ := DataW.trod_struct Tryz.underlying128 h
  obtain ⟨a0, w0, l0, r0⟩ := op_part Tryz.underlying128 h 0 _ rfl op_IntSS (by kernel_rfl)
  have hrow := r0
  exact ⟨hlen.trans (by kernel_rfl), ⟨a0⟩, w0, rfl, hrow.congr fun j _ => by show cs.getD j undef = cs.getD (0 + j) undef; rw [Nat.zero_add]⟩
theorem op_DCacheS : OpT e Tryz.prog w 38 1 (rDCacheS .imm) wfDCacheS := op_slice op_DCache Tryz.underlying38 (by kernel_rfl) (by decide)
theorem op_DPost : OpT e Tryz.prog w 201 2 (DPost.enc .imm) DPost.wf := by
  intro fuel cs x h
  obtain ⟨ys, n', -, -, hlen, -⟩ := DataW.trod_struct Tryz.underlying201 h
  obtain ⟨a0, w0, l0, r0⟩ := op_part Tryz.underlying201 h 0 _ rfl op_Int (by kernel_rfl)
  obtain ⟨a1, w1, l1, r1⟩ := op_part Tryz.underlying201 h 1 _ rfl op_Int (by kernel_rfl)
  have hrow := (op_cat r0 r1)
  exact ⟨hlen.trans (by kernel_rfl), ⟨a0, a1⟩, ⟨w0, w1⟩, rfl, hrow.congr fun j _ => by show cs.getD j undef = cs.getD (0 + j) undef; rw [Nat.zero_add]⟩
theorem op_DPostS : OpT e Tryz.prog w 173 1 (rDPostS .imm) wfDPostS := op_slice op_DPost Tryz.underlying173 (by kernel_rfl) (by decide)
theorem op_DPostSS : OpT e Tryz.prog w 39 1 (rDPostSS .imm) wfDPostSS := op_slice op_DPostS Tryz.underlying39 (by kernel_rfl) (by decide)
theorem op_DMail : OpT e Tryz.prog w 41 2 (DMail.enc .imm) DMail.wf := by
  intro fuel cs x h
  obtain ⟨ys, n', -, -, hlen, -⟩ := DataW.trod_struct Tryz.underlying41 h
  obtain ⟨a0, w0, l0, r0⟩ := op_part Tryz.underlying41 h 0 _ rfl op_DPostSS (by kernel_rfl)
  obtain ⟨a1, w1, l1, r1⟩ := op_part Tryz.underlying41 h 1 _ rfl op_IntSS (by kernel_rfl)
  have hrow := (op_cat r0 r1)
  exact ⟨hlen.trans (by kernel_rfl), ⟨a0, a1⟩, ⟨w0, w1⟩, rfl, hrow.congr fun j _ => by show cs.getD j undef = cs.getD (0 + j) undef; rw [Nat.zero_add]⟩
theorem op_DStale : OpT e Tryz.prog w 181 3 (DStale.enc .imm) DStale.wf := by
  intro fuel cs x h
  obtain ⟨ys, n', -, -, hlen, -⟩ := DataW.trod_struct Tryz.underlying181 h
  obtain ⟨a0, w0, l0, r0⟩ := op_part Tryz.underlying181 h 0 _ rfl op_Int (by kernel_rfl)
  obtain ⟨a1, w1, l1, r1⟩ := op_part Tryz.underlying181 h 1 _ rfl op_Int (by kernel_rfl)
  obtain ⟨a2, w2, l2, r2⟩ := op_part Tryz.underlying181 h 2 _ rfl op_Int (by kernel_rfl)
  have hrow := (op_cat r0 (op_cat r1 r2))
  exact ⟨hlen.trans (by kernel_rfl), ⟨a0, a1, a2⟩, ⟨w0, w1, w2⟩, rfl, hrow.congr fun j _ => by show cs.getD j undef = cs.getD (0 + j) undef; rw [Nat.zero_add]⟩
theorem op_DStaleS : OpT e Tryz.prog w 42 1 (rDStaleS .imm) wfDStaleS := op_slice op_DStale Tryz.underlying42 (by kernel_rfl) (by decide)
theorem op_DQuar : OpT e Tryz.prog w 44 2 (DQuar.enc .imm) DQuar.wf := by
  intro fuel cs x h
  obtain ⟨ys, n', -, -, hlen, -⟩ := DataW.trod_struct Tryz.underlying44 h
  obtain ⟨a0, w0, l0, r0⟩ := op_part Tryz.underlying44 h 0 _ rfl op_Int (by kernel_rfl)
  obtain ⟨a1, w1, l1, r1⟩ := op_part Tryz.underlying44 h 1 _ rfl op_DStaleS (by kernel_rfl)
  have hrow := (op_cat r0 r1)
  exact ⟨hlen.trans (by kernel_rfl), ⟨a0, a1⟩, ⟨w0, w1⟩, rfl, hrow.congr fun j _ => by show cs.getD j undef = cs.getD (0 + j) undef; rw [Nat.zero_add]⟩
theorem op_DPlan : OpT e Tryz.prog w 46 3 (DPlan.enc .imm) DPlan.wf := by
  intro fuel cs x h
  obtain ⟨ys, n', -, -, hlen, -⟩ := DataW.trod_struct Tryz.underlying46 h
  obtain ⟨a0, w0, l0, r0⟩ := op_part Tryz.underlying46 h 0 _ rfl op_Int (by kernel_rfl)
  obtain ⟨a1, w1, l1, r1⟩ := op_part Tryz.underlying46 h 1 _ rfl op_Int (by kernel_rfl)
  obtain ⟨a2, w2, l2, r2⟩ := op_part Tryz.underlying46 h 2 _ rfl op_IntS (by kernel_rfl)
  have hrow := (op_cat r0 (op_cat r1 r2))
  exact ⟨hlen.trans (by kernel_rfl), ⟨a0, a1, a2⟩, ⟨w0, w1, w2⟩, rfl, hrow.congr fun j _ => by show cs.getD j undef = cs.getD (0 + j) undef; rw [Nat.zero_add]⟩
theorem op_DJob : OpT e Tryz.prog w 48 5 (DJob.enc .imm) DJob.wf := by
  intro fuel cs x h
  obtain ⟨ys, n', -, -, hlen, -⟩ := DataW.trod_struct Tryz.underlying48 h
  obtain ⟨a0, w0, l0, r0⟩ := op_part Tryz.underlying48 h 0 _ rfl op_DPlan (by kernel_rfl)
  obtain ⟨a1, w1, l1, r1⟩ := op_part Tryz.underlying48 h 1 _ rfl op_Int (by kernel_rfl)
  obtain ⟨a2, w2, l2, r2⟩ := op_part Tryz.underlying48 h 2 _ rfl op_Int (by kernel_rfl)
  have hrow := (op_cat r0 (op_cat r1 r2))
  exact ⟨hlen.trans (by kernel_rfl), ⟨a0, a1, a2⟩, ⟨w0, w1, w2⟩, rfl, hrow.congr fun j _ => by show cs.getD j undef = cs.getD (0 + j) undef; rw [Nat.zero_add]⟩
theorem op_DHeap : OpT e Tryz.prog w 50 24 (DHeap.enc .imm) DHeap.wf := by
  intro fuel cs x h
  obtain ⟨ys, n', -, -, hlen, -⟩ := DataW.trod_struct Tryz.underlying50 h
  obtain ⟨a0, w0, l0, r0⟩ := op_part Tryz.underlying50 h 0 _ rfl op_DKernel (by kernel_rfl)
  obtain ⟨a1, w1, l1, r1⟩ := op_part Tryz.underlying50 h 1 _ rfl op_DRangeS (by kernel_rfl)
  obtain ⟨a2, w2, l2, r2⟩ := op_part Tryz.underlying50 h 2 _ rfl op_DSpanS (by kernel_rfl)
  obtain ⟨a3, w3, l3, r3⟩ := op_part Tryz.underlying50 h 3 _ rfl op_DLargeS (by kernel_rfl)
  obtain ⟨a4, w4, l4, r4⟩ := op_part Tryz.underlying50 h 4 _ rfl op_DObjS (by kernel_rfl)
  obtain ⟨a5, w5, l5, r5⟩ := op_part Tryz.underlying50 h 5 _ rfl op_DCacheS (by kernel_rfl)
  obtain ⟨a6, w6, l6, r6⟩ := op_part Tryz.underlying50 h 6 _ rfl op_DMail (by kernel_rfl)
  obtain ⟨a7, w7, l7, r7⟩ := op_part Tryz.underlying50 h 7 _ rfl op_DQuar (by kernel_rfl)
  obtain ⟨a8, w8, l8, r8⟩ := op_part Tryz.underlying50 h 8 _ rfl op_Int (by kernel_rfl)
  obtain ⟨a9, w9, l9, r9⟩ := op_part Tryz.underlying50 h 9 _ rfl op_Int (by kernel_rfl)
  obtain ⟨a10, w10, l10, r10⟩ := op_part Tryz.underlying50 h 10 _ rfl op_Int (by kernel_rfl)
  obtain ⟨a11, w11, l11, r11⟩ := op_part Tryz.underlying50 h 11 _ rfl op_Int (by kernel_rfl)
  obtain ⟨a12, w12, l12, r12⟩ := op_part Tryz.underlying50 h 12 _ rfl op_Bool (by kernel_rfl)
  obtain ⟨a13, w13, l13, r13⟩ := op_part Tryz.underlying50 h 13 _ rfl op_DJob (by kernel_rfl)
  have hrow := (op_cat r0 (op_cat r1 (op_cat r2 (op_cat r3 (op_cat r4 (op_cat r5 (op_cat r6 (op_cat r7 (op_cat r8 (op_cat r9 (op_cat r10 (op_cat r11 (op_cat r12 r13)))))))))))))
  exact ⟨hlen.trans (by kernel_rfl), ⟨a0, a1, a2, a3, a4, a5, a6, a7, a8, a9, a10, a11, a12, a13⟩, ⟨w0, w1, w2, w3, w4, w5, w6, w7, w8, w9, w10, w11, w12, w13⟩, rfl, hrow.congr fun j _ => by show cs.getD j undef = cs.getD (0 + j) undef; rw [Nat.zero_add]⟩
end
end Go.Proofs.YthinjmmlpgjhnaaGreat.Ab
