/- The types of the program as the abstract runs see them. Printed by gen_te.py. No condition. -/
import Derived.Test.YtogajjgmcnjkbaaGreatMc
import Derived.KernelRfl
import Derived.Test.YtogajjgmcnjkbaaGreatProg

namespace Go.Proofs.YtogajjgmcnjkbaaGreat.Ab
open Go.RowKit

def lookT : List (Nat × TI) → Nat → Option TI
 | [], _ => none
 | p :: l, t => bif Nat.beq t p.1 then some p.2 else lookT l t
def AllT (P : Program) : List (Nat × TI) → Prop
 | [] => True
 | p :: l => TOk P p.1 p.2 ∧ AllT P l
theorem lookT_ok {P : Program} : ∀ {l : List (Nat × TI)}, AllT P l → ∀ t i, lookT l t = some i → TOk P t i
 | [], _, t, i, h => by cases h
 | p :: l, hl, t, i, h => by
  simp only [lookT] at h
  cases hb : Nat.beq t p.1 with
  | true =>
   rw [hb] at h
   simp only [cond_true, Option.some.injEq] at h
   have := Nat.eq_of_beq_eq_true hb
   subst this h
   exact hl.1
  | false => rw [hb] at h; exact lookT_ok hl.2 t i h
def ti3 : TI := ⟨1, 8, [.v (.int .i64 0)], .sc (.int .i64)⟩
theorem tok3 : TOk Tryz.prog 3 ti3 := ⟨by kernel_rfl, by simp [ti3, zeroOk, Value.oneCell'], ⟨Tryz.underlying3, trivial⟩⟩
def ti4 : TI := ⟨1, 1, [.v (.bool false)], .sc .bool⟩
theorem tok4 : TOk Tryz.prog 4 ti4 := ⟨by kernel_rfl, by simp [ti4, zeroOk, Value.oneCell'], ⟨Tryz.underlying4, trivial⟩⟩
def ti2 : TI := ⟨1, 8, [.v (.int .i64 0)], .sc (.int .i64)⟩
theorem tok2 : TOk Tryz.prog 2 ti2 := ⟨by kernel_rfl, by simp [ti2, zeroOk, Value.oneCell'], ⟨Tryz.underlying2, trivial⟩⟩
def ti5 : TI := ⟨1, 1, [.v (.int .u8 0)], .sc (.int .u8)⟩
theorem tok5 : TOk Tryz.prog 5 ti5 := ⟨by kernel_rfl, by simp [ti5, zeroOk, Value.oneCell'], ⟨Tryz.underlying5, trivial⟩⟩
def ti6 : TI := ⟨1, 1, [.v (.int .u8 0)], .sc (.int .u8)⟩
theorem tok6 : TOk Tryz.prog 6 ti6 := ⟨by kernel_rfl, by simp [ti6, zeroOk, Value.oneCell'], ⟨Tryz.underlying6, trivial⟩⟩
def ti7 : TI := ⟨4, 24, [.v (.int .i64 0), .v (.int .i64 0), .v (.bool false), .v (.int .u8 0)], .st [(0, 2), (1, 3), (2, 4), (3, 6)]⟩
theorem tok7 : TOk Tryz.prog 7 ti7 := ⟨by kernel_rfl, by simp [ti7, zeroOk, Value.oneCell'], ⟨_, Tryz.underlying7, rfl⟩⟩
def ti8 : TI := ⟨4, 24, [.v (.int .i64 0), .v (.int .i64 0), .v (.bool false), .v (.int .u8 0)], .st [(0, 2), (1, 3), (2, 4), (3, 6)]⟩
theorem tok8 : TOk Tryz.prog 8 ti8 := ⟨by kernel_rfl, by simp [ti8, zeroOk, Value.oneCell'], ⟨_, Tryz.underlying8, rfl⟩⟩
def ti9 : TI := ⟨1, 16, [.v (.string ⟨#[]⟩)], .sc .string⟩
theorem tok9 : TOk Tryz.prog 9 ti9 := ⟨by kernel_rfl, by simp [ti9, zeroOk, Value.oneCell'], ⟨Tryz.underlying9, trivial⟩⟩
def ti10 : TI := ⟨1, 16, [.v (.string ⟨#[]⟩)], .sc .string⟩
theorem tok10 : TOk Tryz.prog 10 ti10 := ⟨by kernel_rfl, by simp [ti10, zeroOk, Value.oneCell'], ⟨Tryz.underlying10, trivial⟩⟩
def ti11 : TI := ⟨1, 16, [.v (.string ⟨#[]⟩)], .sc .string⟩
theorem tok11 : TOk Tryz.prog 11 ti11 := ⟨by kernel_rfl, by simp [ti11, zeroOk, Value.oneCell'], ⟨Tryz.underlying11, trivial⟩⟩
def ti12 : TI := ⟨1, 8, [.v (.int .u64 0)], .sc (.int .u64)⟩
theorem tok12 : TOk Tryz.prog 12 ti12 := ⟨by kernel_rfl, by simp [ti12, zeroOk, Value.oneCell'], ⟨Tryz.underlying12, trivial⟩⟩
def ti13 : TI := ⟨2, 24, [.v (.string ⟨#[]⟩), .v (.int .u64 0)], .st [(0, 9), (1, 12)]⟩
theorem tok13 : TOk Tryz.prog 13 ti13 := ⟨by kernel_rfl, by simp [ti13, zeroOk, Value.oneCell'], ⟨_, Tryz.underlying13, rfl⟩⟩
def ti14 : TI := ⟨2, 24, [.v (.string ⟨#[]⟩), .v (.int .u64 0)], .st [(0, 9), (1, 12)]⟩
theorem tok14 : TOk Tryz.prog 14 ti14 := ⟨by kernel_rfl, by simp [ti14, zeroOk, Value.oneCell'], ⟨_, Tryz.underlying14, rfl⟩⟩
def ti21 : TI := ⟨1, 4, [.v (.int .i32 0)], .sc (.int .i32)⟩
theorem tok21 : TOk Tryz.prog 21 ti21 := ⟨by kernel_rfl, by simp [ti21, zeroOk, Value.oneCell'], ⟨Tryz.underlying21, trivial⟩⟩
def ti22 : TI := ⟨1, 24, [.z], .sl 31⟩
theorem tok22 : TOk Tryz.prog 22 ti22 := ⟨by kernel_rfl, by simp [ti22, zeroOk, Value.oneCell'], Tryz.underlying22⟩
def ti23 : TI := ⟨1, 24, [.z], .sl 4⟩
theorem tok23 : TOk Tryz.prog 23 ti23 := ⟨by kernel_rfl, by simp [ti23, zeroOk, Value.oneCell'], Tryz.underlying23⟩
def ti24 : TI := ⟨2, 48, [.z, .z], .st [(0, 22), (1, 23)]⟩
theorem tok24 : TOk Tryz.prog 24 ti24 := ⟨by kernel_rfl, by simp [ti24, zeroOk, Value.oneCell'], ⟨_, Tryz.underlying24, rfl⟩⟩
def ti25 : TI := ⟨2, 48, [.z, .z], .st [(0, 22), (1, 23)]⟩
theorem tok25 : TOk Tryz.prog 25 ti25 := ⟨by kernel_rfl, by simp [ti25, zeroOk, Value.oneCell'], ⟨_, Tryz.underlying25, rfl⟩⟩
def ti26 : TI := ⟨1, 24, [.z], .sl 338⟩
theorem tok26 : TOk Tryz.prog 26 ti26 := ⟨by kernel_rfl, by simp [ti26, zeroOk, Value.oneCell'], Tryz.underlying26⟩
def ti27 : TI := ⟨1, 24, [.z], .st [(0, 26)]⟩
theorem tok27 : TOk Tryz.prog 27 ti27 := ⟨by kernel_rfl, by simp [ti27, zeroOk, Value.oneCell'], ⟨_, Tryz.underlying27, rfl⟩⟩
def ti28 : TI := ⟨1, 24, [.z], .st [(0, 26)]⟩
theorem tok28 : TOk Tryz.prog 28 ti28 := ⟨by kernel_rfl, by simp [ti28, zeroOk, Value.oneCell'], ⟨_, Tryz.underlying28, rfl⟩⟩
def ti29 : TI := ⟨3, 72, [.z, .z, .z], .st [(0, 25), (2, 28)]⟩
theorem tok29 : TOk Tryz.prog 29 ti29 := ⟨by kernel_rfl, by simp [ti29, zeroOk, Value.oneCell'], ⟨_, Tryz.underlying29, rfl⟩⟩
def ti30 : TI := ⟨3, 72, [.z, .z, .z], .st [(0, 25), (2, 28)]⟩
theorem tok30 : TOk Tryz.prog 30 ti30 := ⟨by kernel_rfl, by simp [ti30, zeroOk, Value.oneCell'], ⟨_, Tryz.underlying30, rfl⟩⟩
def ti31 : TI := ⟨1, 24, [.z], .sl 3⟩
theorem tok31 : TOk Tryz.prog 31 ti31 := ⟨by kernel_rfl, by simp [ti31, zeroOk, Value.oneCell'], Tryz.underlying31⟩
def ti32 : TI := ⟨5, 104, [.z, .z, .z, .v (.int .i64 0), .z], .st [(0, 30), (3, 3), (4, 31)]⟩
theorem tok32 : TOk Tryz.prog 32 ti32 := ⟨by kernel_rfl, by simp [ti32, zeroOk, Value.oneCell'], ⟨_, Tryz.underlying32, rfl⟩⟩
def ti33 : TI := ⟨5, 104, [.z, .z, .z, .v (.int .i64 0), .z], .st [(0, 30), (3, 3), (4, 31)]⟩
theorem tok33 : TOk Tryz.prog 33 ti33 := ⟨by kernel_rfl, by simp [ti33, zeroOk, Value.oneCell'], ⟨_, Tryz.underlying33, rfl⟩⟩
def ti34 : TI := ⟨1, 24, [.z], .sl 171⟩
theorem tok34 : TOk Tryz.prog 34 ti34 := ⟨by kernel_rfl, by simp [ti34, zeroOk, Value.oneCell'], Tryz.underlying34⟩
def ti35 : TI := ⟨1, 24, [.z], .sl 175⟩
theorem tok35 : TOk Tryz.prog 35 ti35 := ⟨by kernel_rfl, by simp [ti35, zeroOk, Value.oneCell'], Tryz.underlying35⟩
def ti36 : TI := ⟨1, 24, [.z], .sl 179⟩
theorem tok36 : TOk Tryz.prog 36 ti36 := ⟨by kernel_rfl, by simp [ti36, zeroOk, Value.oneCell'], Tryz.underlying36⟩
def ti37 : TI := ⟨1, 24, [.z], .sl 181⟩
theorem tok37 : TOk Tryz.prog 37 ti37 := ⟨by kernel_rfl, by simp [ti37, zeroOk, Value.oneCell'], Tryz.underlying37⟩
def ti38 : TI := ⟨1, 24, [.z], .sl 148⟩
theorem tok38 : TOk Tryz.prog 38 ti38 := ⟨by kernel_rfl, by simp [ti38, zeroOk, Value.oneCell'], Tryz.underlying38⟩
def ti39 : TI := ⟨1, 24, [.z], .sl 232⟩
theorem tok39 : TOk Tryz.prog 39 ti39 := ⟨by kernel_rfl, by simp [ti39, zeroOk, Value.oneCell'], Tryz.underlying39⟩
def ti40 : TI := ⟨2, 48, [.z, .z], .st [(0, 39), (1, 22)]⟩
theorem tok40 : TOk Tryz.prog 40 ti40 := ⟨by kernel_rfl, by simp [ti40, zeroOk, Value.oneCell'], ⟨_, Tryz.underlying40, rfl⟩⟩
def ti41 : TI := ⟨2, 48, [.z, .z], .st [(0, 39), (1, 22)]⟩
theorem tok41 : TOk Tryz.prog 41 ti41 := ⟨by kernel_rfl, by simp [ti41, zeroOk, Value.oneCell'], ⟨_, Tryz.underlying41, rfl⟩⟩
def ti42 : TI := ⟨1, 24, [.z], .sl 257⟩
theorem tok42 : TOk Tryz.prog 42 ti42 := ⟨by kernel_rfl, by simp [ti42, zeroOk, Value.oneCell'], Tryz.underlying42⟩
def ti43 : TI := ⟨2, 32, [.v (.int .i64 0), .z], .st [(0, 3), (1, 42)]⟩
theorem tok43 : TOk Tryz.prog 43 ti43 := ⟨by kernel_rfl, by simp [ti43, zeroOk, Value.oneCell'], ⟨_, Tryz.underlying43, rfl⟩⟩
def ti44 : TI := ⟨2, 32, [.v (.int .i64 0), .z], .st [(0, 3), (1, 42)]⟩
theorem tok44 : TOk Tryz.prog 44 ti44 := ⟨by kernel_rfl, by simp [ti44, zeroOk, Value.oneCell'], ⟨_, Tryz.underlying44, rfl⟩⟩
def ti45 : TI := ⟨3, 40, [.v (.int .i64 0), .v (.int .i64 0), .z], .st [(0, 3), (1, 3), (2, 31)]⟩
theorem tok45 : TOk Tryz.prog 45 ti45 := ⟨by kernel_rfl, by simp [ti45, zeroOk, Value.oneCell'], ⟨_, Tryz.underlying45, rfl⟩⟩
def ti46 : TI := ⟨3, 40, [.v (.int .i64 0), .v (.int .i64 0), .z], .st [(0, 3), (1, 3), (2, 31)]⟩
theorem tok46 : TOk Tryz.prog 46 ti46 := ⟨by kernel_rfl, by simp [ti46, zeroOk, Value.oneCell'], ⟨_, Tryz.underlying46, rfl⟩⟩
def ti47 : TI := ⟨5, 56, [.v (.int .i64 0), .v (.int .i64 0), .z, .v (.int .i64 0), .v (.int .i64 0)], .st [(0, 46), (3, 3), (4, 3)]⟩
theorem tok47 : TOk Tryz.prog 47 ti47 := ⟨by kernel_rfl, by simp [ti47, zeroOk, Value.oneCell'], ⟨_, Tryz.underlying47, rfl⟩⟩
def ti48 : TI := ⟨5, 56, [.v (.int .i64 0), .v (.int .i64 0), .z, .v (.int .i64 0), .v (.int .i64 0)], .st [(0, 46), (3, 3), (4, 3)]⟩
theorem tok48 : TOk Tryz.prog 48 ti48 := ⟨by kernel_rfl, by simp [ti48, zeroOk, Value.oneCell'], ⟨_, Tryz.underlying48, rfl⟩⟩
def ti49 : TI := ⟨24, 400, [.z, .z, .z, .v (.int .i64 0), .z, .z, .z, .z, .z, .z, .z, .z, .v (.int .i64 0), .z, .v (.int .i64 0), .v (.int .i64 0), .v (.int .i64 0), .v (.int .i64 0), .v (.bool false), .v (.int .i64 0), .v (.int .i64 0), .z, .v (.int .i64 0), .v (.int .i64 0)], .st [(0, 33), (5, 34), (6, 35), (7, 36), (8, 37), (9, 38), (10, 41), (12, 44), (14, 3), (15, 3), (16, 3), (17, 3), (18, 4), (19, 48)]⟩
theorem tok49 : TOk Tryz.prog 49 ti49 := ⟨by kernel_rfl, by simp [ti49, zeroOk, Value.oneCell'], ⟨_, Tryz.underlying49, rfl⟩⟩
def ti50 : TI := ⟨24, 400, [.z, .z, .z, .v (.int .i64 0), .z, .z, .z, .z, .z, .z, .z, .z, .v (.int .i64 0), .z, .v (.int .i64 0), .v (.int .i64 0), .v (.int .i64 0), .v (.int .i64 0), .v (.bool false), .v (.int .i64 0), .v (.int .i64 0), .z, .v (.int .i64 0), .v (.int .i64 0)], .st [(0, 33), (5, 34), (6, 35), (7, 36), (8, 37), (9, 38), (10, 41), (12, 44), (14, 3), (15, 3), (16, 3), (17, 3), (18, 4), (19, 48)]⟩
theorem tok50 : TOk Tryz.prog 50 ti50 := ⟨by kernel_rfl, by simp [ti50, zeroOk, Value.oneCell'], ⟨_, Tryz.underlying50, rfl⟩⟩
def ti52 : TI := ⟨2, 48, [.z, .z], .st [(0, 22), (1, 23)]⟩
theorem tok52 : TOk Tryz.prog 52 ti52 := ⟨by kernel_rfl, by simp [ti52, zeroOk, Value.oneCell'], ⟨_, Tryz.underlying52, rfl⟩⟩
def ti53 : TI := ⟨1, 24, [.z], .sl 210⟩
theorem tok53 : TOk Tryz.prog 53 ti53 := ⟨by kernel_rfl, by simp [ti53, zeroOk, Value.oneCell'], Tryz.underlying53⟩
def ti54 : TI := ⟨1, 24, [.z], .st [(0, 53)]⟩
theorem tok54 : TOk Tryz.prog 54 ti54 := ⟨by kernel_rfl, by simp [ti54, zeroOk, Value.oneCell'], ⟨_, Tryz.underlying54, rfl⟩⟩
def ti55 : TI := ⟨1, 24, [.z], .st [(0, 53)]⟩
theorem tok55 : TOk Tryz.prog 55 ti55 := ⟨by kernel_rfl, by simp [ti55, zeroOk, Value.oneCell'], ⟨_, Tryz.underlying55, rfl⟩⟩
def ti56 : TI := ⟨3, 72, [.z, .z, .z], .st [(0, 52), (2, 55)]⟩
theorem tok56 : TOk Tryz.prog 56 ti56 := ⟨by kernel_rfl, by simp [ti56, zeroOk, Value.oneCell'], ⟨_, Tryz.underlying56, rfl⟩⟩
def ti57 : TI := ⟨3, 72, [.z, .z, .z], .st [(0, 52), (2, 55)]⟩
theorem tok57 : TOk Tryz.prog 57 ti57 := ⟨by kernel_rfl, by simp [ti57, zeroOk, Value.oneCell'], ⟨_, Tryz.underlying57, rfl⟩⟩
def ti58 : TI := ⟨5, 104, [.z, .z, .z, .v (.int .i64 0), .z], .st [(0, 57), (3, 3), (4, 31)]⟩
theorem tok58 : TOk Tryz.prog 58 ti58 := ⟨by kernel_rfl, by simp [ti58, zeroOk, Value.oneCell'], ⟨_, Tryz.underlying58, rfl⟩⟩
def ti59 : TI := ⟨5, 104, [.z, .z, .z, .v (.int .i64 0), .z], .st [(0, 57), (3, 3), (4, 31)]⟩
theorem tok59 : TOk Tryz.prog 59 ti59 := ⟨by kernel_rfl, by simp [ti59, zeroOk, Value.oneCell'], ⟨_, Tryz.underlying59, rfl⟩⟩
def ti60 : TI := ⟨1, 24, [.z], .sl 100⟩
theorem tok60 : TOk Tryz.prog 60 ti60 := ⟨by kernel_rfl, by simp [ti60, zeroOk, Value.oneCell'], Tryz.underlying60⟩
def ti61 : TI := ⟨1, 24, [.z], .sl 173⟩
theorem tok61 : TOk Tryz.prog 61 ti61 := ⟨by kernel_rfl, by simp [ti61, zeroOk, Value.oneCell'], Tryz.underlying61⟩
def ti62 : TI := ⟨1, 24, [.z], .sl 177⟩
theorem tok62 : TOk Tryz.prog 62 ti62 := ⟨by kernel_rfl, by simp [ti62, zeroOk, Value.oneCell'], Tryz.underlying62⟩
def ti63 : TI := ⟨1, 24, [.z], .sl 139⟩
theorem tok63 : TOk Tryz.prog 63 ti63 := ⟨by kernel_rfl, by simp [ti63, zeroOk, Value.oneCell'], Tryz.underlying63⟩
def ti64 : TI := ⟨1, 24, [.z], .sl 104⟩
theorem tok64 : TOk Tryz.prog 64 ti64 := ⟨by kernel_rfl, by simp [ti64, zeroOk, Value.oneCell'], Tryz.underlying64⟩
def ti65 : TI := ⟨1, 24, [.z], .sl 239⟩
theorem tok65 : TOk Tryz.prog 65 ti65 := ⟨by kernel_rfl, by simp [ti65, zeroOk, Value.oneCell'], Tryz.underlying65⟩
def ti66 : TI := ⟨2, 48, [.z, .z], .st [(0, 65), (1, 22)]⟩
theorem tok66 : TOk Tryz.prog 66 ti66 := ⟨by kernel_rfl, by simp [ti66, zeroOk, Value.oneCell'], ⟨_, Tryz.underlying66, rfl⟩⟩
def ti67 : TI := ⟨2, 48, [.z, .z], .st [(0, 65), (1, 22)]⟩
theorem tok67 : TOk Tryz.prog 67 ti67 := ⟨by kernel_rfl, by simp [ti67, zeroOk, Value.oneCell'], ⟨_, Tryz.underlying67, rfl⟩⟩
def ti68 : TI := ⟨1, 24, [.z], .sl 158⟩
theorem tok68 : TOk Tryz.prog 68 ti68 := ⟨by kernel_rfl, by simp [ti68, zeroOk, Value.oneCell'], Tryz.underlying68⟩
def ti69 : TI := ⟨2, 32, [.v (.int .i64 0), .z], .st [(0, 3), (1, 68)]⟩
theorem tok69 : TOk Tryz.prog 69 ti69 := ⟨by kernel_rfl, by simp [ti69, zeroOk, Value.oneCell'], ⟨_, Tryz.underlying69, rfl⟩⟩
def ti70 : TI := ⟨2, 32, [.v (.int .i64 0), .z], .st [(0, 3), (1, 68)]⟩
theorem tok70 : TOk Tryz.prog 70 ti70 := ⟨by kernel_rfl, by simp [ti70, zeroOk, Value.oneCell'], ⟨_, Tryz.underlying70, rfl⟩⟩
def ti71 : TI := ⟨3, 40, [.v (.int .i64 0), .v (.int .i64 0), .z], .st [(0, 3), (1, 3), (2, 31)]⟩
theorem tok71 : TOk Tryz.prog 71 ti71 := ⟨by kernel_rfl, by simp [ti71, zeroOk, Value.oneCell'], ⟨_, Tryz.underlying71, rfl⟩⟩
def ti72 : TI := ⟨5, 56, [.v (.int .i64 0), .v (.int .i64 0), .z, .v (.int .i64 0), .v (.int .i64 0)], .st [(0, 71), (3, 3), (4, 3)]⟩
theorem tok72 : TOk Tryz.prog 72 ti72 := ⟨by kernel_rfl, by simp [ti72, zeroOk, Value.oneCell'], ⟨_, Tryz.underlying72, rfl⟩⟩
def ti73 : TI := ⟨5, 56, [.v (.int .i64 0), .v (.int .i64 0), .z, .v (.int .i64 0), .v (.int .i64 0)], .st [(0, 71), (3, 3), (4, 3)]⟩
theorem tok73 : TOk Tryz.prog 73 ti73 := ⟨by kernel_rfl, by simp [ti73, zeroOk, Value.oneCell'], ⟨_, Tryz.underlying73, rfl⟩⟩
def ti74 : TI := ⟨24, 400, [.z, .z, .z, .v (.int .i64 0), .z, .z, .z, .z, .z, .z, .z, .z, .v (.int .i64 0), .z, .v (.int .i64 0), .v (.int .i64 0), .v (.int .i64 0), .v (.int .i64 0), .v (.bool false), .v (.int .i64 0), .v (.int .i64 0), .z, .v (.int .i64 0), .v (.int .i64 0)], .st [(0, 59), (5, 60), (6, 61), (7, 62), (8, 63), (9, 64), (10, 67), (12, 70), (14, 3), (15, 3), (16, 3), (17, 3), (18, 4), (19, 73)]⟩
theorem tok74 : TOk Tryz.prog 74 ti74 := ⟨by kernel_rfl, by simp [ti74, zeroOk, Value.oneCell'], ⟨_, Tryz.underlying74, rfl⟩⟩
def ti75 : TI := ⟨24, 400, [.z, .z, .z, .v (.int .i64 0), .z, .z, .z, .z, .z, .z, .z, .z, .v (.int .i64 0), .z, .v (.int .i64 0), .v (.int .i64 0), .v (.int .i64 0), .v (.int .i64 0), .v (.bool false), .v (.int .i64 0), .v (.int .i64 0), .z, .v (.int .i64 0), .v (.int .i64 0)], .st [(0, 59), (5, 60), (6, 61), (7, 62), (8, 63), (9, 64), (10, 67), (12, 70), (14, 3), (15, 3), (16, 3), (17, 3), (18, 4), (19, 73)]⟩
theorem tok75 : TOk Tryz.prog 75 ti75 := ⟨by kernel_rfl, by simp [ti75, zeroOk, Value.oneCell'], ⟨_, Tryz.underlying75, rfl⟩⟩
def ti99 : TI := ⟨2, 16, [.v (.int .i64 0), .v (.int .i64 0)], .st [(0, 3), (1, 3)]⟩
theorem tok99 : TOk Tryz.prog 99 ti99 := ⟨by kernel_rfl, by simp [ti99, zeroOk, Value.oneCell'], ⟨_, Tryz.underlying99, rfl⟩⟩
def ti100 : TI := ⟨2, 16, [.v (.int .i64 0), .v (.int .i64 0)], .st [(0, 3), (1, 3)]⟩
theorem tok100 : TOk Tryz.prog 100 ti100 := ⟨by kernel_rfl, by simp [ti100, zeroOk, Value.oneCell'], ⟨_, Tryz.underlying100, rfl⟩⟩
def ti103 : TI := ⟨1, 24, [.z], .st [(0, 22)]⟩
theorem tok103 : TOk Tryz.prog 103 ti103 := ⟨by kernel_rfl, by simp [ti103, zeroOk, Value.oneCell'], ⟨_, Tryz.underlying103, rfl⟩⟩
def ti104 : TI := ⟨1, 24, [.z], .st [(0, 22)]⟩
theorem tok104 : TOk Tryz.prog 104 ti104 := ⟨by kernel_rfl, by simp [ti104, zeroOk, Value.oneCell'], ⟨_, Tryz.underlying104, rfl⟩⟩
def ti138 : TI := ⟨4, 32, [.v (.int .i64 0), .v (.int .i64 0), .v (.int .i64 0), .v (.int .i64 0)], .st [(0, 3), (1, 3), (2, 3), (3, 3)]⟩
theorem tok138 : TOk Tryz.prog 138 ti138 := ⟨by kernel_rfl, by simp [ti138, zeroOk, Value.oneCell'], ⟨_, Tryz.underlying138, rfl⟩⟩
def ti139 : TI := ⟨4, 32, [.v (.int .i64 0), .v (.int .i64 0), .v (.int .i64 0), .v (.int .i64 0)], .st [(0, 3), (1, 3), (2, 3), (3, 3)]⟩
theorem tok139 : TOk Tryz.prog 139 ti139 := ⟨by kernel_rfl, by simp [ti139, zeroOk, Value.oneCell'], ⟨_, Tryz.underlying139, rfl⟩⟩
def ti148 : TI := ⟨1, 24, [.z], .st [(0, 22)]⟩
theorem tok148 : TOk Tryz.prog 148 ti148 := ⟨by kernel_rfl, by simp [ti148, zeroOk, Value.oneCell'], ⟨_, Tryz.underlying148, rfl⟩⟩
def ti157 : TI := ⟨3, 24, [.v (.int .i64 0), .v (.int .i64 0), .v (.int .i64 0)], .st [(0, 3), (1, 3), (2, 3)]⟩
theorem tok157 : TOk Tryz.prog 157 ti157 := ⟨by kernel_rfl, by simp [ti157, zeroOk, Value.oneCell'], ⟨_, Tryz.underlying157, rfl⟩⟩
def ti158 : TI := ⟨3, 24, [.v (.int .i64 0), .v (.int .i64 0), .v (.int .i64 0)], .st [(0, 3), (1, 3), (2, 3)]⟩
theorem tok158 : TOk Tryz.prog 158 ti158 := ⟨by kernel_rfl, by simp [ti158, zeroOk, Value.oneCell'], ⟨_, Tryz.underlying158, rfl⟩⟩
def ti171 : TI := ⟨2, 16, [.v (.int .i64 0), .v (.int .i64 0)], .st [(0, 3), (1, 3)]⟩
theorem tok171 : TOk Tryz.prog 171 ti171 := ⟨by kernel_rfl, by simp [ti171, zeroOk, Value.oneCell'], ⟨_, Tryz.underlying171, rfl⟩⟩
def ti172 : TI := ⟨3, 24, [.v (.int .i64 0), .v (.int .i64 0), .v (.int .i64 0)], .st [(0, 3), (1, 3), (2, 3)]⟩
theorem tok172 : TOk Tryz.prog 172 ti172 := ⟨by kernel_rfl, by simp [ti172, zeroOk, Value.oneCell'], ⟨_, Tryz.underlying172, rfl⟩⟩
def ti173 : TI := ⟨3, 24, [.v (.int .i64 0), .v (.int .i64 0), .v (.int .i64 0)], .st [(0, 3), (1, 3), (2, 3)]⟩
theorem tok173 : TOk Tryz.prog 173 ti173 := ⟨by kernel_rfl, by simp [ti173, zeroOk, Value.oneCell'], ⟨_, Tryz.underlying173, rfl⟩⟩
def ti175 : TI := ⟨3, 24, [.v (.int .i64 0), .v (.int .i64 0), .v (.int .i64 0)], .st [(0, 3), (1, 3), (2, 3)]⟩
theorem tok175 : TOk Tryz.prog 175 ti175 := ⟨by kernel_rfl, by simp [ti175, zeroOk, Value.oneCell'], ⟨_, Tryz.underlying175, rfl⟩⟩
def ti176 : TI := ⟨3, 24, [.v (.int .i64 0), .v (.int .i64 0), .v (.int .i64 0)], .st [(0, 3), (1, 3), (2, 3)]⟩
theorem tok176 : TOk Tryz.prog 176 ti176 := ⟨by kernel_rfl, by simp [ti176, zeroOk, Value.oneCell'], ⟨_, Tryz.underlying176, rfl⟩⟩
def ti177 : TI := ⟨3, 24, [.v (.int .i64 0), .v (.int .i64 0), .v (.int .i64 0)], .st [(0, 3), (1, 3), (2, 3)]⟩
theorem tok177 : TOk Tryz.prog 177 ti177 := ⟨by kernel_rfl, by simp [ti177, zeroOk, Value.oneCell'], ⟨_, Tryz.underlying177, rfl⟩⟩
def ti179 : TI := ⟨3, 24, [.v (.int .i64 0), .v (.int .i64 0), .v (.int .i64 0)], .st [(0, 3), (1, 3), (2, 3)]⟩
theorem tok179 : TOk Tryz.prog 179 ti179 := ⟨by kernel_rfl, by simp [ti179, zeroOk, Value.oneCell'], ⟨_, Tryz.underlying179, rfl⟩⟩
def ti181 : TI := ⟨4, 32, [.v (.int .i64 0), .v (.int .i64 0), .v (.int .i64 0), .v (.int .i64 0)], .st [(0, 3), (1, 3), (2, 3), (3, 3)]⟩
theorem tok181 : TOk Tryz.prog 181 ti181 := ⟨by kernel_rfl, by simp [ti181, zeroOk, Value.oneCell'], ⟨_, Tryz.underlying181, rfl⟩⟩
def ti209 : TI := ⟨2, 16, [.v (.int .i64 0), .v (.int .i64 0)], .st [(0, 3), (1, 3)]⟩
theorem tok209 : TOk Tryz.prog 209 ti209 := ⟨by kernel_rfl, by simp [ti209, zeroOk, Value.oneCell'], ⟨_, Tryz.underlying209, rfl⟩⟩
def ti210 : TI := ⟨2, 16, [.v (.int .i64 0), .v (.int .i64 0)], .st [(0, 3), (1, 3)]⟩
theorem tok210 : TOk Tryz.prog 210 ti210 := ⟨by kernel_rfl, by simp [ti210, zeroOk, Value.oneCell'], ⟨_, Tryz.underlying210, rfl⟩⟩
def ti213 : TI := ⟨2, 16, [.v (.int .i64 0), .v (.int .i64 0)], .st [(0, 3), (1, 3)]⟩
theorem tok213 : TOk Tryz.prog 213 ti213 := ⟨by kernel_rfl, by simp [ti213, zeroOk, Value.oneCell'], ⟨_, Tryz.underlying213, rfl⟩⟩
def ti214 : TI := ⟨2, 16, [.v (.int .i64 0), .v (.int .i64 0)], .st [(0, 3), (1, 3)]⟩
theorem tok214 : TOk Tryz.prog 214 ti214 := ⟨by kernel_rfl, by simp [ti214, zeroOk, Value.oneCell'], ⟨_, Tryz.underlying214, rfl⟩⟩
def ti232 : TI := ⟨1, 24, [.z], .sl 314⟩
theorem tok232 : TOk Tryz.prog 232 ti232 := ⟨by kernel_rfl, by simp [ti232, zeroOk, Value.oneCell'], Tryz.underlying232⟩
def ti239 : TI := ⟨1, 24, [.z], .sl 214⟩
theorem tok239 : TOk Tryz.prog 239 ti239 := ⟨by kernel_rfl, by simp [ti239, zeroOk, Value.oneCell'], Tryz.underlying239⟩
def ti243 : TI := ⟨4, 32, [.v (.int .i64 0), .v (.int .i64 0), .v (.int .i64 0), .v (.int .i64 0)], .st [(0, 3), (1, 3), (2, 3), (3, 3)]⟩
theorem tok243 : TOk Tryz.prog 243 ti243 := ⟨by kernel_rfl, by simp [ti243, zeroOk, Value.oneCell'], ⟨_, Tryz.underlying243, rfl⟩⟩
def ti244 : TI := ⟨4, 32, [.v (.int .i64 0), .v (.int .i64 0), .v (.int .i64 0), .v (.int .i64 0)], .st [(0, 3), (1, 3), (2, 3), (3, 3)]⟩
theorem tok244 : TOk Tryz.prog 244 ti244 := ⟨by kernel_rfl, by simp [ti244, zeroOk, Value.oneCell'], ⟨_, Tryz.underlying244, rfl⟩⟩
def ti257 : TI := ⟨3, 24, [.v (.int .i64 0), .v (.int .i64 0), .v (.int .i64 0)], .st [(0, 3), (1, 3), (2, 3)]⟩
theorem tok257 : TOk Tryz.prog 257 ti257 := ⟨by kernel_rfl, by simp [ti257, zeroOk, Value.oneCell'], ⟨_, Tryz.underlying257, rfl⟩⟩
def ti258 : TI := ⟨1, 8, [.v (.map none)], .mp 3 4 (.bool false)⟩
theorem tok258 : TOk Tryz.prog 258 ti258 := ⟨by kernel_rfl, by simp [ti258, zeroOk, Value.oneCell'], ⟨Tryz.underlying258, Tryz.underlying3, by kernel_rfl, rfl⟩⟩
def ti263 : TI := ⟨1, 8, [.v (.map none)], .mp 3 3 (.int .i64 0)⟩
theorem tok263 : TOk Tryz.prog 263 ti263 := ⟨by kernel_rfl, by simp [ti263, zeroOk, Value.oneCell'], ⟨Tryz.underlying263, Tryz.underlying3, by kernel_rfl, rfl⟩⟩
def ti276 : TI := ⟨1, 8, [.v (.int .u64 0)], .sc (.int .u64)⟩
theorem tok276 : TOk Tryz.prog 276 ti276 := ⟨by kernel_rfl, by simp [ti276, zeroOk, Value.oneCell'], ⟨Tryz.underlying276, trivial⟩⟩
def ti292 : TI := ⟨1, 24, [.z], .sl 298⟩
theorem tok292 : TOk Tryz.prog 292 ti292 := ⟨by kernel_rfl, by simp [ti292, zeroOk, Value.oneCell'], Tryz.underlying292⟩
def ti297 : TI := ⟨2, 16, [.v (.int .i64 0), .v (.int .i64 0)], .st [(0, 3), (1, 3)]⟩
theorem tok297 : TOk Tryz.prog 297 ti297 := ⟨by kernel_rfl, by simp [ti297, zeroOk, Value.oneCell'], ⟨_, Tryz.underlying297, rfl⟩⟩
def ti298 : TI := ⟨2, 16, [.v (.int .i64 0), .v (.int .i64 0)], .st [(0, 3), (1, 3)]⟩
theorem tok298 : TOk Tryz.prog 298 ti298 := ⟨by kernel_rfl, by simp [ti298, zeroOk, Value.oneCell'], ⟨_, Tryz.underlying298, rfl⟩⟩
def ti314 : TI := ⟨2, 16, [.v (.int .i64 0), .v (.int .i64 0)], .st [(0, 3), (1, 3)]⟩
theorem tok314 : TOk Tryz.prog 314 ti314 := ⟨by kernel_rfl, by simp [ti314, zeroOk, Value.oneCell'], ⟨_, Tryz.underlying314, rfl⟩⟩
def ti338 : TI := ⟨2, 16, [.v (.int .i64 0), .v (.int .i64 0)], .st [(0, 3), (1, 3)]⟩
theorem tok338 : TOk Tryz.prog 338 ti338 := ⟨by kernel_rfl, by simp [ti338, zeroOk, Value.oneCell'], ⟨_, Tryz.underlying338, rfl⟩⟩
def ti356 : TI := ⟨1, 8, [.v (.int .i64 0)], .sc (.int .i64)⟩
theorem tok356 : TOk Tryz.prog 356 ti356 := ⟨by kernel_rfl, by simp [ti356, zeroOk, Value.oneCell'], ⟨Tryz.underlying356, trivial⟩⟩
def ti364 : TI := ⟨1, 4, [.v (.int .u32 0)], .sc (.int .u32)⟩
theorem tok364 : TOk Tryz.prog 364 ti364 := ⟨by kernel_rfl, by simp [ti364, zeroOk, Value.oneCell'], ⟨Tryz.underlying364, trivial⟩⟩
def ti366 : TI := ⟨1, 8, [.v (.int .u64 0)], .sc (.int .u64)⟩
theorem tok366 : TOk Tryz.prog 366 ti366 := ⟨by kernel_rfl, by simp [ti366, zeroOk, Value.oneCell'], ⟨Tryz.underlying366, trivial⟩⟩
def ti372 : TI := ⟨1, 8, [.v (.int .u64 0)], .sc (.int .u64)⟩
theorem tok372 : TOk Tryz.prog 372 ti372 := ⟨by kernel_rfl, by simp [ti372, zeroOk, Value.oneCell'], ⟨Tryz.underlying372, trivial⟩⟩
def ti387 : TI := ⟨0, 0, [], .st [(0, 386)]⟩
theorem tok387 : TOk Tryz.prog 387 ti387 := ⟨by kernel_rfl, by simp [ti387, zeroOk, Value.oneCell'], ⟨_, Tryz.underlying387, rfl⟩⟩
def ti388 : TI := ⟨0, 0, [], .st [(0, 386)]⟩
theorem tok388 : TOk Tryz.prog 388 ti388 := ⟨by kernel_rfl, by simp [ti388, zeroOk, Value.oneCell'], ⟨_, Tryz.underlying388, rfl⟩⟩
def ti390 : TI := ⟨1, 1, [.v (.int .u8 0)], .sc (.int .u8)⟩
theorem tok390 : TOk Tryz.prog 390 ti390 := ⟨by kernel_rfl, by simp [ti390, zeroOk, Value.oneCell'], ⟨Tryz.underlying390, trivial⟩⟩
def ti391 : TI := ⟨1, 1, [.v (.int .u8 0)], .sc (.int .u8)⟩
theorem tok391 : TOk Tryz.prog 391 ti391 := ⟨by kernel_rfl, by simp [ti391, zeroOk, Value.oneCell'], ⟨Tryz.underlying391, trivial⟩⟩
def ti394 : TI := ⟨1, 4, [.v (.int .i32 0)], .sc (.int .i32)⟩
theorem tok394 : TOk Tryz.prog 394 ti394 := ⟨by kernel_rfl, by simp [ti394, zeroOk, Value.oneCell'], ⟨Tryz.underlying394, trivial⟩⟩
def ti395 : TI := ⟨1, 4, [.v (.int .i32 0)], .sc (.int .i32)⟩
theorem tok395 : TOk Tryz.prog 395 ti395 := ⟨by kernel_rfl, by simp [ti395, zeroOk, Value.oneCell'], ⟨Tryz.underlying395, trivial⟩⟩
def tab : List (Nat × TI) := [(3, ti3), (4, ti4), (2, ti2), (5, ti5), (6, ti6), (7, ti7), (8, ti8), (9, ti9), (10, ti10), (11, ti11), (12, ti12), (13, ti13), (14, ti14), (21, ti21), (22, ti22), (23, ti23), (24, ti24), (25, ti25), (26, ti26), (27, ti27), (28, ti28), (29, ti29), (30, ti30), (31, ti31), (32, ti32), (33, ti33), (34, ti34), (35, ti35), (36, ti36), (37, ti37), (38, ti38), (39, ti39), (40, ti40), (41, ti41), (42, ti42), (43, ti43), (44, ti44), (45, ti45), (46, ti46), (47, ti47), (48, ti48), (49, ti49), (50, ti50), (52, ti52), (53, ti53), (54, ti54), (55, ti55), (56, ti56), (57, ti57), (58, ti58), (59, ti59), (60, ti60), (61, ti61), (62, ti62), (63, ti63), (64, ti64), (65, ti65), (66, ti66), (67, ti67), (68, ti68), (69, ti69), (70, ti70), (71, ti71), (72, ti72), (73, ti73), (74, ti74), (75, ti75), (99, ti99), (100, ti100), (103, ti103), (104, ti104), (138, ti138), (139, ti139), (148, ti148), (157, ti157), (158, ti158), (171, ti171), (172, ti172), (173, ti173), (175, ti175), (176, ti176), (177, ti177), (179, ti179), (181, ti181), (209, ti209), (210, ti210), (213, ti213), (214, ti214), (232, ti232), (239, ti239), (243, ti243), (244, ti244), (257, ti257), (258, ti258), (263, ti263), (276, ti276), (292, ti292), (297, ti297), (298, ti298), (314, ti314), (338, ti338), (356, ti356), (364, ti364), (366, ti366), (372, ti372), (387, ti387), (388, ti388), (390, ti390), (391, ti391), (394, ti394), (395, ti395)]
theorem tab_ok : AllT Tryz.prog tab := ⟨tok3, tok4, tok2, tok5, tok6, tok7, tok8, tok9, tok10, tok11, tok12, tok13, tok14, tok21, tok22, tok23, tok24, tok25, tok26, tok27, tok28, tok29, tok30, tok31, tok32, tok33, tok34, tok35, tok36, tok37, tok38, tok39, tok40, tok41, tok42, tok43, tok44, tok45, tok46, tok47, tok48, tok49, tok50, tok52, tok53, tok54, tok55, tok56, tok57, tok58, tok59, tok60, tok61, tok62, tok63, tok64, tok65, tok66, tok67, tok68, tok69, tok70, tok71, tok72, tok73, tok74, tok75, tok99, tok100, tok103, tok104, tok138, tok139, tok148, tok157, tok158, tok171, tok172, tok173, tok175, tok176, tok177, tok179, tok181, tok209, tok210, tok213, tok214, tok232, tok239, tok243, tok244, tok257, tok258, tok263, tok276, tok292, tok297, tok298, tok314, tok338, tok356, tok364, tok366, tok372, tok387, tok388, tok390, tok391, tok394, tok395, trivial⟩
def TE : Nat → Option TI := lookT tab
theorem TE_ok : ∀ t i, TE t = some i → TOk Tryz.prog t i := lookT_ok tab_ok
end Go.Proofs.YtogajjgmcnjkbaaGreat.Ab
/- A function's contract out of the abstract run of its body, where something is lent to it. No condition. -/
namespace Go.Proofs.YtogajjgmcnjkbaaGreat.Ab
open Go.RowKit

def tagC : C → Value → C
 | .s .own rows, v => .s (.tag v) rows
 | c, _ => c
def tagL (u : Nat → Value) : Nat → List C → List C
 | _, [] => []
 | j, c :: cs => tagC c (u j) :: tagL u (j + 1) cs
def argM (u : Nat → Nat → Value) : Nat → List MA → List (Nat × AV)
 | _, [] => []
 | i, .val ag cs :: A => (i, .hold (kdOf ag) cs) :: argM u (i + 1) A
 | i, .mut ag cs :: A => (i, .hold (kdOf ag) (tagL (u i) 0 cs)) :: argM u (i + 1) A
 | i, .ptr cs :: A => (i, .hold .box cs) :: argM u (i + 1) A
def kpM (p : Nat → Value) : Nat → List MA → List (Nat × Value)
 | _, [] => []
 | i, .ptr _ :: A => (i, p i) :: kpM p (i + 1) A
 | i, _ :: A => kpM p (i + 1) A
/-- The slots in which what was lent lies at the end. -/
def slM : Nat → List MA → List (Nat × Nat) → List (Option Nat)
 | i, .val _ _ :: A, _ :: pl => none :: slM (i + 1) A pl
 | i, .mut _ _ :: A, p :: pl => some p.1 :: slM (i + 1) A pl
 | i, .ptr _ :: A, _ :: pl => some i :: slM (i + 1) A pl
 | _, _, _ => []
def okSl : List (Option Nat) → Bool
 | [] => true
 | none :: l => okSl l
 | some t :: l => l.all (fun x => match x with | some t' => !Nat.beq t t' | none => true) && okSl l
def sles : List (Option Nat) → List Nat
 | [] => []
 | none :: l => sles l
 | some t :: l => t :: sles l
def Bk1 (v : Value) (c y o : C) : Prop :=
 match c with
 | .s .own _ => (match y with | .s (.tag v') rows => v' = v ∧ o = .s .own rows | _ => False)
 | .s (.tag _) _ => False
 | .m _ => False
 | .it _ _ => False
 | c => o = c
def BkL (u : Nat → Value) : Nat → List C → List C → List C → Prop
 | _, [], _, o => o = []
 | j, c :: cs, y :: xs, o :: os => Bk1 (u j) c y o ∧ BkL u (j + 1) cs xs os
 | _, _, _, _ => False
def backM (u : Nat → Nat → Value) (F : Nat → AV) : Nat → List MA → List (Nat × Nat) → List MA → Prop
 | _, [], _, [] => True
 | i, .val _ _ :: A, _ :: pl, .val _ _ :: B => backM u F (i + 1) A pl B
 | i, .mut ag cs :: A, p :: pl, .mut ag' out :: B => (ag' = ag ∧ match F p.1 with | .hold _ xs => BkL (u i) 0 cs (xs.drop p.2) out | _ => False) ∧ backM u F (i + 1) A pl B
 | i, .ptr _ :: A, _ :: pl, .ptr out :: B => (match F i with | .hold .box xs => xs = out | _ => False) ∧ backM u F (i + 1) A pl B
 | _, _, _, _ => False
/-- What is returned, and what is given back. -/
inductive FinM (k k' : Kd) (cs cs' : List C) (Q : Prop) : Prop
 |mk_ (h : k = k' ∧ cs = cs' ∧ Q)
theorem FinM.mk {k k' : Kd} {cs cs' : List C} {Q : Prop} (h1 : k = k') (h2 : cs = cs') (h3 : Q) : FinM k k' cs cs' Q := by refine .mk_ ?_; exact ⟨h1, h2, h3⟩
theorem FinM.out {k k' : Kd} {cs cs' : List C} {Q : Prop} (h : FinM k k' cs cs' Q) : k = k' ∧ cs = cs' ∧ Q := by obtain ⟨h⟩ := h; exact h
def endM (TE : Nat → Option TI) (rs : List ResultVar) (k : Kd) (rcs : List C) (u : Nat → Nat → Value) (A B : List MA) (pl : List (Nat × Nat)) : Exit → (Nat → AV) → Prop := fun e F =>
 match e with
 | .normal => resA TE F rs (sles (slM 0 A pl)) fun sh cs => FinM (kdOfSh sh) k cs rcs (backM u F 0 A pl B)
 | .ret => resA TE F rs (sles (slM 0 A pl)) fun sh cs => FinM (kdOfSh sh) k cs rcs (backM u F 0 A pl B)
 | _ => False

section
variable {P : Program} {w0 w w1 : World} {M S0 S : CellSet} {N : Lim} {φ : Nat → CellSet} {F : Nat → AV} {a : Act} {TE : Nat → Option TI}

theorem Rep.tag {Y : CellSet} {c : C} {v : Value} (h : Rep w S Y c v) : Rep w S Y (tagC c v) v := by
 cases h with
 | nil _ o a ho => cases o with
  | own => exact .nil _ _ _ rfl
  | _ => exact .nil _ _ _ ho
 | own _ o g k n cap rows u f ho hn hk hcap hpos hF hu hf hd hc => cases o with
  | own => exact .own _ _ g k n cap rows u f rfl hn hk hcap hpos hF hu hf hd hc
  | imm => exact ho.elim
  | tag z => exact .own _ _ g k n cap rows u f ho hn hk hcap hpos hF hu hf hd hc
 | v _ x h1 => exact .v _ _ h1
 | x _ u h1 => exact .x _ _ h1
 | z _ a => exact .z _ _
 | imm _ g off k n cap rows u hn hk hcap hS hc => exact .imm _ g off k n cap rows u hn hk hcap hS hc
 | m _ b clock es ents hF hb he hv hst => exact .m _ b clock es ents hF hb he hv hst
 | it _ r b since c0 clock seen ents cur left hF hr hb hst hc hv hl hcur => exact .it _ r b since c0 clock seen ents cur left hF hr hb hst hc hv hl hcur
theorem Rep.untag {Y : CellSet} {z v : Value} {rows : List (List C)} (h : Rep w S Y (.s (.tag z) rows) v) : v = z ∧ Rep w S Y (.s .own rows) v := by
 cases h with
 | nil _ o a ho => exact ⟨Eq.symm ho, .nil _ _ _ trivial⟩
 | own _ o g k n cap rows u f ho hn hk hcap hpos hF hu hf hd hc => exact ⟨Eq.symm ho, .own _ _ g k n cap rows u f trivial hn hk hcap hpos hF hu hf hd hc⟩
theorem tagL_len (u : Nat → Value) : ∀ (j : Nat) (cs : List C), (tagL u j cs).length = cs.length
 | _, [] => rfl
 | j, c :: cs => by simp [tagL, tagL_len u (j + 1) cs]
theorem tagL_get (u : Nat → Value) : ∀ (j0 : Nat) (cs : List C) (j : Nat), (tagL u j0 cs)[j]? = (cs[j]?).map fun c => tagC c (u (j0 + j))
 | _, [], j => by simp [tagL]
 | j0, c :: cs, 0 => by simp [tagL]
 | j0, c :: cs, j + 1 => by simp only [tagL, List.getElem?_cons_succ]; rw [tagL_get u (j0 + 1) cs j, show j0 + 1 + j = j0 + (j + 1) by omega]
theorem Row.tag {Y : CellSet} {cs : List C} {u : Nat → Value} (h : Row w S Y cs u) : Row w S Y (tagL u 0 cs) u := by
 obtain ⟨f, h1, h2, h3⟩ := h
 refine ⟨f, fun j c hj => ?_, fun j hj => h2 j (by rwa [tagL_len] at hj), fun j j' hj hj' => h3 j j' (by rwa [tagL_len] at hj) (by rwa [tagL_len] at hj')⟩
 rw [tagL_get, Nat.zero_add] at hj
 cases hc : cs[j]? with
 | none => rw [hc] at hj; cases hj
 | some c0 =>
  rw [hc] at hj
  simp only [Option.map_some, Option.some.injEq] at hj
  subst hj
  exact (h1 j c0 hc).tag
/-- The values of an argument's cells. -/
def celF (v : Value) (j : Nat) : Value := v.cells.toList.getD j undef
theorem ValOk.celF {Y : CellSet} {ag : Option Nat} {cs : List C} {v : Value} (h : ValOk w S Y ag cs v) : cs.length = ag.getD 1 ∧ v = mkv ag (celF v) ∧ Row w S Y cs (celF v) := by
 obtain ⟨h1, u, h2, h3⟩ := h
 have hc := mkv_cells (ag := ag) (u := u) (fun e => by subst e; exact h3.one (by simp at h1; omega))
 have hu : ∀ j, j < ag.getD 1 → Ab.celF v j = u j := fun j hj => by
  unfold Ab.celF; rw [h2, hc]; simp [List.getD, hj]
 exact ⟨h1, h2.trans (mkv_congr fun j hj => (hu j hj).symm), h3.congr fun j hj => hu j (by omega)⟩
def slotM (u : Nat → Nat → Value) (i : Nat) : MA → AV
 | .val ag cs => .hold (kdOf ag) cs
 | .mut ag cs => .hold (kdOf ag) (tagL (u i) 0 cs)
 | .ptr cs => .hold .box cs
theorem argM_slot {u : Nat → Nat → Value} : ∀ {A : List MA} {vs : List Value} {V : Nat → CellSet} (i : Nat), MAs w S V A vs → ∀ t, (lay (argM u i A) t = .dead) ∨ (∃ m v, i ≤ t ∧ vs[t - i]? = some v ∧ A[t - i]? = some m ∧ lay (argM u i A) t = slotM u t m ∧ MAOk w S (V (t - i)) m v)
 | [], _, _, i, _, t => .inl rfl
 | m :: A, [], _, i, h, t => h.elim
 | m :: A, v :: vs, V, i, h, t => by
  have hl : lay (argM u i (m :: A)) t = bif Nat.beq t i then slotM u i m else lay (argM u (i + 1) A) t := by cases m <;> rfl
  rw [hl]
  cases hb : Nat.beq t i with
  | true =>
   have := Nat.eq_of_beq_eq_true hb
   subst this
   exact .inr ⟨m, v, Nat.le_refl _, by simp, by simp, rfl, by rw [Nat.sub_self]; exact h.1⟩
  | false =>
   have hne : t ≠ i := fun e => by subst e; rw [Nat.beq_refl] at hb; cases hb
   rcases argM_slot (i + 1) h.2 t with h1 | ⟨m', v', h1, h2, h3, h4, h5⟩
   ·exact .inl h1
   ·refine .inr ⟨m', v', by omega, ?_, ?_, h4, ?_⟩
    ·rw [show t - i = (t - (i + 1)) + 1 by omega]; simpa using h2
    ·rw [show t - i = (t - (i + 1)) + 1 by omega]; simpa using h3
    ·rw [show t - i = (t - (i + 1)) + 1 by omega]; exact h5
theorem MAs_len : ∀ {A : List MA} {vs : List Value} {V : Nat → CellSet}, MAs w S V A vs → A.length = vs.length
 | [], [], _, _ => rfl
 | _ :: _, _ :: _, _, h => by simp [MAs_len h.2]
 | [], _ :: _, _, h => h.elim
 | _ :: _, [], _, h => h.elim
theorem kpM_get {p : Nat → Value} : ∀ {A : List MA} {i : Nat} {q : Nat × Value}, q ∈ kpM p i A → i ≤ q.1 ∧ q.1 < i + A.length ∧ q.2 = p q.1
 | [], _, _, h => by simp [kpM] at h
 | m :: A, i, q, h => by
  have hr : q ∈ kpM p (i + 1) A → i ≤ q.1 ∧ q.1 < i + (m :: A).length ∧ q.2 = p q.1 := fun h => by
   obtain ⟨h1, h2, h3⟩ := kpM_get h
   exact ⟨by omega, by simp; omega, h3⟩
  cases m with
  | ptr cs =>
   rcases List.mem_cons.1 h with rfl | h
   ·exact ⟨Nat.le_refl _, by simp, rfl⟩
   ·exact hr h
  | val => exact hr h
  | «mut» => exact hr h
theorem kpM_mem {p : Nat → Value} : ∀ {A : List MA} {i n : Nat} {cs : List C}, A[n]? = some (.ptr cs) → (i + n, p (i + n)) ∈ kpM p i A
 | [], _, n, _, h => by simp at h
 | m :: A, i, 0, cs, h => by simp at h; subst h; simp [kpM]
 | m :: A, i, n + 1, cs, h => by
  have h1 := kpM_mem (p := p) (i := i + 1) (show A[n]? = some (.ptr cs) by simpa using h)
  rw [show i + 1 + n = i + (n + 1) by omega] at h1
  cases m with
  | ptr cs => exact List.mem_cons_of_mem _ h1
  | val => exact h1
  | «mut» => exact h1
def slX (φ : Nat → CellSet) : Option (Option Nat) → CellSet
 | some (some t) => φ t
 | _ => NO
theorem BkL_get {u : Nat → Value} : ∀ {j0 : Nat} {cs xs os : List C}, BkL u j0 cs xs os → cs.length = os.length ∧ ∀ (j : Nat) (c o : C), cs[j]? = some c → os[j]? = some o → ∃ y, (isOwn c = true → xs[j]? = some y) ∧ Bk1 (u (j0 + j)) c y o
 | _, [], xs, os, h => by simp only [BkL] at h; subst h; exact ⟨rfl, fun j c o h => by simp at h⟩
 | _, _ :: _, [], _, h => by simp only [BkL] at h
 | _, _ :: _, _ :: _, [], h => by simp only [BkL] at h
 | j0, c0 :: cs, x0 :: xs, o0 :: os, h => by
  simp only [BkL] at h
  obtain ⟨h1, h2⟩ := BkL_get h.2
  refine ⟨by simp [h1], fun j c o hj ho => ?_⟩
  cases j with
  | zero => simp at hj ho; subst hj ho; exact ⟨x0, fun _ => rfl, h.1⟩
  | succ j =>
   obtain ⟨y, e1, e2⟩ := h2 j c o (by simpa using hj) (by simpa using ho)
   exact ⟨y, fun hc => by simpa using e1 hc, by rw [show j0 + (j + 1) = j0 + 1 + j by omega]; exact e2⟩
theorem back_val {S' Y Y' : CellSet} {u tu : Nat → Value} {cs xs os : List C} {off : Nat} (hsame : SameOn S w w1) (hsub : ∀ b o, S b o → S' b o) (h : Row w S Y cs u) (h' : Row w1 S' Y' xs tu) (hb : BkL u 0 cs (xs.drop off) os) : Row w1 S' Y' os u := by
 obtain ⟨f, h1, h2, h3⟩ := h
 obtain ⟨f', h1', h2', h3'⟩ := h'
 obtain ⟨hl, hg⟩ := BkL_get hb
 refine ⟨fun j b o => off + j < xs.length ∧ f' (off + j) b o, fun j c hj => ?_, fun j hj b o hb => h2' _ hb.1 b o hb.2, fun j j' hj hj' hne b o hb hb' => h3' _ _ hb.1 hb'.1 (by omega) b o hb.2 hb'.2⟩
 have hjl := (List.getElem?_eq_some_iff.1 hj).1
 have hcs : cs[j]? = some cs[j] := List.getElem?_eq_getElem (by omega)
 obtain ⟨y, hx, hbk⟩ := hg j _ c hcs hj
 rw [Nat.zero_add] at hbk
 have hrep := h1 j _ hcs
 generalize cs[j] = c0 at hcs hbk hrep hx
 have keep : isOwn c0 = false → c = c0 → Rep w1 S' (fun b o => off + j < xs.length ∧ f' (off + j) b o) c (u j) := fun hi e => by
  subst e
  exact ((hrep.bare (F' := NO) hi).keep hsame (fun _ _ h => h.elim)).mono hsub (fun _ _ h => h.elim)
 cases c0 with
 | v x0 => exact keep rfl hbk
 | x => exact keep rfl hbk
 | z => exact keep rfl hbk
 | m es => exact hbk.elim
 | it => exact hbk.elim
 | s o rows =>
  cases o with
  | imm => exact keep rfl hbk
  | tag z => exact hbk.elim
  | own =>
   have hx := hx rfl
   rw [List.getElem?_drop] at hx
   have hlt := (List.getElem?_eq_some_iff.1 hx).1
   simp only [Bk1] at hbk
   split at hbk
   case h_2 => exact hbk.elim
   rename_i v' rows'
   obtain ⟨rfl, rfl⟩ := hbk
   obtain ⟨e1, e2⟩ := (h1' _ _ hx).untag
   rw [e1] at e2
   exact e2.mono (fun _ _ h => h) (fun b o h => ⟨hlt, h⟩)
theorem StX.backs {w' : World} {S' : CellSet} {u : Nat → Nat → Value} (h : StX w0 M S0 N S' φ F a w') (hsame : SameOn S w w') (hsub : ∀ b o, S b o → S' b o) : ∀ {A : List MA} {pl : List (Nat × Nat)} {B : List MA} {vs : List Value} {V : Nat → CellSet} {i : Nat}, MAs w S V A vs →
  (∀ j v, vs[j]? = some v → u (i + j) = celF v) → (∀ j v cs, vs[j]? = some v → A[j]? = some (.ptr cs) → tvs a (i + j) = v) → backM u F i A pl B → MPs w' S' (fun n => slX φ (slM i A pl)[n]?) B vs
 | [], pl, B, vs, V, i, hA, hu, hp, hb => by
  cases vs with
  | cons _ _ => exact hA.elim
  | nil => cases B with
   | nil => trivial
   | cons _ _ => simp only [backM] at hb
 | m :: A, [], B, vs, V, i, hA, hu, hp, hb => by cases m <;> simp only [backM] at hb
 | m :: A, p :: pl, [], vs, V, i, hA, hu, hp, hb => by cases m <;> simp only [backM] at hb
 | m :: A, p :: pl, m' :: B, [], V, i, hA, hu, hp, hb => hA.elim
 | m :: A, p :: pl, m' :: B, v :: vs, V, i, hA, hu, hp, hb => by
  have next : backM u F (i + 1) A pl B → MPs w' S' (fun n => slX φ (slM (i + 1) A pl)[n]?) B vs := fun hb =>
   StX.backs h hsame hsub hA.2 (fun j v hj => by rw [show i + 1 + j = i + (j + 1) by omega]; exact hu (j + 1) v (by simpa using hj))
    (fun j v cs hj hc => by rw [show i + 1 + j = i + (j + 1) by omega]; exact hp (j + 1) v cs (by simpa using hj) (by simpa using hc)) hb
  cases m with
  | val ag cs =>
   cases m' with
   | val ag' cs' => simp only [backM] at hb; exact ⟨trivial, next hb⟩
   | ptr => simp only [backM] at hb
   | «mut» => simp only [backM] at hb
  | «mut» ag cs =>
   cases m' with
   | val => simp only [backM] at hb
   | ptr => simp only [backM] at hb
   | «mut» ag' out =>
    simp only [backM] at hb
    obtain ⟨⟨rfl, hb1⟩, hb2⟩ := hb
    refine ⟨?_, next hb2⟩
    have hv := ValOk.celF (show ValOk w S (V 0) ag' cs v from hA.1)
    have hu0 : u i = celF v := hu 0 v (by simp)
    have hs := h.slot p.1
    cases hF : F p.1 with
    | hold k xs =>
     rw [hF] at hb1 hs
     simp only at hb1
     rw [hu0] at hb1
     obtain ⟨X1, Y, e1, e2, e3, e4, e5⟩ := hs
     refine ⟨by rw [← (BkL_get hb1).1]; exact hv.1, celF v, hv.2.1, ?_⟩
     exact (back_val hsame hsub hv.2.2 e5 hb1).mono (fun _ _ h => h) (fun b o hb => by simpa [slM, slX] using e2 b o hb)
    | _ => rw [hF] at hb1; exact hb1.elim
  | ptr cs =>
   cases m' with
   | val => simp only [backM] at hb
   | «mut» => simp only [backM] at hb
   | ptr out =>
    simp only [backM] at hb
    refine ⟨?_, next hb.2⟩
    have hv : tvs a i = v := hp 0 v cs (by simp) (by simp)
    have hs := h.slot i
    cases hF : F i with
    | hold k xs =>
     cases k with
     | box =>
      rw [hF] at hb hs
      have := hb.1
      simp only at this
      subst this
      rw [hv] at hs
      obtain ⟨X1, Y, e1, e2, e3, e4, e5⟩ := hs
      exact ⟨X1, Y, fun b o hb => by simpa [slM, slX] using e1 b o hb, fun b o hb => by simpa [slM, slX] using e2 b o hb, e3, e4, e5⟩
     | _ => rw [hF] at hb; exact hb.1.elim
    | _ => rw [hF] at hb; exact hb.1.elim
theorem okSl_spec : ∀ {l : List (Option Nat)}, okSl l = true → ∀ (i i' t t' : Nat), i ≠ i' → l[i]? = some (some t) → l[i']? = some (some t') → t ≠ t'
 | [], _, i, i', t, t', _, h, _ => by simp at h
 | none :: l, hok, i, i', t, t', hne, h, h' => by
  cases i with
  | zero => simp at h
  | succ i => cases i' with
   | zero => simp at h'
   | succ i' => exact okSl_spec (l := l) hok i i' t t' (by omega) (by simpa using h) (by simpa using h')
 | some t0 :: l, hok, i, i', t, t', hne, h, h' => by
  simp only [okSl, Bool.and_eq_true] at hok
  have hd : ∀ (n s : Nat), l[n]? = some (some s) → t0 ≠ s := fun n s hn e => by
   have := List.all_eq_true.1 hok.1 _ (List.mem_of_getElem? hn)
   simp only [Bool.not_eq_true'] at this
   rw [e, Nat.beq_refl] at this; cases this
  cases i with
  | zero =>
   simp at h; subst h
   cases i' with
   | zero => exact absurd rfl hne
   | succ i' => exact hd i' t' (by simpa using h')
  | succ i => cases i' with
   | zero => simp at h'; subst h'; exact fun e => hd i t (by simpa using h) e.symm
   | succ i' => exact okSl_spec hok.2 i i' t t' (by omega) (by simpa using h) (by simpa using h')
theorem sles_mem : ∀ {l : List (Option Nat)} {i t : Nat}, l[i]? = some (some t) → t ∈ sles l
 | [], i, t, h => by simp at h
 | none :: l, i, t, h => by
  cases i with
  | zero => simp at h
  | succ i => exact sles_mem (l := l) (i := i) (by simpa using h)
 | some t0 :: l, i, t, h => by
  cases i with
  | zero => simp at h; subst h; simp [sles]
  | succ i => exact List.mem_cons_of_mem _ (sles_mem (l := l) (i := i) (by simpa using h))
theorem slX_in {φ : Nat → CellSet} {x : Option (Option Nat)} {b o : Nat} (h : slX φ x b o) : ∃ t, x = some (some t) ∧ φ t b o := by
 match x, h with
 | some (some t), h => exact ⟨t, rfl, h⟩
 | some none, h => exact h.elim
 | none, h => exact h.elim
/-- The contract of a function to which something is lent. -/
theorem callsM_of {f : Nat} {fn : Func} {c : Code} {sh : Bool} {A B : List MA} {k : Kd} {rcs : List C} {mo : List (Nat × List Nat)} {n : Nat} (pl : List (Nat × Nat)) (hTE : ∀ t i, TE t = some i → TOk P t i) (hf : P.funcs[f]? = some fn) (hn : (fn.name == "runtime.NumGoroutine") = false)
  (hb : fn.body = some c) {ck : Nat → Array Oper → Bool} {D : Lim → Nat → Array Oper → ((Nat → AV) → Prop) → (Nat → AV) → Prop} (hD : ∀ N, DrawOk P N ck (D N)) (hc : codeOk ck c = true) (hN : A.length + (fn.ntmps - A.length) = n) (hok : okSl (slM 0 A pl) = true) (hsh : sh = true ∨ frL rcs)
  (hp : ∀ (u : Nat → Nat → Value) (p : Nat → Value), aw P TE ⟨n, kpM p 0 A, mo⟩ (D ⟨n, kpM p 0 A, mo⟩) c (endM TE fn.results.toList k rcs u A B pl) (lay (argM u 0 A))) : CallsM P f sh A B k rcs := by
 refine ⟨⟨fn, hf, hn, by rw [hb]; rfl⟩, fun w S V vs hS hV hVd hA => ?_⟩
 have hlen := MAs_len hA
 refine calls_of_wp hf hb ?_
 let u : Nat → Nat → Value := fun i => celF (vs.getD i undef)
 let p : Nat → Value := fun i => vs.getD i undef
 have htv : ∀ t v, vs[t]? = some v → tvs { tmps := vs.toArray ++ Array.replicate (fn.ntmps - vs.toArray.size) undef, defers := [] } t = v := fun t v h2 => by
  have hlt := (List.getElem?_eq_some_iff.1 h2).1
  simp only [tvs, Array.getD_eq_getD_getElem?]
  rw [Array.getElem?_append_left (by simpa using hlt)]
  simp only [List.getElem?_toArray]
  rw [h2]; rfl
 have hst : St w (fun b o => ∃ i, V i b o) S ⟨n, kpM p 0 A, mo⟩ (lay (argM u 0 A)) { tmps := vs.toArray ++ Array.replicate (fn.ntmps - vs.toArray.size) undef, defers := [] } w := by
  refine ⟨S, V, fun t => ?_, hVd, fun t b o h => (hV t b o h).2, fun t b o h => ⟨(hV t b o h).1, .inr ⟨t, h⟩⟩, fun _ _ h => h, fun b o h => ⟨hS b o h, .inl h⟩, Keeps.refl _ _, by simp; omega, rfl, fun q hq => ?_⟩
  ·rcases argM_slot (u := u) 0 hA t with h1 | ⟨m, v, -, h2, h2', h3, h4⟩
   ·rw [h1]; trivial
   ·rw [h3]
    rw [Nat.sub_zero] at h2 h4
    rw [htv t v h2]
    have hu : u t = celF v := by show celF (vs.getD t undef) = _; rw [List.getD, h2]; rfl
    cases m with
    | val ag cs => exact (ValOk.mono (show ValOk w S NO ag cs v from h4) (fun _ _ h => h) (fun _ _ h => h.elim)).slot
    | «mut» ag cs =>
     obtain ⟨e1, e2, e3⟩ := ValOk.celF (show ValOk w S (V t) ag cs v from h4)
     refine ValOk.slot ⟨by rw [tagL_len]; exact e1, celF v, e2, ?_⟩
     rw [hu]; exact e3.tag
    | ptr cs => exact h4
  ·obtain ⟨-, h1, h2⟩ := kpM_get hq
   rw [h2]
   have hlt : q.1 < vs.length := by omega
   refine htv _ _ ?_
   show vs[q.1]? = some (vs.getD q.1 undef)
   rw [List.getD, List.getElem?_eq_getElem hlt]; rfl
 refine aw_sound hTE (hD _) c hc _ _ _ _ w (hp u p) hst fun e F' a' w' he hs' => ?_
 obtain ⟨S', φ', h⟩ := hs'
 have fin : resA TE F' fn.results.toList (sles (slM 0 A pl)) (fun sh cs => FinM (kdOfSh sh) k cs rcs (backM u F' 0 A pl B)) → a'.defers = [] ∧ ∃ v, (results fn a'.tmps).run P w' = .ok v w' ∧ (∃ v', Ending.returned v = .returned v' ∧ Keeps (fun b o => ∃ i, V i b o) w w' ∧ ∃ (X : CellSet) (V' : Nat → CellSet) (S1 : CellSet),
     (∀ b o, X b o → (∃ i, V i b o) ∨ (b < w'.heap.size ∧ w.heap.size ≤ b)) ∧ (∀ i b o, V' i b o → (∃ i, V i b o) ∨ (b < w'.heap.size ∧ w.heap.size ≤ b)) ∧
     (∀ b o, S1 b o → (sh = true ∧ S b o) ∨ (∃ i, V i b o) ∨ (b < w'.heap.size ∧ w.heap.size ≤ b)) ∧
     (∀ i i', i ≠ i' → ∀ b o, V' i b o → ¬ V' i' b o) ∧ (∀ i b o, X b o → ¬ V' i b o) ∧ (∀ b o, X b o → ¬ S1 b o) ∧ (∀ i b o, V' i b o → ¬ S1 b o) ∧
     HoldOk w' NO k rcs.length v' ∧ Row w' S1 X rcs (topU w' k v') ∧ MPs w' (fun b o => S b o ∨ S1 b o) V' B vs) := by
  intro hr
  obtain ⟨shs, cs, vs', u', hfin, hrun, hT, hln, hL, hcells, hone, hrow⟩ := h.resA hTE hr
  obtain ⟨rfl, rfl, hback⟩ := hfin.out
  refine ⟨h.defers, ?_⟩
  have hrun2 : (results fn a'.tmps).run P w' = .ok (if h : vs'.toArray.size = 1 then vs'.toArray[0] else .tuple vs'.toArray) w' := by
   have e : results fn a'.tmps = (do let vs ← fn.results.mapM (rvRun a'.tmps); pure (if h : vs.size = 1 then vs[0] else .tuple vs)) := by
    unfold results
    congr 1
   rw [e, ← Array.toArray_toList (xs := fn.results), List.mapM_toArray]
   simp only [Sem.run_bind, Sem.run_map, hrun, Result.andThen_ok, Sem.run_pure]
  have hex : ∀ t b o, φ' t b o → (∃ i, V i b o) ∨ (b < w'.heap.size ∧ w.heap.size ≤ b) := fun t b o hb => (h.ex t b o hb).2.elim (fun h' => .inr ⟨(h.ex t b o hb).1, h'⟩) .inl
  have hsameS : SameOn S w w' := fun b o hb => by
   have hlt := hS b o hb
   exact ⟨h.old.cel b o hlt (fun ⟨i, hi⟩ => (hV i b o hi).2 hb), h.old.fro b o hlt (fun ⟨i, hi⟩ => (hV i b o hi).2 hb)⟩
  have hm := h.backs (u := u) hsameS h.sub hA (fun j v hj => by show celF (vs.getD (0 + j) undef) = _; rw [Nat.zero_add, List.getD, hj]; rfl) (fun j v cs hj hc => by
    have := h.par _ (kpM_mem (p := p) (i := 0) hc)
    rw [this]
    show vs.getD (0 + j) undef = v
    rw [Nat.zero_add, List.getD, hj]; rfl) hback
  refine ⟨_, hrun2, _, rfl, h.old, fun b o => ∃ t, t ∉ sles (slM 0 A pl) ∧ φ' t b o, fun i => slX φ' (slM 0 A pl)[i]?, fun b o => (sh = true ∧ S' b o) ∨ (S' b o ∧ ((∃ i, V i b o) ∨ w.heap.size ≤ b)), fun b o ⟨t, _, hb⟩ => hex t b o hb, fun i b o hb => ?_, fun b o hb => ?_, fun i i' hne b o hb hb' => ?_, fun i b o ⟨t, ht, hb⟩ hb' => ?_, fun b o ⟨t, _, hb⟩ hb' => h.disS t b o hb (hb'.elim (·.2) (·.1)), fun i b o hb hb' => ?_, ?_⟩
  ·obtain ⟨t, -, hb⟩ := slX_in hb
   exact hex t b o hb
  ·rcases hb with ⟨h1, h2⟩ | ⟨h1, h2⟩
   ·rcases (h.sup b o h2).2 with h3 | h3 | h3
    ·exact .inl ⟨h1, h3⟩
    ·exact .inr (.inr ⟨(h.sup b o h2).1, h3⟩)
    ·exact .inr (.inl h3)
   ·rcases h2 with h2 | h2
    ·exact .inr (.inl h2)
    ·exact .inr (.inr ⟨(h.sup b o h1).1, h2⟩)
  ·obtain ⟨t, e1, hb⟩ := slX_in hb
   obtain ⟨t', e2, hb'⟩ := slX_in hb'
   exact h.dis t t' (okSl_spec hok i i' t t' hne e1 e2) b o hb hb'
  ·obtain ⟨t', e2, hb'⟩ := slX_in hb'
   exact h.dis t t' (fun e => ht (by rw [e]; exact sles_mem e2)) b o hb hb'
  ·obtain ⟨t, -, hb⟩ := slX_in hb
   exact h.disS t b o hb (hb'.elim (·.2) (·.1))
  ·have hk : HoldOk w' NO (kdOfSh shs) cs.length (if h : vs'.toArray.size = 1 then vs'.toArray[0] else .tuple vs'.toArray) ∧ Row w' S' (fun b o => ∃ t, t ∉ sles (slM 0 A pl) ∧ φ' t b o) cs (topU w' (kdOfSh shs) (if h : vs'.toArray.size = 1 then vs'.toArray[0] else .tuple vs'.toArray)) := by
    match shs, hT, hone, hL with
    | [], hT, _, hL =>
     cases vs' with
     | cons _ _ => exact hT.elim
     | nil =>
      have : cs = [] := List.eq_nil_of_length_eq_zero (by simpa [shLen] using hL.symm)
      subst this
      exact ⟨⟨_, rfl, trivial, rfl⟩, Row.nil _ _ _ _⟩
    | [ag], _, hone, _ =>
     obtain ⟨v, rfl, hv⟩ := hone ag rfl
     have := hv.slot (F := F') (tv := tvs a')
     obtain ⟨X1, Y, h1, h2, h3, h4, h5⟩ := this
     refine ⟨?_, h5.mono (fun _ _ h => h) h2⟩
     cases ag <;> exact h4
    | ag :: ag2 :: sh, hT, _, hL =>
     have hsz : ¬ vs'.toArray.size = 1 := by
      match vs', hT with
      | [], hT => simp
      | [v], hT => cases ag <;> cases ag2 <;> exact hT.2.elim
      | _ :: _ :: _, _ => simp
     rw [dif_neg hsz]
     refine ⟨⟨_, rfl, hT, hL⟩, hrow.congr fun j hj => ?_⟩
     simp only [topU, kdOfSh, tupCells, hcells]
     simp [List.getD, hj]
   refine ⟨hk.1, ?_, hm.mono fun b o hb => ?_⟩
   ·rcases hsh with h1 | h1
    ·exact hk.2.mono (fun b o hb => .inl ⟨h1, hb⟩) (fun _ _ h => h)
    ·exact (hk.2.fresh h1).mono (fun _ _ h => h.elim) (fun _ _ h => h)
   ·rcases (h.sup b o hb).2 with h3 | h3 | h3
    ·exact .inl h3
    ·exact .inr (.inr ⟨hb, .inr h3⟩)
    ·exact .inr (.inr ⟨hb, .inl h3⟩)
 cases e with
 | normal => exact fin he
 | ret => exact fin he
 | _ => exact he.elim
end
end Go.Proofs.YtogajjgmcnjkbaaGreat.Ab
/- Words for contracts: numbers, flags and texts as cells; rows that are written one by one; contracts by less or by frozen cells. No condition. -/
namespace Go.Proofs.YtogajjgmcnjkbaaGreat.Ab
open Go.RowKit
abbrev I (z : Int) : C := .v (.int .i64 z)
abbrev B (b : Bool) : C := .v (.bool b)
def rI (_ : Own) (z : Int) : List C := [I z]
def rB (_ : Own) (b : Bool) : List C := [B b]
theorem rI_fr (z : Int) : frL (rI .own z) := ⟨trivial, trivial⟩
theorem rB_fr (b : Bool) : frL (rB .own b) := ⟨trivial, trivial⟩
def wfI (z : Int) : Prop := -9223372036854775808 ≤ z ∧ z ≤ 9223372036854775807
def wfB (_ : Bool) : Prop := True
/-- What is left of a bulk. -/
def szR (s : Nat) (left : Int) : Int := if (s : Int) ≤ left then left - s else -1
theorem follows_ok : Tryz.prog.follows .mixedOrders = true := by kernel_rfl
theorem fnOk {n f : Nat} {mo : List (Nat × List Nat)} {fn : Func} {c : Code} {sh : Bool} {A : List RA} {k : Kd} {rcs : List C} (hf : Tryz.prog.funcs[f]? = some fn) (hn : (fn.name == "runtime.NumGoroutine") = false) (hb : fn.body = some c) {tb : List (Nat × Nat × List Nat)} (hc : codeOk (drawOk tb) c = true)
  (hN : A.length + (fn.ntmps - A.length) = n) (hsh : sh = true ∨ frL rcs) (hp : aw Tryz.prog TE ⟨n, [], mo⟩ (DD Tryz.prog TE ⟨n, [], mo⟩ tb) c (endA TE fn.results.toList k rcs) (lay (argL 0 A))) : CallsA Tryz.prog f sh A k rcs :=
 callsA_of TE_ok hf hn hb (drawOk_all TE_ok follows_ok ⟨n, [], mo⟩ tb) hc hN rfl hsh hp
theorem fnMOk {n f : Nat} {mo : List (Nat × List Nat)} {fn : Func} {c : Code} {sh : Bool} {A B : List MA} {k : Kd} {rcs : List C} (pl : List (Nat × Nat)) (hf : Tryz.prog.funcs[f]? = some fn) (hn : (fn.name == "runtime.NumGoroutine") = false) (hb : fn.body = some c) {tb : List (Nat × Nat × List Nat)} (hc : codeOk (drawOk tb) c = true)
  (hN : A.length + (fn.ntmps - A.length) = n) (hok : okSl (slM 0 A pl) = true) (hsh : sh = true ∨ frL rcs)
  (hp : ∀ (u : Nat → Nat → Value) (p : Nat → Value), aw Tryz.prog TE ⟨n, kpM p 0 A, mo⟩ (DD Tryz.prog TE ⟨n, kpM p 0 A, mo⟩ tb) c (endM TE fn.results.toList k rcs u A B pl) (lay (argM u 0 A))) : CallsM Tryz.prog f sh A B k rcs :=
 callsM_of pl TE_ok hf hn hb (fun N => drawOk_all TE_ok follows_ok N tb) hc hN hok hsh hp
theorem wrapI {x : Int} (h1 : -9223372036854775808 ≤ x) (h2 : x ≤ 9223372036854775807) : IntKind.i64.wrap x = x := IntWalk.i64_in x (by constructor <;> assumption)
/- the same data told in another way -/
def RaEq : RA → RA → Prop
 | .val ag cs, .val ag' cs' => ag = ag' ∧ cs = cs'
 | .ptr cs, .ptr cs' => cs = cs'
 | A, A' => A = A'
theorem RaEq.eq {A A' : RA} (h : RaEq A A') : A = A' := by
 unfold RaEq at h
 split at h
 ·obtain ⟨rfl, rfl⟩ := h; rfl
 ·rw [h]
 ·exact h
def RasEq : List RA → List RA → Prop
 | [], [] => True
 | A :: As, B :: Bs => RaEq A B ∧ RasEq As Bs
 | _, _ => False
theorem RasEq.eq : ∀ {A A' : List RA}, RasEq A A' → A = A'
 | [], [], _ => rfl
 | A :: As, B :: Bs, h => by rw [RaEq.eq h.1, RasEq.eq h.2]
 | [], _ :: _, h => h.elim
 | _ :: _, [], h => h.elim
theorem Cl.eq {P : Program} {f : Nat} {b : Bool} {A A' : List RA} {K : AV → Prop} {k : Kd} {rcs : List C} (h : CallsA P f false A' k rcs) (hA : RasEq A A') (hK : K (.hold k rcs)) : Cl P f b A K := by rw [hA.eq]; exact Cl.mk h hK
theorem mkB {n b : Nat} (h : n ≤ 1048576) (hb : b ≤ 1000) : n * b ≤ 140737488355328 := Nat.le_trans (Nat.mul_le_mul h hb) (by decide)
theorem Cl.sz {P : Program} {f : Nat} {b : Bool} {A : List RA} {K : AV → Prop} {s : Nat} {L : Int} (h : CallsA P f false A .one [I (szR s L)]) (h1 : L < s → K (.hold .one [I (-1)])) (h2 : (s : Int) ≤ L → K (.hold .one [I (L - s)])) : Cl P f b A K := by
 refine Cl.mk h ?_
 unfold szR
 by_cases hs : (s : Int) ≤ L
 ·rw [if_pos hs]; exact h2 hs
 ·rw [if_neg hs]; exact h1 (by omega)
theorem Bf.NB {a b : Bool} {X Y : Prop} (h1 : a ≠ b → X) (h2 : a = b → Y) : Bf (a != b) X Y := by
 refine Bf.P (fun h => h1 ?_) (fun h => h2 ?_)
 ·simpa using h
 ·simpa using h
theorem Rw.one {bs : List C} {off i k j : Nat} {K : List C → Nat → Prop} {o : Own} {rows : List (List C)} {r : List C} (h1 : bs[off]? = some (.s o rows)) (h2 : rows[i]? = some r) (h3 : r.length = k) (hK : K r j) : Rw bs off [(i, k, j)] K :=
 Rw.mk (r := r) (j := j) (by simp [rowAt, h1, h2, h3]) hK
theorem set_get {α : Type} {l : List α} {i : Nat} {r r' : α} (h : l[i]? = some r) : (l.set i r')[i]? = some r' := by
 rw [List.getElem?_set_self (List.getElem?_eq_some_iff.1 h).1]
/- rows that are written one by one -/
def mixR {α : Type} (A B : List α) (i : Nat) : List α := A.take i ++ B.drop i
section
variable {α : Type} {A B : List α}
theorem mix_zero : mixR A B 0 = B := by simp [mixR]
theorem mix_end (i : Nat) (h : A.length = B.length) (hi : i = B.length) : mixR A B i = A := by subst hi; simp [mixR, ← h]
theorem mix_len (h : A.length = B.length) (i : Nat) : (mixR A B i).length = B.length := by simp [mixR]; omega
theorem mix_get (h : A.length = B.length) (i : Nat) (hi : i ≤ B.length) : (mixR A B i)[i]? = B[i]? := by
 unfold mixR
 rw [List.getElem?_append_right (by simp; omega), List.getElem?_drop]
 congr 1
 simp
 omega
theorem mix_set (h : A.length = B.length) {i : Nat} {a : α} (ha : A[i]? = some a) : (mixR A B i).set i a = mixR A B (i + 1) := by
 have hi := (List.getElem?_eq_some_iff.1 ha).1
 unfold mixR
 rw [List.set_append_right _ _ (by simp; omega)]
 have h1 : i - (A.take i).length = 0 := by simp; omega
 rw [h1, List.take_add_one, ha, List.append_assoc, List.drop_eq_getElem_cons (show i < B.length by omega)]
 rfl
end
theorem get_map {α β : Type} {f : α → β} {l : List α} {k : Nat} {x : α} (h : l[k]? = some x) : (l.map f)[k]? = some (f x) := by simp [h]
theorem get_rep {α : Type} {z : α} {n k : Nat} (h : k < n) : (List.replicate n z)[k]? = some z := by simp [h]
end Go.Proofs.YtogajjgmcnjkbaaGreat.Ab
/- The data of the program, its cells, its bulk and its marks. Printed by gen_data.py. No condition. -/
namespace Go.Proofs.YtogajjgmcnjkbaaGreat.Ab
open Go.RowKit

/- []int -/
def rIntS (o : Own) (x : List Int) : List C := [.s o (x.map (rI o))]
theorem rIntS_fz (x : List Int) : fzL (rIntS .own x) = rIntS .imm x := by simp [fzL, rIntS, rI, fzL]
theorem rIntS_fr (x : List Int) : frL (rIntS .own x) := ⟨⟨.inl fun h => (by cases h), frR_map _ _ fun y _ => rI_fr y⟩, trivial⟩
def wfIntS (x : List Int) : Prop := x.length ≤ 9223372036854775807 ∧ ∀ y ∈ x, wfI y
def cntIntS (x : List Int) : Nat := x.length
def szIntS (x : List Int) : Nat := x.length
def smlIntS (x : List Int) : Prop := x.length ≤ 1048576
def markIntS : List Int → Int → List Int
 | [], _ => []
 | _ :: xs, k => k :: markIntS xs (k + 1)
theorem markIntS_len : ∀ (x : List Int) (k : Int), (markIntS x k).length = x.length
 | [], _ => rfl
 | _ :: xs, k => by simp [markIntS, markIntS_len xs]
theorem markIntS_get : ∀ (x : List Int) (k : Int) (i : Nat), i < x.length → (markIntS x k)[i]? = some (k + (i : Nat))
 | [], _, i, h => by simp at h
 | _ :: xs, k, 0, _ => by simp [markIntS]
 | _ :: xs, k, i + 1, h => by
  simp only [markIntS, List.getElem?_cons_succ]
  rw [markIntS_get xs (k + 1) i (by simpa using h)]
  rw [show k + 1 + (i : Int) = k + ((i + 1 : Nat) : Int) by omega]
def preIntS (_ : List Int) (i : Nat) : Nat := i
theorem smlIntS_of {x : List Int} (h : szIntS x ≤ 1048576) : smlIntS x := h
theorem cntIntS_le (x : List Int) : cntIntS x ≤ 8 * szIntS x := by unfold cntIntS szIntS; omega
/- [][]int -/
def rIntSS (o : Own) (x : List (List Int)) : List C := [.s o (x.map (rIntS o))]
theorem rIntSS_fr (x : List (List Int)) : frL (rIntSS .own x) := ⟨⟨.inl fun h => (by cases h), frR_map _ _ fun y _ => rIntS_fr y⟩, trivial⟩
def wfIntSS (x : List (List Int)) : Prop := x.length ≤ 9223372036854775807 ∧ ∀ y ∈ x, wfIntS y
def cntIntSS : List (List Int) → Nat
 | [] => 0
 | x :: xs => cntIntS x + cntIntSS xs
def szIntSSE : List (List Int) → Nat
 | [] => 0
 | x :: xs => szIntS x + szIntSSE xs
def szIntSS (x : List (List Int)) : Nat := x.length + szIntSSE x
def smlIntSS (x : List (List Int)) : Prop := x.length ≤ 1048576 ∧ ∀ y ∈ x, smlIntS y
def markIntSS : List (List Int) → Int → List (List Int)
 | [], _ => []
 | x :: xs, k => markIntS x k :: markIntSS xs (k + (cntIntS x : Nat))
theorem markIntSS_len : ∀ (x : List (List Int)) (k : Int), (markIntSS x k).length = x.length
 | [], _ => rfl
 | _ :: xs, k => by simp [markIntSS, markIntSS_len xs]
/-- How many marks the first i elements take. -/
def preIntSS : List (List Int) → Nat → Nat
 | [], _ => 0
 | _ :: _, 0 => 0
 | x :: xs, i + 1 => cntIntS x + preIntSS xs i
theorem markIntSS_get : ∀ (x : List (List Int)) (k : Int) (i : Nat) (y : List Int), x[i]? = some y → (markIntSS x k)[i]? = some (markIntS y (k + (preIntSS x i : Nat)))
 | [], _, i, y, h => by simp at h
 | x :: xs, k, 0, y, h => by simp at h; subst h; simp [markIntSS, preIntSS]
 | x :: xs, k, i + 1, y, h => by
  simp only [markIntSS, List.getElem?_cons_succ]
  rw [markIntSS_get xs _ i y (by simpa using h)]
  congr 2
  simp only [preIntSS]
  omega
theorem preIntSS_zero (x : List (List Int)) : preIntSS x 0 = 0 := by cases x <;> rfl
theorem preIntSS_succ : ∀ (x : List (List Int)) (i : Nat) (y : List Int), x[i]? = some y → preIntSS x (i + 1) = preIntSS x i + cntIntS y
 | [], i, y, h => by simp at h
 | x :: xs, 0, y, h => by simp at h; subst h; simp [preIntSS, preIntSS_zero]
 | x :: xs, i + 1, y, h => by
  simp only [preIntSS]
  rw [preIntSS_succ xs i y (by simpa using h)]
  omega
theorem preIntSS_all : ∀ (x : List (List Int)), preIntSS x x.length = cntIntSS x
 | [] => rfl
 | x :: xs => by simp only [List.length_cons, preIntSS, cntIntSS, preIntSS_all xs]
theorem szIntSSE_mem : ∀ {x : List (List Int)} {y : List Int}, y ∈ x → szIntS y ≤ szIntSSE x
 | [], y, h => by simp at h
 | x :: xs, y, h => by
  simp only [szIntSSE]
  rcases List.mem_cons.1 h with rfl | h
  ·omega
  ·have := szIntSSE_mem h; omega
theorem smlIntSS_of {x : List (List Int)} (h : szIntSS x ≤ 1048576) : smlIntSS x := ⟨by unfold szIntSS at h; omega, fun y hy => smlIntS_of (by have := szIntSSE_mem hy; unfold szIntSS at h; omega)⟩
theorem cntIntSSE_le : ∀ (x : List (List Int)), cntIntSS x ≤ 8 * szIntSSE x
 | [] => by simp [cntIntSS]
 | x :: xs => by have := cntIntSSE_le xs; have := cntIntS_le x; simp only [cntIntSS, szIntSSE]; omega
theorem cntIntSS_le (x : List (List Int)) : cntIntSS x ≤ 8 * szIntSS x := by have := cntIntSSE_le x; unfold szIntSS; omega
def spreIntSS : List (List Int) → Nat → Nat
 | [], _ => 0
 | _ :: _, 0 => 0
 | x :: xs, i + 1 => szIntS x + spreIntSS xs i
theorem spreIntSS_zero (x : List (List Int)) : spreIntSS x 0 = 0 := by cases x <;> rfl
theorem spreIntSS_succ : ∀ (x : List (List Int)) (i : Nat) (y : List Int), x[i]? = some y → spreIntSS x (i + 1) = spreIntSS x i + szIntS y
 | [], i, y, h => by simp at h
 | x :: xs, 0, y, h => by simp at h; subst h; simp [spreIntSS, spreIntSS_zero]
 | x :: xs, i + 1, y, h => by
  simp only [spreIntSS]
  rw [spreIntSS_succ xs i y (by simpa using h)]
  omega
theorem spreIntSS_all : ∀ (x : List (List Int)), spreIntSS x x.length = szIntSSE x
 | [] => rfl
 | x :: xs => by simp only [List.length_cons, spreIntSS, szIntSSE, spreIntSS_all xs]
theorem spreIntSS_le : ∀ (x : List (List Int)) (i : Nat), spreIntSS x i ≤ szIntSSE x
 | [], _ => by simp [spreIntSS]
 | x :: xs, 0 => by simp [spreIntSS]
 | x :: xs, i + 1 => by simp only [spreIntSS, szIntSSE]; have := spreIntSS_le xs i; omega
theorem preIntSS_le : ∀ (x : List (List Int)) (i : Nat), preIntSS x i ≤ cntIntSS x
 | [], _ => by simp [preIntSS]
 | x :: xs, 0 => by simp [preIntSS]
 | x :: xs, i + 1 => by simp only [preIntSS, cntIntSS]; have := preIntSS_le xs i; omega
/- []bool -/
def rBoolS (o : Own) (x : List Bool) : List C := [.s o (x.map (rB o))]
theorem rBoolS_fr (x : List Bool) : frL (rBoolS .own x) := ⟨⟨.inl fun h => (by cases h), frR_map _ _ fun y _ => rB_fr y⟩, trivial⟩
def wfBoolS (x : List Bool) : Prop := x.length ≤ 9223372036854775807 ∧ ∀ y ∈ x, wfB y
def cntBoolS (x : List Bool) : Nat := x.length
def szBoolS (x : List Bool) : Nat := x.length
def smlBoolS (x : List Bool) : Prop := x.length ≤ 1048576
def markBoolS : List Bool → Int → List Bool
 | [], _ => []
 | _ :: xs, k => decide (k.tmod 3 = 0) :: markBoolS xs (k + 1)
theorem markBoolS_len : ∀ (x : List Bool) (k : Int), (markBoolS x k).length = x.length
 | [], _ => rfl
 | _ :: xs, k => by simp [markBoolS, markBoolS_len xs]
theorem markBoolS_get : ∀ (x : List Bool) (k : Int) (i : Nat), i < x.length → (markBoolS x k)[i]? = some (decide ((k + (i : Nat)).tmod 3 = 0))
 | [], _, i, h => by simp at h
 | _ :: xs, k, 0, _ => by simp [markBoolS]
 | _ :: xs, k, i + 1, h => by
  simp only [markBoolS, List.getElem?_cons_succ]
  rw [markBoolS_get xs (k + 1) i (by simpa using h)]
  rw [show k + 1 + (i : Int) = k + ((i + 1 : Nat) : Int) by omega]
def preBoolS (_ : List Bool) (i : Nat) : Nat := i
theorem smlBoolS_of {x : List Bool} (h : szBoolS x ≤ 1048576) : smlBoolS x := h
theorem cntBoolS_le (x : List Bool) : cntBoolS x ≤ 8 * szBoolS x := by unfold cntBoolS szBoolS; omega
/- DFrames -/
structure DFrames where
 Cells : List (List Int)
 Used : List Bool
deriving DecidableEq, Inhabited
def DFrames.enc (o : Own) (x : DFrames) : List C := [.s o (x.Cells.map (rIntS o)), .s o (x.Used.map (rB o))]
theorem DFrames.enc_fz (x : DFrames) : fzL (DFrames.enc .own x) = DFrames.enc .imm x := by simp [fzL, DFrames.enc, rB, rIntS_fz, ← fzL_map, Function.comp_def]
theorem DFrames.enc_fr (x : DFrames) : frL (DFrames.enc .own x) := ⟨⟨.inl fun h => (by cases h), frR_map _ _ fun y _ => rIntS_fr y⟩, ⟨.inl fun h => (by cases h), frR_map _ _ fun y _ => rB_fr y⟩, trivial⟩
def DFrames.wf (x : DFrames) : Prop := wfIntSS x.Cells ∧ wfBoolS x.Used
def DFrames.cnt (x : DFrames) : Nat := cntIntSS x.Cells + cntBoolS x.Used
def DFrames.sz (x : DFrames) : Nat := szIntSS x.Cells + szBoolS x.Used
def DFrames.sml (x : DFrames) : Prop := smlIntSS x.Cells ∧ smlBoolS x.Used
theorem DFrames.sml_of {x : DFrames} (h : DFrames.sz x ≤ 1048576) : DFrames.sml x := ⟨smlIntSS_of (by unfold DFrames.sz at h; omega), smlBoolS_of (by unfold DFrames.sz at h; omega)⟩
theorem DFrames.cnt_le (x : DFrames) : DFrames.cnt x ≤ 8 * DFrames.sz x := by unfold DFrames.cnt DFrames.sz; have := cntIntSS_le x.Cells; have := cntBoolS_le x.Used; omega
def DFrames.mark (x : DFrames) (k : Int) : DFrames := { x with Cells := markIntSS x.Cells (k), Used := markBoolS x.Used (k + (cntIntSS x.Cells : Nat)) }
/- DEntry -/
structure DEntry where
 Mode : Int
 Frame : Int
deriving DecidableEq, Inhabited
def DEntry.enc (o : Own) (x : DEntry) : List C := [I x.Mode, I x.Frame]
theorem DEntry.enc_fz (x : DEntry) : fzL (DEntry.enc .own x) = DEntry.enc .imm x := by simp [fzL, DEntry.enc]
theorem DEntry.enc_fr (x : DEntry) : frL (DEntry.enc .own x) := ⟨trivial, trivial, trivial⟩
def DEntry.wf (x : DEntry) : Prop := wfI x.Mode ∧ wfI x.Frame
def DEntry.cnt (_ : DEntry) : Nat := 2
def DEntry.sml (_ : DEntry) : Prop := True
def DEntry.sz (_ : DEntry) : Nat := 0
theorem DEntry.sml_of {x : DEntry} (_ : DEntry.sz x ≤ 1048576) : DEntry.sml x := trivial
def DEntry.mark (_ : DEntry) (k : Int) : DEntry := ⟨k, k + 1⟩
/- []DEntry -/
def rDEntryS (o : Own) (x : List DEntry) : List C := [.s o (x.map (DEntry.enc o))]
theorem rDEntryS_fr (x : List DEntry) : frL (rDEntryS .own x) := ⟨⟨.inl fun h => (by cases h), frR_map _ _ fun y _ => DEntry.enc_fr y⟩, trivial⟩
def wfDEntryS (x : List DEntry) : Prop := x.length ≤ 9223372036854775807 ∧ ∀ y ∈ x, DEntry.wf y
def cntDEntryS : List DEntry → Nat
 | [] => 0
 | x :: xs => DEntry.cnt x + cntDEntryS xs
def szDEntryS (x : List DEntry) : Nat := x.length
def smlDEntryS (x : List DEntry) : Prop := x.length ≤ 1048576 ∧ ∀ y ∈ x, DEntry.sml y
def markDEntryS : List DEntry → Int → List DEntry
 | [], _ => []
 | x :: xs, k => DEntry.mark x k :: markDEntryS xs (k + (DEntry.cnt x : Nat))
theorem markDEntryS_len : ∀ (x : List DEntry) (k : Int), (markDEntryS x k).length = x.length
 | [], _ => rfl
 | _ :: xs, k => by simp [markDEntryS, markDEntryS_len xs]
/-- How many marks the first i elements take. -/
def preDEntryS : List DEntry → Nat → Nat
 | [], _ => 0
 | _ :: _, 0 => 0
 | x :: xs, i + 1 => DEntry.cnt x + preDEntryS xs i
theorem markDEntryS_get : ∀ (x : List DEntry) (k : Int) (i : Nat) (y : DEntry), x[i]? = some y → (markDEntryS x k)[i]? = some (DEntry.mark y (k + (preDEntryS x i : Nat)))
 | [], _, i, y, h => by simp at h
 | x :: xs, k, 0, y, h => by simp at h; subst h; simp [markDEntryS, preDEntryS]
 | x :: xs, k, i + 1, y, h => by
  simp only [markDEntryS, List.getElem?_cons_succ]
  rw [markDEntryS_get xs _ i y (by simpa using h)]
  congr 2
  simp only [preDEntryS]
  omega
theorem preDEntryS_zero (x : List DEntry) : preDEntryS x 0 = 0 := by cases x <;> rfl
theorem preDEntryS_succ : ∀ (x : List DEntry) (i : Nat) (y : DEntry), x[i]? = some y → preDEntryS x (i + 1) = preDEntryS x i + DEntry.cnt y
 | [], i, y, h => by simp at h
 | x :: xs, 0, y, h => by simp at h; subst h; simp [preDEntryS, preDEntryS_zero]
 | x :: xs, i + 1, y, h => by
  simp only [preDEntryS]
  rw [preDEntryS_succ xs i y (by simpa using h)]
  omega
theorem preDEntryS_all : ∀ (x : List DEntry), preDEntryS x x.length = cntDEntryS x
 | [] => rfl
 | x :: xs => by simp only [List.length_cons, preDEntryS, cntDEntryS, preDEntryS_all xs]
theorem smlDEntryS_of {x : List DEntry} (h : szDEntryS x ≤ 1048576) : smlDEntryS x := ⟨h, fun _ _ => trivial⟩
theorem cntDEntryS_le : ∀ (x : List DEntry), cntDEntryS x ≤ 8 * szDEntryS x
 | [] => by simp [cntDEntryS]
 | x :: xs => by have := cntDEntryS_le xs; simp only [cntDEntryS, szDEntryS, List.length_cons, DEntry.cnt] at this ⊢; omega
theorem preDEntryS_le : ∀ (x : List DEntry) (i : Nat), preDEntryS x i ≤ cntDEntryS x
 | [], _ => by simp [preDEntryS]
 | x :: xs, 0 => by simp [preDEntryS]
 | x :: xs, i + 1 => by simp only [preDEntryS, cntDEntryS]; have := preDEntryS_le xs i; omega
/- DTable -/
structure DTable where
 Entries : List DEntry
deriving DecidableEq, Inhabited
def DTable.enc (o : Own) (x : DTable) : List C := [.s o (x.Entries.map (DEntry.enc o))]
theorem DTable.enc_fz (x : DTable) : fzL (DTable.enc .own x) = DTable.enc .imm x := by simp [fzL, DTable.enc, DEntry.enc_fz, ← fzL_map, Function.comp_def]
theorem DTable.enc_fr (x : DTable) : frL (DTable.enc .own x) := ⟨⟨.inl fun h => (by cases h), frR_map _ _ fun y _ => DEntry.enc_fr y⟩, trivial⟩
def DTable.wf (x : DTable) : Prop := wfDEntryS x.Entries
def DTable.cnt (x : DTable) : Nat := cntDEntryS x.Entries
def DTable.sz (x : DTable) : Nat := szDEntryS x.Entries
def DTable.sml (x : DTable) : Prop := smlDEntryS x.Entries
theorem DTable.sml_of {x : DTable} (h : DTable.sz x ≤ 1048576) : DTable.sml x := smlDEntryS_of (by unfold DTable.sz at h; omega)
theorem DTable.cnt_le (x : DTable) : DTable.cnt x ≤ 8 * DTable.sz x := by unfold DTable.cnt DTable.sz; have := cntDEntryS_le x.Entries; omega
def DTable.mark (x : DTable) (k : Int) : DTable := { x with Entries := markDEntryS x.Entries (k) }
/- DMachine -/
structure DMachine where
 Frames : DFrames
 Table : DTable
deriving DecidableEq, Inhabited
def DMachine.enc (o : Own) (x : DMachine) : List C := [.s o (x.Frames.Cells.map (rIntS o)), .s o (x.Frames.Used.map (rB o)), .s o (x.Table.Entries.map (DEntry.enc o))]
theorem DMachine.enc_fz (x : DMachine) : fzL (DMachine.enc .own x) = DMachine.enc .imm x := by simp [fzL, DMachine.enc, DEntry.enc_fz, rB, rIntS_fz, ← fzL_map, Function.comp_def]
theorem DMachine.enc_fr (x : DMachine) : frL (DMachine.enc .own x) := ⟨⟨.inl fun h => (by cases h), frR_map _ _ fun y _ => rIntS_fr y⟩, ⟨.inl fun h => (by cases h), frR_map _ _ fun y _ => rB_fr y⟩, ⟨.inl fun h => (by cases h), frR_map _ _ fun y _ => DEntry.enc_fr y⟩, trivial⟩
def DMachine.wf (x : DMachine) : Prop := DFrames.wf x.Frames ∧ DTable.wf x.Table
def DMachine.cnt (x : DMachine) : Nat := DFrames.cnt x.Frames + DTable.cnt x.Table
def DMachine.sz (x : DMachine) : Nat := DFrames.sz x.Frames + DTable.sz x.Table
def DMachine.sml (x : DMachine) : Prop := DFrames.sml x.Frames ∧ DTable.sml x.Table
theorem DMachine.sml_of {x : DMachine} (h : DMachine.sz x ≤ 1048576) : DMachine.sml x := ⟨DFrames.sml_of (by unfold DMachine.sz at h; omega), DTable.sml_of (by unfold DMachine.sz at h; omega)⟩
theorem DMachine.cnt_le (x : DMachine) : DMachine.cnt x ≤ 8 * DMachine.sz x := by unfold DMachine.cnt DMachine.sz; have := DFrames.cnt_le x.Frames; have := DTable.cnt_le x.Table; omega
def DMachine.mark (x : DMachine) (k : Int) : DMachine := { x with Frames := DFrames.mark x.Frames (k), Table := DTable.mark x.Table (k + (DFrames.cnt x.Frames : Nat)) }
/- DKernel -/
structure DKernel where
 Machine : DMachine
 Calls : Int
 Refuse : List Int
deriving DecidableEq, Inhabited
def DKernel.enc (o : Own) (x : DKernel) : List C := [.s o (x.Machine.Frames.Cells.map (rIntS o)), .s o (x.Machine.Frames.Used.map (rB o)), .s o (x.Machine.Table.Entries.map (DEntry.enc o)), I x.Calls, .s o (x.Refuse.map (rI o))]
theorem DKernel.enc_fz (x : DKernel) : fzL (DKernel.enc .own x) = DKernel.enc .imm x := by simp [fzL, DKernel.enc, DEntry.enc_fz, rB, rI, rIntS_fz, ← fzL_map, Function.comp_def]
theorem DKernel.enc_fr (x : DKernel) : frL (DKernel.enc .own x) := ⟨⟨.inl fun h => (by cases h), frR_map _ _ fun y _ => rIntS_fr y⟩, ⟨.inl fun h => (by cases h), frR_map _ _ fun y _ => rB_fr y⟩, ⟨.inl fun h => (by cases h), frR_map _ _ fun y _ => DEntry.enc_fr y⟩, trivial, ⟨.inl fun h => (by cases h), frR_map _ _ fun y _ => rI_fr y⟩, trivial⟩
def DKernel.wf (x : DKernel) : Prop := DMachine.wf x.Machine ∧ wfI x.Calls ∧ wfIntS x.Refuse
def DKernel.cnt (x : DKernel) : Nat := DMachine.cnt x.Machine + cntIntS x.Refuse
def DKernel.sz (x : DKernel) : Nat := DMachine.sz x.Machine + szIntS x.Refuse
def DKernel.sml (x : DKernel) : Prop := DMachine.sml x.Machine ∧ smlIntS x.Refuse
theorem DKernel.sml_of {x : DKernel} (h : DKernel.sz x ≤ 1048576) : DKernel.sml x := ⟨DMachine.sml_of (by unfold DKernel.sz at h; omega), smlIntS_of (by unfold DKernel.sz at h; omega)⟩
theorem DKernel.cnt_le (x : DKernel) : DKernel.cnt x ≤ 8 * DKernel.sz x := by unfold DKernel.cnt DKernel.sz; have := DMachine.cnt_le x.Machine; have := cntIntS_le x.Refuse; omega
def DKernel.mark (x : DKernel) (k : Int) : DKernel := { x with Machine := DMachine.mark x.Machine (k), Refuse := markIntS x.Refuse (k + (DMachine.cnt x.Machine : Nat)) }
/- DRange -/
structure DRange where
 At : Int
 Len : Int
deriving DecidableEq, Inhabited
def DRange.enc (o : Own) (x : DRange) : List C := [I x.At, I x.Len]
theorem DRange.enc_fz (x : DRange) : fzL (DRange.enc .own x) = DRange.enc .imm x := by simp [fzL, DRange.enc]
theorem DRange.enc_fr (x : DRange) : frL (DRange.enc .own x) := ⟨trivial, trivial, trivial⟩
def DRange.wf (x : DRange) : Prop := wfI x.At ∧ wfI x.Len
def DRange.cnt (_ : DRange) : Nat := 2
def DRange.sml (_ : DRange) : Prop := True
def DRange.sz (_ : DRange) : Nat := 0
theorem DRange.sml_of {x : DRange} (_ : DRange.sz x ≤ 1048576) : DRange.sml x := trivial
def DRange.mark (_ : DRange) (k : Int) : DRange := ⟨k, k + 1⟩
/- []DRange -/
def rDRangeS (o : Own) (x : List DRange) : List C := [.s o (x.map (DRange.enc o))]
theorem rDRangeS_fr (x : List DRange) : frL (rDRangeS .own x) := ⟨⟨.inl fun h => (by cases h), frR_map _ _ fun y _ => DRange.enc_fr y⟩, trivial⟩
def wfDRangeS (x : List DRange) : Prop := x.length ≤ 9223372036854775807 ∧ ∀ y ∈ x, DRange.wf y
def cntDRangeS : List DRange → Nat
 | [] => 0
 | x :: xs => DRange.cnt x + cntDRangeS xs
def szDRangeS (x : List DRange) : Nat := x.length
def smlDRangeS (x : List DRange) : Prop := x.length ≤ 1048576 ∧ ∀ y ∈ x, DRange.sml y
def markDRangeS : List DRange → Int → List DRange
 | [], _ => []
 | x :: xs, k => DRange.mark x k :: markDRangeS xs (k + (DRange.cnt x : Nat))
theorem markDRangeS_len : ∀ (x : List DRange) (k : Int), (markDRangeS x k).length = x.length
 | [], _ => rfl
 | _ :: xs, k => by simp [markDRangeS, markDRangeS_len xs]
/-- How many marks the first i elements take. -/
def preDRangeS : List DRange → Nat → Nat
 | [], _ => 0
 | _ :: _, 0 => 0
 | x :: xs, i + 1 => DRange.cnt x + preDRangeS xs i
theorem markDRangeS_get : ∀ (x : List DRange) (k : Int) (i : Nat) (y : DRange), x[i]? = some y → (markDRangeS x k)[i]? = some (DRange.mark y (k + (preDRangeS x i : Nat)))
 | [], _, i, y, h => by simp at h
 | x :: xs, k, 0, y, h => by simp at h; subst h; simp [markDRangeS, preDRangeS]
 | x :: xs, k, i + 1, y, h => by
  simp only [markDRangeS, List.getElem?_cons_succ]
  rw [markDRangeS_get xs _ i y (by simpa using h)]
  congr 2
  simp only [preDRangeS]
  omega
theorem preDRangeS_zero (x : List DRange) : preDRangeS x 0 = 0 := by cases x <;> rfl
theorem preDRangeS_succ : ∀ (x : List DRange) (i : Nat) (y : DRange), x[i]? = some y → preDRangeS x (i + 1) = preDRangeS x i + DRange.cnt y
 | [], i, y, h => by simp at h
 | x :: xs, 0, y, h => by simp at h; subst h; simp [preDRangeS, preDRangeS_zero]
 | x :: xs, i + 1, y, h => by
  simp only [preDRangeS]
  rw [preDRangeS_succ xs i y (by simpa using h)]
  omega
theorem preDRangeS_all : ∀ (x : List DRange), preDRangeS x x.length = cntDRangeS x
 | [] => rfl
 | x :: xs => by simp only [List.length_cons, preDRangeS, cntDRangeS, preDRangeS_all xs]
theorem smlDRangeS_of {x : List DRange} (h : szDRangeS x ≤ 1048576) : smlDRangeS x := ⟨h, fun _ _ => trivial⟩
theorem cntDRangeS_le : ∀ (x : List DRange), cntDRangeS x ≤ 8 * szDRangeS x
 | [] => by simp [cntDRangeS]
 | x :: xs => by have := cntDRangeS_le xs; simp only [cntDRangeS, szDRangeS, List.length_cons, DRange.cnt] at this ⊢; omega
theorem preDRangeS_le : ∀ (x : List DRange) (i : Nat), preDRangeS x i ≤ cntDRangeS x
 | [], _ => by simp [preDRangeS]
 | x :: xs, 0 => by simp [preDRangeS]
 | x :: xs, i + 1 => by simp only [preDRangeS, cntDRangeS]; have := preDRangeS_le xs i; omega
/- DSpan -/
structure DSpan where
 Page : Int
 Class : Int
 Bits : Int
deriving DecidableEq, Inhabited
def DSpan.enc (o : Own) (x : DSpan) : List C := [I x.Page, I x.Class, I x.Bits]
theorem DSpan.enc_fz (x : DSpan) : fzL (DSpan.enc .own x) = DSpan.enc .imm x := by simp [fzL, DSpan.enc]
theorem DSpan.enc_fr (x : DSpan) : frL (DSpan.enc .own x) := ⟨trivial, trivial, trivial, trivial⟩
def DSpan.wf (x : DSpan) : Prop := wfI x.Page ∧ wfI x.Class ∧ wfI x.Bits
def DSpan.cnt (_ : DSpan) : Nat := 3
def DSpan.sml (_ : DSpan) : Prop := True
def DSpan.sz (_ : DSpan) : Nat := 0
theorem DSpan.sml_of {x : DSpan} (_ : DSpan.sz x ≤ 1048576) : DSpan.sml x := trivial
def DSpan.mark (_ : DSpan) (k : Int) : DSpan := ⟨k, k + 1, k + 1 + 1⟩
/- []DSpan -/
def rDSpanS (o : Own) (x : List DSpan) : List C := [.s o (x.map (DSpan.enc o))]
theorem rDSpanS_fr (x : List DSpan) : frL (rDSpanS .own x) := ⟨⟨.inl fun h => (by cases h), frR_map _ _ fun y _ => DSpan.enc_fr y⟩, trivial⟩
def wfDSpanS (x : List DSpan) : Prop := x.length ≤ 9223372036854775807 ∧ ∀ y ∈ x, DSpan.wf y
def cntDSpanS : List DSpan → Nat
 | [] => 0
 | x :: xs => DSpan.cnt x + cntDSpanS xs
def szDSpanS (x : List DSpan) : Nat := x.length
def smlDSpanS (x : List DSpan) : Prop := x.length ≤ 1048576 ∧ ∀ y ∈ x, DSpan.sml y
def markDSpanS : List DSpan → Int → List DSpan
 | [], _ => []
 | x :: xs, k => DSpan.mark x k :: markDSpanS xs (k + (DSpan.cnt x : Nat))
theorem markDSpanS_len : ∀ (x : List DSpan) (k : Int), (markDSpanS x k).length = x.length
 | [], _ => rfl
 | _ :: xs, k => by simp [markDSpanS, markDSpanS_len xs]
/-- How many marks the first i elements take. -/
def preDSpanS : List DSpan → Nat → Nat
 | [], _ => 0
 | _ :: _, 0 => 0
 | x :: xs, i + 1 => DSpan.cnt x + preDSpanS xs i
theorem markDSpanS_get : ∀ (x : List DSpan) (k : Int) (i : Nat) (y : DSpan), x[i]? = some y → (markDSpanS x k)[i]? = some (DSpan.mark y (k + (preDSpanS x i : Nat)))
 | [], _, i, y, h => by simp at h
 | x :: xs, k, 0, y, h => by simp at h; subst h; simp [markDSpanS, preDSpanS]
 | x :: xs, k, i + 1, y, h => by
  simp only [markDSpanS, List.getElem?_cons_succ]
  rw [markDSpanS_get xs _ i y (by simpa using h)]
  congr 2
  simp only [preDSpanS]
  omega
theorem preDSpanS_zero (x : List DSpan) : preDSpanS x 0 = 0 := by cases x <;> rfl
theorem preDSpanS_succ : ∀ (x : List DSpan) (i : Nat) (y : DSpan), x[i]? = some y → preDSpanS x (i + 1) = preDSpanS x i + DSpan.cnt y
 | [], i, y, h => by simp at h
 | x :: xs, 0, y, h => by simp at h; subst h; simp [preDSpanS, preDSpanS_zero]
 | x :: xs, i + 1, y, h => by
  simp only [preDSpanS]
  rw [preDSpanS_succ xs i y (by simpa using h)]
  omega
theorem preDSpanS_all : ∀ (x : List DSpan), preDSpanS x x.length = cntDSpanS x
 | [] => rfl
 | x :: xs => by simp only [List.length_cons, preDSpanS, cntDSpanS, preDSpanS_all xs]
theorem smlDSpanS_of {x : List DSpan} (h : szDSpanS x ≤ 1048576) : smlDSpanS x := ⟨h, fun _ _ => trivial⟩
theorem cntDSpanS_le : ∀ (x : List DSpan), cntDSpanS x ≤ 8 * szDSpanS x
 | [] => by simp [cntDSpanS]
 | x :: xs => by have := cntDSpanS_le xs; simp only [cntDSpanS, szDSpanS, List.length_cons, DSpan.cnt] at this ⊢; omega
theorem preDSpanS_le : ∀ (x : List DSpan) (i : Nat), preDSpanS x i ≤ cntDSpanS x
 | [], _ => by simp [preDSpanS]
 | x :: xs, 0 => by simp [preDSpanS]
 | x :: xs, i + 1 => by simp only [preDSpanS, cntDSpanS]; have := preDSpanS_le xs i; omega
/- DLarge -/
structure DLarge where
 Page : Int
 Pages : Int
 Size : Int
deriving DecidableEq, Inhabited
def DLarge.enc (o : Own) (x : DLarge) : List C := [I x.Page, I x.Pages, I x.Size]
theorem DLarge.enc_fz (x : DLarge) : fzL (DLarge.enc .own x) = DLarge.enc .imm x := by simp [fzL, DLarge.enc]
theorem DLarge.enc_fr (x : DLarge) : frL (DLarge.enc .own x) := ⟨trivial, trivial, trivial, trivial⟩
def DLarge.wf (x : DLarge) : Prop := wfI x.Page ∧ wfI x.Pages ∧ wfI x.Size
def DLarge.cnt (_ : DLarge) : Nat := 3
def DLarge.sml (_ : DLarge) : Prop := True
def DLarge.sz (_ : DLarge) : Nat := 0
theorem DLarge.sml_of {x : DLarge} (_ : DLarge.sz x ≤ 1048576) : DLarge.sml x := trivial
def DLarge.mark (_ : DLarge) (k : Int) : DLarge := ⟨k, k + 1, k + 1 + 1⟩
/- []DLarge -/
def rDLargeS (o : Own) (x : List DLarge) : List C := [.s o (x.map (DLarge.enc o))]
theorem rDLargeS_fr (x : List DLarge) : frL (rDLargeS .own x) := ⟨⟨.inl fun h => (by cases h), frR_map _ _ fun y _ => DLarge.enc_fr y⟩, trivial⟩
def wfDLargeS (x : List DLarge) : Prop := x.length ≤ 9223372036854775807 ∧ ∀ y ∈ x, DLarge.wf y
def cntDLargeS : List DLarge → Nat
 | [] => 0
 | x :: xs => DLarge.cnt x + cntDLargeS xs
def szDLargeS (x : List DLarge) : Nat := x.length
def smlDLargeS (x : List DLarge) : Prop := x.length ≤ 1048576 ∧ ∀ y ∈ x, DLarge.sml y
def markDLargeS : List DLarge → Int → List DLarge
 | [], _ => []
 | x :: xs, k => DLarge.mark x k :: markDLargeS xs (k + (DLarge.cnt x : Nat))
theorem markDLargeS_len : ∀ (x : List DLarge) (k : Int), (markDLargeS x k).length = x.length
 | [], _ => rfl
 | _ :: xs, k => by simp [markDLargeS, markDLargeS_len xs]
/-- How many marks the first i elements take. -/
def preDLargeS : List DLarge → Nat → Nat
 | [], _ => 0
 | _ :: _, 0 => 0
 | x :: xs, i + 1 => DLarge.cnt x + preDLargeS xs i
theorem markDLargeS_get : ∀ (x : List DLarge) (k : Int) (i : Nat) (y : DLarge), x[i]? = some y → (markDLargeS x k)[i]? = some (DLarge.mark y (k + (preDLargeS x i : Nat)))
 | [], _, i, y, h => by simp at h
 | x :: xs, k, 0, y, h => by simp at h; subst h; simp [markDLargeS, preDLargeS]
 | x :: xs, k, i + 1, y, h => by
  simp only [markDLargeS, List.getElem?_cons_succ]
  rw [markDLargeS_get xs _ i y (by simpa using h)]
  congr 2
  simp only [preDLargeS]
  omega
theorem preDLargeS_zero (x : List DLarge) : preDLargeS x 0 = 0 := by cases x <;> rfl
theorem preDLargeS_succ : ∀ (x : List DLarge) (i : Nat) (y : DLarge), x[i]? = some y → preDLargeS x (i + 1) = preDLargeS x i + DLarge.cnt y
 | [], i, y, h => by simp at h
 | x :: xs, 0, y, h => by simp at h; subst h; simp [preDLargeS, preDLargeS_zero]
 | x :: xs, i + 1, y, h => by
  simp only [preDLargeS]
  rw [preDLargeS_succ xs i y (by simpa using h)]
  omega
theorem preDLargeS_all : ∀ (x : List DLarge), preDLargeS x x.length = cntDLargeS x
 | [] => rfl
 | x :: xs => by simp only [List.length_cons, preDLargeS, cntDLargeS, preDLargeS_all xs]
theorem smlDLargeS_of {x : List DLarge} (h : szDLargeS x ≤ 1048576) : smlDLargeS x := ⟨h, fun _ _ => trivial⟩
theorem cntDLargeS_le : ∀ (x : List DLarge), cntDLargeS x ≤ 8 * szDLargeS x
 | [] => by simp [cntDLargeS]
 | x :: xs => by have := cntDLargeS_le xs; simp only [cntDLargeS, szDLargeS, List.length_cons, DLarge.cnt] at this ⊢; omega
theorem preDLargeS_le : ∀ (x : List DLarge) (i : Nat), preDLargeS x i ≤ cntDLargeS x
 | [], _ => by simp [preDLargeS]
 | x :: xs, 0 => by simp [preDLargeS]
 | x :: xs, i + 1 => by simp only [preDLargeS, cntDLargeS]; have := preDLargeS_le xs i; omega
/- DObj -/
structure DObj where
 Id : Int
 Addr : Int
 Size : Int
 Thread : Int
deriving DecidableEq, Inhabited
def DObj.enc (o : Own) (x : DObj) : List C := [I x.Id, I x.Addr, I x.Size, I x.Thread]
theorem DObj.enc_fz (x : DObj) : fzL (DObj.enc .own x) = DObj.enc .imm x := by simp [fzL, DObj.enc]
theorem DObj.enc_fr (x : DObj) : frL (DObj.enc .own x) := ⟨trivial, trivial, trivial, trivial, trivial⟩
def DObj.wf (x : DObj) : Prop := wfI x.Id ∧ wfI x.Addr ∧ wfI x.Size ∧ wfI x.Thread
def DObj.cnt (_ : DObj) : Nat := 4
def DObj.sml (_ : DObj) : Prop := True
def DObj.sz (_ : DObj) : Nat := 0
theorem DObj.sml_of {x : DObj} (_ : DObj.sz x ≤ 1048576) : DObj.sml x := trivial
def DObj.mark (_ : DObj) (k : Int) : DObj := ⟨k, k + 1, k + 1 + 1, k + 1 + 1 + 1⟩
/- []DObj -/
def rDObjS (o : Own) (x : List DObj) : List C := [.s o (x.map (DObj.enc o))]
theorem rDObjS_fr (x : List DObj) : frL (rDObjS .own x) := ⟨⟨.inl fun h => (by cases h), frR_map _ _ fun y _ => DObj.enc_fr y⟩, trivial⟩
def wfDObjS (x : List DObj) : Prop := x.length ≤ 9223372036854775807 ∧ ∀ y ∈ x, DObj.wf y
def cntDObjS : List DObj → Nat
 | [] => 0
 | x :: xs => DObj.cnt x + cntDObjS xs
def szDObjS (x : List DObj) : Nat := x.length
def smlDObjS (x : List DObj) : Prop := x.length ≤ 1048576 ∧ ∀ y ∈ x, DObj.sml y
def markDObjS : List DObj → Int → List DObj
 | [], _ => []
 | x :: xs, k => DObj.mark x k :: markDObjS xs (k + (DObj.cnt x : Nat))
theorem markDObjS_len : ∀ (x : List DObj) (k : Int), (markDObjS x k).length = x.length
 | [], _ => rfl
 | _ :: xs, k => by simp [markDObjS, markDObjS_len xs]
/-- How many marks the first i elements take. -/
def preDObjS : List DObj → Nat → Nat
 | [], _ => 0
 | _ :: _, 0 => 0
 | x :: xs, i + 1 => DObj.cnt x + preDObjS xs i
theorem markDObjS_get : ∀ (x : List DObj) (k : Int) (i : Nat) (y : DObj), x[i]? = some y → (markDObjS x k)[i]? = some (DObj.mark y (k + (preDObjS x i : Nat)))
 | [], _, i, y, h => by simp at h
 | x :: xs, k, 0, y, h => by simp at h; subst h; simp [markDObjS, preDObjS]
 | x :: xs, k, i + 1, y, h => by
  simp only [markDObjS, List.getElem?_cons_succ]
  rw [markDObjS_get xs _ i y (by simpa using h)]
  congr 2
  simp only [preDObjS]
  omega
theorem preDObjS_zero (x : List DObj) : preDObjS x 0 = 0 := by cases x <;> rfl
theorem preDObjS_succ : ∀ (x : List DObj) (i : Nat) (y : DObj), x[i]? = some y → preDObjS x (i + 1) = preDObjS x i + DObj.cnt y
 | [], i, y, h => by simp at h
 | x :: xs, 0, y, h => by simp at h; subst h; simp [preDObjS, preDObjS_zero]
 | x :: xs, i + 1, y, h => by
  simp only [preDObjS]
  rw [preDObjS_succ xs i y (by simpa using h)]
  omega
theorem preDObjS_all : ∀ (x : List DObj), preDObjS x x.length = cntDObjS x
 | [] => rfl
 | x :: xs => by simp only [List.length_cons, preDObjS, cntDObjS, preDObjS_all xs]
theorem smlDObjS_of {x : List DObj} (h : szDObjS x ≤ 1048576) : smlDObjS x := ⟨h, fun _ _ => trivial⟩
theorem cntDObjS_le : ∀ (x : List DObj), cntDObjS x ≤ 8 * szDObjS x
 | [] => by simp [cntDObjS]
 | x :: xs => by have := cntDObjS_le xs; simp only [cntDObjS, szDObjS, List.length_cons, DObj.cnt] at this ⊢; omega
theorem preDObjS_le : ∀ (x : List DObj) (i : Nat), preDObjS x i ≤ cntDObjS x
 | [], _ => by simp [preDObjS]
 | x :: xs, 0 => by simp [preDObjS]
 | x :: xs, i + 1 => by simp only [preDObjS, cntDObjS]; have := preDObjS_le xs i; omega
/- DCache -/
structure DCache where
 Lists : List (List Int)
deriving DecidableEq, Inhabited
def DCache.enc (o : Own) (x : DCache) : List C := [.s o (x.Lists.map (rIntS o))]
theorem DCache.enc_fz (x : DCache) : fzL (DCache.enc .own x) = DCache.enc .imm x := by simp [fzL, DCache.enc, rIntS_fz, ← fzL_map, Function.comp_def]
theorem DCache.enc_fr (x : DCache) : frL (DCache.enc .own x) := ⟨⟨.inl fun h => (by cases h), frR_map _ _ fun y _ => rIntS_fr y⟩, trivial⟩
def DCache.wf (x : DCache) : Prop := wfIntSS x.Lists
def DCache.cnt (x : DCache) : Nat := cntIntSS x.Lists
def DCache.sz (x : DCache) : Nat := szIntSS x.Lists
def DCache.sml (x : DCache) : Prop := smlIntSS x.Lists
theorem DCache.sml_of {x : DCache} (h : DCache.sz x ≤ 1048576) : DCache.sml x := smlIntSS_of (by unfold DCache.sz at h; omega)
theorem DCache.cnt_le (x : DCache) : DCache.cnt x ≤ 8 * DCache.sz x := by unfold DCache.cnt DCache.sz; have := cntIntSS_le x.Lists; omega
def DCache.mark (x : DCache) (k : Int) : DCache := { x with Lists := markIntSS x.Lists (k) }
/- []DCache -/
def rDCacheS (o : Own) (x : List DCache) : List C := [.s o (x.map (DCache.enc o))]
theorem rDCacheS_fr (x : List DCache) : frL (rDCacheS .own x) := ⟨⟨.inl fun h => (by cases h), frR_map _ _ fun y _ => DCache.enc_fr y⟩, trivial⟩
def wfDCacheS (x : List DCache) : Prop := x.length ≤ 9223372036854775807 ∧ ∀ y ∈ x, DCache.wf y
def cntDCacheS : List DCache → Nat
 | [] => 0
 | x :: xs => DCache.cnt x + cntDCacheS xs
def szDCacheSE : List DCache → Nat
 | [] => 0
 | x :: xs => DCache.sz x + szDCacheSE xs
def szDCacheS (x : List DCache) : Nat := x.length + szDCacheSE x
def smlDCacheS (x : List DCache) : Prop := x.length ≤ 1048576 ∧ ∀ y ∈ x, DCache.sml y
def markDCacheS : List DCache → Int → List DCache
 | [], _ => []
 | x :: xs, k => DCache.mark x k :: markDCacheS xs (k + (DCache.cnt x : Nat))
theorem markDCacheS_len : ∀ (x : List DCache) (k : Int), (markDCacheS x k).length = x.length
 | [], _ => rfl
 | _ :: xs, k => by simp [markDCacheS, markDCacheS_len xs]
/-- How many marks the first i elements take. -/
def preDCacheS : List DCache → Nat → Nat
 | [], _ => 0
 | _ :: _, 0 => 0
 | x :: xs, i + 1 => DCache.cnt x + preDCacheS xs i
theorem markDCacheS_get : ∀ (x : List DCache) (k : Int) (i : Nat) (y : DCache), x[i]? = some y → (markDCacheS x k)[i]? = some (DCache.mark y (k + (preDCacheS x i : Nat)))
 | [], _, i, y, h => by simp at h
 | x :: xs, k, 0, y, h => by simp at h; subst h; simp [markDCacheS, preDCacheS]
 | x :: xs, k, i + 1, y, h => by
  simp only [markDCacheS, List.getElem?_cons_succ]
  rw [markDCacheS_get xs _ i y (by simpa using h)]
  congr 2
  simp only [preDCacheS]
  omega
theorem preDCacheS_zero (x : List DCache) : preDCacheS x 0 = 0 := by cases x <;> rfl
theorem preDCacheS_succ : ∀ (x : List DCache) (i : Nat) (y : DCache), x[i]? = some y → preDCacheS x (i + 1) = preDCacheS x i + DCache.cnt y
 | [], i, y, h => by simp at h
 | x :: xs, 0, y, h => by simp at h; subst h; simp [preDCacheS, preDCacheS_zero]
 | x :: xs, i + 1, y, h => by
  simp only [preDCacheS]
  rw [preDCacheS_succ xs i y (by simpa using h)]
  omega
theorem preDCacheS_all : ∀ (x : List DCache), preDCacheS x x.length = cntDCacheS x
 | [] => rfl
 | x :: xs => by simp only [List.length_cons, preDCacheS, cntDCacheS, preDCacheS_all xs]
theorem szDCacheSE_mem : ∀ {x : List DCache} {y : DCache}, y ∈ x → DCache.sz y ≤ szDCacheSE x
 | [], y, h => by simp at h
 | x :: xs, y, h => by
  simp only [szDCacheSE]
  rcases List.mem_cons.1 h with rfl | h
  ·omega
  ·have := szDCacheSE_mem h; omega
theorem smlDCacheS_of {x : List DCache} (h : szDCacheS x ≤ 1048576) : smlDCacheS x := ⟨by unfold szDCacheS at h; omega, fun y hy => DCache.sml_of (by have := szDCacheSE_mem hy; unfold szDCacheS at h; omega)⟩
theorem cntDCacheSE_le : ∀ (x : List DCache), cntDCacheS x ≤ 8 * szDCacheSE x
 | [] => by simp [cntDCacheS]
 | x :: xs => by have := cntDCacheSE_le xs; have := DCache.cnt_le x; simp only [cntDCacheS, szDCacheSE]; omega
theorem cntDCacheS_le (x : List DCache) : cntDCacheS x ≤ 8 * szDCacheS x := by have := cntDCacheSE_le x; unfold szDCacheS; omega
def spreDCacheS : List DCache → Nat → Nat
 | [], _ => 0
 | _ :: _, 0 => 0
 | x :: xs, i + 1 => DCache.sz x + spreDCacheS xs i
theorem spreDCacheS_zero (x : List DCache) : spreDCacheS x 0 = 0 := by cases x <;> rfl
theorem spreDCacheS_succ : ∀ (x : List DCache) (i : Nat) (y : DCache), x[i]? = some y → spreDCacheS x (i + 1) = spreDCacheS x i + DCache.sz y
 | [], i, y, h => by simp at h
 | x :: xs, 0, y, h => by simp at h; subst h; simp [spreDCacheS, spreDCacheS_zero]
 | x :: xs, i + 1, y, h => by
  simp only [spreDCacheS]
  rw [spreDCacheS_succ xs i y (by simpa using h)]
  omega
theorem spreDCacheS_all : ∀ (x : List DCache), spreDCacheS x x.length = szDCacheSE x
 | [] => rfl
 | x :: xs => by simp only [List.length_cons, spreDCacheS, szDCacheSE, spreDCacheS_all xs]
theorem spreDCacheS_le : ∀ (x : List DCache) (i : Nat), spreDCacheS x i ≤ szDCacheSE x
 | [], _ => by simp [spreDCacheS]
 | x :: xs, 0 => by simp [spreDCacheS]
 | x :: xs, i + 1 => by simp only [spreDCacheS, szDCacheSE]; have := spreDCacheS_le xs i; omega
theorem preDCacheS_le : ∀ (x : List DCache) (i : Nat), preDCacheS x i ≤ cntDCacheS x
 | [], _ => by simp [preDCacheS]
 | x :: xs, 0 => by simp [preDCacheS]
 | x :: xs, i + 1 => by simp only [preDCacheS, cntDCacheS]; have := preDCacheS_le xs i; omega
/- DPost -/
structure DPost where
 To : Int
 Addr : Int
deriving DecidableEq, Inhabited
def DPost.enc (o : Own) (x : DPost) : List C := [I x.To, I x.Addr]
theorem DPost.enc_fz (x : DPost) : fzL (DPost.enc .own x) = DPost.enc .imm x := by simp [fzL, DPost.enc]
theorem DPost.enc_fr (x : DPost) : frL (DPost.enc .own x) := ⟨trivial, trivial, trivial⟩
def DPost.wf (x : DPost) : Prop := wfI x.To ∧ wfI x.Addr
def DPost.cnt (_ : DPost) : Nat := 2
def DPost.sml (_ : DPost) : Prop := True
def DPost.sz (_ : DPost) : Nat := 0
theorem DPost.sml_of {x : DPost} (_ : DPost.sz x ≤ 1048576) : DPost.sml x := trivial
def DPost.mark (_ : DPost) (k : Int) : DPost := ⟨k, k + 1⟩
/- []DPost -/
def rDPostS (o : Own) (x : List DPost) : List C := [.s o (x.map (DPost.enc o))]
theorem rDPostS_fz (x : List DPost) : fzL (rDPostS .own x) = rDPostS .imm x := by simp [fzL, rDPostS, DPost.enc_fz, ← fzL_map, Function.comp_def]
theorem rDPostS_fr (x : List DPost) : frL (rDPostS .own x) := ⟨⟨.inl fun h => (by cases h), frR_map _ _ fun y _ => DPost.enc_fr y⟩, trivial⟩
def wfDPostS (x : List DPost) : Prop := x.length ≤ 9223372036854775807 ∧ ∀ y ∈ x, DPost.wf y
def cntDPostS : List DPost → Nat
 | [] => 0
 | x :: xs => DPost.cnt x + cntDPostS xs
def szDPostS (x : List DPost) : Nat := x.length
def smlDPostS (x : List DPost) : Prop := x.length ≤ 1048576 ∧ ∀ y ∈ x, DPost.sml y
def markDPostS : List DPost → Int → List DPost
 | [], _ => []
 | x :: xs, k => DPost.mark x k :: markDPostS xs (k + (DPost.cnt x : Nat))
theorem markDPostS_len : ∀ (x : List DPost) (k : Int), (markDPostS x k).length = x.length
 | [], _ => rfl
 | _ :: xs, k => by simp [markDPostS, markDPostS_len xs]
/-- How many marks the first i elements take. -/
def preDPostS : List DPost → Nat → Nat
 | [], _ => 0
 | _ :: _, 0 => 0
 | x :: xs, i + 1 => DPost.cnt x + preDPostS xs i
theorem markDPostS_get : ∀ (x : List DPost) (k : Int) (i : Nat) (y : DPost), x[i]? = some y → (markDPostS x k)[i]? = some (DPost.mark y (k + (preDPostS x i : Nat)))
 | [], _, i, y, h => by simp at h
 | x :: xs, k, 0, y, h => by simp at h; subst h; simp [markDPostS, preDPostS]
 | x :: xs, k, i + 1, y, h => by
  simp only [markDPostS, List.getElem?_cons_succ]
  rw [markDPostS_get xs _ i y (by simpa using h)]
  congr 2
  simp only [preDPostS]
  omega
theorem preDPostS_zero (x : List DPost) : preDPostS x 0 = 0 := by cases x <;> rfl
theorem preDPostS_succ : ∀ (x : List DPost) (i : Nat) (y : DPost), x[i]? = some y → preDPostS x (i + 1) = preDPostS x i + DPost.cnt y
 | [], i, y, h => by simp at h
 | x :: xs, 0, y, h => by simp at h; subst h; simp [preDPostS, preDPostS_zero]
 | x :: xs, i + 1, y, h => by
  simp only [preDPostS]
  rw [preDPostS_succ xs i y (by simpa using h)]
  omega
theorem preDPostS_all : ∀ (x : List DPost), preDPostS x x.length = cntDPostS x
 | [] => rfl
 | x :: xs => by simp only [List.length_cons, preDPostS, cntDPostS, preDPostS_all xs]
theorem smlDPostS_of {x : List DPost} (h : szDPostS x ≤ 1048576) : smlDPostS x := ⟨h, fun _ _ => trivial⟩
theorem cntDPostS_le : ∀ (x : List DPost), cntDPostS x ≤ 8 * szDPostS x
 | [] => by simp [cntDPostS]
 | x :: xs => by have := cntDPostS_le xs; simp only [cntDPostS, szDPostS, List.length_cons, DPost.cnt] at this ⊢; omega
theorem preDPostS_le : ∀ (x : List DPost) (i : Nat), preDPostS x i ≤ cntDPostS x
 | [], _ => by simp [preDPostS]
 | x :: xs, 0 => by simp [preDPostS]
 | x :: xs, i + 1 => by simp only [preDPostS, cntDPostS]; have := preDPostS_le xs i; omega
/- [][]DPost -/
def rDPostSS (o : Own) (x : List (List DPost)) : List C := [.s o (x.map (rDPostS o))]
theorem rDPostSS_fr (x : List (List DPost)) : frL (rDPostSS .own x) := ⟨⟨.inl fun h => (by cases h), frR_map _ _ fun y _ => rDPostS_fr y⟩, trivial⟩
def wfDPostSS (x : List (List DPost)) : Prop := x.length ≤ 9223372036854775807 ∧ ∀ y ∈ x, wfDPostS y
def cntDPostSS : List (List DPost) → Nat
 | [] => 0
 | x :: xs => cntDPostS x + cntDPostSS xs
def szDPostSSE : List (List DPost) → Nat
 | [] => 0
 | x :: xs => szDPostS x + szDPostSSE xs
def szDPostSS (x : List (List DPost)) : Nat := x.length + szDPostSSE x
def smlDPostSS (x : List (List DPost)) : Prop := x.length ≤ 1048576 ∧ ∀ y ∈ x, smlDPostS y
def markDPostSS : List (List DPost) → Int → List (List DPost)
 | [], _ => []
 | x :: xs, k => markDPostS x k :: markDPostSS xs (k + (cntDPostS x : Nat))
theorem markDPostSS_len : ∀ (x : List (List DPost)) (k : Int), (markDPostSS x k).length = x.length
 | [], _ => rfl
 | _ :: xs, k => by simp [markDPostSS, markDPostSS_len xs]
/-- How many marks the first i elements take. -/
def preDPostSS : List (List DPost) → Nat → Nat
 | [], _ => 0
 | _ :: _, 0 => 0
 | x :: xs, i + 1 => cntDPostS x + preDPostSS xs i
theorem markDPostSS_get : ∀ (x : List (List DPost)) (k : Int) (i : Nat) (y : List DPost), x[i]? = some y → (markDPostSS x k)[i]? = some (markDPostS y (k + (preDPostSS x i : Nat)))
 | [], _, i, y, h => by simp at h
 | x :: xs, k, 0, y, h => by simp at h; subst h; simp [markDPostSS, preDPostSS]
 | x :: xs, k, i + 1, y, h => by
  simp only [markDPostSS, List.getElem?_cons_succ]
  rw [markDPostSS_get xs _ i y (by simpa using h)]
  congr 2
  simp only [preDPostSS]
  omega
theorem preDPostSS_zero (x : List (List DPost)) : preDPostSS x 0 = 0 := by cases x <;> rfl
theorem preDPostSS_succ : ∀ (x : List (List DPost)) (i : Nat) (y : List DPost), x[i]? = some y → preDPostSS x (i + 1) = preDPostSS x i + cntDPostS y
 | [], i, y, h => by simp at h
 | x :: xs, 0, y, h => by simp at h; subst h; simp [preDPostSS, preDPostSS_zero]
 | x :: xs, i + 1, y, h => by
  simp only [preDPostSS]
  rw [preDPostSS_succ xs i y (by simpa using h)]
  omega
theorem preDPostSS_all : ∀ (x : List (List DPost)), preDPostSS x x.length = cntDPostSS x
 | [] => rfl
 | x :: xs => by simp only [List.length_cons, preDPostSS, cntDPostSS, preDPostSS_all xs]
theorem szDPostSSE_mem : ∀ {x : List (List DPost)} {y : List DPost}, y ∈ x → szDPostS y ≤ szDPostSSE x
 | [], y, h => by simp at h
 | x :: xs, y, h => by
  simp only [szDPostSSE]
  rcases List.mem_cons.1 h with rfl | h
  ·omega
  ·have := szDPostSSE_mem h; omega
theorem smlDPostSS_of {x : List (List DPost)} (h : szDPostSS x ≤ 1048576) : smlDPostSS x := ⟨by unfold szDPostSS at h; omega, fun y hy => smlDPostS_of (by have := szDPostSSE_mem hy; unfold szDPostSS at h; omega)⟩
theorem cntDPostSSE_le : ∀ (x : List (List DPost)), cntDPostSS x ≤ 8 * szDPostSSE x
 | [] => by simp [cntDPostSS]
 | x :: xs => by have := cntDPostSSE_le xs; have := cntDPostS_le x; simp only [cntDPostSS, szDPostSSE]; omega
theorem cntDPostSS_le (x : List (List DPost)) : cntDPostSS x ≤ 8 * szDPostSS x := by have := cntDPostSSE_le x; unfold szDPostSS; omega
def spreDPostSS : List (List DPost) → Nat → Nat
 | [], _ => 0
 | _ :: _, 0 => 0
 | x :: xs, i + 1 => szDPostS x + spreDPostSS xs i
theorem spreDPostSS_zero (x : List (List DPost)) : spreDPostSS x 0 = 0 := by cases x <;> rfl
theorem spreDPostSS_succ : ∀ (x : List (List DPost)) (i : Nat) (y : List DPost), x[i]? = some y → spreDPostSS x (i + 1) = spreDPostSS x i + szDPostS y
 | [], i, y, h => by simp at h
 | x :: xs, 0, y, h => by simp at h; subst h; simp [spreDPostSS, spreDPostSS_zero]
 | x :: xs, i + 1, y, h => by
  simp only [spreDPostSS]
  rw [spreDPostSS_succ xs i y (by simpa using h)]
  omega
theorem spreDPostSS_all : ∀ (x : List (List DPost)), spreDPostSS x x.length = szDPostSSE x
 | [] => rfl
 | x :: xs => by simp only [List.length_cons, spreDPostSS, szDPostSSE, spreDPostSS_all xs]
theorem spreDPostSS_le : ∀ (x : List (List DPost)) (i : Nat), spreDPostSS x i ≤ szDPostSSE x
 | [], _ => by simp [spreDPostSS]
 | x :: xs, 0 => by simp [spreDPostSS]
 | x :: xs, i + 1 => by simp only [spreDPostSS, szDPostSSE]; have := spreDPostSS_le xs i; omega
theorem preDPostSS_le : ∀ (x : List (List DPost)) (i : Nat), preDPostSS x i ≤ cntDPostSS x
 | [], _ => by simp [preDPostSS]
 | x :: xs, 0 => by simp [preDPostSS]
 | x :: xs, i + 1 => by simp only [preDPostSS, cntDPostSS]; have := preDPostSS_le xs i; omega
/- DMail -/
structure DMail where
 Buffers : List (List DPost)
 Inbox : List (List Int)
deriving DecidableEq, Inhabited
def DMail.enc (o : Own) (x : DMail) : List C := [.s o (x.Buffers.map (rDPostS o)), .s o (x.Inbox.map (rIntS o))]
theorem DMail.enc_fz (x : DMail) : fzL (DMail.enc .own x) = DMail.enc .imm x := by simp [fzL, DMail.enc, rDPostS_fz, rIntS_fz, ← fzL_map, Function.comp_def]
theorem DMail.enc_fr (x : DMail) : frL (DMail.enc .own x) := ⟨⟨.inl fun h => (by cases h), frR_map _ _ fun y _ => rDPostS_fr y⟩, ⟨.inl fun h => (by cases h), frR_map _ _ fun y _ => rIntS_fr y⟩, trivial⟩
def DMail.wf (x : DMail) : Prop := wfDPostSS x.Buffers ∧ wfIntSS x.Inbox
def DMail.cnt (x : DMail) : Nat := cntDPostSS x.Buffers + cntIntSS x.Inbox
def DMail.sz (x : DMail) : Nat := szDPostSS x.Buffers + szIntSS x.Inbox
def DMail.sml (x : DMail) : Prop := smlDPostSS x.Buffers ∧ smlIntSS x.Inbox
theorem DMail.sml_of {x : DMail} (h : DMail.sz x ≤ 1048576) : DMail.sml x := ⟨smlDPostSS_of (by unfold DMail.sz at h; omega), smlIntSS_of (by unfold DMail.sz at h; omega)⟩
theorem DMail.cnt_le (x : DMail) : DMail.cnt x ≤ 8 * DMail.sz x := by unfold DMail.cnt DMail.sz; have := cntDPostSS_le x.Buffers; have := cntIntSS_le x.Inbox; omega
def DMail.mark (x : DMail) (k : Int) : DMail := { x with Buffers := markDPostSS x.Buffers (k), Inbox := markIntSS x.Inbox (k + (cntDPostSS x.Buffers : Nat)) }
/- DStale -/
structure DStale where
 Addr : Int
 Class : Int
 Since : Int
deriving DecidableEq, Inhabited
def DStale.enc (o : Own) (x : DStale) : List C := [I x.Addr, I x.Class, I x.Since]
theorem DStale.enc_fz (x : DStale) : fzL (DStale.enc .own x) = DStale.enc .imm x := by simp [fzL, DStale.enc]
theorem DStale.enc_fr (x : DStale) : frL (DStale.enc .own x) := ⟨trivial, trivial, trivial, trivial⟩
def DStale.wf (x : DStale) : Prop := wfI x.Addr ∧ wfI x.Class ∧ wfI x.Since
def DStale.cnt (_ : DStale) : Nat := 3
def DStale.sml (_ : DStale) : Prop := True
def DStale.sz (_ : DStale) : Nat := 0
theorem DStale.sml_of {x : DStale} (_ : DStale.sz x ≤ 1048576) : DStale.sml x := trivial
def DStale.mark (_ : DStale) (k : Int) : DStale := ⟨k, k + 1, k + 1 + 1⟩
/- []DStale -/
def rDStaleS (o : Own) (x : List DStale) : List C := [.s o (x.map (DStale.enc o))]
theorem rDStaleS_fr (x : List DStale) : frL (rDStaleS .own x) := ⟨⟨.inl fun h => (by cases h), frR_map _ _ fun y _ => DStale.enc_fr y⟩, trivial⟩
def wfDStaleS (x : List DStale) : Prop := x.length ≤ 9223372036854775807 ∧ ∀ y ∈ x, DStale.wf y
def cntDStaleS : List DStale → Nat
 | [] => 0
 | x :: xs => DStale.cnt x + cntDStaleS xs
def szDStaleS (x : List DStale) : Nat := x.length
def smlDStaleS (x : List DStale) : Prop := x.length ≤ 1048576 ∧ ∀ y ∈ x, DStale.sml y
def markDStaleS : List DStale → Int → List DStale
 | [], _ => []
 | x :: xs, k => DStale.mark x k :: markDStaleS xs (k + (DStale.cnt x : Nat))
theorem markDStaleS_len : ∀ (x : List DStale) (k : Int), (markDStaleS x k).length = x.length
 | [], _ => rfl
 | _ :: xs, k => by simp [markDStaleS, markDStaleS_len xs]
/-- How many marks the first i elements take. -/
def preDStaleS : List DStale → Nat → Nat
 | [], _ => 0
 | _ :: _, 0 => 0
 | x :: xs, i + 1 => DStale.cnt x + preDStaleS xs i
theorem markDStaleS_get : ∀ (x : List DStale) (k : Int) (i : Nat) (y : DStale), x[i]? = some y → (markDStaleS x k)[i]? = some (DStale.mark y (k + (preDStaleS x i : Nat)))
 | [], _, i, y, h => by simp at h
 | x :: xs, k, 0, y, h => by simp at h; subst h; simp [markDStaleS, preDStaleS]
 | x :: xs, k, i + 1, y, h => by
  simp only [markDStaleS, List.getElem?_cons_succ]
  rw [markDStaleS_get xs _ i y (by simpa using h)]
  congr 2
  simp only [preDStaleS]
  omega
theorem preDStaleS_zero (x : List DStale) : preDStaleS x 0 = 0 := by cases x <;> rfl
theorem preDStaleS_succ : ∀ (x : List DStale) (i : Nat) (y : DStale), x[i]? = some y → preDStaleS x (i + 1) = preDStaleS x i + DStale.cnt y
 | [], i, y, h => by simp at h
 | x :: xs, 0, y, h => by simp at h; subst h; simp [preDStaleS, preDStaleS_zero]
 | x :: xs, i + 1, y, h => by
  simp only [preDStaleS]
  rw [preDStaleS_succ xs i y (by simpa using h)]
  omega
theorem preDStaleS_all : ∀ (x : List DStale), preDStaleS x x.length = cntDStaleS x
 | [] => rfl
 | x :: xs => by simp only [List.length_cons, preDStaleS, cntDStaleS, preDStaleS_all xs]
theorem smlDStaleS_of {x : List DStale} (h : szDStaleS x ≤ 1048576) : smlDStaleS x := ⟨h, fun _ _ => trivial⟩
theorem cntDStaleS_le : ∀ (x : List DStale), cntDStaleS x ≤ 8 * szDStaleS x
 | [] => by simp [cntDStaleS]
 | x :: xs => by have := cntDStaleS_le xs; simp only [cntDStaleS, szDStaleS, List.length_cons, DStale.cnt] at this ⊢; omega
theorem preDStaleS_le : ∀ (x : List DStale) (i : Nat), preDStaleS x i ≤ cntDStaleS x
 | [], _ => by simp [preDStaleS]
 | x :: xs, 0 => by simp [preDStaleS]
 | x :: xs, i + 1 => by simp only [preDStaleS, cntDStaleS]; have := preDStaleS_le xs i; omega
/- DQuar -/
structure DQuar where
 Room : Int
 Lst : List DStale
deriving DecidableEq, Inhabited
def DQuar.enc (o : Own) (x : DQuar) : List C := [I x.Room, .s o (x.Lst.map (DStale.enc o))]
theorem DQuar.enc_fz (x : DQuar) : fzL (DQuar.enc .own x) = DQuar.enc .imm x := by simp [fzL, DQuar.enc, DStale.enc_fz, ← fzL_map, Function.comp_def]
theorem DQuar.enc_fr (x : DQuar) : frL (DQuar.enc .own x) := ⟨trivial, ⟨.inl fun h => (by cases h), frR_map _ _ fun y _ => DStale.enc_fr y⟩, trivial⟩
def DQuar.wf (x : DQuar) : Prop := wfI x.Room ∧ wfDStaleS x.Lst
def DQuar.cnt (x : DQuar) : Nat := cntDStaleS x.Lst
def DQuar.sz (x : DQuar) : Nat := szDStaleS x.Lst
def DQuar.sml (x : DQuar) : Prop := smlDStaleS x.Lst
theorem DQuar.sml_of {x : DQuar} (h : DQuar.sz x ≤ 1048576) : DQuar.sml x := smlDStaleS_of (by unfold DQuar.sz at h; omega)
theorem DQuar.cnt_le (x : DQuar) : DQuar.cnt x ≤ 8 * DQuar.sz x := by unfold DQuar.cnt DQuar.sz; have := cntDStaleS_le x.Lst; omega
def DQuar.mark (x : DQuar) (k : Int) : DQuar := { x with Lst := markDStaleS x.Lst (k) }
/- DPlan -/
structure DPlan where
 Keep : Int
 Move : Int
 Cells : List Int
deriving DecidableEq, Inhabited
def DPlan.enc (o : Own) (x : DPlan) : List C := [I x.Keep, I x.Move, .s o (x.Cells.map (rI o))]
theorem DPlan.enc_fz (x : DPlan) : fzL (DPlan.enc .own x) = DPlan.enc .imm x := by simp [fzL, DPlan.enc, rI, ← fzL_map, Function.comp_def]
theorem DPlan.enc_fr (x : DPlan) : frL (DPlan.enc .own x) := ⟨trivial, trivial, ⟨.inl fun h => (by cases h), frR_map _ _ fun y _ => rI_fr y⟩, trivial⟩
def DPlan.wf (x : DPlan) : Prop := wfI x.Keep ∧ wfI x.Move ∧ wfIntS x.Cells
def DPlan.cnt (x : DPlan) : Nat := cntIntS x.Cells
def DPlan.sz (x : DPlan) : Nat := szIntS x.Cells
def DPlan.sml (x : DPlan) : Prop := smlIntS x.Cells
theorem DPlan.sml_of {x : DPlan} (h : DPlan.sz x ≤ 1048576) : DPlan.sml x := smlIntS_of (by unfold DPlan.sz at h; omega)
theorem DPlan.cnt_le (x : DPlan) : DPlan.cnt x ≤ 8 * DPlan.sz x := by unfold DPlan.cnt DPlan.sz; have := cntIntS_le x.Cells; omega
def DPlan.mark (x : DPlan) (k : Int) : DPlan := { x with Cells := markIntS x.Cells (k) }
/- DJob -/
structure DJob where
 Plan : DPlan
 Phase : Int
 Next : Int
deriving DecidableEq, Inhabited
def DJob.enc (o : Own) (x : DJob) : List C := [I x.Plan.Keep, I x.Plan.Move, .s o (x.Plan.Cells.map (rI o)), I x.Phase, I x.Next]
theorem DJob.enc_fz (x : DJob) : fzL (DJob.enc .own x) = DJob.enc .imm x := by simp [fzL, DJob.enc, rI, ← fzL_map, Function.comp_def]
theorem DJob.enc_fr (x : DJob) : frL (DJob.enc .own x) := ⟨trivial, trivial, ⟨.inl fun h => (by cases h), frR_map _ _ fun y _ => rI_fr y⟩, trivial, trivial, trivial⟩
def DJob.wf (x : DJob) : Prop := DPlan.wf x.Plan ∧ wfI x.Phase ∧ wfI x.Next
def DJob.cnt (x : DJob) : Nat := DPlan.cnt x.Plan
def DJob.sz (x : DJob) : Nat := DPlan.sz x.Plan
def DJob.sml (x : DJob) : Prop := DPlan.sml x.Plan
theorem DJob.sml_of {x : DJob} (h : DJob.sz x ≤ 1048576) : DJob.sml x := DPlan.sml_of (by unfold DJob.sz at h; omega)
theorem DJob.cnt_le (x : DJob) : DJob.cnt x ≤ 8 * DJob.sz x := by unfold DJob.cnt DJob.sz; have := DPlan.cnt_le x.Plan; omega
def DJob.mark (x : DJob) (k : Int) : DJob := { x with Plan := DPlan.mark x.Plan (k) }
/- DHeap -/
structure DHeap where
 Kernel : DKernel
 Free : List DRange
 Spans : List DSpan
 Larges : List DLarge
 Objs : List DObj
 Caches : List DCache
 Mail : DMail
 Quar : DQuar
 Seed : Int
 Clock : Int
 Limit : Int
 Next : Int
 Meshing : Bool
 Job : DJob
deriving DecidableEq, Inhabited
def DHeap.enc (o : Own) (x : DHeap) : List C := [.s o (x.Kernel.Machine.Frames.Cells.map (rIntS o)), .s o (x.Kernel.Machine.Frames.Used.map (rB o)), .s o (x.Kernel.Machine.Table.Entries.map (DEntry.enc o)), I x.Kernel.Calls, .s o (x.Kernel.Refuse.map (rI o)), .s o (x.Free.map (DRange.enc o)), .s o (x.Spans.map (DSpan.enc o)), .s o (x.Larges.map (DLarge.enc o)), .s o (x.Objs.map (DObj.enc o)), .s o (x.Caches.map (DCache.enc o)), .s o (x.Mail.Buffers.map (rDPostS o)), .s o (x.Mail.Inbox.map (rIntS o)), I x.Quar.Room, .s o (x.Quar.Lst.map (DStale.enc o)), I x.Seed, I x.Clock, I x.Limit, I x.Next, B x.Meshing, I x.Job.Plan.Keep, I x.Job.Plan.Move, .s o (x.Job.Plan.Cells.map (rI o)), I x.Job.Phase, I x.Job.Next]
theorem DHeap.enc_fz (x : DHeap) : fzL (DHeap.enc .own x) = DHeap.enc .imm x := by simp [fzL, DHeap.enc, DCache.enc_fz, DEntry.enc_fz, DLarge.enc_fz, DObj.enc_fz, DRange.enc_fz, DSpan.enc_fz, DStale.enc_fz, rB, rDPostS_fz, rI, rIntS_fz, ← fzL_map, Function.comp_def]
theorem DHeap.enc_fr (x : DHeap) : frL (DHeap.enc .own x) := ⟨⟨.inl fun h => (by cases h), frR_map _ _ fun y _ => rIntS_fr y⟩, ⟨.inl fun h => (by cases h), frR_map _ _ fun y _ => rB_fr y⟩, ⟨.inl fun h => (by cases h), frR_map _ _ fun y _ => DEntry.enc_fr y⟩, trivial, ⟨.inl fun h => (by cases h), frR_map _ _ fun y _ => rI_fr y⟩, ⟨.inl fun h => (by cases h), frR_map _ _ fun y _ => DRange.enc_fr y⟩, ⟨.inl fun h => (by cases h), frR_map _ _ fun y _ => DSpan.enc_fr y⟩, ⟨.inl fun h => (by cases h), frR_map _ _ fun y _ => DLarge.enc_fr y⟩, ⟨.inl fun h => (by cases h), frR_map _ _ fun y _ => DObj.enc_fr y⟩, ⟨.inl fun h => (by cases h), frR_map _ _ fun y _ => DCache.enc_fr y⟩, ⟨.inl fun h => (by cases h), frR_map _ _ fun y _ => rDPostS_fr y⟩, ⟨.inl fun h => (by cases h), frR_map _ _ fun y _ => rIntS_fr y⟩, trivial, ⟨.inl fun h => (by cases h), frR_map _ _ fun y _ => DStale.enc_fr y⟩, trivial, trivial, trivial, trivial, trivial, trivial, trivial, ⟨.inl fun h => (by cases h), frR_map _ _ fun y _ => rI_fr y⟩, trivial, trivial, trivial⟩
def DHeap.wf (x : DHeap) : Prop := DKernel.wf x.Kernel ∧ wfDRangeS x.Free ∧ wfDSpanS x.Spans ∧ wfDLargeS x.Larges ∧ wfDObjS x.Objs ∧ wfDCacheS x.Caches ∧ DMail.wf x.Mail ∧ DQuar.wf x.Quar ∧ wfI x.Seed ∧ wfI x.Clock ∧ wfI x.Limit ∧ wfI x.Next ∧ wfB x.Meshing ∧ DJob.wf x.Job
def DHeap.cnt (x : DHeap) : Nat := DKernel.cnt x.Kernel + cntDRangeS x.Free + cntDSpanS x.Spans + cntDLargeS x.Larges + cntDObjS x.Objs + cntDCacheS x.Caches + DMail.cnt x.Mail + DQuar.cnt x.Quar + DJob.cnt x.Job
def DHeap.sz (x : DHeap) : Nat := DKernel.sz x.Kernel + szDRangeS x.Free + szDSpanS x.Spans + szDLargeS x.Larges + szDObjS x.Objs + szDCacheS x.Caches + DMail.sz x.Mail + DQuar.sz x.Quar + DJob.sz x.Job
def DHeap.sml (x : DHeap) : Prop := DKernel.sml x.Kernel ∧ smlDRangeS x.Free ∧ smlDSpanS x.Spans ∧ smlDLargeS x.Larges ∧ smlDObjS x.Objs ∧ smlDCacheS x.Caches ∧ DMail.sml x.Mail ∧ DQuar.sml x.Quar ∧ DJob.sml x.Job
theorem DHeap.sml_of {x : DHeap} (h : DHeap.sz x ≤ 1048576) : DHeap.sml x := ⟨DKernel.sml_of (by unfold DHeap.sz at h; omega), smlDRangeS_of (by unfold DHeap.sz at h; omega), smlDSpanS_of (by unfold DHeap.sz at h; omega), smlDLargeS_of (by unfold DHeap.sz at h; omega), smlDObjS_of (by unfold DHeap.sz at h; omega), smlDCacheS_of (by unfold DHeap.sz at h; omega), DMail.sml_of (by unfold DHeap.sz at h; omega), DQuar.sml_of (by unfold DHeap.sz at h; omega), DJob.sml_of (by unfold DHeap.sz at h; omega)⟩
theorem DHeap.cnt_le (x : DHeap) : DHeap.cnt x ≤ 8 * DHeap.sz x := by unfold DHeap.cnt DHeap.sz; have := DKernel.cnt_le x.Kernel; have := cntDRangeS_le x.Free; have := cntDSpanS_le x.Spans; have := cntDLargeS_le x.Larges; have := cntDObjS_le x.Objs; have := cntDCacheS_le x.Caches; have := DMail.cnt_le x.Mail; have := DQuar.cnt_le x.Quar; have := DJob.cnt_le x.Job; omega
def DHeap.mark (x : DHeap) (k : Int) : DHeap := { x with Kernel := DKernel.mark x.Kernel (k), Free := markDRangeS x.Free (k + (DKernel.cnt x.Kernel : Nat)), Spans := markDSpanS x.Spans (k + (DKernel.cnt x.Kernel : Nat) + (cntDRangeS x.Free : Nat)), Larges := markDLargeS x.Larges (k + (DKernel.cnt x.Kernel : Nat) + (cntDRangeS x.Free : Nat) + (cntDSpanS x.Spans : Nat)), Objs := markDObjS x.Objs (k + (DKernel.cnt x.Kernel : Nat) + (cntDRangeS x.Free : Nat) + (cntDSpanS x.Spans : Nat) + (cntDLargeS x.Larges : Nat)), Caches := markDCacheS x.Caches (k + (DKernel.cnt x.Kernel : Nat) + (cntDRangeS x.Free : Nat) + (cntDSpanS x.Spans : Nat) + (cntDLargeS x.Larges : Nat) + (cntDObjS x.Objs : Nat)), Mail := DMail.mark x.Mail (k + (DKernel.cnt x.Kernel : Nat) + (cntDRangeS x.Free : Nat) + (cntDSpanS x.Spans : Nat) + (cntDLargeS x.Larges : Nat) + (cntDObjS x.Objs : Nat) + (cntDCacheS x.Caches : Nat)), Quar := DQuar.mark x.Quar (k + (DKernel.cnt x.Kernel : Nat) + (cntDRangeS x.Free : Nat) + (cntDSpanS x.Spans : Nat) + (cntDLargeS x.Larges : Nat) + (cntDObjS x.Objs : Nat) + (cntDCacheS x.Caches : Nat) + (DMail.cnt x.Mail : Nat)), Job := DJob.mark x.Job (k + (DKernel.cnt x.Kernel : Nat) + (cntDRangeS x.Free : Nat) + (cntDSpanS x.Spans : Nat) + (cntDLargeS x.Larges : Nat) + (cntDObjS x.Objs : Nat) + (cntDCacheS x.Caches : Nat) + (DMail.cnt x.Mail : Nat) + (DQuar.cnt x.Quar : Nat)) }
/- DOwner -/
structure DOwner where
 Kind : Int
 Index : Int
 Slot : Int
 Offset : Int
deriving DecidableEq, Inhabited
def DOwner.enc (o : Own) (x : DOwner) : List C := [I x.Kind, I x.Index, I x.Slot, I x.Offset]
theorem DOwner.enc_fz (x : DOwner) : fzL (DOwner.enc .own x) = DOwner.enc .imm x := by simp [fzL, DOwner.enc]
theorem DOwner.enc_fr (x : DOwner) : frL (DOwner.enc .own x) := ⟨trivial, trivial, trivial, trivial, trivial⟩
def DOwner.wf (x : DOwner) : Prop := wfI x.Kind ∧ wfI x.Index ∧ wfI x.Slot ∧ wfI x.Offset
def DOwner.cnt (_ : DOwner) : Nat := 4
def DOwner.sml (_ : DOwner) : Prop := True
def DOwner.sz (_ : DOwner) : Nat := 0
theorem DOwner.sml_of {x : DOwner} (_ : DOwner.sz x ≤ 1048576) : DOwner.sml x := trivial
def DOwner.mark (_ : DOwner) (k : Int) : DOwner := ⟨k, k + 1, k + 1 + 1, k + 1 + 1 + 1⟩
/- DFact -/
structure DFact where
 Id : Int
 Size : Int
 Sum : Int
deriving DecidableEq, Inhabited
def DFact.enc (o : Own) (x : DFact) : List C := [I x.Id, I x.Size, I x.Sum]
theorem DFact.enc_fz (x : DFact) : fzL (DFact.enc .own x) = DFact.enc .imm x := by simp [fzL, DFact.enc]
theorem DFact.enc_fr (x : DFact) : frL (DFact.enc .own x) := ⟨trivial, trivial, trivial, trivial⟩
def DFact.wf (x : DFact) : Prop := wfI x.Id ∧ wfI x.Size ∧ wfI x.Sum
def DFact.cnt (_ : DFact) : Nat := 3
def DFact.sml (_ : DFact) : Prop := True
def DFact.sz (_ : DFact) : Nat := 0
theorem DFact.sml_of {x : DFact} (_ : DFact.sz x ≤ 1048576) : DFact.sml x := trivial
def DFact.mark (_ : DFact) (k : Int) : DFact := ⟨k, k + 1, k + 1 + 1⟩
/- DRefObj -/
structure DRefObj where
 Id : Int
 Cells : List Int
deriving DecidableEq, Inhabited
def DRefObj.enc (o : Own) (x : DRefObj) : List C := [I x.Id, .s o (x.Cells.map (rI o))]
theorem DRefObj.enc_fz (x : DRefObj) : fzL (DRefObj.enc .own x) = DRefObj.enc .imm x := by simp [fzL, DRefObj.enc, rI, ← fzL_map, Function.comp_def]
theorem DRefObj.enc_fr (x : DRefObj) : frL (DRefObj.enc .own x) := ⟨trivial, ⟨.inl fun h => (by cases h), frR_map _ _ fun y _ => rI_fr y⟩, trivial⟩
def DRefObj.wf (x : DRefObj) : Prop := wfI x.Id ∧ wfIntS x.Cells
def DRefObj.cnt (x : DRefObj) : Nat := cntIntS x.Cells
def DRefObj.sz (x : DRefObj) : Nat := szIntS x.Cells
def DRefObj.sml (x : DRefObj) : Prop := smlIntS x.Cells
theorem DRefObj.sml_of {x : DRefObj} (h : DRefObj.sz x ≤ 1048576) : DRefObj.sml x := smlIntS_of (by unfold DRefObj.sz at h; omega)
theorem DRefObj.cnt_le (x : DRefObj) : DRefObj.cnt x ≤ 8 * DRefObj.sz x := by unfold DRefObj.cnt DRefObj.sz; have := cntIntS_le x.Cells; omega
def DRefObj.mark (x : DRefObj) (k : Int) : DRefObj := { x with Cells := markIntS x.Cells (k) }
/- []DRefObj -/
def wfDRefObjS (x : List DRefObj) : Prop := x.length ≤ 9223372036854775807 ∧ ∀ y ∈ x, DRefObj.wf y
def cntDRefObjS : List DRefObj → Nat
 | [] => 0
 | x :: xs => DRefObj.cnt x + cntDRefObjS xs
def szDRefObjSE : List DRefObj → Nat
 | [] => 0
 | x :: xs => DRefObj.sz x + szDRefObjSE xs
def szDRefObjS (x : List DRefObj) : Nat := x.length + szDRefObjSE x
def smlDRefObjS (x : List DRefObj) : Prop := x.length ≤ 1048576 ∧ ∀ y ∈ x, DRefObj.sml y
def markDRefObjS : List DRefObj → Int → List DRefObj
 | [], _ => []
 | x :: xs, k => DRefObj.mark x k :: markDRefObjS xs (k + (DRefObj.cnt x : Nat))
theorem szDRefObjSE_mem : ∀ {x : List DRefObj} {y : DRefObj}, y ∈ x → DRefObj.sz y ≤ szDRefObjSE x
 | [], y, h => by simp at h
 | x :: xs, y, h => by
  simp only [szDRefObjSE]
  rcases List.mem_cons.1 h with rfl | h
  ·omega
  ·have := szDRefObjSE_mem h; omega
theorem smlDRefObjS_of {x : List DRefObj} (h : szDRefObjS x ≤ 1048576) : smlDRefObjS x := ⟨by unfold szDRefObjS at h; omega, fun y hy => DRefObj.sml_of (by have := szDRefObjSE_mem hy; unfold szDRefObjS at h; omega)⟩
theorem cntDRefObjSE_le : ∀ (x : List DRefObj), cntDRefObjS x ≤ 8 * szDRefObjSE x
 | [] => by simp [cntDRefObjS]
 | x :: xs => by have := cntDRefObjSE_le xs; have := DRefObj.cnt_le x; simp only [cntDRefObjS, szDRefObjSE]; omega
theorem cntDRefObjS_le (x : List DRefObj) : cntDRefObjS x ≤ 8 * szDRefObjS x := by have := cntDRefObjSE_le x; unfold szDRefObjS; omega
/- DRefHeap -/
structure DRefHeap where
 Next : Int
 Objs : List DRefObj
deriving DecidableEq, Inhabited
def DRefHeap.enc (o : Own) (x : DRefHeap) : List C := [I x.Next, .s o (x.Objs.map (DRefObj.enc o))]
theorem DRefHeap.enc_fz (x : DRefHeap) : fzL (DRefHeap.enc .own x) = DRefHeap.enc .imm x := by simp [fzL, DRefHeap.enc, DRefObj.enc_fz, ← fzL_map, Function.comp_def]
theorem DRefHeap.enc_fr (x : DRefHeap) : frL (DRefHeap.enc .own x) := ⟨trivial, ⟨.inl fun h => (by cases h), frR_map _ _ fun y _ => DRefObj.enc_fr y⟩, trivial⟩
def DRefHeap.wf (x : DRefHeap) : Prop := wfI x.Next ∧ wfDRefObjS x.Objs
def DRefHeap.cnt (x : DRefHeap) : Nat := cntDRefObjS x.Objs
def DRefHeap.sz (x : DRefHeap) : Nat := szDRefObjS x.Objs
def DRefHeap.sml (x : DRefHeap) : Prop := smlDRefObjS x.Objs
theorem DRefHeap.sml_of {x : DRefHeap} (h : DRefHeap.sz x ≤ 1048576) : DRefHeap.sml x := smlDRefObjS_of (by unfold DRefHeap.sz at h; omega)
theorem DRefHeap.cnt_le (x : DRefHeap) : DRefHeap.cnt x ≤ 8 * DRefHeap.sz x := by unfold DRefHeap.cnt DRefHeap.sz; have := cntDRefObjS_le x.Objs; omega
def DRefHeap.mark (x : DRefHeap) (k : Int) : DRefHeap := { x with Objs := markDRefObjS x.Objs (k) }
/- DWorld -/
structure DWorld where
 Heap : DHeap
 Ref : DRefHeap
deriving DecidableEq, Inhabited
def DWorld.enc (o : Own) (x : DWorld) : List C := [.s o (x.Heap.Kernel.Machine.Frames.Cells.map (rIntS o)), .s o (x.Heap.Kernel.Machine.Frames.Used.map (rB o)), .s o (x.Heap.Kernel.Machine.Table.Entries.map (DEntry.enc o)), I x.Heap.Kernel.Calls, .s o (x.Heap.Kernel.Refuse.map (rI o)), .s o (x.Heap.Free.map (DRange.enc o)), .s o (x.Heap.Spans.map (DSpan.enc o)), .s o (x.Heap.Larges.map (DLarge.enc o)), .s o (x.Heap.Objs.map (DObj.enc o)), .s o (x.Heap.Caches.map (DCache.enc o)), .s o (x.Heap.Mail.Buffers.map (rDPostS o)), .s o (x.Heap.Mail.Inbox.map (rIntS o)), I x.Heap.Quar.Room, .s o (x.Heap.Quar.Lst.map (DStale.enc o)), I x.Heap.Seed, I x.Heap.Clock, I x.Heap.Limit, I x.Heap.Next, B x.Heap.Meshing, I x.Heap.Job.Plan.Keep, I x.Heap.Job.Plan.Move, .s o (x.Heap.Job.Plan.Cells.map (rI o)), I x.Heap.Job.Phase, I x.Heap.Job.Next, I x.Ref.Next, .s o (x.Ref.Objs.map (DRefObj.enc o))]
theorem DWorld.enc_fz (x : DWorld) : fzL (DWorld.enc .own x) = DWorld.enc .imm x := by simp [fzL, DWorld.enc, DCache.enc_fz, DEntry.enc_fz, DLarge.enc_fz, DObj.enc_fz, DRange.enc_fz, DRefObj.enc_fz, DSpan.enc_fz, DStale.enc_fz, rB, rDPostS_fz, rI, rIntS_fz, ← fzL_map, Function.comp_def]
theorem DWorld.enc_fr (x : DWorld) : frL (DWorld.enc .own x) := ⟨⟨.inl fun h => (by cases h), frR_map _ _ fun y _ => rIntS_fr y⟩, ⟨.inl fun h => (by cases h), frR_map _ _ fun y _ => rB_fr y⟩, ⟨.inl fun h => (by cases h), frR_map _ _ fun y _ => DEntry.enc_fr y⟩, trivial, ⟨.inl fun h => (by cases h), frR_map _ _ fun y _ => rI_fr y⟩, ⟨.inl fun h => (by cases h), frR_map _ _ fun y _ => DRange.enc_fr y⟩, ⟨.inl fun h => (by cases h), frR_map _ _ fun y _ => DSpan.enc_fr y⟩, ⟨.inl fun h => (by cases h), frR_map _ _ fun y _ => DLarge.enc_fr y⟩, ⟨.inl fun h => (by cases h), frR_map _ _ fun y _ => DObj.enc_fr y⟩, ⟨.inl fun h => (by cases h), frR_map _ _ fun y _ => DCache.enc_fr y⟩, ⟨.inl fun h => (by cases h), frR_map _ _ fun y _ => rDPostS_fr y⟩, ⟨.inl fun h => (by cases h), frR_map _ _ fun y _ => rIntS_fr y⟩, trivial, ⟨.inl fun h => (by cases h), frR_map _ _ fun y _ => DStale.enc_fr y⟩, trivial, trivial, trivial, trivial, trivial, trivial, trivial, ⟨.inl fun h => (by cases h), frR_map _ _ fun y _ => rI_fr y⟩, trivial, trivial, trivial, ⟨.inl fun h => (by cases h), frR_map _ _ fun y _ => DRefObj.enc_fr y⟩, trivial⟩
def DWorld.wf (x : DWorld) : Prop := DHeap.wf x.Heap ∧ DRefHeap.wf x.Ref
def DWorld.cnt (x : DWorld) : Nat := DHeap.cnt x.Heap + DRefHeap.cnt x.Ref
def DWorld.sz (x : DWorld) : Nat := DHeap.sz x.Heap + DRefHeap.sz x.Ref
def DWorld.sml (x : DWorld) : Prop := DHeap.sml x.Heap ∧ DRefHeap.sml x.Ref
theorem DWorld.sml_of {x : DWorld} (h : DWorld.sz x ≤ 1048576) : DWorld.sml x := ⟨DHeap.sml_of (by unfold DWorld.sz at h; omega), DRefHeap.sml_of (by unfold DWorld.sz at h; omega)⟩
theorem DWorld.cnt_le (x : DWorld) : DWorld.cnt x ≤ 8 * DWorld.sz x := by unfold DWorld.cnt DWorld.sz; have := DHeap.cnt_le x.Heap; have := DRefHeap.cnt_le x.Ref; omega
def DWorld.mark (x : DWorld) (k : Int) : DWorld := { x with Heap := DHeap.mark x.Heap (k), Ref := DRefHeap.mark x.Ref (k + (DHeap.cnt x.Heap : Nat)) }
/- DAccount -/
structure DAccount where
 Pages : Int
 Mapped : Int
 Frames : Int
 Held : Int
 Live : Int
 Cached : Int
 Stale : Int
 Posted : Int
deriving DecidableEq, Inhabited
def DAccount.enc (o : Own) (x : DAccount) : List C := [I x.Pages, I x.Mapped, I x.Frames, I x.Held, I x.Live, I x.Cached, I x.Stale, I x.Posted]
theorem DAccount.enc_fz (x : DAccount) : fzL (DAccount.enc .own x) = DAccount.enc .imm x := by simp [fzL, DAccount.enc]
theorem DAccount.enc_fr (x : DAccount) : frL (DAccount.enc .own x) := ⟨trivial, trivial, trivial, trivial, trivial, trivial, trivial, trivial, trivial⟩
def DAccount.wf (x : DAccount) : Prop := wfI x.Pages ∧ wfI x.Mapped ∧ wfI x.Frames ∧ wfI x.Held ∧ wfI x.Live ∧ wfI x.Cached ∧ wfI x.Stale ∧ wfI x.Posted
def DAccount.cnt (_ : DAccount) : Nat := 8
def DAccount.sml (_ : DAccount) : Prop := True
def DAccount.sz (_ : DAccount) : Nat := 0
theorem DAccount.sml_of {x : DAccount} (_ : DAccount.sz x ≤ 1048576) : DAccount.sml x := trivial
def DAccount.mark (_ : DAccount) (k : Int) : DAccount := ⟨k, k + 1, k + 1 + 1, k + 1 + 1 + 1, k + 1 + 1 + 1 + 1, k + 1 + 1 + 1 + 1 + 1, k + 1 + 1 + 1 + 1 + 1 + 1, k + 1 + 1 + 1 + 1 + 1 + 1 + 1⟩
end Go.Proofs.YtogajjgmcnjkbaaGreat.Ab
/- Short names of the steps of a walk. No condition. -/
namespace Go.Proofs.YtogajjgmcnjkbaaGreat.Ab
open Go.RowKit
theorem Lm {α β : Type} {f : α → β} {l : List α} {K : Nat → Prop} (h : K l.length) : Ln (l.map f).length K := Ln.mk (List.length_map ..) h
theorem Wm {z : Int} {K : Int → Prop} (h : -9223372036854775808 ≤ z ∧ z ≤ 9223372036854775807) (hK : K z) : Wr .i64 z K := Wr.mk (wrapI h.1 h.2) hK
theorem dT {p : Prop} [Decidable p] {X Y : Prop} (h : p) (hX : p → X) : Bf (decide p) X Y := .D hX fun e => absurd h e
theorem dF {p : Prop} [Decidable p] {X Y : Prop} (h : ¬ p) (hY : ¬ p → Y) : Bf (decide p) X Y := .D (fun e => absurd e h) hY
theorem nT {a b : Int} {X Y : Prop} (h : a ≠ b) (hX : a ≠ b → X) : Bf (a != b) X Y := .N hX fun e => absurd e h
theorem nF {a b : Int} {X Y : Prop} (h : a = b) (hY : a = b → Y) : Bf (a != b) X Y := .N (fun e => absurd h e) hY
theorem eT {a b : Int} {X Y : Prop} (h : a = b) (hX : a = b → X) : Bf (a == b) X Y := .E hX fun e => absurd h e
theorem eF {a b : Int} {X Y : Prop} (h : a ≠ b) (hY : a ≠ b → Y) : Bf (a == b) X Y := .E (fun e => absurd e h) hY
theorem Bn {b : Bool} {X Y : Prop} (h : Bf b Y X) : Bf (!b) X Y := .not h
theorem Bt {X Y : Prop} (h : X) : Bf true X Y := .t rfl h
theorem Bu {X Y : Prop} (h : Y) : Bf false X Y := .f rfl h
theorem Fm {k k' : Kd} {cs cs' : List C} (h1 : k = k') (h : cs = cs') : Fin_ k k' cs cs' := .mk h1 h
theorem fO {n f : Nat} {fn : Func} {c : Code} {sh : Bool} {A : List RA} {k : Kd} {rcs : List C} (tb : List (Nat × Nat × List Nat)) (hf : Tryz.prog.funcs[f]? = some fn) (hn : (fn.name == "runtime.NumGoroutine") = false) (hb : fn.body = some c) (hc : codeOk (drawOk tb) c = true) (hN : A.length + (fn.ntmps - A.length) = n) (hsh : sh = true ∨ frL rcs) (hp : aw Tryz.prog TE ⟨n, [], []⟩ (DD Tryz.prog TE ⟨n, [], []⟩ tb) c (endA TE fn.results.toList k rcs) (lay (argL 0 A))) : CallsA Tryz.prog f sh A k rcs := fnOk hf hn hb hc hN hsh hp
end Go.Proofs.YtogajjgmcnjkbaaGreat.Ab
