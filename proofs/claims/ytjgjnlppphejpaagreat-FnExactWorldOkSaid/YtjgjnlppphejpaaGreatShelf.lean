/-
 DERIVED: THE SHELF's CONTRACTS AT THIS DUMP, IN PLAIN WORDS (tools/lay-plain.mjs out of 'TryzShelf.lean', which tools/lay-shelf.mjs wrote): THE SAME DECLARATIONS UNDER THE SAME NAMES: 'import', 'namespace', 'open', 'def', 'theorem' AND NOTHING ELSE: no command of the shelf's: FOR A HAND-IN. Each laying: the table of numbers ('.._ren') and one theorem, a field a fact of the dump's own or the kernel's comparison; each contract: ONE APPLICATION.
-/
import Derived.Shelf.Sort.Plain
import Derived.Shelf.Slices.In.SortNone
import Derived.Test.YtjgjnlppphejpaaGreatProg
namespace Go.Proofs
open Go.Shelf
def Tryz.lays189_ren : Go.Shelf.Ren := ⟨fun | 189 => 272 | 125 => 209 | 257 => 312 | 128 => 292 | 129 => 293 | 294 => 323 | 295 => 324 | 296 => 325 | 297 => 326 | 298 => 327 | 299 => 328 | 216 => 329 | 300 => 330 | 301 => 331 | 328 => 334 | 329 => 317 | 330 => 318 | 331 => 335 | 332 => 336 | 215 => 337 | 343 => 338 | n => n, fun | 28 => 31 | 3 => 3 | 46 => 260 | 0 => 0 | 51 => 323 | 53 => 325 | 4 => 4 | 183 => 316 | 182 => 315 | 131 => 320 | 5 => 5 | 9 => 9 | 218 => 339 | 222 => 343 | 228 => 354 | 229 => 301 | n => n, fun | n => n⟩
theorem Tryz.lays189 : Go.Proofs.Lays.n189 Tryz.prog Tryz.lays189_ren := {
  mixed := by kernel_rfl
  f125 := Tryz.func209.trans (congrArg some (by kernel_rfl))
  f128 := Tryz.func292.trans (congrArg some (by kernel_rfl))
  f129 := Tryz.func293.trans (congrArg some (by kernel_rfl))
  f189 := Tryz.func272.trans (congrArg some (by kernel_rfl))
  f215 := Tryz.func337.trans (congrArg some (by kernel_rfl))
  f216 := Tryz.func329.trans (congrArg some (by kernel_rfl))
  f257 := Tryz.func312.trans (congrArg some (by kernel_rfl))
  f294 := Tryz.func323.trans (congrArg some (by kernel_rfl))
  f295 := Tryz.func324.trans (congrArg some (by kernel_rfl))
  f296 := Tryz.func325.trans (congrArg some (by kernel_rfl))
  f297 := Tryz.func326.trans (congrArg some (by kernel_rfl))
  f298 := Tryz.func327.trans (congrArg some (by kernel_rfl))
  f299 := Tryz.func328.trans (congrArg some (by kernel_rfl))
  f300 := Tryz.func330.trans (congrArg some (by kernel_rfl))
  f301 := Tryz.func331.trans (congrArg some (by kernel_rfl))
  f328 := Tryz.func334.trans (congrArg some (by kernel_rfl))
  f329 := Tryz.func317.trans (congrArg some (by kernel_rfl))
  f330 := Tryz.func318.trans (congrArg some (by kernel_rfl))
  f331 := Tryz.func335.trans (congrArg some (by kernel_rfl))
  f332 := Tryz.func336.trans (congrArg some (by kernel_rfl))
  f343 := Tryz.func338.trans (congrArg some (by kernel_rfl))
  t0 := Tryz.underlying0
  a0 := Tryz.isAgg0
  z0 := Tryz.sizeOf0
  v0 := Tryz.zeroValue0
  t3 := Tryz.underlying3
  a3 := Tryz.isAgg3
  z3 := Tryz.sizeOf3
  v3 := Tryz.zeroValue3
  t4 := Tryz.underlying4
  a4 := Tryz.isAgg4
  z4 := Tryz.sizeOf4
  v4 := Tryz.zeroValue4
  t5 := Tryz.underlying5
  a5 := Tryz.isAgg5
  z5 := Tryz.sizeOf5
  v5 := Tryz.zeroValue5
  t9 := Tryz.underlying9
  a9 := Tryz.isAgg9
  z9 := Tryz.sizeOf9
  v9 := Tryz.zeroValue9
  t28 := Tryz.underlying31
  a28 := Tryz.isAgg31
  z28 := Tryz.sizeOf31
  v28 := Tryz.zeroValue31
  t46 := Tryz.underlying260
  a46 := Tryz.isAgg260
  z46 := Tryz.sizeOf260
  v46 := Tryz.zeroValue260
  t51 := Tryz.underlying323
  a51 := Tryz.isAgg323
  z51 := Tryz.sizeOf323
  v51 := Tryz.zeroValue323
  t53 := Tryz.underlying325
  a53 := Tryz.isAgg325
  z53 := Tryz.sizeOf325
  v53 := Tryz.zeroValue325
  t131 := Tryz.underlying320
  a131 := Tryz.isAgg320
  z131 := Tryz.sizeOf320
  v131 := Tryz.zeroValue320
  t182 := Tryz.underlying315
  a182 := Tryz.isAgg315
  z182 := Tryz.sizeOf315
  v182 := Tryz.zeroValue315
  t183 := Tryz.underlying316
  a183 := Tryz.isAgg316
  z183 := Tryz.sizeOf316
  v183 := Tryz.zeroValue316
  t218 := Tryz.underlying339
  a218 := Tryz.isAgg339
  z218 := Tryz.sizeOf339
  v218 := Tryz.zeroValue339
  t222 := Tryz.underlying343
  a222 := Tryz.isAgg343
  z222 := Tryz.sizeOf343
  v222 := Tryz.zeroValue343
  t228 := Tryz.underlying354
  a228 := Tryz.isAgg354
  z228 := Tryz.sizeOf354
  v228 := Tryz.zeroValue354
  t229 := Tryz.underlying301
  a229 := Tryz.isAgg301
  z229 := Tryz.sizeOf301
  v229 := Tryz.zeroValue301 }
open Go.Sort Go.RowKit in
theorem Tryz.slices_Sort_int (blk off cap : Nat) (zs : List Int) (w : World) (hH : Holds (Value.int .i64) w blk off zs.toArray) (hblk : blk < w.heap.size) (hsz : zs.length < 4611686018427387904) :
  Calls Tryz.prog 272 #[.slice (some ⟨blk, off, none⟩) zs.length cap] w fun e w' =>
   e = .returned (.tuple #[]) ∧ ∃ n os, w' = grow (putRow (Value.int .i64) (Sort.ahead w n) blk off (zs.mergeSort fun x y => decide (x ≤ y)).toArray) os := Any.slices_Sort_int Tryz.lays189 blk off cap zs w hH hblk hsz
open Go.RowKit Go.Sort in
/-- .. and plain. (LAID: no walk: one application.) -/
theorem Tryz.slices_Sort_int_none (p : Option Addr) (cap : Nat) (w : World) :
  Calls Tryz.prog 272 #[.slice p 0 cap] w fun e w' => e = .returned (.tuple #[]) ∧ w' = w := Any.slices_Sort_int_none Tryz.lays189 p cap w
end Go.Proofs
