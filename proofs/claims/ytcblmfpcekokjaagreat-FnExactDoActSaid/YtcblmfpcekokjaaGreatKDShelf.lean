/-
  DERIVED: THE SHELF's CONTRACTS AT THIS DUMP, IN PLAIN WORDS (tools/lay-plain.mjs out of 'TryzShelf.lean', which tools/lay-shelf.mjs wrote): THE SAME DECLARATIONS UNDER THE SAME NAMES: 'import', 'namespace', 'open', 'def', 'theorem' AND NOTHING ELSE: no command of the shelf's: FOR A HAND-IN. Each laying: the table of numbers ('.._ren') and one theorem, a field a fact of the dump's own or the kernel's comparison; each contract: ONE APPLICATION.
-/
import Derived.Shelf.Sort.Plain
import Derived.Shelf.Slices.In.SortNone
import Derived.Test.YtcblmfpcekokjaaGreatProg
namespace Go.Proofs
open Go.Shelf
def Tryz.lays189_ren : Go.Shelf.Ren := ⟨fun | 189 => 368 | 125 => 441 | 257 => 440 | 128 => 474 | 129 => 475 | 294 => 465 | 295 => 466 | 296 => 467 | 297 => 468 | 298 => 469 | 299 => 470 | 216 => 471 | 300 => 472 | 301 => 473 | 328 => 481 | 329 => 482 | 330 => 483 | 331 => 484 | 332 => 485 | 215 => 486 | 343 => 488 | n => n, fun | 28 => 31 | 3 => 3 | 46 => 349 | 0 => 0 | 51 => 435 | 53 => 437 | 4 => 4 | 183 => 429 | 182 => 428 | 131 => 167 | 5 => 5 | 9 => 9 | 218 => 442 | 222 => 446 | 228 => 449 | 229 => 147 | n => n, fun | n => n⟩
theorem Tryz.lays189 : Go.Proofs.Lays.n189 Tryz.prog Tryz.lays189_ren := {
  mixed := by kernel_rfl
  f125 := Tryz.func441.trans (congrArg some (by kernel_rfl))
  f128 := Tryz.func474.trans (congrArg some (by kernel_rfl))
  f129 := Tryz.func475.trans (congrArg some (by kernel_rfl))
  f189 := Tryz.func368.trans (congrArg some (by kernel_rfl))
  f215 := Tryz.func486.trans (congrArg some (by kernel_rfl))
  f216 := Tryz.func471.trans (congrArg some (by kernel_rfl))
  f257 := Tryz.func440.trans (congrArg some (by kernel_rfl))
  f294 := Tryz.func465.trans (congrArg some (by kernel_rfl))
  f295 := Tryz.func466.trans (congrArg some (by kernel_rfl))
  f296 := Tryz.func467.trans (congrArg some (by kernel_rfl))
  f297 := Tryz.func468.trans (congrArg some (by kernel_rfl))
  f298 := Tryz.func469.trans (congrArg some (by kernel_rfl))
  f299 := Tryz.func470.trans (congrArg some (by kernel_rfl))
  f300 := Tryz.func472.trans (congrArg some (by kernel_rfl))
  f301 := Tryz.func473.trans (congrArg some (by kernel_rfl))
  f328 := Tryz.func481.trans (congrArg some (by kernel_rfl))
  f329 := Tryz.func482.trans (congrArg some (by kernel_rfl))
  f330 := Tryz.func483.trans (congrArg some (by kernel_rfl))
  f331 := Tryz.func484.trans (congrArg some (by kernel_rfl))
  f332 := Tryz.func485.trans (congrArg some (by kernel_rfl))
  f343 := Tryz.func488.trans (congrArg some (by kernel_rfl))
  t0 := Tryz.underlying0
  a0 := Tryz.isAgg0
  z0 := Tryz.sizeOf0
  v0 := Tryz.zeroValue0
  t3 := Tryz.underlying3
  a3 := Tryz.isAgg3
  z3 := Tryz.sizeOf3
  v3 := Tryz.zeroValue3
  t4 := Tryz.underlying4
  a4 := Tryz.isAgg4
  z4 := Tryz.sizeOf4
  v4 := Tryz.zeroValue4
  t5 := Tryz.underlying5
  a5 := Tryz.isAgg5
  z5 := Tryz.sizeOf5
  v5 := Tryz.zeroValue5
  t9 := Tryz.underlying9
  a9 := Tryz.isAgg9
  z9 := Tryz.sizeOf9
  v9 := Tryz.zeroValue9
  t28 := Tryz.underlying31
  a28 := Tryz.isAgg31
  z28 := Tryz.sizeOf31
  v28 := Tryz.zeroValue31
  t46 := Tryz.underlying349
  a46 := Tryz.isAgg349
  z46 := Tryz.sizeOf349
  v46 := Tryz.zeroValue349
  t51 := Tryz.underlying435
  a51 := Tryz.isAgg435
  z51 := Tryz.sizeOf435
  v51 := Tryz.zeroValue435
  t53 := Tryz.underlying437
  a53 := Tryz.isAgg437
  z53 := Tryz.sizeOf437
  v53 := Tryz.zeroValue437
  t131 := Tryz.underlying167
  a131 := Tryz.isAgg167
  z131 := Tryz.sizeOf167
  v131 := Tryz.zeroValue167
  t182 := Tryz.underlying428
  a182 := Tryz.isAgg428
  z182 := Tryz.sizeOf428
  v182 := Tryz.zeroValue428
  t183 := Tryz.underlying429
  a183 := Tryz.isAgg429
  z183 := Tryz.sizeOf429
  v183 := Tryz.zeroValue429
  t218 := Tryz.underlying442
  a218 := Tryz.isAgg442
  z218 := Tryz.sizeOf442
  v218 := Tryz.zeroValue442
  t222 := Tryz.underlying446
  a222 := Tryz.isAgg446
  z222 := Tryz.sizeOf446
  v222 := Tryz.zeroValue446
  t228 := Tryz.underlying449
  a228 := Tryz.isAgg449
  z228 := Tryz.sizeOf449
  v228 := Tryz.zeroValue449
  t229 := Tryz.underlying147
  a229 := Tryz.isAgg147
  z229 := Tryz.sizeOf147
  v229 := Tryz.zeroValue147 }
open Go.Sort Go.RowKit in
theorem Tryz.slices_Sort_int (blk off cap : Nat) (zs : List Int) (w : World) (hH : Holds (Value.int .i64) w blk off zs.toArray) (hblk : blk < w.heap.size) (hsz : zs.length < 4611686018427387904) :
    Calls Tryz.prog 368 #[.slice (some ⟨blk, off, none⟩) zs.length cap] w fun e w' =>
      e = .returned (.tuple #[]) ∧ ∃ n os, w' = grow (putRow (Value.int .i64) (Sort.ahead w n) blk off (zs.mergeSort fun x y => decide (x ≤ y)).toArray) os := Any.slices_Sort_int Tryz.lays189 blk off cap zs w hH hblk hsz
open Go.RowKit Go.Sort in
theorem Tryz.slices_Sort_int_none (p : Option Addr) (cap : Nat) (w : World) :
    Calls Tryz.prog 368 #[.slice p 0 cap] w fun e w' => e = .returned (.tuple #[]) ∧ w' = w := Any.slices_Sort_int_none Tryz.lays189 p cap w
end Go.Proofs
