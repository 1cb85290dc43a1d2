/-
 DERIVED: THE SHELF's CONTRACTS AT THIS DUMP, IN PLAIN WORDS (tools/lay-plain.mjs out of 'TryzShelf3.lean', which tools/lay-shelf.mjs wrote): THE SAME DECLARATIONS UNDER THE SAME NAMES: 'import', 'namespace', 'open', 'def', 'theorem' AND NOTHING ELSE: no command of the shelf's: FOR A HAND-IN. Each laying: the table of numbers ('.._ren') and one theorem, a field a fact of the dump's own or the kernel's comparison; each contract: ONE APPLICATION.
-/
import Derived.Shelf.Sort.Plain
import Derived.Shelf.Slices.In.SortNone
import Derived.Test.YtogajjgmcnjkbaaGreatProg
namespace Go.Proofs
open Go.Shelf
def Tryz.lays189_ren:Go.Shelf.Ren:=⟨fun|189=>316|125=>354|257=>353|128=>380|129=>381|294=>371|295=>372|296=>373|297=>374|298=>375|299=>376|216=>377|300=>378|301=>379|328=>391|329=>392|330=>393|331=>394|332=>395|215=>396|343=>401|n=>n,fun|28=>31|3=>3|46=>276|0=>0|51=>364|53=>366|4=>4|183=>357|182=>356|131=>361|5=>5|9=>9|218=>372|222=>376|228=>379|229=>305|n=>n,fun|n=>n⟩
theorem Tryz.lays189:Go.Proofs.Lays.n189 Tryz.prog Tryz.lays189_ren:={
  mixed:=by kernel_rfl
  f125:=Tryz.func354.trans (congrArg some (by kernel_rfl))
  f128:=Tryz.func380.trans (congrArg some (by kernel_rfl))
  f129:=Tryz.func381.trans (congrArg some (by kernel_rfl))
  f189:=Tryz.func316.trans (congrArg some (by kernel_rfl))
  f215:=Tryz.func396.trans (congrArg some (by kernel_rfl))
  f216:=Tryz.func377.trans (congrArg some (by kernel_rfl))
  f257:=Tryz.func353.trans (congrArg some (by kernel_rfl))
  f294:=Tryz.func371.trans (congrArg some (by kernel_rfl))
  f295:=Tryz.func372.trans (congrArg some (by kernel_rfl))
  f296:=Tryz.func373.trans (congrArg some (by kernel_rfl))
  f297:=Tryz.func374.trans (congrArg some (by kernel_rfl))
  f298:=Tryz.func375.trans (congrArg some (by kernel_rfl))
  f299:=Tryz.func376.trans (congrArg some (by kernel_rfl))
  f300:=Tryz.func378.trans (congrArg some (by kernel_rfl))
  f301:=Tryz.func379.trans (congrArg some (by kernel_rfl))
  f328:=Tryz.func391.trans (congrArg some (by kernel_rfl))
  f329:=Tryz.func392.trans (congrArg some (by kernel_rfl))
  f330:=Tryz.func393.trans (congrArg some (by kernel_rfl))
  f331:=Tryz.func394.trans (congrArg some (by kernel_rfl))
  f332:=Tryz.func395.trans (congrArg some (by kernel_rfl))
  f343:=Tryz.func401.trans (congrArg some (by kernel_rfl))
  t0:=Tryz.underlying0
  a0:=Tryz.isAgg0
  z0:=Tryz.sizeOf0
  v0:=Tryz.zeroValue0
  t3:=Tryz.underlying3
  a3:=Tryz.isAgg3
  z3:=Tryz.sizeOf3
  v3:=Tryz.zeroValue3
  t4:=Tryz.underlying4
  a4:=Tryz.isAgg4
  z4:=Tryz.sizeOf4
  v4:=Tryz.zeroValue4
  t5:=Tryz.underlying5
  a5:=Tryz.isAgg5
  z5:=Tryz.sizeOf5
  v5:=Tryz.zeroValue5
  t9:=Tryz.underlying9
  a9:=Tryz.isAgg9
  z9:=Tryz.sizeOf9
  v9:=Tryz.zeroValue9
  t28:=Tryz.underlying31
  a28:=Tryz.isAgg31
  z28:=Tryz.sizeOf31
  v28:=Tryz.zeroValue31
  t46:=Tryz.underlying276
  a46:=Tryz.isAgg276
  z46:=Tryz.sizeOf276
  v46:=Tryz.zeroValue276
  t51:=Tryz.underlying364
  a51:=Tryz.isAgg364
  z51:=Tryz.sizeOf364
  v51:=Tryz.zeroValue364
  t53:=Tryz.underlying366
  a53:=Tryz.isAgg366
  z53:=Tryz.sizeOf366
  v53:=Tryz.zeroValue366
  t131:=Tryz.underlying361
  a131:=Tryz.isAgg361
  z131:=Tryz.sizeOf361
  v131:=Tryz.zeroValue361
  t182:=Tryz.underlying356
  a182:=Tryz.isAgg356
  z182:=Tryz.sizeOf356
  v182:=Tryz.zeroValue356
  t183:=Tryz.underlying357
  a183:=Tryz.isAgg357
  z183:=Tryz.sizeOf357
  v183:=Tryz.zeroValue357
  t218:=Tryz.underlying372
  a218:=Tryz.isAgg372
  z218:=Tryz.sizeOf372
  v218:=Tryz.zeroValue372
  t222:=Tryz.underlying376
  a222:=Tryz.isAgg376
  z222:=Tryz.sizeOf376
  v222:=Tryz.zeroValue376
  t228:=Tryz.underlying379
  a228:=Tryz.isAgg379
  z228:=Tryz.sizeOf379
  v228:=Tryz.zeroValue379
  t229:=Tryz.underlying305
  a229:=Tryz.isAgg305
  z229:=Tryz.sizeOf305
  v229:=Tryz.zeroValue305}
open Go.Sort Go.RowKit in
theorem Tryz.slices_Sort_int (blk off cap:Nat) (zs:List Int) (w:World) (hH:Holds (Value.int .i64) w blk off zs.toArray) (hblk:blk<w.heap.size) (hsz:zs.length<4611686018427387904) :
  Calls Tryz.prog 316 #[.slice (some ⟨blk,off,none⟩) zs.length cap] w fun e w'=>
   e=.returned (.tuple #[])∧∃ n os,w'=grow (putRow (Value.int .i64) (Sort.ahead w n) blk off (zs.mergeSort fun x y=>decide (x≤y)).toArray) os:=Any.slices_Sort_int Tryz.lays189 blk off cap zs w hH hblk hsz
open Go.RowKit Go.Sort in
theorem Tryz.slices_Sort_int_none (p:Option Addr) (cap:Nat) (w:World) :
  Calls Tryz.prog 316 #[.slice p 0 cap] w fun e w'=>e=.returned (.tuple #[])∧w'=w:=Any.slices_Sort_int_none Tryz.lays189 p cap w
end Go.Proofs
