/-
 DERIVED: THE SHELF's CONTRACTS AT THIS DUMP, IN PLAIN WORDS (tools/lay-plain.mjs out of 'TryzShelf.lean', which tools/lay-shelf.mjs wrote): THE SAME DECLARATIONS UNDER THE SAME NAMES: 'import', 'namespace', 'open', 'def', 'theorem' AND NOTHING ELSE: no command of the shelf's: FOR A HAND-IN. Each laying: the table of numbers ('.._ren') and one theorem, a field a fact of the dump's own or the kernel's comparison; each contract: ONE APPLICATION.
-/
import Derived.Shelf.Sort.Plain
import Derived.Shelf.Slices.In.SortNone
import Derived.Test.YtecefhjnejfheaaGreatProg
namespace Go.Proofs
open Go.Shelf
def Tryz.lays189_ren:Go.Shelf.Ren:=⟨fun|189=>393|125=>264|257=>493|128=>405|129=>406|294=>542|295=>543|296=>544|297=>545|298=>546|299=>547|216=>548|300=>549|301=>550|328=>575|329=>495|330=>496|331=>576|332=>577|215=>578|343=>589|n=>n,fun|28=>33|3=>3|46=>309|0=>0|51=>407|53=>409|4=>4|183=>401|182=>400|131=>136|5=>5|9=>9|218=>461|222=>465|228=>490|229=>145|n=>n,fun|n=>n⟩
theorem Tryz.lays189:Go.Proofs.Lays.n189 Tryz.prog Tryz.lays189_ren:={
  mixed:=by kernel_rfl
  f125:=Tryz.func264.trans (congrArg some (by kernel_rfl))
  f128:=Tryz.func405.trans (congrArg some (by kernel_rfl))
  f129:=Tryz.func406.trans (congrArg some (by kernel_rfl))
  f189:=Tryz.func393.trans (congrArg some (by kernel_rfl))
  f215:=Tryz.func578.trans (congrArg some (by kernel_rfl))
  f216:=Tryz.func548.trans (congrArg some (by kernel_rfl))
  f257:=Tryz.func493.trans (congrArg some (by kernel_rfl))
  f294:=Tryz.func542.trans (congrArg some (by kernel_rfl))
  f295:=Tryz.func543.trans (congrArg some (by kernel_rfl))
  f296:=Tryz.func544.trans (congrArg some (by kernel_rfl))
  f297:=Tryz.func545.trans (congrArg some (by kernel_rfl))
  f298:=Tryz.func546.trans (congrArg some (by kernel_rfl))
  f299:=Tryz.func547.trans (congrArg some (by kernel_rfl))
  f300:=Tryz.func549.trans (congrArg some (by kernel_rfl))
  f301:=Tryz.func550.trans (congrArg some (by kernel_rfl))
  f328:=Tryz.func575.trans (congrArg some (by kernel_rfl))
  f329:=Tryz.func495.trans (congrArg some (by kernel_rfl))
  f330:=Tryz.func496.trans (congrArg some (by kernel_rfl))
  f331:=Tryz.func576.trans (congrArg some (by kernel_rfl))
  f332:=Tryz.func577.trans (congrArg some (by kernel_rfl))
  f343:=Tryz.func589.trans (congrArg some (by kernel_rfl))
  t0:=Tryz.underlying0
  a0:=Tryz.isAgg0
  z0:=Tryz.sizeOf0
  v0:=Tryz.zeroValue0
  t3:=Tryz.underlying3
  a3:=Tryz.isAgg3
  z3:=Tryz.sizeOf3
  v3:=Tryz.zeroValue3
  t4:=Tryz.underlying4
  a4:=Tryz.isAgg4
  z4:=Tryz.sizeOf4
  v4:=Tryz.zeroValue4
  t5:=Tryz.underlying5
  a5:=Tryz.isAgg5
  z5:=Tryz.sizeOf5
  v5:=Tryz.zeroValue5
  t9:=Tryz.underlying9
  a9:=Tryz.isAgg9
  z9:=Tryz.sizeOf9
  v9:=Tryz.zeroValue9
  t28:=Tryz.underlying33
  a28:=Tryz.isAgg33
  z28:=Tryz.sizeOf33
  v28:=Tryz.zeroValue33
  t46:=Tryz.underlying309
  a46:=Tryz.isAgg309
  z46:=Tryz.sizeOf309
  v46:=Tryz.zeroValue309
  t51:=Tryz.underlying407
  a51:=Tryz.isAgg407
  z51:=Tryz.sizeOf407
  v51:=Tryz.zeroValue407
  t53:=Tryz.underlying409
  a53:=Tryz.isAgg409
  z53:=Tryz.sizeOf409
  v53:=Tryz.zeroValue409
  t131:=Tryz.underlying136
  a131:=Tryz.isAgg136
  z131:=Tryz.sizeOf136
  v131:=Tryz.zeroValue136
  t182:=Tryz.underlying400
  a182:=Tryz.isAgg400
  z182:=Tryz.sizeOf400
  v182:=Tryz.zeroValue400
  t183:=Tryz.underlying401
  a183:=Tryz.isAgg401
  z183:=Tryz.sizeOf401
  v183:=Tryz.zeroValue401
  t218:=Tryz.underlying461
  a218:=Tryz.isAgg461
  z218:=Tryz.sizeOf461
  v218:=Tryz.zeroValue461
  t222:=Tryz.underlying465
  a222:=Tryz.isAgg465
  z222:=Tryz.sizeOf465
  v222:=Tryz.zeroValue465
  t228:=Tryz.underlying490
  a228:=Tryz.isAgg490
  z228:=Tryz.sizeOf490
  v228:=Tryz.zeroValue490
  t229:=Tryz.underlying145
  a229:=Tryz.isAgg145
  z229:=Tryz.sizeOf145
  v229:=Tryz.zeroValue145}
open Go.Sort Go.RowKit in
theorem Tryz.slices_Sort_int (blk off cap:Nat) (zs:List Int) (w:World) (hH:Holds (Value.int .i64) w blk off zs.toArray) (hblk:blk<w.heap.size) (hsz:zs.length<4611686018427387904) :
  Calls Tryz.prog 393 #[.slice (some ⟨blk,off,none⟩) zs.length cap] w fun e w'=>
   e=.returned (.tuple #[])∧∃ n os,w'=grow (putRow (Value.int .i64) (Sort.ahead w n) blk off (zs.mergeSort fun x y=>decide (x≤y)).toArray) os:=Any.slices_Sort_int Tryz.lays189 blk off cap zs w hH hblk hsz
open Go.RowKit Go.Sort in
theorem Tryz.slices_Sort_int_none (p:Option Addr) (cap:Nat) (w:World) :
  Calls Tryz.prog 393 #[.slice p 0 cap] w fun e w'=>e=.returned (.tuple #[])∧w'=w:=Any.slices_Sort_int_none Tryz.lays189 p cap w
end Go.Proofs
