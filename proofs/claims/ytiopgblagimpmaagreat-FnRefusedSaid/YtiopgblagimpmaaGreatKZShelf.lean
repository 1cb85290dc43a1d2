/-
 DERIVED: THE SHELF's CONTRACTS AT THIS DUMP, IN PLAIN WORDS (tools/lay-plain.mjs out of 'TryzShelf.lean', which tools/lay-shelf.mjs wrote): THE SAME DECLARATIONS UNDER THE SAME NAMES: 'import', 'namespace', 'open', 'def', 'theorem' AND NOTHING ELSE: no command of the shelf's: FOR A HAND-IN. Each laying: the table of numbers ('.._ren') and one theorem, a field a fact of the dump's own or the kernel's comparison; each contract: ONE APPLICATION.
-/
import Derived.Shelf.Sort.Plain
import Derived.Shelf.Slices.In.SortNone
import Derived.Test.YtiopgblagimpmaaGreatProg
namespace Go.Proofs
open Go.Shelf
def Tryz.lays189_ren:Go.Shelf.Ren:=⟨fun|189=>383|125=>251|257=>490|128=>400|129=>401|294=>550|295=>551|296=>552|297=>553|298=>554|299=>555|216=>556|300=>557|301=>558|328=>582|329=>498|330=>499|331=>583|332=>584|215=>585|343=>589|n=>n,fun|28=>33|3=>3|46=>304|0=>0|51=>415|53=>417|4=>4|183=>409|182=>408|131=>142|5=>5|9=>9|218=>470|222=>474|228=>507|229=>151|n=>n,fun|n=>n⟩
theorem Tryz.lays189:Go.Proofs.Lays.n189 Tryz.prog Tryz.lays189_ren:={
  mixed:=by kernel_rfl
  f125:=Tryz.func251.trans (congrArg some (by kernel_rfl))
  f128:=Tryz.func400.trans (congrArg some (by kernel_rfl))
  f129:=Tryz.func401.trans (congrArg some (by kernel_rfl))
  f189:=Tryz.func383.trans (congrArg some (by kernel_rfl))
  f215:=Tryz.func585.trans (congrArg some (by kernel_rfl))
  f216:=Tryz.func556.trans (congrArg some (by kernel_rfl))
  f257:=Tryz.func490.trans (congrArg some (by kernel_rfl))
  f294:=Tryz.func550.trans (congrArg some (by kernel_rfl))
  f295:=Tryz.func551.trans (congrArg some (by kernel_rfl))
  f296:=Tryz.func552.trans (congrArg some (by kernel_rfl))
  f297:=Tryz.func553.trans (congrArg some (by kernel_rfl))
  f298:=Tryz.func554.trans (congrArg some (by kernel_rfl))
  f299:=Tryz.func555.trans (congrArg some (by kernel_rfl))
  f300:=Tryz.func557.trans (congrArg some (by kernel_rfl))
  f301:=Tryz.func558.trans (congrArg some (by kernel_rfl))
  f328:=Tryz.func582.trans (congrArg some (by kernel_rfl))
  f329:=Tryz.func498.trans (congrArg some (by kernel_rfl))
  f330:=Tryz.func499.trans (congrArg some (by kernel_rfl))
  f331:=Tryz.func583.trans (congrArg some (by kernel_rfl))
  f332:=Tryz.func584.trans (congrArg some (by kernel_rfl))
  f343:=Tryz.func589.trans (congrArg some (by kernel_rfl))
  t0:=Tryz.underlying0
  a0:=Tryz.isAgg0
  z0:=Tryz.sizeOf0
  v0:=Tryz.zeroValue0
  t3:=Tryz.underlying3
  a3:=Tryz.isAgg3
  z3:=Tryz.sizeOf3
  v3:=Tryz.zeroValue3
  t4:=Tryz.underlying4
  a4:=Tryz.isAgg4
  z4:=Tryz.sizeOf4
  v4:=Tryz.zeroValue4
  t5:=Tryz.underlying5
  a5:=Tryz.isAgg5
  z5:=Tryz.sizeOf5
  v5:=Tryz.zeroValue5
  t9:=Tryz.underlying9
  a9:=Tryz.isAgg9
  z9:=Tryz.sizeOf9
  v9:=Tryz.zeroValue9
  t28:=Tryz.underlying33
  a28:=Tryz.isAgg33
  z28:=Tryz.sizeOf33
  v28:=Tryz.zeroValue33
  t46:=Tryz.underlying304
  a46:=Tryz.isAgg304
  z46:=Tryz.sizeOf304
  v46:=Tryz.zeroValue304
  t51:=Tryz.underlying415
  a51:=Tryz.isAgg415
  z51:=Tryz.sizeOf415
  v51:=Tryz.zeroValue415
  t53:=Tryz.underlying417
  a53:=Tryz.isAgg417
  z53:=Tryz.sizeOf417
  v53:=Tryz.zeroValue417
  t131:=Tryz.underlying142
  a131:=Tryz.isAgg142
  z131:=Tryz.sizeOf142
  v131:=Tryz.zeroValue142
  t182:=Tryz.underlying408
  a182:=Tryz.isAgg408
  z182:=Tryz.sizeOf408
  v182:=Tryz.zeroValue408
  t183:=Tryz.underlying409
  a183:=Tryz.isAgg409
  z183:=Tryz.sizeOf409
  v183:=Tryz.zeroValue409
  t218:=Tryz.underlying470
  a218:=Tryz.isAgg470
  z218:=Tryz.sizeOf470
  v218:=Tryz.zeroValue470
  t222:=Tryz.underlying474
  a222:=Tryz.isAgg474
  z222:=Tryz.sizeOf474
  v222:=Tryz.zeroValue474
  t228:=Tryz.underlying507
  a228:=Tryz.isAgg507
  z228:=Tryz.sizeOf507
  v228:=Tryz.zeroValue507
  t229:=Tryz.underlying151
  a229:=Tryz.isAgg151
  z229:=Tryz.sizeOf151
  v229:=Tryz.zeroValue151}
open Go.Sort Go.RowKit in
theorem Tryz.slices_Sort_int (blk off cap:Nat) (zs:List Int) (w:World) (hH:Holds (Value.int .i64) w blk off zs.toArray) (hblk:blk<w.heap.size) (hsz:zs.length<4611686018427387904) :
  Calls Tryz.prog 383 #[.slice (some ⟨blk,off,none⟩) zs.length cap] w fun e w'=>
   e=.returned (.tuple #[])∧∃ n os,w'=grow (putRow (Value.int .i64) (Sort.ahead w n) blk off (zs.mergeSort fun x y=>decide (x≤y)).toArray) os:=Any.slices_Sort_int Tryz.lays189 blk off cap zs w hH hblk hsz
open Go.RowKit Go.Sort in
theorem Tryz.slices_Sort_int_none (p:Option Addr) (cap:Nat) (w:World) :
  Calls Tryz.prog 383 #[.slice p 0 cap] w fun e w'=>e=.returned (.tuple #[])∧w'=w:=Any.slices_Sort_int_none Tryz.lays189 p cap w
end Go.Proofs
