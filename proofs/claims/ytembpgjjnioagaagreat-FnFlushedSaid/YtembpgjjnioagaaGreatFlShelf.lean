/-
 DERIVED: THE SHELF's CONTRACTS AT THIS DUMP, IN PLAIN WORDS (tools/lay-plain.mjs out of 'TryzShelf.lean', which tools/lay-shelf.mjs wrote): THE SAME DECLARATIONS UNDER THE SAME NAMES: 'import', 'namespace', 'open', 'def', 'theorem' AND NOTHING ELSE: no command of the shelf's: FOR A HAND-IN. Each laying: the table of numbers ('.._ren') and one theorem, a field a fact of the dump's own or the kernel's comparison; each contract: ONE APPLICATION.
-/
import Derived.Shelf.Sort.Plain
import Derived.Shelf.Slices.In.SortNone
import Derived.Test.YtembpgjjnioagaaGreatProg
namespace Go.Proofs
open Go.Shelf
def Tryz.lays189_ren:Go.Shelf.Ren:=⟨fun|189=>175|125=>250|257=>249|128=>321|129=>322|294=>312|295=>313|296=>314|297=>315|298=>316|299=>317|216=>318|300=>319|301=>320|328=>369|329=>370|330=>371|331=>372|332=>373|215=>374|343=>398|n=>n,fun|28=>33|3=>3|46=>272|0=>0|51=>315|53=>317|4=>4|183=>309|182=>308|131=>165|5=>5|9=>9|218=>337|222=>341|228=>352|229=>85|n=>n,fun|n=>n⟩
theorem Tryz.lays189:Go.Proofs.Lays.n189 Tryz.prog Tryz.lays189_ren:={
  mixed:=by kernel_rfl
  f125:=Tryz.func250.trans (congrArg some (by kernel_rfl))
  f128:=Tryz.func321.trans (congrArg some (by kernel_rfl))
  f129:=Tryz.func322.trans (congrArg some (by kernel_rfl))
  f189:=Tryz.func175.trans (congrArg some (by kernel_rfl))
  f215:=Tryz.func374.trans (congrArg some (by kernel_rfl))
  f216:=Tryz.func318.trans (congrArg some (by kernel_rfl))
  f257:=Tryz.func249.trans (congrArg some (by kernel_rfl))
  f294:=Tryz.func312.trans (congrArg some (by kernel_rfl))
  f295:=Tryz.func313.trans (congrArg some (by kernel_rfl))
  f296:=Tryz.func314.trans (congrArg some (by kernel_rfl))
  f297:=Tryz.func315.trans (congrArg some (by kernel_rfl))
  f298:=Tryz.func316.trans (congrArg some (by kernel_rfl))
  f299:=Tryz.func317.trans (congrArg some (by kernel_rfl))
  f300:=Tryz.func319.trans (congrArg some (by kernel_rfl))
  f301:=Tryz.func320.trans (congrArg some (by kernel_rfl))
  f328:=Tryz.func369.trans (congrArg some (by kernel_rfl))
  f329:=Tryz.func370.trans (congrArg some (by kernel_rfl))
  f330:=Tryz.func371.trans (congrArg some (by kernel_rfl))
  f331:=Tryz.func372.trans (congrArg some (by kernel_rfl))
  f332:=Tryz.func373.trans (congrArg some (by kernel_rfl))
  f343:=Tryz.func398.trans (congrArg some (by kernel_rfl))
  t0:=Tryz.underlying0
  a0:=Tryz.isAgg0
  z0:=Tryz.sizeOf0
  v0:=Tryz.zeroValue0
  t3:=Tryz.underlying3
  a3:=Tryz.isAgg3
  z3:=Tryz.sizeOf3
  v3:=Tryz.zeroValue3
  t4:=Tryz.underlying4
  a4:=Tryz.isAgg4
  z4:=Tryz.sizeOf4
  v4:=Tryz.zeroValue4
  t5:=Tryz.underlying5
  a5:=Tryz.isAgg5
  z5:=Tryz.sizeOf5
  v5:=Tryz.zeroValue5
  t9:=Tryz.underlying9
  a9:=Tryz.isAgg9
  z9:=Tryz.sizeOf9
  v9:=Tryz.zeroValue9
  t28:=Tryz.underlying33
  a28:=Tryz.isAgg33
  z28:=Tryz.sizeOf33
  v28:=Tryz.zeroValue33
  t46:=Tryz.underlying272
  a46:=Tryz.isAgg272
  z46:=Tryz.sizeOf272
  v46:=Tryz.zeroValue272
  t51:=Tryz.underlying315
  a51:=Tryz.isAgg315
  z51:=Tryz.sizeOf315
  v51:=Tryz.zeroValue315
  t53:=Tryz.underlying317
  a53:=Tryz.isAgg317
  z53:=Tryz.sizeOf317
  v53:=Tryz.zeroValue317
  t131:=Tryz.underlying165
  a131:=Tryz.isAgg165
  z131:=Tryz.sizeOf165
  v131:=Tryz.zeroValue165
  t182:=Tryz.underlying308
  a182:=Tryz.isAgg308
  z182:=Tryz.sizeOf308
  v182:=Tryz.zeroValue308
  t183:=Tryz.underlying309
  a183:=Tryz.isAgg309
  z183:=Tryz.sizeOf309
  v183:=Tryz.zeroValue309
  t218:=Tryz.underlying337
  a218:=Tryz.isAgg337
  z218:=Tryz.sizeOf337
  v218:=Tryz.zeroValue337
  t222:=Tryz.underlying341
  a222:=Tryz.isAgg341
  z222:=Tryz.sizeOf341
  v222:=Tryz.zeroValue341
  t228:=Tryz.underlying352
  a228:=Tryz.isAgg352
  z228:=Tryz.sizeOf352
  v228:=Tryz.zeroValue352
  t229:=Tryz.underlying85
  a229:=Tryz.isAgg85
  z229:=Tryz.sizeOf85
  v229:=Tryz.zeroValue85}
open Go.Sort Go.RowKit in
theorem Tryz.slices_Sort_int (blk off cap:Nat) (zs:List Int) (w:World) (hH:Holds (Value.int .i64) w blk off zs.toArray) (hblk:blk<w.heap.size) (hsz:zs.length<4611686018427387904) :
  Calls Tryz.prog 175 #[.slice (some ⟨blk,off,none⟩) zs.length cap] w fun e w'=>
   e=.returned (.tuple #[])∧∃ n os,w'=grow (putRow (Value.int .i64) (Sort.ahead w n) blk off (zs.mergeSort fun x y=>decide (x≤y)).toArray) os:=Any.slices_Sort_int Tryz.lays189 blk off cap zs w hH hblk hsz
open Go.RowKit Go.Sort in
theorem Tryz.slices_Sort_int_none (p:Option Addr) (cap:Nat) (w:World) :
  Calls Tryz.prog 175 #[.slice p 0 cap] w fun e w'=>e=.returned (.tuple #[])∧w'=w:=Any.slices_Sort_int_none Tryz.lays189 p cap w
end Go.Proofs
