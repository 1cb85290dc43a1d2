/-
 DERIVED: THE SHELF's CONTRACTS AT THIS DUMP, IN PLAIN WORDS (tools/lay-plain.mjs out of 'TryzShelf.lean', which tools/lay-shelf.mjs wrote): THE SAME DECLARATIONS UNDER THE SAME NAMES: 'import', 'namespace', 'open', 'def', 'theorem' AND NOTHING ELSE: no command of the shelf's: FOR A HAND-IN. Each laying: the table of numbers ('.._ren') and one theorem, a field a fact of the dump's own or the kernel's comparison; each contract: ONE APPLICATION.
-/
import Derived.Shelf.Sort.Plain
import Derived.Shelf.Slices.In.SortNone
import Derived.Test.YtplcalfnngkffaaGreatProg
set_option linter.unusedVariables false
namespace Go.Proofs
open Go.Shelf
def Tryz.lays189_ren:Go.Shelf.Ren:=⟨fun|189=>147|125=>246|257=>245|128=>325|129=>326|294=>316|295=>317|296=>318|297=>319|298=>320|299=>321|216=>322|300=>323|301=>324|328=>387|329=>388|330=>389|331=>390|332=>391|215=>392|343=>432|n=>n,fun|28=>33|3=>3|46=>302|0=>0|51=>361|53=>363|4=>4|183=>354|182=>353|131=>358|5=>5|9=>9|218=>397|222=>401|228=>432|229=>234|n=>n,fun|n=>n⟩
theorem Tryz.lays189:Go.Proofs.Lays.n189 Tryz.prog Tryz.lays189_ren:={
  mixed:=by kernel_rfl
  f125:=Tryz.func246.trans (congrArg some (by kernel_rfl))
  f128:=Tryz.func325.trans (congrArg some (by kernel_rfl))
  f129:=Tryz.func326.trans (congrArg some (by kernel_rfl))
  f189:=Tryz.func147.trans (congrArg some (by kernel_rfl))
  f215:=Tryz.func392.trans (congrArg some (by kernel_rfl))
  f216:=Tryz.func322.trans (congrArg some (by kernel_rfl))
  f257:=Tryz.func245.trans (congrArg some (by kernel_rfl))
  f294:=Tryz.func316.trans (congrArg some (by kernel_rfl))
  f295:=Tryz.func317.trans (congrArg some (by kernel_rfl))
  f296:=Tryz.func318.trans (congrArg some (by kernel_rfl))
  f297:=Tryz.func319.trans (congrArg some (by kernel_rfl))
  f298:=Tryz.func320.trans (congrArg some (by kernel_rfl))
  f299:=Tryz.func321.trans (congrArg some (by kernel_rfl))
  f300:=Tryz.func323.trans (congrArg some (by kernel_rfl))
  f301:=Tryz.func324.trans (congrArg some (by kernel_rfl))
  f328:=Tryz.func387.trans (congrArg some (by kernel_rfl))
  f329:=Tryz.func388.trans (congrArg some (by kernel_rfl))
  f330:=Tryz.func389.trans (congrArg some (by kernel_rfl))
  f331:=Tryz.func390.trans (congrArg some (by kernel_rfl))
  f332:=Tryz.func391.trans (congrArg some (by kernel_rfl))
  f343:=Tryz.func432.trans (congrArg some (by kernel_rfl))
  t0:=Tryz.underlying0
  a0:=Tryz.isAgg0
  z0:=Tryz.sizeOf0
  v0:=Tryz.zeroValue0
  t3:=Tryz.underlying3
  a3:=Tryz.isAgg3
  z3:=Tryz.sizeOf3
  v3:=Tryz.zeroValue3
  t4:=Tryz.underlying4
  a4:=Tryz.isAgg4
  z4:=Tryz.sizeOf4
  v4:=Tryz.zeroValue4
  t5:=Tryz.underlying5
  a5:=Tryz.isAgg5
  z5:=Tryz.sizeOf5
  v5:=Tryz.zeroValue5
  t9:=Tryz.underlying9
  a9:=Tryz.isAgg9
  z9:=Tryz.sizeOf9
  v9:=Tryz.zeroValue9
  t28:=Tryz.underlying33
  a28:=Tryz.isAgg33
  z28:=Tryz.sizeOf33
  v28:=Tryz.zeroValue33
  t46:=Tryz.underlying302
  a46:=Tryz.isAgg302
  z46:=Tryz.sizeOf302
  v46:=Tryz.zeroValue302
  t51:=Tryz.underlying361
  a51:=Tryz.isAgg361
  z51:=Tryz.sizeOf361
  v51:=Tryz.zeroValue361
  t53:=Tryz.underlying363
  a53:=Tryz.isAgg363
  z53:=Tryz.sizeOf363
  v53:=Tryz.zeroValue363
  t131:=Tryz.underlying358
  a131:=Tryz.isAgg358
  z131:=Tryz.sizeOf358
  v131:=Tryz.zeroValue358
  t182:=Tryz.underlying353
  a182:=Tryz.isAgg353
  z182:=Tryz.sizeOf353
  v182:=Tryz.zeroValue353
  t183:=Tryz.underlying354
  a183:=Tryz.isAgg354
  z183:=Tryz.sizeOf354
  v183:=Tryz.zeroValue354
  t218:=Tryz.underlying397
  a218:=Tryz.isAgg397
  z218:=Tryz.sizeOf397
  v218:=Tryz.zeroValue397
  t222:=Tryz.underlying401
  a222:=Tryz.isAgg401
  z222:=Tryz.sizeOf401
  v222:=Tryz.zeroValue401
  t228:=Tryz.underlying432
  a228:=Tryz.isAgg432
  z228:=Tryz.sizeOf432
  v228:=Tryz.zeroValue432
  t229:=Tryz.underlying234
  a229:=Tryz.isAgg234
  z229:=Tryz.sizeOf234
  v229:=Tryz.zeroValue234}
open Go.Sort Go.RowKit in
theorem Tryz.slices_Sort_int (blk off cap:Nat) (zs:List Int) (w:World) (hH:Holds (Value.int .i64) w blk off zs.toArray) (hblk:blk<w.heap.size) (hsz:zs.length<4611686018427387904) :
  Calls Tryz.prog 147 #[.slice (some ⟨blk,off,none⟩) zs.length cap] w fun e w'=>
   e=.returned (.tuple #[])∧∃ n os,w'=grow (putRow (Value.int .i64) (Sort.ahead w n) blk off (zs.mergeSort fun x y=>decide (x≤y)).toArray) os:=Any.slices_Sort_int Tryz.lays189 blk off cap zs w hH hblk hsz
open Go.RowKit Go.Sort in
theorem Tryz.slices_Sort_int_none (p:Option Addr) (cap:Nat) (w:World) :
  Calls Tryz.prog 147 #[.slice p 0 cap] w fun e w'=>e=.returned (.tuple #[])∧w'=w:=Any.slices_Sort_int_none Tryz.lays189 p cap w
end Go.Proofs
