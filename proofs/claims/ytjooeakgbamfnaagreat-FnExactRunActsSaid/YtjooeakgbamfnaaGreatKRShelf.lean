/-
 DERIVED: THE SHELF's CONTRACTS AT THIS DUMP, IN PLAIN WORDS (tools/lay-plain.mjs out of 'TryzShelf.lean', which tools/lay-shelf.mjs wrote): THE SAME DECLARATIONS UNDER THE SAME NAMES: 'import', 'namespace', 'open', 'def', 'theorem' AND NOTHING ELSE: no command of the shelf's: FOR A HAND-IN. Each laying: the table of numbers ('.._ren') and one theorem, a field a fact of the dump's own or the kernel's comparison; each contract: ONE APPLICATION.
-/
import Derived.Shelf.Sort.Plain
import Derived.Shelf.Slices.In.SortNone
import Derived.Test.YtjooeakgbamfnaaGreatProg
namespace Go.Proofs
open Go.Shelf
def Tryz.lays189_ren:Go.Shelf.Ren:=⟨fun|189=>394|125=>469|257=>468|128=>506|129=>507|294=>497|295=>498|296=>499|297=>500|298=>501|299=>502|216=>503|300=>504|301=>505|328=>513|329=>514|330=>515|331=>516|332=>517|215=>518|343=>520|n=>n,fun|28=>31|3=>3|46=>376|0=>0|51=>467|53=>469|4=>4|183=>461|182=>460|131=>189|5=>5|9=>9|218=>474|222=>478|228=>481|229=>169|n=>n,fun|n=>n⟩
theorem Tryz.lays189:Go.Proofs.Lays.n189 Tryz.prog Tryz.lays189_ren:={
  mixed:=by kernel_rfl
  f125:=Tryz.func469.trans (congrArg some (by kernel_rfl))
  f128:=Tryz.func506.trans (congrArg some (by kernel_rfl))
  f129:=Tryz.func507.trans (congrArg some (by kernel_rfl))
  f189:=Tryz.func394.trans (congrArg some (by kernel_rfl))
  f215:=Tryz.func518.trans (congrArg some (by kernel_rfl))
  f216:=Tryz.func503.trans (congrArg some (by kernel_rfl))
  f257:=Tryz.func468.trans (congrArg some (by kernel_rfl))
  f294:=Tryz.func497.trans (congrArg some (by kernel_rfl))
  f295:=Tryz.func498.trans (congrArg some (by kernel_rfl))
  f296:=Tryz.func499.trans (congrArg some (by kernel_rfl))
  f297:=Tryz.func500.trans (congrArg some (by kernel_rfl))
  f298:=Tryz.func501.trans (congrArg some (by kernel_rfl))
  f299:=Tryz.func502.trans (congrArg some (by kernel_rfl))
  f300:=Tryz.func504.trans (congrArg some (by kernel_rfl))
  f301:=Tryz.func505.trans (congrArg some (by kernel_rfl))
  f328:=Tryz.func513.trans (congrArg some (by kernel_rfl))
  f329:=Tryz.func514.trans (congrArg some (by kernel_rfl))
  f330:=Tryz.func515.trans (congrArg some (by kernel_rfl))
  f331:=Tryz.func516.trans (congrArg some (by kernel_rfl))
  f332:=Tryz.func517.trans (congrArg some (by kernel_rfl))
  f343:=Tryz.func520.trans (congrArg some (by kernel_rfl))
  t0:=Tryz.underlying0
  a0:=Tryz.isAgg0
  z0:=Tryz.sizeOf0
  v0:=Tryz.zeroValue0
  t3:=Tryz.underlying3
  a3:=Tryz.isAgg3
  z3:=Tryz.sizeOf3
  v3:=Tryz.zeroValue3
  t4:=Tryz.underlying4
  a4:=Tryz.isAgg4
  z4:=Tryz.sizeOf4
  v4:=Tryz.zeroValue4
  t5:=Tryz.underlying5
  a5:=Tryz.isAgg5
  z5:=Tryz.sizeOf5
  v5:=Tryz.zeroValue5
  t9:=Tryz.underlying9
  a9:=Tryz.isAgg9
  z9:=Tryz.sizeOf9
  v9:=Tryz.zeroValue9
  t28:=Tryz.underlying31
  a28:=Tryz.isAgg31
  z28:=Tryz.sizeOf31
  v28:=Tryz.zeroValue31
  t46:=Tryz.underlying376
  a46:=Tryz.isAgg376
  z46:=Tryz.sizeOf376
  v46:=Tryz.zeroValue376
  t51:=Tryz.underlying467
  a51:=Tryz.isAgg467
  z51:=Tryz.sizeOf467
  v51:=Tryz.zeroValue467
  t53:=Tryz.underlying469
  a53:=Tryz.isAgg469
  z53:=Tryz.sizeOf469
  v53:=Tryz.zeroValue469
  t131:=Tryz.underlying189
  a131:=Tryz.isAgg189
  z131:=Tryz.sizeOf189
  v131:=Tryz.zeroValue189
  t182:=Tryz.underlying460
  a182:=Tryz.isAgg460
  z182:=Tryz.sizeOf460
  v182:=Tryz.zeroValue460
  t183:=Tryz.underlying461
  a183:=Tryz.isAgg461
  z183:=Tryz.sizeOf461
  v183:=Tryz.zeroValue461
  t218:=Tryz.underlying474
  a218:=Tryz.isAgg474
  z218:=Tryz.sizeOf474
  v218:=Tryz.zeroValue474
  t222:=Tryz.underlying478
  a222:=Tryz.isAgg478
  z222:=Tryz.sizeOf478
  v222:=Tryz.zeroValue478
  t228:=Tryz.underlying481
  a228:=Tryz.isAgg481
  z228:=Tryz.sizeOf481
  v228:=Tryz.zeroValue481
  t229:=Tryz.underlying169
  a229:=Tryz.isAgg169
  z229:=Tryz.sizeOf169
  v229:=Tryz.zeroValue169}
open Go.Sort Go.RowKit in
theorem Tryz.slices_Sort_int (blk off cap:Nat) (zs:List Int) (w:World) (hH:Holds (Value.int .i64) w blk off zs.toArray) (hblk:blk<w.heap.size) (hsz:zs.length<4611686018427387904) :
  Calls Tryz.prog 394 #[.slice (some ⟨blk,off,none⟩) zs.length cap] w fun e w'=>
   e=.returned (.tuple #[])∧∃ n os,w'=grow (putRow (Value.int .i64) (Sort.ahead w n) blk off (zs.mergeSort fun x y=>decide (x≤y)).toArray) os:=Any.slices_Sort_int Tryz.lays189 blk off cap zs w hH hblk hsz
open Go.RowKit Go.Sort in
theorem Tryz.slices_Sort_int_none (p:Option Addr) (cap:Nat) (w:World) :
  Calls Tryz.prog 394 #[.slice p 0 cap] w fun e w'=>e=.returned (.tuple #[])∧w'=w:=Any.slices_Sort_int_none Tryz.lays189 p cap w
end Go.Proofs
