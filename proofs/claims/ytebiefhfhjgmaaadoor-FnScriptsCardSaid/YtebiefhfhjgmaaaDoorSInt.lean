/- The laws' own helpers for []int: conversion, comparison, marks. Bounds on lengths alone. -/
import Derived.Test.YtebiefhfhjgmaaaDoorMem
import Derived.Outline
import Derived.StillTailTactics
namespace Go.Proofs.YtebiefhfhjgmaaaDoor.SInt
set_option maxRecDepth 100000
open Go.RowKit Mm

theorem info_t : (Tryd.prog.info? 3).map (fun i => (i.zero, i.size, i.bytes)) = some (some (I 0), 1, 8) := by kernel_rfl
end Go.Proofs.YtebiefhfhjgmaaaDoor.SInt
