/- FnExactScriptFacts: for every input the law returns true, and the input reads as before. No condition. -/
import Derived.Test.YtfdfgipemcbekaaGreatDoorRows
import Derived.WalkKit
import Derived.ProofKit
import Derived.OpenShut
import Derived.ShutString
import Derived.ChangeOld
namespace Go.Proofs.YtfdfgipemcbekaaGreatDoor.fnExactScriptFacts
open Go.ChangeShapes Go.WideShapes Go.ChangeAt Go.RowKit
open Go.ChangeMaps (open_string shut_string)
set_option linter.unusedVariables false
theorem own:ownKnob Tryz.prog.godebug=none:=by kernel_rfl
theorem laidOut:laidOutB Tryz.prog=true:=by kernel_rfl
theorem and_mk {x y:Bool} (hx:x=true) (hy:y=true):(x&&y)=true:=by rw[hx,hy];rfl
set_option maxRecDepth 100000 in
set_option maxHeartbeats 8000000 in
theorem facts:joinedFacts Tryz.pinned.checked.prog 3 Tryz.f3 Rows.fnExactScriptFactsSpec Rows.fnExactScriptFactsRow=true:=by
 unfold joinedFacts
 repeat'(with_reducible refine and_mk ?_ ?_)
 all_goals as_aux_lemma=>kernel_rfl
end Go.Proofs.YtfdfgipemcbekaaGreatDoor.fnExactScriptFacts

