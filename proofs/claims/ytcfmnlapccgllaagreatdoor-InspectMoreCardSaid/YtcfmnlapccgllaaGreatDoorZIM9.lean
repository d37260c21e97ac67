/- Lemmas for RIM: functions of the program as predicate transformers, and their contracts. -/
import Derived.Test.YtcfmnlapccgllaaGreatDoorZIM8
set_option linter.all false
set_option maxRecDepth 100000
set_option maxHeartbeats 4000000
namespace Go.Proofs.YtcfmnlapccgllaaGreatDoor.inspectMore
section
open Go.ChangeShapes Go.WideShapes Go.ChangeAt Go.RowKit Go.Proofs.YtcfmnlapccgllaaGreatDoor
set_option linter.unusedVariables false
theorem k4:false=Rows.inspectMoreRow.goesBy Tryz.pinned.checked.prog:=by kernel_rfl
end
end Go.Proofs.YtcfmnlapccgllaaGreatDoor.inspectMore
