/- Lemmas for RIM: functions of the program as predicate transformers, and their contracts. -/
import Derived.Test.YtcfmnlapccgllaaGreatDoorZIM9
set_option linter.all false
set_option maxRecDepth 100000
set_option maxHeartbeats 4000000
namespace Go.Proofs.YtcfmnlapccgllaaGreatDoor.inspectMore
section
open Go.ChangeShapes Go.WideShapes Go.ChangeAt Go.RowKit Go.Proofs.YtcfmnlapccgllaaGreatDoor
set_option linter.unusedVariables false
theorem k1:Rows.inspectMoreRow.wfByText (OpenSpec.ofChange Rows.inspectMoreSpec)=true:=by kernel_rfl
theorem k3:false=Tryz.pinned.checked.prog.looks []:=by kernel_rfl
end
end Go.Proofs.YtcfmnlapccgllaaGreatDoor.inspectMore
