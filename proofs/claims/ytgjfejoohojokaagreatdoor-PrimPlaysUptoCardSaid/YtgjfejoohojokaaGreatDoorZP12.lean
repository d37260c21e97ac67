/- Lemmas for RPP: functions of the program as predicate transformers, and their contracts. -/
import Derived.Test.YtgjfejoohojokaaGreatDoorZP11
set_option linter.all false
set_option maxRecDepth 100000
set_option maxHeartbeats 4000000
namespace Go.Proofs.YtgjfejoohojokaaGreatDoor.primPlays
section
open Go.ChangeShapes Go.WideShapes Go.ChangeAt Go.RowKit Go.Proofs.YtgjfejoohojokaaGreatDoor
set_option linter.unusedVariables false
theorem k1:Rows.primPlaysUptoRow.wfByText (Rows.OpenSpec.upto Rows.primPlaysSpec)=true:=by kernel_rfl
theorem k3:false=Tryz.pinned.checked.prog.looks []:=by kernel_rfl
end
end Go.Proofs.YtgjfejoohojokaaGreatDoor.primPlays
