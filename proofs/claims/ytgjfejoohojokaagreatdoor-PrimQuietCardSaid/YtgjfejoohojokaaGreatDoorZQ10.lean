/- Lemmas for RPQ: functions of the program as predicate transformers, and their contracts. -/
import Derived.Test.YtgjfejoohojokaaGreatDoorZQ9
set_option linter.all false
set_option maxRecDepth 100000
set_option maxHeartbeats 4000000
namespace Go.Proofs.YtgjfejoohojokaaGreatDoor.primQuiet
open Go.ChangeShapes Go.WideShapes Go.ChangeAt Go.RowKit Go.Proofs.YtgjfejoohojokaaGreatDoor
set_option linter.unusedVariables false
theorem k4:false=Rows.primQuietRow.goesBy Tryz.pinned.checked.prog:=by kernel_rfl
end Go.Proofs.YtgjfejoohojokaaGreatDoor.primQuiet
