/- Lemmas for RPN: functions of the program as predicate transformers, and their contracts. -/
import Derived.Test.YtgcoppcogllpbaaGreatDoorZN7
set_option linter.all false
set_option maxRecDepth 100000
set_option maxHeartbeats 4000000
namespace Go.Proofs.YtgcoppcogllpbaaGreatDoor.primNumbers
open Go.ChangeShapes Go.WideShapes Go.ChangeAt Go.RowKit Go.Proofs.YtgcoppcogllpbaaGreatDoor
set_option linter.unusedVariables false
theorem DV:Tryz.f4.isInstance Tryz.pinned.checked.prog Rows.primNumbersRow.origin Rows.primNumbersRow.targs:=of_decide_eq_true (by kernel_rfl)
theorem wrap:Tryz.f4.isWrapper Tryz.pinned.checked.prog Rows.primNumbersRow.wrapper Rows.primNumbersRow.mainSum:=by unfold Func.isWrapper;first | (rw [if_pos (by decide +kernel)];kernel_rfl) | (rw [if_neg (by decide +kernel)];exact ⟨rfl,rfl⟩)
theorem CQ:Tryz.pinned.checked.prog.funcNamed Rows.primNumbersRow.func=some 4:=by kernel_rfl
theorem vW:Rows.PrimNumbersSaid :=
 OpenClaim.holds_of_wide 4 Tryz.f4 rfl rfl rfl rfl rfl rfl rfl ⟨rfl,rfl,rfl,rfl,rfl⟩ rfl rfl rfl rfl rfl CQ Tryz.func4 closed DV wrap
  (fun os started H enc _=>lifted os started H enc)
end Go.Proofs.YtgcoppcogllpbaaGreatDoor.primNumbers
