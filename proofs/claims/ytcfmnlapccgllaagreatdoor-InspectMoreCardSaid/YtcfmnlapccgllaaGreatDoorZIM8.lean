/- Lemmas for RIM: functions of the program as predicate transformers, and their contracts. -/
import Derived.Test.YtcfmnlapccgllaaGreatDoorZIM7
set_option linter.all false
set_option maxRecDepth 100000
set_option maxHeartbeats 4000000
namespace Go.Proofs.YtcfmnlapccgllaaGreatDoor.inspectMore
section
open Go.ChangeShapes Go.WideShapes Go.ChangeAt Go.RowKit Go.Proofs.YtcfmnlapccgllaaGreatDoor
set_option linter.unusedVariables false
theorem Cm:Tryz.f3.isInstance Tryz.pinned.checked.prog Rows.inspectMoreRow.origin Rows.inspectMoreRow.targs:=of_decide_eq_true (by kernel_rfl)
theorem wrap:Tryz.f3.isWrapper Tryz.pinned.checked.prog Rows.inspectMoreRow.wrapper Rows.inspectMoreRow.mainSum:=by unfold Func.isWrapper;first | (rw [if_pos (by decide +kernel)];kernel_rfl) | (rw [if_neg (by decide +kernel)];exact ⟨rfl,rfl⟩)
theorem BP:Tryz.pinned.checked.prog.funcNamed Rows.inspectMoreRow.func=some 3:=by kernel_rfl
theorem yt:Rows.InspectMoreSaid :=
 OpenClaim.holds_of_wide 3 Tryz.f3 rfl rfl rfl rfl rfl rfl rfl ⟨rfl,rfl,rfl,rfl,rfl⟩ rfl rfl rfl rfl rfl BP Tryz.func3 closed Cm wrap
  (fun os started H enc _=>lifted os started H enc)
end
end Go.Proofs.YtcfmnlapccgllaaGreatDoor.inspectMore
