/- Lemmas for RPP: functions of the program as predicate transformers, and their contracts. -/
import Derived.Test.YtgjfejoohojokaaGreatDoorZP9
set_option linter.all false
set_option maxRecDepth 100000
set_option maxHeartbeats 4000000
namespace Go.Proofs.YtgjfejoohojokaaGreatDoor.primPlays
section
open Go.ChangeShapes Go.WideShapes Go.ChangeAt Go.RowKit Go.Proofs.YtgjfejoohojokaaGreatDoor
set_option linter.unusedVariables false
theorem inst:Tryz.f5.isInstance Tryz.pinned.checked.prog Rows.primPlaysUptoRow.origin Rows.primPlaysUptoRow.targs:=of_decide_eq_true (by kernel_rfl)
theorem wrap:Tryz.f5.isWrapper Tryz.pinned.checked.prog Rows.primPlaysUptoRow.wrapper Rows.primPlaysUptoRow.mainSum:=by unfold Func.isWrapper;first | (rw [if_pos (by decide +kernel)];kernel_rfl) | (rw [if_neg (by decide +kernel)];exact ⟨rfl,rfl⟩)
theorem P8:Tryz.pinned.checked.prog.funcNamed Rows.primPlaysUptoRow.func=some 5:=by kernel_rfl
theorem Hu:Rows.PrimPlaysUptoSaid :=
 OpenClaim.holds_of_cond 5 Tryz.f5 rfl rfl rfl rfl rfl rfl rfl ⟨rfl,rfl,rfl,rfl,rfl⟩ rfl rfl rfl rfl rfl P8 Tryz.func5 closed inst wrap
  (fun os started H enc _ F=>by rw [OpenClaim.pre_eq_preRow];exact lifted os started H enc F)
end
end Go.Proofs.YtgjfejoohojokaaGreatDoor.primPlays
