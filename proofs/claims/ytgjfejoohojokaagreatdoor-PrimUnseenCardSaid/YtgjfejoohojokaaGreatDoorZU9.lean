/- Lemmas for RPU: functions of the program as predicate transformers, and their contracts. -/
import Derived.Test.YtgjfejoohojokaaGreatDoorZU8
set_option linter.all false
set_option maxRecDepth 100000
set_option maxHeartbeats 4000000
namespace Go.Proofs.YtgjfejoohojokaaGreatDoor.primUnseen
section
open Go.ChangeShapes Go.WideShapes Go.ChangeAt Go.RowKit Go.Proofs.YtgjfejoohojokaaGreatDoor
set_option linter.unusedVariables false
theorem inst:Tryz.f3.isInstance Tryz.pinned.checked.prog Rows.primUnseenRow.origin Rows.primUnseenRow.targs:=of_decide_eq_true (by kernel_rfl)
theorem wrap:Tryz.f3.isWrapper Tryz.pinned.checked.prog Rows.primUnseenRow.wrapper Rows.primUnseenRow.mainSum:=by unfold Func.isWrapper;first | (rw [if_pos (by decide +kernel)];kernel_rfl) | (rw [if_neg (by decide +kernel)];exact ⟨rfl,rfl⟩)
theorem HM:Tryz.pinned.checked.prog.funcNamed Rows.primUnseenRow.func=some 3:=by kernel_rfl
theorem Dv:Rows.PrimUnseenSaid :=
 OpenClaim.holds_of_wide 3 Tryz.f3 rfl rfl rfl rfl rfl rfl rfl ⟨rfl,rfl,rfl,rfl,rfl⟩ rfl rfl rfl rfl rfl HM Tryz.func3 closed inst wrap
  (fun os started H enc _=>lifted os started H enc)
end
end Go.Proofs.YtgjfejoohojokaaGreatDoor.primUnseen
