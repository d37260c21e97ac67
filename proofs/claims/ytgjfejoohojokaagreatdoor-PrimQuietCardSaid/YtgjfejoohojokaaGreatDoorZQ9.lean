/- Lemmas for RPQ: functions of the program as predicate transformers, and their contracts. -/
import Derived.Test.YtgjfejoohojokaaGreatDoorZQ8
set_option linter.all false
set_option maxRecDepth 100000
set_option maxHeartbeats 4000000
namespace Go.Proofs.YtgjfejoohojokaaGreatDoor.primQuiet
open Go.ChangeShapes Go.WideShapes Go.ChangeAt Go.RowKit Go.Proofs.YtgjfejoohojokaaGreatDoor
set_option linter.unusedVariables false
theorem Lw:Tryz.f4.isInstance Tryz.pinned.checked.prog Rows.primQuietRow.origin Rows.primQuietRow.targs:=of_decide_eq_true (by kernel_rfl)
theorem wrap:Tryz.f4.isWrapper Tryz.pinned.checked.prog Rows.primQuietRow.wrapper Rows.primQuietRow.mainSum:=by unfold Func.isWrapper;first | (rw [if_pos (by decide +kernel)];kernel_rfl) | (rw [if_neg (by decide +kernel)];exact ⟨rfl,rfl⟩)
theorem KF:Tryz.pinned.checked.prog.funcNamed Rows.primQuietRow.func=some 4:=by kernel_rfl
theorem xP:Rows.PrimQuietSaid :=
 OpenClaim.holds_of_wide 4 Tryz.f4 rfl rfl rfl rfl rfl rfl rfl ⟨rfl,rfl,rfl,rfl,rfl⟩ rfl rfl rfl rfl rfl KF Tryz.func4 closed Lw wrap
  (fun os started H enc _=>lifted os started H enc)
end Go.Proofs.YtgjfejoohojokaaGreatDoor.primQuiet
