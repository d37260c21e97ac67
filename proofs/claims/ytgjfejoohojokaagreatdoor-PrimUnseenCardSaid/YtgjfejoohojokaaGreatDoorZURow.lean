/- For every list of steps, the Go function kilnlaw17.PrimUnseen answers true and leaves its arguments as they were; there is no condition on the inputs. -/
import Derived.Test.YtgjfejoohojokaaGreatDoorZU10
set_option linter.all false
set_option maxRecDepth 100000
set_option maxHeartbeats 4000000
namespace Go.Proofs.YtgjfejoohojokaaGreatDoor.primUnseen
open Go.ChangeShapes Go.WideShapes Go.ChangeAt Go.RowKit Go.Proofs.YtgjfejoohojokaaGreatDoor
set_option linter.unusedVariables false
theorem k2 : Tryz.pinned.checked.prog.mainIs = some (true, "9e14364a4f2d111c69efc72beb6fa00d97c9b437e2e1930c20479f37673ffbcd".toList) := by kernel_rfl
theorem proved : Rows.PrimUnseenCardSaid :=
  Claim7.holds_tied_plain_at .later [] [.data, .data, .data, .data] true (true, "9e14364a4f2d111c69efc72beb6fa00d97c9b437e2e1930c20479f37673ffbcd") false
    Dv (fun _ h => by cases h) k1 (fun _ h => by cases h) primUnseen_row_tie rfl ⟨rfl, rfl⟩ k2 rfl
    (fun f fn hf hfn => by
      obtain rfl : f = 3 := Option.some.inj (HM.symm.trans hf) |>.symm
      obtain rfl : fn = Tryz.f3 := (Option.some.inj (Tryz.func3.symm.trans hfn)).symm
      exact ⟨k3, fun j t ht => by
        rw [Tryz.params3] at ht
        have h3 : t = 22 := by
          rcases j with _ | j
          · simpa using ht.symm
          · simp at ht
        subst h3
        exact (show Tryz.prog.wantsStandIn 22 = false by kernel_rfl)⟩)
    k4
#print axioms proved
end Go.Proofs.YtgjfejoohojokaaGreatDoor.primUnseen
