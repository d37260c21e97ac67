/- For every two numbers, the Go function kilnlaw17.PrimNumbers answers true and leaves its arguments as they were; there is no condition on the inputs. -/
import Derived.Test.YtgcoppcogllpbaaGreatDoorZN8
set_option linter.all false
set_option maxRecDepth 100000
set_option maxHeartbeats 4000000
namespace Go.Proofs.YtgcoppcogllpbaaGreatDoor.primNumbers
open Go.ChangeShapes Go.WideShapes Go.ChangeAt Go.RowKit Go.Proofs.YtgcoppcogllpbaaGreatDoor
set_option linter.unusedVariables false
theorem k1 : Rows.primNumbersRow.wfByText (OpenSpec.ofChange Rows.primNumbersSpec) = true := by kernel_rfl
theorem k2 : Tryz.pinned.checked.prog.mainIs = some (true, "c72c73100f4e9cfec1e516f7a040ff50c03a629691cb4dd28c97252600a069ed".toList) := by kernel_rfl
theorem k3 : false = Tryz.pinned.checked.prog.looks [] := by kernel_rfl
theorem k4 : false = Rows.primNumbersRow.goesBy Tryz.pinned.checked.prog := by kernel_rfl
theorem proved : Rows.PrimNumbersCardSaid :=
  Claim7.holds_tied_plain_at .later [] [.data, .data, .data, .data] true (true, "c72c73100f4e9cfec1e516f7a040ff50c03a629691cb4dd28c97252600a069ed") false
    vW (fun _ h => by cases h) k1 (fun _ h => by cases h) primNumbers_row_tie rfl ⟨rfl, rfl⟩ k2 rfl
    (fun f fn hf hfn => by
      obtain rfl : f = 4 := Option.some.inj (CQ.symm.trans hf) |>.symm
      obtain rfl : fn = Tryz.f4 := (Option.some.inj (Tryz.func4.symm.trans hfn)).symm
      exact ⟨k3, fun j t ht => by
        rw [Tryz.params4] at ht
        have h3 : t = 3 := by
          rcases j with _ | _ | j
          · simpa using ht.symm
          · simpa using ht.symm
          · simp at ht
        subst h3
        exact (show Tryz.prog.wantsStandIn 3 = false by kernel_rfl)⟩)
    k4
#print axioms proved
end Go.Proofs.YtgcoppcogllpbaaGreatDoor.primNumbers
