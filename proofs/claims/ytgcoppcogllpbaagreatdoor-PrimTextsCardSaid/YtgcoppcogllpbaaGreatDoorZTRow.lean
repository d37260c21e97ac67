/- For every two texts, the Go function kilnlaw17.PrimTexts answers true and leaves its arguments as they were; there is no condition on the inputs. -/
import Derived.Test.YtgcoppcogllpbaaGreatDoorZT8
set_option linter.all false
set_option maxRecDepth 100000
set_option maxHeartbeats 4000000
namespace Go.Proofs.YtgcoppcogllpbaaGreatDoor.primTexts
open Go.ChangeShapes Go.WideShapes Go.ChangeAt Go.RowKit Go.Proofs.YtgcoppcogllpbaaGreatDoor
set_option linter.unusedVariables false
theorem k1 : Rows.primTextsRow.wfByText (OpenSpec.ofChange Rows.primTextsSpec) = true := by kernel_rfl
theorem k2 : Tryz.pinned.checked.prog.mainIs = some (true, "c72c73100f4e9cfec1e516f7a040ff50c03a629691cb4dd28c97252600a069ed".toList) := by kernel_rfl
theorem k3 : false = Tryz.pinned.checked.prog.looks [] := by kernel_rfl
theorem k4 : false = Rows.primTextsRow.goesBy Tryz.pinned.checked.prog := by kernel_rfl
theorem proved : Rows.PrimTextsCardSaid :=
  Claim7.holds_tied_plain_at .later [] [.data, .data, .data, .data] true (true, "c72c73100f4e9cfec1e516f7a040ff50c03a629691cb4dd28c97252600a069ed") false
    xu (fun _ h => by cases h) k1 (fun _ h => by cases h) primTexts_row_tie rfl ⟨rfl, rfl⟩ k2 rfl
    (fun f fn hf hfn => by
      obtain rfl : f = 3 := Option.some.inj (Dv.symm.trans hf) |>.symm
      obtain rfl : fn = Tryz.f3 := (Option.some.inj (Tryz.func3.symm.trans hfn)).symm
      exact ⟨k3, fun j t ht => by
        rw [Tryz.params3] at ht
        have h3 : t = 9 := by
          rcases j with _ | _ | j
          · simpa using ht.symm
          · simpa using ht.symm
          · simp at ht
        subst h3
        exact (show Tryz.prog.wantsStandIn 9 = false by kernel_rfl)⟩)
    k4
#print axioms proved
end Go.Proofs.YtgcoppcogllpbaaGreatDoor.primTexts
