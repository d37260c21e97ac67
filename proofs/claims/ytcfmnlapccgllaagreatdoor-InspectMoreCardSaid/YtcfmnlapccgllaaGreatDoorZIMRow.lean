/- For every two numbers, the Go function kilnlaw22.InspectMore answers true and leaves its arguments as they were; there is no condition on the inputs. -/
import Derived.Test.YtcfmnlapccgllaaGreatDoorZIM10
set_option linter.all false
set_option maxRecDepth 100000
set_option maxHeartbeats 4000000
namespace Go.Proofs.YtcfmnlapccgllaaGreatDoor.inspectMore
open Go.ChangeShapes Go.WideShapes Go.ChangeAt Go.RowKit Go.Proofs.YtcfmnlapccgllaaGreatDoor
set_option linter.unusedVariables false
theorem k2 : Tryz.pinned.checked.prog.mainIs = some (true, "5320b07a8760ce57c7f0cc0e5a8f52089ed9c393a132aa599fd71a894bec7b8c".toList) := by kernel_rfl
theorem proved : Rows.InspectMoreCardSaid :=
  Claim7.holds_tied_plain_at .later [] [.data, .data, .data, .data, .data] true (true, "5320b07a8760ce57c7f0cc0e5a8f52089ed9c393a132aa599fd71a894bec7b8c") false
    yt (fun _ h => by cases h) k1 (fun _ h => by cases h) inspectMore_row_tie rfl ⟨rfl, rfl⟩ k2 rfl
    (fun f fn hf hfn => by
      obtain rfl : f = 3 := Option.some.inj (BP.symm.trans hf) |>.symm
      obtain rfl : fn = Tryz.f3 := (Option.some.inj (Tryz.func3.symm.trans hfn)).symm
      exact ⟨k3, fun j t ht => by
        rw [Tryz.params3] at ht
        have h3 : t = 3 := by
          rcases j with _ | _ | j
          · simpa using ht.symm
          · simpa using ht.symm
          · simp at ht
        subst h3
        exact (show Tryz.prog.wantsStandIn 3 = false by kernel_rfl)⟩)
    k4
#print axioms proved
end Go.Proofs.YtcfmnlapccgllaaGreatDoor.inspectMore
