/- For every two numbers, words and oops, and every list of steps, all of bulk at most 1048576, the Go function kilnlaw17.PrimPlays answers true and leaves its arguments as they were. -/
import Derived.Test.YtgjfejoohojokaaGreatDoorZP12
set_option linter.all false
set_option maxRecDepth 100000
set_option maxHeartbeats 4000000
namespace Go.Proofs.YtgjfejoohojokaaGreatDoor.primPlays
open Go.ChangeShapes Go.WideShapes Go.ChangeAt Go.RowKit Go.Proofs.YtgjfejoohojokaaGreatDoor
set_option linter.unusedVariables false
theorem k2 : Tryz.pinned.checked.prog.mainIs = some (true, "9e14364a4f2d111c69efc72beb6fa00d97c9b437e2e1930c20479f37673ffbcd".toList) := by kernel_rfl
theorem proved : Rows.PrimPlaysUptoCardSaid :=
  Claim7.holds_tied_plain_at .later [] [.data, .data, .data, .data, .data] true (true, "9e14364a4f2d111c69efc72beb6fa00d97c9b437e2e1930c20479f37673ffbcd") false
    Hu (fun _ h => by cases h) k1 (fun _ h => by cases h) primPlaysUpto_row_tie rfl ⟨rfl, rfl⟩ k2 rfl
    (fun f fn hf hfn => by
      obtain rfl : f = 5 := Option.some.inj (P8.symm.trans hf) |>.symm
      obtain rfl : fn = Tryz.f5 := (Option.some.inj (Tryz.func5.symm.trans hfn)).symm
      exact ⟨k3, fun j t ht => by
        rw [Tryz.params5] at ht
        have h3 : t = 3 ∨ t = 22 := by
          rcases j with _ | _ | _ | j
          · exact .inl (by simpa using ht.symm)
          · exact .inl (by simpa using ht.symm)
          · exact .inr (by simpa using ht.symm)
          · simp at ht
        rcases h3 with rfl | rfl
        · exact (show Tryz.prog.wantsStandIn 3 = false by kernel_rfl)
        · exact (show Tryz.prog.wantsStandIn 22 = false by kernel_rfl)⟩)
    k4
#print axioms proved
end Go.Proofs.YtgjfejoohojokaaGreatDoor.primPlays
