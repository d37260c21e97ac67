/-
  DERIVED. GIVEN WITH THE SEED: THE CARDS: each row of YtaghnbjjkgcofaaGreatDoorRows.lean that lists a variable, with what it lists TIED to the program's text (the seventh form; the later family's looks); each row that meets fmt, with fmt's text TOLD by the authors' own Lean function (tested against real Go, not proved from fmt's source: count such statements apart). THE CARD IS WHAT COUNTS. Prove the row's statement (the work); the ties are given (YtaghnbjjkgcofaaGreatDoorTie.lean); close each card by the builder's one call (the guide's Derived/Test/ToyasCard.lean, 'card_holds'). Laid BY PROGRAM, IN A SANDBOX (cutbox-door.mjs). By AI agents, Wed Nov 11 2026. No macro, syntax, notation, axiom, sorry.
-/
import Derived.Test.YtaghnbjjkgcofaaGreatDoorRows
import GoSem.ClaimSeven
namespace Go.Proofs.YtaghnbjjkgcofaaGreatDoor
namespace Rows

/-- THE TIED CARD OF 'kilnlaw17.PrimHas'. -/
def primHasCard : Claim7 := { stood := { row := primHasRow, standIns := [], harness := (true, "8d87b03f7b7b7be5c80e7aadd71c281104e5a8c543fc915feb0caf838bec3781"), looks := false }, kinds := [], alts := [], laidByText := true, laidKinds := [.data, .data, .data, .data], laidTests := true, laidLooks := .later }
def PrimHasCardSaid : Prop := Claim7.holds Tryz.pinned (.plain (OpenSpec.ofChange primHasSpec)) primHasCard

/-- THE SECOND FORM's CARD OF 'kilnlaw17.PrimHas'. -/
def primHasUptoCard : Claim7 := { stood := { row := primHasUptoRow, standIns := [], harness := (true, "8d87b03f7b7b7be5c80e7aadd71c281104e5a8c543fc915feb0caf838bec3781"), looks := false }, kinds := [], alts := [], laidByText := true, laidKinds := [.data, .data, .data, .data], laidTests := true, laidLooks := .later }
def PrimHasUptoCardSaid : Prop := Claim7.holds Tryz.pinned (.plain (OpenSpec.upto primHasSpec)) primHasUptoCard
end Rows
end Go.Proofs.YtaghnbjjkgcofaaGreatDoor
