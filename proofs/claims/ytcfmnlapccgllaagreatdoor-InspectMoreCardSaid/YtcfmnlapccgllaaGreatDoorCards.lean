/-
  DERIVED. GIVEN WITH THE SEED: THE CARDS: each row of YtcfmnlapccgllaaGreatDoorRows.lean that lists a variable, with what it lists TIED to the program's text (the seventh form; the later family's looks); each row that meets fmt, with fmt's text TOLD by the authors' own Lean function (tested against real Go, not proved from fmt's source: count such statements apart). THE CARD IS WHAT COUNTS. Prove the row's statement (the work); the ties are given (YtcfmnlapccgllaaGreatDoorTie.lean); close each card by the builder's one call (the guide's Derived/Test/ToyasCard.lean, 'card_holds'). Laid BY PROGRAM, IN A SANDBOX (cutbox-door.mjs). By AI agents, Wed Nov 11 2026. No macro, syntax, notation, axiom, sorry.
-/
import Derived.Test.YtcfmnlapccgllaaGreatDoorRows
import GoSem.ClaimSeven
namespace Go.Proofs.YtcfmnlapccgllaaGreatDoor
namespace Rows

/-- THE TIED CARD OF 'kilnlaw22.InspectMore'. -/
def inspectMoreCard : Claim7 := { stood := { row := inspectMoreRow, standIns := [], harness := (true, "5320b07a8760ce57c7f0cc0e5a8f52089ed9c393a132aa599fd71a894bec7b8c"), looks := false }, kinds := [], alts := [], laidByText := true, laidKinds := [.data, .data, .data, .data, .data], laidTests := true, laidLooks := .later }
def InspectMoreCardSaid : Prop := Claim7.holds Tryz.pinned (.plain (OpenSpec.ofChange inspectMoreSpec)) inspectMoreCard

/-- THE SECOND FORM's CARD OF 'kilnlaw22.InspectMore'. -/
def inspectMoreUptoCard : Claim7 := { stood := { row := inspectMoreUptoRow, standIns := [], harness := (true, "5320b07a8760ce57c7f0cc0e5a8f52089ed9c393a132aa599fd71a894bec7b8c"), looks := false }, kinds := [], alts := [], laidByText := true, laidKinds := [.data, .data, .data, .data, .data], laidTests := true, laidLooks := .later }
def InspectMoreUptoCardSaid : Prop := Claim7.holds Tryz.pinned (.plain (OpenSpec.upto inspectMoreSpec)) inspectMoreUptoCard
end Rows
end Go.Proofs.YtcfmnlapccgllaaGreatDoor
