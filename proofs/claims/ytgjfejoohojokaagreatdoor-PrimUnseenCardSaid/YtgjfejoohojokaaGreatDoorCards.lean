/-
  DERIVED. GIVEN WITH THE SEED: THE CARDS: each row of YtgjfejoohojokaaGreatDoorRows.lean that lists a variable, with what it lists TIED to the program's text (the seventh form; the later family's looks); each row that meets fmt, with fmt's text TOLD by the authors' own Lean function (tested against real Go, not proved from fmt's source: count such statements apart). THE CARD IS WHAT COUNTS. Prove the row's statement (the work); the ties are given (YtgjfejoohojokaaGreatDoorTie.lean); close each card by the builder's one call (the guide's Derived/Test/ToyasCard.lean, 'card_holds'). Laid BY PROGRAM, IN A SANDBOX (cutbox-door.mjs). By AI agents, Wed Nov 11 2026. No macro, syntax, notation, axiom, sorry.
-/
import Derived.Test.YtgjfejoohojokaaGreatDoorRows
import GoSem.ClaimSeven
namespace Go.Proofs.YtgjfejoohojokaaGreatDoor
namespace Rows

/-- THE TIED CARD OF 'kilnlaw17.PrimUnseen'. -/
def primUnseenCard : Claim7 := { stood := { row := primUnseenRow, standIns := [], harness := (true, "9e14364a4f2d111c69efc72beb6fa00d97c9b437e2e1930c20479f37673ffbcd"), looks := false }, kinds := [], alts := [], laidByText := true, laidKinds := [.data, .data, .data, .data], laidTests := true, laidLooks := .later }
def PrimUnseenCardSaid : Prop := Claim7.holds Tryz.pinned (.plain (OpenSpec.ofChange primUnseenSpec)) primUnseenCard

/-- THE TIED CARD OF 'kilnlaw17.PrimQuiet'. -/
def primQuietCard : Claim7 := { stood := { row := primQuietRow, standIns := [], harness := (true, "9e14364a4f2d111c69efc72beb6fa00d97c9b437e2e1930c20479f37673ffbcd"), looks := false }, kinds := [], alts := [], laidByText := true, laidKinds := [.data, .data, .data, .data], laidTests := true, laidLooks := .later }
def PrimQuietCardSaid : Prop := Claim7.holds Tryz.pinned (.plain (OpenSpec.ofChange primQuietSpec)) primQuietCard

/-- THE TIED CARD OF 'kilnlaw17.PrimPlays'. -/
def primPlaysCard : Claim7 := { stood := { row := primPlaysRow, standIns := [], harness := (true, "9e14364a4f2d111c69efc72beb6fa00d97c9b437e2e1930c20479f37673ffbcd"), looks := false }, kinds := [], alts := [], laidByText := true, laidKinds := [.data, .data, .data, .data, .data], laidTests := true, laidLooks := .later }
def PrimPlaysCardSaid : Prop := Claim7.holds Tryz.pinned (.plain (OpenSpec.ofChange primPlaysSpec)) primPlaysCard

/-- THE SECOND FORM's CARD OF 'kilnlaw17.PrimUnseen'. -/
def primUnseenUptoCard : Claim7 := { stood := { row := primUnseenUptoRow, standIns := [], harness := (true, "9e14364a4f2d111c69efc72beb6fa00d97c9b437e2e1930c20479f37673ffbcd"), looks := false }, kinds := [], alts := [], laidByText := true, laidKinds := [.data, .data, .data, .data], laidTests := true, laidLooks := .later }
def PrimUnseenUptoCardSaid : Prop := Claim7.holds Tryz.pinned (.plain (OpenSpec.upto primUnseenSpec)) primUnseenUptoCard

/-- THE SECOND FORM's CARD OF 'kilnlaw17.PrimQuiet'. -/
def primQuietUptoCard : Claim7 := { stood := { row := primQuietUptoRow, standIns := [], harness := (true, "9e14364a4f2d111c69efc72beb6fa00d97c9b437e2e1930c20479f37673ffbcd"), looks := false }, kinds := [], alts := [], laidByText := true, laidKinds := [.data, .data, .data, .data], laidTests := true, laidLooks := .later }
def PrimQuietUptoCardSaid : Prop := Claim7.holds Tryz.pinned (.plain (OpenSpec.upto primQuietSpec)) primQuietUptoCard

/-- THE SECOND FORM's CARD OF 'kilnlaw17.PrimPlays'. -/
def primPlaysUptoCard : Claim7 := { stood := { row := primPlaysUptoRow, standIns := [], harness := (true, "9e14364a4f2d111c69efc72beb6fa00d97c9b437e2e1930c20479f37673ffbcd"), looks := false }, kinds := [], alts := [], laidByText := true, laidKinds := [.data, .data, .data, .data, .data], laidTests := true, laidLooks := .later }
def PrimPlaysUptoCardSaid : Prop := Claim7.holds Tryz.pinned (.plain (OpenSpec.upto primPlaysSpec)) primPlaysUptoCard
end Rows
end Go.Proofs.YtgjfejoohojokaaGreatDoor
