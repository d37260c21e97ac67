/-
  DERIVED. GIVEN WITH THE SEED: THE CARDS: each row of YtmkdkplipbocjaaGreatDoorRows.lean that lists a variable, with what it lists TIED to the program's text (the seventh form; the later family's looks); each row that meets fmt, with fmt's text TOLD by the authors' own Lean function (tested against real Go, not proved from fmt's source: count such statements apart). THE CARD IS WHAT COUNTS. Prove the row's statement (the work); the ties are given (YtmkdkplipbocjaaGreatDoorTie.lean); close each card by the builder's one call (the guide's Derived/Test/ToyasCard.lean, 'card_holds'). Laid BY PROGRAM, IN A SANDBOX (cutbox-door.mjs). By AI agents, Wed Nov 11 2026. No macro, syntax, notation, axiom, sorry.
-/
import Derived.Test.YtmkdkplipbocjaaGreatDoorRows
import GoSem.ClaimSeven
namespace Go.Proofs.YtmkdkplipbocjaaGreatDoor
namespace Rows

/-- THE TIED CARD OF 'kilnlaw13.ClassBoots'. -/
def classBootsCard : Claim7 := { stood := { row := classBootsRow, standIns := [], harness := (true, "676f08ca7572fe87d9f82f6e622d317e8e7fb774fb28ea804af8a75e67ff5c9f"), looks := false }, kinds := [], alts := [], laidByText := true, laidKinds := [.data, .data], laidTests := true, laidLooks := .later }
def ClassBootsCardSaid : Prop := Claim7.holds Tryz.pinned (.plain (OpenSpec.ofChange classBootsSpec)) classBootsCard

/-- THE TIED CARD OF 'kilnlaw13.ClassRefuses'. -/
def classRefusesCard : Claim7 := { stood := { row := classRefusesRow, standIns := [], harness := (true, "676f08ca7572fe87d9f82f6e622d317e8e7fb774fb28ea804af8a75e67ff5c9f"), looks := false }, kinds := [], alts := [], laidByText := true, laidKinds := [.data, .data], laidTests := true, laidLooks := .later }
def ClassRefusesCardSaid : Prop := Claim7.holds Tryz.pinned (.plain (OpenSpec.ofChange classRefusesSpec)) classRefusesCard

/-- THE TIED CARD OF 'kilnlaw13.ClassPlays'. -/
def classPlaysCard : Claim7 := { stood := { row := classPlaysRow, standIns := [], harness := (true, "676f08ca7572fe87d9f82f6e622d317e8e7fb774fb28ea804af8a75e67ff5c9f"), looks := false }, kinds := [], alts := [], laidByText := true, laidKinds := [.data, .data], laidTests := true, laidLooks := .later }
def ClassPlaysCardSaid : Prop := Claim7.holds Tryz.pinned (.plain (OpenSpec.ofChange classPlaysSpec)) classPlaysCard

/-- THE TIED CARD OF 'kilnlaw13.ClassAgain'. -/
def classAgainCard : Claim7 := { stood := { row := classAgainRow, standIns := [], harness := (true, "676f08ca7572fe87d9f82f6e622d317e8e7fb774fb28ea804af8a75e67ff5c9f"), looks := false }, kinds := [], alts := [], laidByText := true, laidKinds := [.data, .data], laidTests := true, laidLooks := .later }
def ClassAgainCardSaid : Prop := Claim7.holds Tryz.pinned (.plain (OpenSpec.ofChange classAgainSpec)) classAgainCard

/-- THE TIED CARD OF 'kilnlaw13.ClassLists'. -/
def classListsCard : Claim7 := { stood := { row := classListsRow, standIns := [], harness := (true, "676f08ca7572fe87d9f82f6e622d317e8e7fb774fb28ea804af8a75e67ff5c9f"), looks := false }, kinds := [], alts := [], laidByText := true, laidKinds := [.data, .data], laidTests := true, laidLooks := .later }
def ClassListsCardSaid : Prop := Claim7.holds Tryz.pinned (.plain (OpenSpec.ofChange classListsSpec)) classListsCard

/-- THE TIED CARD OF 'kilnlaw14.DictOrder'. -/
def dictOrderCard : Claim7 := { stood := { row := dictOrderRow, standIns := [], harness := (true, "676f08ca7572fe87d9f82f6e622d317e8e7fb774fb28ea804af8a75e67ff5c9f"), looks := false }, kinds := [], alts := [], laidByText := true, laidKinds := [.data, .data], laidTests := true, laidLooks := .later }
def DictOrderCardSaid : Prop := Claim7.holds Tryz.pinned (.plain (OpenSpec.ofChange dictOrderSpec)) dictOrderCard

/-- THE TIED CARD OF 'kilnlaw14.DictLists'. -/
def dictListsCard : Claim7 := { stood := { row := dictListsRow, standIns := [], harness := (true, "676f08ca7572fe87d9f82f6e622d317e8e7fb774fb28ea804af8a75e67ff5c9f"), looks := false }, kinds := [], alts := [], laidByText := true, laidKinds := [.data, .data], laidTests := true, laidLooks := .later }
def DictListsCardSaid : Prop := Claim7.holds Tryz.pinned (.plain (OpenSpec.ofChange dictListsSpec)) dictListsCard

/-- THE SECOND FORM's CARD OF 'kilnlaw13.ClassBoots'. -/
def classBootsUptoCard : Claim7 := { stood := { row := classBootsUptoRow, standIns := [], harness := (true, "676f08ca7572fe87d9f82f6e622d317e8e7fb774fb28ea804af8a75e67ff5c9f"), looks := false }, kinds := [], alts := [], laidByText := true, laidKinds := [.data, .data], laidTests := true, laidLooks := .later }
def ClassBootsUptoCardSaid : Prop := Claim7.holds Tryz.pinned (.plain (OpenSpec.upto classBootsSpec)) classBootsUptoCard

/-- THE SECOND FORM's CARD OF 'kilnlaw13.ClassRefuses'. -/
def classRefusesUptoCard : Claim7 := { stood := { row := classRefusesUptoRow, standIns := [], harness := (true, "676f08ca7572fe87d9f82f6e622d317e8e7fb774fb28ea804af8a75e67ff5c9f"), looks := false }, kinds := [], alts := [], laidByText := true, laidKinds := [.data, .data], laidTests := true, laidLooks := .later }
def ClassRefusesUptoCardSaid : Prop := Claim7.holds Tryz.pinned (.plain (OpenSpec.upto classRefusesSpec)) classRefusesUptoCard

/-- THE SECOND FORM's CARD OF 'kilnlaw13.ClassPlays'. -/
def classPlaysUptoCard : Claim7 := { stood := { row := classPlaysUptoRow, standIns := [], harness := (true, "676f08ca7572fe87d9f82f6e622d317e8e7fb774fb28ea804af8a75e67ff5c9f"), looks := false }, kinds := [], alts := [], laidByText := true, laidKinds := [.data, .data], laidTests := true, laidLooks := .later }
def ClassPlaysUptoCardSaid : Prop := Claim7.holds Tryz.pinned (.plain (OpenSpec.upto classPlaysSpec)) classPlaysUptoCard

/-- THE SECOND FORM's CARD OF 'kilnlaw13.ClassAgain'. -/
def classAgainUptoCard : Claim7 := { stood := { row := classAgainUptoRow, standIns := [], harness := (true, "676f08ca7572fe87d9f82f6e622d317e8e7fb774fb28ea804af8a75e67ff5c9f"), looks := false }, kinds := [], alts := [], laidByText := true, laidKinds := [.data, .data], laidTests := true, laidLooks := .later }
def ClassAgainUptoCardSaid : Prop := Claim7.holds Tryz.pinned (.plain (OpenSpec.upto classAgainSpec)) classAgainUptoCard

/-- THE SECOND FORM's CARD OF 'kilnlaw13.ClassLists'. -/
def classListsUptoCard : Claim7 := { stood := { row := classListsUptoRow, standIns := [], harness := (true, "676f08ca7572fe87d9f82f6e622d317e8e7fb774fb28ea804af8a75e67ff5c9f"), looks := false }, kinds := [], alts := [], laidByText := true, laidKinds := [.data, .data], laidTests := true, laidLooks := .later }
def ClassListsUptoCardSaid : Prop := Claim7.holds Tryz.pinned (.plain (OpenSpec.upto classListsSpec)) classListsUptoCard

/-- THE SECOND FORM's CARD OF 'kilnlaw14.DictOrder'. -/
def dictOrderUptoCard : Claim7 := { stood := { row := dictOrderUptoRow, standIns := [], harness := (true, "676f08ca7572fe87d9f82f6e622d317e8e7fb774fb28ea804af8a75e67ff5c9f"), looks := false }, kinds := [], alts := [], laidByText := true, laidKinds := [.data, .data], laidTests := true, laidLooks := .later }
def DictOrderUptoCardSaid : Prop := Claim7.holds Tryz.pinned (.plain (OpenSpec.upto dictOrderSpec)) dictOrderUptoCard

/-- THE SECOND FORM's CARD OF 'kilnlaw14.DictLists'. -/
def dictListsUptoCard : Claim7 := { stood := { row := dictListsUptoRow, standIns := [], harness := (true, "676f08ca7572fe87d9f82f6e622d317e8e7fb774fb28ea804af8a75e67ff5c9f"), looks := false }, kinds := [], alts := [], laidByText := true, laidKinds := [.data, .data], laidTests := true, laidLooks := .later }
def DictListsUptoCardSaid : Prop := Claim7.holds Tryz.pinned (.plain (OpenSpec.upto dictListsSpec)) dictListsUptoCard
end Rows
end Go.Proofs.YtmkdkplipbocjaaGreatDoor
