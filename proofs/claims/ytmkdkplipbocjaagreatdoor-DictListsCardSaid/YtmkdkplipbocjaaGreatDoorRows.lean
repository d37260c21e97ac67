/-
  NARROWER THAN 'FOR EVERY INPUT', by the rows' own cells (each row's printed sentence says how): ClassBoots: laid · ClassRefuses: laid · ClassPlays: laid · ClassAgain: laid · ClassLists: laid · DictOrder: laid · DictLists: laid.
  DERIVED. THE GIVEN ROWS OF THIS SEAT. 7 by the template 'for every input the law returns true; each argument reads behind the call as it read before'; 0 by the template 'total and deterministic' (their statements: YtmkdkplipbocjaaGreatDoorTotals.lean).
  GIVEN WITH THE SEED: the statements are not yours to turn. If you find one false, say at which input.
  Laid BY PROGRAM, IN A SANDBOX (cutbox-rows.mjs): the forced cells as the released guide's own fill.sh prints them over the translation 4fd92f56d4e05831… (all of the seat's roots in one cut). By AI agents, Wed Nov 11 2026. No macro, syntax, notation, axiom, sorry.
-/
import Derived.Test.YtmkdkplipbocjaaGreatDoorChecked
import GoSem.Claim
import GoSem.ClaimJoined
import GoSem.ClaimMapViews
import Derived.JoinedTies
import Derived.KernelRfl
namespace Go.Proofs.YtmkdkplipbocjaaGreatDoor
/- THE CELL 'sum', in the pinned program and in every row, IS THE sha256 OF THE DUMP (.gsa) THAT YtmkdkplipbocjaaGreatDoorProg.lean LOADS. Nothing in Lean hashes anything: it is a label: what it is worth is what the hold of that sum in a sandbox is worth. -/
noncomputable def Tryz.pinned : Pinned := { name := "ytmkdkplipbocjaagreatdoor", sum := "4fd92f56d4e0583124b4000eb96936509e196ba59ade5b0b98aca09ebb09c3c6", checked := Tryz.checked }
namespace Rows
def none {H : Type} : Left H := { results := [], args := [] }

/- WHAT THE LISTED PACKAGE-LEVEL VARIABLES READ AS WHEN THE CALL BEGINS. Each datum BY PROGRAM (the guide's laid-datum.mjs) off the statement by which the dump's own 'gosem.cut.vars' lays the variable. In a bare row this is a premise. The card (YtmkdkplipbocjaaGreatDoorCards.lean) ties it to the program's text. -/
def laid_kiln_kilnref13_Names {H : Type} : DataW H := .agg [.lit (.string [79, 98, 106, 101, 99, 116]), .lit (.string [85, 110, 100, 101, 102, 105, 110, 101, 100, 79, 98, 106, 101, 99, 116]), .lit (.string [70, 97, 108, 115, 101]), .lit (.string [84, 114, 117, 101]), .lit (.string [73, 110, 116, 101, 103, 101, 114]), .lit (.string [83, 121, 109, 98, 111, 108]), .lit (.string [83, 116, 114, 105, 110, 103]), .lit (.string [65, 114, 114, 97, 121]), .lit (.string [67, 108, 97, 115, 115]), .lit (.string [77, 101, 116, 104, 111, 100]), .lit (.string [66, 108, 111, 99, 107]), .lit (.string [67, 111, 110, 116, 101, 120, 116]), .lit (.string [80, 114, 111, 99, 101, 115, 115]), .lit (.string [77, 101, 115, 115, 97, 103, 101])]
def laid_kiln_word_kinds {H : Type} : DataW H := .agg [.lit (.int .i64 3), .lit (.int .i64 1), .lit (.int .i64 2), .lit (.int .i64 1)]

/-- 'kilnlaw13.ClassBoots': WHATEVER THE INPUT: true; the input reads as it did. -/
def classBootsSpec : ChangeSpec := { name := "classBoots", fn := fun _ => fun
  | [d1, d2] => { results := [.lit (.bool true)], args := [d1, d2] }
  | _ => none }
def classBootsRow : OpenClaim := { program := "ytmkdkplipbocjaagreatdoor", sum := "4fd92f56d4e0583124b4000eb96936509e196ba59ade5b0b98aca09ebb09c3c6", func := "kiln/kilnlaw13.ClassBoots", spec := "classBoots", unfollowed := true, recurses := true, named := ["kiln/word.kinds", "kiln/kilnref13.Names"], plainKeys := false, apart := false, laid := [("kiln/kilnref13.Names", laid_kiln_kilnref13_Names), ("kiln/word.kinds", laid_kiln_word_kinds)] }
def ClassBootsSaid : Prop := classBootsRow.holds Tryz.pinned (OpenSpec.ofChange classBootsSpec)

/-- ITS FALSE NEIGHBOUR: 'it returns false'. Refute it at one input. -/
def classBootsWrong : ChangeSpec := { name := "classBoots", fn := fun _ => fun
  | [d1, d2] => { results := [.lit (.bool false)], args := [d1, d2] }
  | _ => none }
def ClassBootsWrongFalsely : Prop := classBootsRow.holds Tryz.pinned (OpenSpec.ofChange classBootsWrong)

/-- 'kilnlaw13.ClassRefuses': WHATEVER THE INPUT: true; the input reads as it did. -/
def classRefusesSpec : ChangeSpec := { name := "classRefuses", fn := fun _ => fun
  | [d1, d2, d3] => { results := [.lit (.bool true)], args := [d1, d2, d3] }
  | _ => none }
def classRefusesRow : OpenClaim := { program := "ytmkdkplipbocjaagreatdoor", sum := "4fd92f56d4e0583124b4000eb96936509e196ba59ade5b0b98aca09ebb09c3c6", func := "kiln/kilnlaw13.ClassRefuses", spec := "classRefuses", unfollowed := true, recurses := true, named := ["kiln/word.kinds", "kiln/kilnref13.Names"], plainKeys := false, apart := false, laid := [("kiln/kilnref13.Names", laid_kiln_kilnref13_Names), ("kiln/word.kinds", laid_kiln_word_kinds)] }
def ClassRefusesSaid : Prop := classRefusesRow.holds Tryz.pinned (OpenSpec.ofChange classRefusesSpec)

/-- ITS FALSE NEIGHBOUR: 'it returns false'. Refute it at one input. -/
def classRefusesWrong : ChangeSpec := { name := "classRefuses", fn := fun _ => fun
  | [d1, d2, d3] => { results := [.lit (.bool false)], args := [d1, d2, d3] }
  | _ => none }
def ClassRefusesWrongFalsely : Prop := classRefusesRow.holds Tryz.pinned (OpenSpec.ofChange classRefusesWrong)

/-- 'kilnlaw13.ClassPlays': WHATEVER THE INPUT: true; the input reads as it did. -/
def classPlaysSpec : ChangeSpec := { name := "classPlays", fn := fun _ => fun
  | [d1, d2, d3] => { results := [.lit (.bool true)], args := [d1, d2, d3] }
  | _ => none }
def classPlaysRow : OpenClaim := { program := "ytmkdkplipbocjaagreatdoor", sum := "4fd92f56d4e0583124b4000eb96936509e196ba59ade5b0b98aca09ebb09c3c6", func := "kiln/kilnlaw13.ClassPlays", spec := "classPlays", unfollowed := true, recurses := true, named := ["kiln/word.kinds", "kiln/kilnref13.Names"], plainKeys := false, apart := false, laid := [("kiln/kilnref13.Names", laid_kiln_kilnref13_Names), ("kiln/word.kinds", laid_kiln_word_kinds)] }
def ClassPlaysSaid : Prop := classPlaysRow.holds Tryz.pinned (OpenSpec.ofChange classPlaysSpec)

/-- ITS FALSE NEIGHBOUR: 'it returns false'. Refute it at one input. -/
def classPlaysWrong : ChangeSpec := { name := "classPlays", fn := fun _ => fun
  | [d1, d2, d3] => { results := [.lit (.bool false)], args := [d1, d2, d3] }
  | _ => none }
def ClassPlaysWrongFalsely : Prop := classPlaysRow.holds Tryz.pinned (OpenSpec.ofChange classPlaysWrong)

/-- 'kilnlaw13.ClassAgain': WHATEVER THE INPUT: true; the input reads as it did. -/
def classAgainSpec : ChangeSpec := { name := "classAgain", fn := fun _ => fun
  | [d1, d2, d3, d4] => { results := [.lit (.bool true)], args := [d1, d2, d3, d4] }
  | _ => none }
def classAgainRow : OpenClaim := { program := "ytmkdkplipbocjaagreatdoor", sum := "4fd92f56d4e0583124b4000eb96936509e196ba59ade5b0b98aca09ebb09c3c6", func := "kiln/kilnlaw13.ClassAgain", spec := "classAgain", unfollowed := true, recurses := true, named := ["kiln/word.kinds", "kiln/kilnref13.Names"], plainKeys := false, apart := false, laid := [("kiln/kilnref13.Names", laid_kiln_kilnref13_Names), ("kiln/word.kinds", laid_kiln_word_kinds)] }
def ClassAgainSaid : Prop := classAgainRow.holds Tryz.pinned (OpenSpec.ofChange classAgainSpec)

/-- ITS FALSE NEIGHBOUR: 'it returns false'. Refute it at one input. -/
def classAgainWrong : ChangeSpec := { name := "classAgain", fn := fun _ => fun
  | [d1, d2, d3, d4] => { results := [.lit (.bool false)], args := [d1, d2, d3, d4] }
  | _ => none }
def ClassAgainWrongFalsely : Prop := classAgainRow.holds Tryz.pinned (OpenSpec.ofChange classAgainWrong)

/-- 'kilnlaw13.ClassLists': WHATEVER THE INPUT: true; the input reads as it did. -/
def classListsSpec : ChangeSpec := { name := "classLists", fn := fun _ => fun
  | [d1, d2, d3] => { results := [.lit (.bool true)], args := [d1, d2, d3] }
  | _ => none }
def classListsRow : OpenClaim := { program := "ytmkdkplipbocjaagreatdoor", sum := "4fd92f56d4e0583124b4000eb96936509e196ba59ade5b0b98aca09ebb09c3c6", func := "kiln/kilnlaw13.ClassLists", spec := "classLists", unfollowed := true, recurses := true, named := ["kiln/word.kinds", "kiln/kilnref13.Names"], plainKeys := false, apart := false, laid := [("kiln/kilnref13.Names", laid_kiln_kilnref13_Names), ("kiln/word.kinds", laid_kiln_word_kinds)] }
def ClassListsSaid : Prop := classListsRow.holds Tryz.pinned (OpenSpec.ofChange classListsSpec)

/-- ITS FALSE NEIGHBOUR: 'it returns false'. Refute it at one input. -/
def classListsWrong : ChangeSpec := { name := "classLists", fn := fun _ => fun
  | [d1, d2, d3] => { results := [.lit (.bool false)], args := [d1, d2, d3] }
  | _ => none }
def ClassListsWrongFalsely : Prop := classListsRow.holds Tryz.pinned (OpenSpec.ofChange classListsWrong)

/-- 'kilnlaw14.DictOrder': WHATEVER THE INPUT: true; the input reads as it did. -/
def dictOrderSpec : ChangeSpec := { name := "dictOrder", fn := fun _ => fun
  | [d1, d2, d3] => { results := [.lit (.bool true)], args := [d1, d2, d3] }
  | _ => none }
def dictOrderRow : OpenClaim := { program := "ytmkdkplipbocjaagreatdoor", sum := "4fd92f56d4e0583124b4000eb96936509e196ba59ade5b0b98aca09ebb09c3c6", func := "kiln/kilnlaw14.DictOrder", spec := "dictOrder", unfollowed := true, recurses := true, named := ["kiln/word.kinds", "kiln/kilnref13.Names"], plainKeys := false, apart := false, laid := [("kiln/kilnref13.Names", laid_kiln_kilnref13_Names), ("kiln/word.kinds", laid_kiln_word_kinds)] }
def DictOrderSaid : Prop := dictOrderRow.holds Tryz.pinned (OpenSpec.ofChange dictOrderSpec)

/-- ITS FALSE NEIGHBOUR: 'it returns false'. Refute it at one input. -/
def dictOrderWrong : ChangeSpec := { name := "dictOrder", fn := fun _ => fun
  | [d1, d2, d3] => { results := [.lit (.bool false)], args := [d1, d2, d3] }
  | _ => none }
def DictOrderWrongFalsely : Prop := dictOrderRow.holds Tryz.pinned (OpenSpec.ofChange dictOrderWrong)

/-- 'kilnlaw14.DictLists': WHATEVER THE INPUT: true; the input reads as it did. -/
def dictListsSpec : ChangeSpec := { name := "dictLists", fn := fun _ => fun
  | [d1, d2, d3] => { results := [.lit (.bool true)], args := [d1, d2, d3] }
  | _ => none }
def dictListsRow : OpenClaim := { program := "ytmkdkplipbocjaagreatdoor", sum := "4fd92f56d4e0583124b4000eb96936509e196ba59ade5b0b98aca09ebb09c3c6", func := "kiln/kilnlaw14.DictLists", spec := "dictLists", unfollowed := true, recurses := true, named := ["kiln/word.kinds", "kiln/kilnref13.Names"], plainKeys := false, apart := false, laid := [("kiln/kilnref13.Names", laid_kiln_kilnref13_Names), ("kiln/word.kinds", laid_kiln_word_kinds)] }
def DictListsSaid : Prop := dictListsRow.holds Tryz.pinned (OpenSpec.ofChange dictListsSpec)

/-- ITS FALSE NEIGHBOUR: 'it returns false'. Refute it at one input. -/
def dictListsWrong : ChangeSpec := { name := "dictLists", fn := fun _ => fun
  | [d1, d2, d3] => { results := [.lit (.bool false)], args := [d1, d2, d3] }
  | _ => none }
def DictListsWrongFalsely : Prop := dictListsRow.holds Tryz.pinned (OpenSpec.ofChange dictListsWrong)

/- THE SECOND FORM. 'bulk': how many values and letters a reading holds, each counted each time it is reached (what is shared counts as often as it is met; a slice's spare places count too). A statement '..UptoSaid' is the law's where the arguments, and the package variables that the reading takes, are together of bulk at most 1048576: NARROWER than '..Said'. Prove '..Said' where nothing that the law and all that it calls make is longer than what came in: it says more and counts as full. Else prove '..UptoSaid'. A law counts once. -/
mutual
def uptoBulk {H : Type} : DataW H → Nat
  | .lit (.string bytes) => bytes.length + 1
  | .lit _ => 1
  | .nil => 1
  | .ptr d => uptoBulk d + 1
  | .slice elems spare => uptoBulkAll elems + uptoBulkAll spare + 1
  | .agg parts => uptoBulkAll parts + 1
  | .iface _ d => uptoBulk d + 1
  | .map entries => uptoBulkEntries entries + 1
  | .held _ => 1
def uptoBulkAll {H : Type} : List (DataW H) → Nat
  | [] => 0
  | d :: r => uptoBulk d + uptoBulkAll r
def uptoBulkEntries {H : Type} : List (Lit × DataW H) → Nat
  | [] => 0
  | x :: r => uptoBulkEntry x + uptoBulkEntries r
def uptoBulkEntry {H : Type} : Lit × DataW H → Nat
  | (.string bytes, d) => bytes.length + uptoBulk d + 1
  | (_, d) => uptoBulk d + 1
 end
def uptoSmall : (H : Type) → List (DataW H) → Bool := fun _ ds => decide (uptoBulkAll ds ≤ 1048576)
def OpenSpec.upto (s : _root_.Go.ChangeSpec) : _root_.Go.OpenSpec := { _root_.Go.OpenSpec.ofChange s with cond := some uptoSmall }

/-- 'kilnlaw13.ClassBoots', WHERE WHAT IT READS IS OF BULK AT MOST 1048576: true; the input reads as it did. -/
def classBootsUptoRow : OpenClaim := { program := "ytmkdkplipbocjaagreatdoor", sum := "4fd92f56d4e0583124b4000eb96936509e196ba59ade5b0b98aca09ebb09c3c6", func := "kiln/kilnlaw13.ClassBoots", spec := "classBoots", unfollowed := true, recurses := true, named := ["kiln/word.kinds", "kiln/kilnref13.Names"], plainKeys := false, apart := false, laid := [("kiln/kilnref13.Names", laid_kiln_kilnref13_Names), ("kiln/word.kinds", laid_kiln_word_kinds)], narrowed := true }
def ClassBootsUptoSaid : Prop := classBootsUptoRow.holds Tryz.pinned (OpenSpec.upto classBootsSpec)

/-- 'kilnlaw13.ClassRefuses', WHERE WHAT IT READS IS OF BULK AT MOST 1048576: true; the input reads as it did. -/
def classRefusesUptoRow : OpenClaim := { program := "ytmkdkplipbocjaagreatdoor", sum := "4fd92f56d4e0583124b4000eb96936509e196ba59ade5b0b98aca09ebb09c3c6", func := "kiln/kilnlaw13.ClassRefuses", spec := "classRefuses", unfollowed := true, recurses := true, named := ["kiln/word.kinds", "kiln/kilnref13.Names"], plainKeys := false, apart := false, laid := [("kiln/kilnref13.Names", laid_kiln_kilnref13_Names), ("kiln/word.kinds", laid_kiln_word_kinds)], narrowed := true }
def ClassRefusesUptoSaid : Prop := classRefusesUptoRow.holds Tryz.pinned (OpenSpec.upto classRefusesSpec)

/-- 'kilnlaw13.ClassPlays', WHERE WHAT IT READS IS OF BULK AT MOST 1048576: true; the input reads as it did. -/
def classPlaysUptoRow : OpenClaim := { program := "ytmkdkplipbocjaagreatdoor", sum := "4fd92f56d4e0583124b4000eb96936509e196ba59ade5b0b98aca09ebb09c3c6", func := "kiln/kilnlaw13.ClassPlays", spec := "classPlays", unfollowed := true, recurses := true, named := ["kiln/word.kinds", "kiln/kilnref13.Names"], plainKeys := false, apart := false, laid := [("kiln/kilnref13.Names", laid_kiln_kilnref13_Names), ("kiln/word.kinds", laid_kiln_word_kinds)], narrowed := true }
def ClassPlaysUptoSaid : Prop := classPlaysUptoRow.holds Tryz.pinned (OpenSpec.upto classPlaysSpec)

/-- 'kilnlaw13.ClassAgain', WHERE WHAT IT READS IS OF BULK AT MOST 1048576: true; the input reads as it did. -/
def classAgainUptoRow : OpenClaim := { program := "ytmkdkplipbocjaagreatdoor", sum := "4fd92f56d4e0583124b4000eb96936509e196ba59ade5b0b98aca09ebb09c3c6", func := "kiln/kilnlaw13.ClassAgain", spec := "classAgain", unfollowed := true, recurses := true, named := ["kiln/word.kinds", "kiln/kilnref13.Names"], plainKeys := false, apart := false, laid := [("kiln/kilnref13.Names", laid_kiln_kilnref13_Names), ("kiln/word.kinds", laid_kiln_word_kinds)], narrowed := true }
def ClassAgainUptoSaid : Prop := classAgainUptoRow.holds Tryz.pinned (OpenSpec.upto classAgainSpec)

/-- 'kilnlaw13.ClassLists', WHERE WHAT IT READS IS OF BULK AT MOST 1048576: true; the input reads as it did. -/
def classListsUptoRow : OpenClaim := { program := "ytmkdkplipbocjaagreatdoor", sum := "4fd92f56d4e0583124b4000eb96936509e196ba59ade5b0b98aca09ebb09c3c6", func := "kiln/kilnlaw13.ClassLists", spec := "classLists", unfollowed := true, recurses := true, named := ["kiln/word.kinds", "kiln/kilnref13.Names"], plainKeys := false, apart := false, laid := [("kiln/kilnref13.Names", laid_kiln_kilnref13_Names), ("kiln/word.kinds", laid_kiln_word_kinds)], narrowed := true }
def ClassListsUptoSaid : Prop := classListsUptoRow.holds Tryz.pinned (OpenSpec.upto classListsSpec)

/-- 'kilnlaw14.DictOrder', WHERE WHAT IT READS IS OF BULK AT MOST 1048576: true; the input reads as it did. -/
def dictOrderUptoRow : OpenClaim := { program := "ytmkdkplipbocjaagreatdoor", sum := "4fd92f56d4e0583124b4000eb96936509e196ba59ade5b0b98aca09ebb09c3c6", func := "kiln/kilnlaw14.DictOrder", spec := "dictOrder", unfollowed := true, recurses := true, named := ["kiln/word.kinds", "kiln/kilnref13.Names"], plainKeys := false, apart := false, laid := [("kiln/kilnref13.Names", laid_kiln_kilnref13_Names), ("kiln/word.kinds", laid_kiln_word_kinds)], narrowed := true }
def DictOrderUptoSaid : Prop := dictOrderUptoRow.holds Tryz.pinned (OpenSpec.upto dictOrderSpec)

/-- 'kilnlaw14.DictLists', WHERE WHAT IT READS IS OF BULK AT MOST 1048576: true; the input reads as it did. -/
def dictListsUptoRow : OpenClaim := { program := "ytmkdkplipbocjaagreatdoor", sum := "4fd92f56d4e0583124b4000eb96936509e196ba59ade5b0b98aca09ebb09c3c6", func := "kiln/kilnlaw14.DictLists", spec := "dictLists", unfollowed := true, recurses := true, named := ["kiln/word.kinds", "kiln/kilnref13.Names"], plainKeys := false, apart := false, laid := [("kiln/kilnref13.Names", laid_kiln_kilnref13_Names), ("kiln/word.kinds", laid_kiln_word_kinds)], narrowed := true }
def DictListsUptoSaid : Prop := dictListsUptoRow.holds Tryz.pinned (OpenSpec.upto dictListsSpec)

end Rows
end Go.Proofs.YtmkdkplipbocjaaGreatDoor
