/- Lemmas for RIM: functions of the program as predicate transformers, and their contracts. -/
import Derived.Test.YtcfmnlapccgllaaGreatDoorZIM6
import Derived.Lay
import Derived.SevenTiedAt
set_option linter.all false
set_option maxRecDepth 100000
set_option maxHeartbeats 4000000
namespace Go.Proofs.YtcfmnlapccgllaaGreatDoor.inspectMore
section
open Go.ChangeShapes Go.WideShapes Go.ChangeAt Go.RowKit Go.Proofs.YtcfmnlapccgllaaGreatDoor
set_option linter.unusedVariables false
noncomputable abbrev PC:=Tryz.pinned.checked.prog
abbrev RW:=Rows.inspectMoreRow
abbrev RS:=Rows.inspectMoreSpec
noncomputable abbrev FN:=Tryz.f3
theorem j1:RW.wf (OpenSpec.ofChange RS)=true:=by kernel_rfl
theorem j2:laidOutB PC=true:=by kernel_rfl
theorem j3:mapsRowed PC=true:=by kernel_rfl
theorem j4:FN.params.all (PC.readableRec ·)=true:=by kernel_rfl
theorem j5:namedTie PC RW.named RS.vars=true:=by kernel_rfl
theorem j6:(RW.stops == [])=true:=by kernel_rfl
theorem j7:(PC.stops == [])=true:=by kernel_rfl
theorem j8:(RW.knobs == [])=true:=by kernel_rfl
theorem j9:(PC.stopKnobs == [])=true:=by kernel_rfl
theorem Cx:(RW.inPlace == PC.inPlace 3)=true:=by kernel_rfl
theorem CU:(RW.unfollowed == PC.unfollowed 3)=true:=by kernel_rfl
theorem CB:(RW.recurses == PC.recurses 3)=true:=by kernel_rfl
theorem Cz:(RW.named == PC.varsNamed 3)=true:=by kernel_rfl
theorem CE:(RW.maps == (FN.params.toList++RS.plain.varTypes PC).any (PC.mapsRec ·))=true:=by kernel_rfl
theorem CH:(RW.ifaces == (FN.params.toList++RS.plain.varTypes PC).any (PC.ifacesRec ·))=true:=by kernel_rfl
theorem CG:(RW.mapsOut == PC.mapsAmong FN.resultTypes.toList)=true:=by kernel_rfl
theorem CM:(RW.loops == (FN.params.toList++RS.plain.varTypes PC).any (PC.loopsFrom ·))=true:=by kernel_rfl
theorem CK:(RW.wideKeys == (FN.params.toList++RS.plain.varTypes PC++FN.resultTypes.toList).any (PC.wideKeysFrom ·))=true:=by kernel_rfl
theorem CR:RS.vars.all (PC.varReadable ·)=true:=by kernel_rfl
theorem Cw:FN.resultTypes.all (fun t=>PC.readableRec t && decide (t<PC.types.size))=true:=by kernel_rfl
theorem CT:(RW.ifacesOut == FN.resultTypes.toList.any (PC.ifacesRec ·))=true:=by kernel_rfl
theorem CA:(RW.loopsOut == FN.resultTypes.toList.any (PC.loopsFrom ·))=true:=by kernel_rfl
theorem Cy:(RW.plainKeys == PC.plainKeys)=true:=by kernel_rfl
theorem CD:RW.shortTexts.isNone=true:=by kernel_rfl
theorem CC:PC.stopsHeard=true:=by kernel_rfl
theorem CF:PC.mayEnter=true:=by kernel_rfl
theorem CL:(RW.lifted == PC.liftsFinal)=true:=by kernel_rfl
theorem CJ:(PC.make == some RW.make)=true:=by kernel_rfl
theorem CQ:(RW.pinned == RW.pinnedBy)=true:=by kernel_rfl
theorem CN:(RW.veiled == (FN.params.toList++RS.plain.varTypes PC++FN.resultTypes.toList).any (PC.veiledRec ·))=true:=by kernel_rfl
theorem CS:RW.veiledFits PC FN.params.toList (FN.params.toList++RS.plain.varTypes PC++FN.resultTypes.toList)=true:=by kernel_rfl
theorem closed:joinedFacts PC 3 FN RS RW=true :=
 Kw.joined_of j1 j2 j3 j4 j5 j6 j7 j8 j9 Cx CU CB Cz CE CH CG CM CK CR Cw CT CA Cy CD CC CF CL CJ rfl rfl CQ CN CS
end
end Go.Proofs.YtcfmnlapccgllaaGreatDoor.inspectMore
