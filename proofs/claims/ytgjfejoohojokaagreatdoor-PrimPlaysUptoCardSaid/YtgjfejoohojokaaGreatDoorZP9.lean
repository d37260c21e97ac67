/- Lemmas for RPP: functions of the program as predicate transformers, and their contracts. -/
import Derived.Test.YtgjfejoohojokaaGreatDoorZP8
import Derived.Lay
import Derived.SevenTiedAt
set_option linter.all false
set_option maxRecDepth 100000
set_option maxHeartbeats 4000000
namespace Go.Proofs.YtgjfejoohojokaaGreatDoor.primPlays
section
open Go.ChangeShapes Go.WideShapes Go.ChangeAt Go.RowKit Go.Proofs.YtgjfejoohojokaaGreatDoor
set_option linter.unusedVariables false
noncomputable abbrev PC:=Tryz.pinned.checked.prog
abbrev RW:=Rows.primPlaysUptoRow
abbrev RS:=(Rows.OpenSpec.upto Rows.primPlaysSpec).bare
noncomputable abbrev FN:=Tryz.f5
theorem j1:RW.wf (OpenSpec.ofChange RS)=true:=by kernel_rfl
theorem j2:laidOutB PC=true:=by kernel_rfl
theorem j3:mapsRowed PC=true:=by kernel_rfl
theorem j4:FN.params.all (PC.readableRec ·)=true:=by kernel_rfl
theorem j5:namedTie PC RW.named RS.vars=true:=by kernel_rfl
theorem j6:(RW.stops == [])=true:=by kernel_rfl
theorem j7:(PC.stops == [])=true:=by kernel_rfl
theorem j8:(RW.knobs == [])=true:=by kernel_rfl
theorem j9:(PC.stopKnobs == [])=true:=by kernel_rfl
theorem Q6:(RW.inPlace == PC.inPlace 5)=true:=by kernel_rfl
theorem Rb:(RW.unfollowed == PC.unfollowed 5)=true:=by kernel_rfl
theorem Ra:(RW.recurses == PC.recurses 5)=true:=by kernel_rfl
theorem Rg:(RW.named == PC.varsNamed 5)=true:=by kernel_rfl
theorem Re:(RW.maps == (FN.params.toList++RS.plain.varTypes PC).any (PC.mapsRec ·))=true:=by kernel_rfl
theorem Rl:(RW.ifaces == (FN.params.toList++RS.plain.varTypes PC).any (PC.ifacesRec ·))=true:=by kernel_rfl
theorem Ri:(RW.mapsOut == PC.mapsAmong FN.resultTypes.toList)=true:=by kernel_rfl
theorem Ro:(RW.loops == (FN.params.toList++RS.plain.varTypes PC).any (PC.loopsFrom ·))=true:=by kernel_rfl
theorem Q1:(RW.wideKeys == (FN.params.toList++RS.plain.varTypes PC++FN.resultTypes.toList).any (PC.wideKeysFrom ·))=true:=by kernel_rfl
theorem QY:RS.vars.all (PC.varReadable ·)=true:=by kernel_rfl
theorem Q5:FN.resultTypes.all (fun t=>PC.readableRec t && decide (t<PC.types.size))=true:=by kernel_rfl
theorem Q3:(RW.ifacesOut == FN.resultTypes.toList.any (PC.ifacesRec ·))=true:=by kernel_rfl
theorem Q9:(RW.loopsOut == FN.resultTypes.toList.any (PC.loopsFrom ·))=true:=by kernel_rfl
theorem Q7:(RW.plainKeys == PC.plainKeys)=true:=by kernel_rfl
theorem Rc:RW.shortTexts.isNone=true:=by kernel_rfl
theorem Rk:PC.stopsHeard=true:=by kernel_rfl
theorem Rh:PC.mayEnter=true:=by kernel_rfl
theorem Rn:(RW.lifted == PC.liftsFinal)=true:=by kernel_rfl
theorem Rm:(PC.make == some RW.make)=true:=by kernel_rfl
theorem QX:(RW.pinned == RW.pinnedBy)=true:=by kernel_rfl
theorem Q4:(RW.veiled == (FN.params.toList++RS.plain.varTypes PC++FN.resultTypes.toList).any (PC.veiledRec ·))=true:=by kernel_rfl
theorem Q2:RW.veiledFits PC FN.params.toList (FN.params.toList++RS.plain.varTypes PC++FN.resultTypes.toList)=true:=by kernel_rfl
theorem closed:joinedFacts PC 5 FN RS RW=true :=
 Kw.joined_of j1 j2 j3 j4 j5 j6 j7 j8 j9 Q6 Rb Ra Rg Re Rl Ri Ro Q1 QY Q5 Q3 Q9 Q7 Rc Rk Rh Rn Rm rfl rfl QX Q4 Q2
end
end Go.Proofs.YtgjfejoohojokaaGreatDoor.primPlays
