/- Lemmas for RPQ: functions of the program as predicate transformers, and their contracts. -/
import Derived.Test.YtgjfejoohojokaaGreatDoorZQ7
import Derived.Lay
import Derived.SevenTiedAt
set_option linter.all false
set_option maxRecDepth 100000
set_option maxHeartbeats 4000000
namespace Go.Proofs.YtgjfejoohojokaaGreatDoor.primQuiet
open Go.ChangeShapes Go.WideShapes Go.ChangeAt Go.RowKit Go.Proofs.YtgjfejoohojokaaGreatDoor
set_option linter.unusedVariables false
noncomputable abbrev PC:=Tryz.pinned.checked.prog
abbrev RW:=Rows.primQuietRow
abbrev RS:=Rows.primQuietSpec
noncomputable abbrev FN:=Tryz.f4
theorem j1:RW.wf (OpenSpec.ofChange RS)=true:=by kernel_rfl
theorem j2:laidOutB PC=true:=by kernel_rfl
theorem j3:mapsRowed PC=true:=by kernel_rfl
theorem j4:FN.params.all (PC.readableRec ·)=true:=by kernel_rfl
theorem j5:namedTie PC RW.named RS.vars=true:=by kernel_rfl
theorem j6:(RW.stops == [])=true:=by kernel_rfl
theorem j7:(PC.stops == [])=true:=by kernel_rfl
theorem j8:(RW.knobs == [])=true:=by kernel_rfl
theorem j9:(PC.stopKnobs == [])=true:=by kernel_rfl
theorem ME:(RW.inPlace == PC.inPlace 4)=true:=by kernel_rfl
theorem MA:(RW.unfollowed == PC.unfollowed 4)=true:=by kernel_rfl
theorem MI:(RW.recurses == PC.recurses 4)=true:=by kernel_rfl
theorem Mj:(RW.named == PC.varsNamed 4)=true:=by kernel_rfl
theorem MK:(RW.maps == (FN.params.toList++RS.plain.varTypes PC).any (PC.mapsRec ·))=true:=by kernel_rfl
theorem Mo:(RW.ifaces == (FN.params.toList++RS.plain.varTypes PC).any (PC.ifacesRec ·))=true:=by kernel_rfl
theorem Ml:(RW.mapsOut == PC.mapsAmong FN.resultTypes.toList)=true:=by kernel_rfl
theorem Mr:(RW.loops == (FN.params.toList++RS.plain.varTypes PC).any (PC.loopsFrom ·))=true:=by kernel_rfl
theorem Mw:(RW.wideKeys == (FN.params.toList++RS.plain.varTypes PC++FN.resultTypes.toList).any (PC.wideKeysFrom ·))=true:=by kernel_rfl
theorem Mu:RS.vars.all (PC.varReadable ·)=true:=by kernel_rfl
theorem MC:FN.resultTypes.all (fun t=>PC.readableRec t && decide (t<PC.types.size))=true:=by kernel_rfl
theorem My:(RW.ifacesOut == FN.resultTypes.toList.any (PC.ifacesRec ·))=true:=by kernel_rfl
theorem MH:(RW.loopsOut == FN.resultTypes.toList.any (PC.loopsFrom ·))=true:=by kernel_rfl
theorem MF:(RW.plainKeys == PC.plainKeys)=true:=by kernel_rfl
theorem MJ:RW.shortTexts.isNone=true:=by kernel_rfl
theorem Mn:PC.stopsHeard=true:=by kernel_rfl
theorem Mk:PC.mayEnter=true:=by kernel_rfl
theorem Mq:(RW.lifted == PC.liftsFinal)=true:=by kernel_rfl
theorem Mp:(PC.make == some RW.make)=true:=by kernel_rfl
theorem Mt:(RW.pinned == RW.pinnedBy)=true:=by kernel_rfl
theorem Ms:(RW.veiled == (FN.params.toList++RS.plain.varTypes PC++FN.resultTypes.toList).any (PC.veiledRec ·))=true:=by kernel_rfl
theorem Mx:RW.veiledFits PC FN.params.toList (FN.params.toList++RS.plain.varTypes PC++FN.resultTypes.toList)=true:=by kernel_rfl
theorem closed:joinedFacts PC 4 FN RS RW=true :=
 Kw.joined_of j1 j2 j3 j4 j5 j6 j7 j8 j9 ME MA MI Mj MK Mo Ml Mr Mw Mu MC My MH MF MJ Mn Mk Mq Mp rfl rfl Mt Ms Mx
end Go.Proofs.YtgjfejoohojokaaGreatDoor.primQuiet
