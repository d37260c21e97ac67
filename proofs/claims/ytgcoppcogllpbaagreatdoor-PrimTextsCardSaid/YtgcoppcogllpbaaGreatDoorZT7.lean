/- Lemmas for RPT: functions of the program as predicate transformers, and their contracts. -/
import Derived.Test.YtgcoppcogllpbaaGreatDoorZT6
import Derived.Lay
import Derived.SevenTiedAt
set_option linter.all false
set_option maxRecDepth 100000
set_option maxHeartbeats 4000000
namespace Go.Proofs.YtgcoppcogllpbaaGreatDoor.primTexts
open Go.ChangeShapes Go.WideShapes Go.ChangeAt Go.RowKit Go.Proofs.YtgcoppcogllpbaaGreatDoor
set_option linter.unusedVariables false
noncomputable abbrev PC:=Tryz.pinned.checked.prog
abbrev RW:=Rows.primTextsRow
abbrev RS:=Rows.primTextsSpec
noncomputable abbrev FN:=Tryz.f3
theorem j1:RW.wf (OpenSpec.ofChange RS)=true:=by kernel_rfl
theorem j2:laidOutB PC=true:=by kernel_rfl
theorem j3:mapsRowed PC=true:=by kernel_rfl
theorem j4:FN.params.all (PC.readableRec ·)=true:=by kernel_rfl
theorem j5:namedTie PC RW.named RS.vars=true:=by kernel_rfl
theorem j6:(RW.stops == [])=true:=by kernel_rfl
theorem j7:(PC.stops == [])=true:=by kernel_rfl
theorem j8:(RW.knobs == [])=true:=by kernel_rfl
theorem j9:(PC.stopKnobs == [])=true:=by kernel_rfl
theorem E3:(RW.inPlace == PC.inPlace 3)=true:=by kernel_rfl
theorem E1:(RW.unfollowed == PC.unfollowed 3)=true:=by kernel_rfl
theorem E8:(RW.recurses == PC.recurses 3)=true:=by kernel_rfl
theorem E5:(RW.named == PC.varsNamed 3)=true:=by kernel_rfl
theorem Fe:(RW.maps == (FN.params.toList++RS.plain.varTypes PC).any (PC.mapsRec ·))=true:=by kernel_rfl
theorem Fi:(RW.ifaces == (FN.params.toList++RS.plain.varTypes PC).any (PC.ifacesRec ·))=true:=by kernel_rfl
theorem Fg:(RW.mapsOut == PC.mapsAmong FN.resultTypes.toList)=true:=by kernel_rfl
theorem Fn:(RW.loops == (FN.params.toList++RS.plain.varTypes PC).any (PC.loopsFrom ·))=true:=by kernel_rfl
theorem Fk:(RW.wideKeys == (FN.params.toList++RS.plain.varTypes PC++FN.resultTypes.toList).any (PC.wideKeysFrom ·))=true:=by kernel_rfl
theorem Fs:RS.vars.all (PC.varReadable ·)=true:=by kernel_rfl
theorem E2:FN.resultTypes.all (fun t=>PC.readableRec t && decide (t<PC.types.size))=true:=by kernel_rfl
theorem E0:(RW.ifacesOut == FN.resultTypes.toList.any (PC.ifacesRec ·))=true:=by kernel_rfl
theorem E7:(RW.loopsOut == FN.resultTypes.toList.any (PC.loopsFrom ·))=true:=by kernel_rfl
theorem E4:(RW.plainKeys == PC.plainKeys)=true:=by kernel_rfl
theorem Fd:RW.shortTexts.isNone=true:=by kernel_rfl
theorem Fa:PC.stopsHeard=true:=by kernel_rfl
theorem Ff:PC.mayEnter=true:=by kernel_rfl
theorem Fm:(RW.lifted == PC.liftsFinal)=true:=by kernel_rfl
theorem Fj:(PC.make == some RW.make)=true:=by kernel_rfl
theorem Fq:(RW.pinned == RW.pinnedBy)=true:=by kernel_rfl
theorem Fo:(RW.veiled == (FN.params.toList++RS.plain.varTypes PC++FN.resultTypes.toList).any (PC.veiledRec ·))=true:=by kernel_rfl
theorem EZ:RW.veiledFits PC FN.params.toList (FN.params.toList++RS.plain.varTypes PC++FN.resultTypes.toList)=true:=by kernel_rfl
theorem closed:joinedFacts PC 3 FN RS RW=true :=
 Kw.joined_of j1 j2 j3 j4 j5 j6 j7 j8 j9 E3 E1 E8 E5 Fe Fi Fg Fn Fk Fs E2 E0 E7 E4 Fd Fa Ff Fm Fj rfl rfl Fq Fo EZ
end Go.Proofs.YtgcoppcogllpbaaGreatDoor.primTexts
