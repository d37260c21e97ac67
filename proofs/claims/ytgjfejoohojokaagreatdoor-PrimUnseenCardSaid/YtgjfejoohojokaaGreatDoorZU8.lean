/- Lemmas for RPU: functions of the program as predicate transformers, and their contracts. -/
import Derived.Test.YtgjfejoohojokaaGreatDoorZU7
import Derived.Lay
import Derived.SevenTiedAt
set_option linter.all false
set_option maxRecDepth 100000
set_option maxHeartbeats 4000000
namespace Go.Proofs.YtgjfejoohojokaaGreatDoor.primUnseen
section
open Go.ChangeShapes Go.WideShapes Go.ChangeAt Go.RowKit Go.Proofs.YtgjfejoohojokaaGreatDoor
set_option linter.unusedVariables false
noncomputable abbrev PC:=Tryz.pinned.checked.prog
abbrev RW:=Rows.primUnseenRow
abbrev RS:=Rows.primUnseenSpec
noncomputable abbrev FN:=Tryz.f3
theorem j1:RW.wf (OpenSpec.ofChange RS)=true:=by kernel_rfl
theorem j2:laidOutB PC=true:=by kernel_rfl
theorem j3:mapsRowed PC=true:=by kernel_rfl
theorem j4:FN.params.all (PC.readableRec ·)=true:=by kernel_rfl
theorem j5:namedTie PC RW.named RS.vars=true:=by kernel_rfl
theorem j6:(RW.stops == [])=true:=by kernel_rfl
theorem j7:(PC.stops == [])=true:=by kernel_rfl
theorem j8:(RW.knobs == [])=true:=by kernel_rfl
theorem j9:(PC.stopKnobs == [])=true:=by kernel_rfl
theorem KK:(RW.inPlace == PC.inPlace 3)=true:=by kernel_rfl
theorem Kk:(RW.unfollowed == PC.unfollowed 3)=true:=by kernel_rfl
theorem KM:(RW.recurses == PC.recurses 3)=true:=by kernel_rfl
theorem Kq:(RW.named == PC.varsNamed 3)=true:=by kernel_rfl
theorem Km:(RW.maps == (FN.params.toList++RS.plain.varTypes PC).any (PC.mapsRec ·))=true:=by kernel_rfl
theorem Ku:(RW.ifaces == (FN.params.toList++RS.plain.varTypes PC).any (PC.ifacesRec ·))=true:=by kernel_rfl
theorem KA:(RW.mapsOut == PC.mapsAmong FN.resultTypes.toList)=true:=by kernel_rfl
theorem Kz:(RW.loops == (FN.params.toList++RS.plain.varTypes PC).any (PC.loopsFrom ·))=true:=by kernel_rfl
theorem KE:(RW.wideKeys == (FN.params.toList++RS.plain.varTypes PC++FN.resultTypes.toList).any (PC.wideKeysFrom ·))=true:=by kernel_rfl
theorem KC:RS.vars.all (PC.varReadable ·)=true:=by kernel_rfl
theorem KJ:FN.resultTypes.all (fun t=>PC.readableRec t && decide (t<PC.types.size))=true:=by kernel_rfl
theorem KG:(RW.ifacesOut == FN.resultTypes.toList.any (PC.ifacesRec ·))=true:=by kernel_rfl
theorem KL:(RW.loopsOut == FN.resultTypes.toList.any (PC.loopsFrom ·))=true:=by kernel_rfl
theorem Kp:(RW.plainKeys == PC.plainKeys)=true:=by kernel_rfl
theorem Kl:RW.shortTexts.isNone=true:=by kernel_rfl
theorem Kt:PC.stopsHeard=true:=by kernel_rfl
theorem Ks:PC.mayEnter=true:=by kernel_rfl
theorem Ky:(RW.lifted == PC.liftsFinal)=true:=by kernel_rfl
theorem KD:(PC.make == some RW.make)=true:=by kernel_rfl
theorem KB:(RW.pinned == RW.pinnedBy)=true:=by kernel_rfl
theorem KI:(RW.veiled == (FN.params.toList++RS.plain.varTypes PC++FN.resultTypes.toList).any (PC.veiledRec ·))=true:=by kernel_rfl
theorem KF:RW.veiledFits PC FN.params.toList (FN.params.toList++RS.plain.varTypes PC++FN.resultTypes.toList)=true:=by kernel_rfl
theorem closed:joinedFacts PC 3 FN RS RW=true :=
 Kw.joined_of j1 j2 j3 j4 j5 j6 j7 j8 j9 KK Kk KM Kq Km Ku KA Kz KE KC KJ KG KL Kp Kl Kt Ks Ky KD rfl rfl KB KI KF
end
end Go.Proofs.YtgjfejoohojokaaGreatDoor.primUnseen
