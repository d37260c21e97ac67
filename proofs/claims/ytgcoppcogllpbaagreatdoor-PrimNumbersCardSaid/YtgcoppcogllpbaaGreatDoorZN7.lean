/- Lemmas for RPN: functions of the program as predicate transformers, and their contracts. -/
import Derived.Test.YtgcoppcogllpbaaGreatDoorZN6
import Derived.Lay
import Derived.SevenTiedAt
set_option linter.all false
set_option maxRecDepth 100000
set_option maxHeartbeats 4000000
namespace Go.Proofs.YtgcoppcogllpbaaGreatDoor.primNumbers
open Go.ChangeShapes Go.WideShapes Go.ChangeAt Go.RowKit Go.Proofs.YtgcoppcogllpbaaGreatDoor
set_option linter.unusedVariables false
noncomputable abbrev PC:=Tryz.pinned.checked.prog
abbrev RW:=Rows.primNumbersRow
abbrev RS:=Rows.primNumbersSpec
noncomputable abbrev FN:=Tryz.f4
theorem j1:RW.wf (OpenSpec.ofChange RS)=true:=by kernel_rfl
theorem j2:laidOutB PC=true:=by kernel_rfl
theorem j3:mapsRowed PC=true:=by kernel_rfl
theorem j4:FN.params.all (PC.readableRec ·)=true:=by kernel_rfl
theorem j5:namedTie PC RW.named RS.vars=true:=by kernel_rfl
theorem j6:(RW.stops == [])=true:=by kernel_rfl
theorem j7:(PC.stops == [])=true:=by kernel_rfl
theorem j8:(RW.knobs == [])=true:=by kernel_rfl
theorem j9:(PC.stopKnobs == [])=true:=by kernel_rfl
theorem Fd:(RW.inPlace == PC.inPlace 4)=true:=by kernel_rfl
theorem Fi:(RW.unfollowed == PC.unfollowed 4)=true:=by kernel_rfl
theorem Fg:(RW.recurses == PC.recurses 4)=true:=by kernel_rfl
theorem Fn:(RW.named == PC.varsNamed 4)=true:=by kernel_rfl
theorem Fk:(RW.maps == (FN.params.toList++RS.plain.varTypes PC).any (PC.mapsRec ·))=true:=by kernel_rfl
theorem Fs:(RW.ifaces == (FN.params.toList++RS.plain.varTypes PC).any (PC.ifacesRec ·))=true:=by kernel_rfl
theorem Fw:(RW.mapsOut == PC.mapsAmong FN.resultTypes.toList)=true:=by kernel_rfl
theorem Fu:(RW.loops == (FN.params.toList++RS.plain.varTypes PC).any (PC.loopsFrom ·))=true:=by kernel_rfl
theorem E7:(RW.wideKeys == (FN.params.toList++RS.plain.varTypes PC++FN.resultTypes.toList).any (PC.wideKeysFrom ·))=true:=by kernel_rfl
theorem Fy:RS.vars.all (PC.varReadable ·)=true:=by kernel_rfl
theorem Fa:FN.resultTypes.all (fun t=>PC.readableRec t && decide (t<PC.types.size))=true:=by kernel_rfl
theorem Fh:(RW.ifacesOut == FN.resultTypes.toList.any (PC.ifacesRec ·))=true:=by kernel_rfl
theorem Ff:(RW.loopsOut == FN.resultTypes.toList.any (PC.loopsFrom ·))=true:=by kernel_rfl
theorem Fl:(RW.plainKeys == PC.plainKeys)=true:=by kernel_rfl
theorem Fj:RW.shortTexts.isNone=true:=by kernel_rfl
theorem Fq:PC.stopsHeard=true:=by kernel_rfl
theorem Fp:PC.mayEnter=true:=by kernel_rfl
theorem Ft:(RW.lifted == PC.liftsFinal)=true:=by kernel_rfl
theorem E6:(PC.make == some RW.make)=true:=by kernel_rfl
theorem Fx:(RW.pinned == RW.pinnedBy)=true:=by kernel_rfl
theorem E9:(RW.veiled == (FN.params.toList++RS.plain.varTypes PC++FN.resultTypes.toList).any (PC.veiledRec ·))=true:=by kernel_rfl
theorem E8:RW.veiledFits PC FN.params.toList (FN.params.toList++RS.plain.varTypes PC++FN.resultTypes.toList)=true:=by kernel_rfl
theorem closed:joinedFacts PC 4 FN RS RW=true :=
 Kw.joined_of j1 j2 j3 j4 j5 j6 j7 j8 j9 Fd Fi Fg Fn Fk Fs Fw Fu E7 Fy Fa Fh Ff Fl Fj Fq Fp Ft E6 rfl rfl Fx E9 E8
end Go.Proofs.YtgcoppcogllpbaaGreatDoor.primNumbers
