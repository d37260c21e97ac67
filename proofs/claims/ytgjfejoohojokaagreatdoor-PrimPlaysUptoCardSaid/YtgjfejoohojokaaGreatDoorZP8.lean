/- Lemmas for RPP: functions of the program as predicate transformers, and their contracts. -/
import Derived.Test.YtgjfejoohojokaaGreatDoorZP7
import Derived.JoinedOf
set_option linter.all false
set_option maxRecDepth 100000
set_option maxHeartbeats 4000000
namespace Kw
open Go
theorem joined_of {P:Program}{f:FuncId}{fn:Func}{s:ChangeSpec}{c:OpenClaim} (h1:c.wf (OpenSpec.ofChange s)=true) (h2:laidOutB P=true) (h3:mapsRowed P=true) (h4:fn.params.all (P.readableRec ·)=true) (h5:namedTie P c.named s.vars=true)
  (h6:(c.stops == [])=true) (h7:(P.stops == [])=true) (h8:(c.knobs == [])=true) (h9:(P.stopKnobs == [])=true) (qz:(c.inPlace == P.inPlace f)=true) (I3:(c.unfollowed == P.unfollowed f)=true) (Jb:(c.recurses == P.recurses f)=true) (h13:(c.named == P.varsNamed f)=true)
  (h14:(c.maps == (fn.params.toList++s.plain.varTypes P).any (P.mapsRec ·))=true) (h15:(c.ifaces == (fn.params.toList++s.plain.varTypes P).any (P.ifacesRec ·))=true) (h16:(c.mapsOut == P.mapsAmong fn.resultTypes.toList)=true)
  (UB:(c.loops == (fn.params.toList++s.plain.varTypes P).any (P.loopsFrom ·))=true) (h18:(c.wideKeys == (fn.params.toList++s.plain.varTypes P++fn.resultTypes.toList).any (P.wideKeysFrom ·))=true)
  (WO:s.vars.all (P.varReadable ·)=true) (Zy:fn.resultTypes.all (fun t=>P.readableRec t && decide (t<P.types.size))=true) (h21:(c.ifacesOut == fn.resultTypes.toList.any (P.ifacesRec ·))=true) (h22:(c.loopsOut == fn.resultTypes.toList.any (P.loopsFrom ·))=true) (h23:(c.plainKeys == P.plainKeys)=true) (Uq:c.shortTexts.isNone=true) (h25:P.stopsHeard=true)
  (h28:P.mayEnter=true) (h29:(c.lifted == P.liftsFinal)=true) (h30:(P.make == some c.make)=true) (XF:c.domain=[]) (h33:c.kinds=[]) (h32:(c.pinned == c.pinnedBy)=true)
  (h26:(c.veiled == (fn.params.toList++s.plain.varTypes P++fn.resultTypes.toList).any (P.veiledRec ·))=true) (h27:c.veiledFits P fn.params.toList (fn.params.toList++s.plain.varTypes P++fn.resultTypes.toList)=true):joinedFacts P f fn s c=true:=by
 unfold joinedFacts;simp only [h1,h2,h3,h4,h5,h6,h7,h8,h9,qz,I3,Jb,h13,h14,h15,h16,UB,h18,WO,Zy,h21,h22,h23,Uq,h25,h26,h27,h28,h29,h30,h32,Bool.and_self,XF,h33,List.isEmpty_nil,if_true,a3S]
end Kw
