/- Lemmas for RIM: functions of the program as predicate transformers, and their contracts. -/
import Derived.Test.YtcfmnlapccgllaaGreatDoorZIM5
import Derived.JoinedOf
set_option linter.all false
set_option maxRecDepth 100000
set_option maxHeartbeats 4000000
namespace Kw
open Go
theorem joined_of {P:Program}{f:FuncId}{fn:Func}{s:ChangeSpec}{c:OpenClaim} (h1:c.wf (OpenSpec.ofChange s)=true) (h2:laidOutB P=true) (h3:mapsRowed P=true) (h4:fn.params.all (P.readableRec ·)=true) (h5:namedTie P c.named s.vars=true)
  (h6:(c.stops == [])=true) (h7:(P.stops == [])=true) (h8:(c.knobs == [])=true) (h9:(P.stopKnobs == [])=true) (JV:(c.inPlace == P.inPlace f)=true) (GU:(c.unfollowed == P.unfollowed f)=true) (Gq:(c.recurses == P.recurses f)=true) (QW:(c.named == P.varsNamed f)=true)
  (GH:(c.maps == (fn.params.toList++s.plain.varTypes P).any (P.mapsRec ·))=true) (QX:(c.ifaces == (fn.params.toList++s.plain.varTypes P).any (P.ifacesRec ·))=true) (QY:(c.mapsOut == P.mapsAmong fn.resultTypes.toList)=true)
  (QZ:(c.loops == (fn.params.toList++s.plain.varTypes P).any (P.loopsFrom ·))=true) (Q0:(c.wideKeys == (fn.params.toList++s.plain.varTypes P++fn.resultTypes.toList).any (P.wideKeysFrom ·))=true)
  (Jf:s.vars.all (P.varReadable ·)=true) (Lr:fn.resultTypes.all (fun t=>P.readableRec t && decide (t<P.types.size))=true) (Q1:(c.ifacesOut == fn.resultTypes.toList.any (P.ifacesRec ·))=true) (Q2:(c.loopsOut == fn.resultTypes.toList.any (P.loopsFrom ·))=true) (Q3:(c.plainKeys == P.plainKeys)=true) (Fw:c.shortTexts.isNone=true) (Q4:P.stopsHeard=true)
  (Q5:P.mayEnter=true) (Q6:(c.lifted == P.liftsFinal)=true) (Q7:(P.make == some c.make)=true) (Q8:c.domain=[]) (Q9:c.kinds=[]) (Ra:(c.pinned == c.pinnedBy)=true)
  (Rb:(c.veiled == (fn.params.toList++s.plain.varTypes P++fn.resultTypes.toList).any (P.veiledRec ·))=true) (Rc:c.veiledFits P fn.params.toList (fn.params.toList++s.plain.varTypes P++fn.resultTypes.toList)=true):joinedFacts P f fn s c=true:=by
 unfold joinedFacts;simp only [h1,h2,h3,h4,h5,h6,h7,h8,h9,JV,GU,Gq,QW,GH,QX,QY,QZ,Q0,Jf,Lr,Q1,Q2,Q3,Fw,Q4,Rb,Rc,Q5,Q6,Q7,Ra,Bool.and_self,Q8,Q9,List.isEmpty_nil,if_true,beq_self_eq_true]
end Kw
