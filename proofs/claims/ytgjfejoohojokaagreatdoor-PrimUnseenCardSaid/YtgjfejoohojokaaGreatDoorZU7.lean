/- Lemmas for RPU: functions of the program as predicate transformers, and their contracts. -/
import Derived.Test.YtgjfejoohojokaaGreatDoorZU6
import Derived.JoinedOf
set_option linter.all false
set_option maxRecDepth 100000
set_option maxHeartbeats 4000000
namespace Kw
open Go
theorem joined_of {P:Program}{f:FuncId}{fn:Func}{s:ChangeSpec}{c:OpenClaim} (h1:c.wf (OpenSpec.ofChange s)=true) (h2:laidOutB P=true) (h3:mapsRowed P=true) (h4:fn.params.all (P.readableRec ·)=true) (h5:namedTie P c.named s.vars=true)
  (h6:(c.stops == [])=true) (h7:(P.stops == [])=true) (h8:(c.knobs == [])=true) (h9:(P.stopKnobs == [])=true) (dc:(c.inPlace == P.inPlace f)=true) (nb:(c.unfollowed == P.unfollowed f)=true) (k9:(c.recurses == P.recurses f)=true) (Ua:(c.named == P.varsNamed f)=true)
  (In:(c.maps == (fn.params.toList++s.plain.varTypes P).any (P.mapsRec ·))=true) (Ub:(c.ifaces == (fn.params.toList++s.plain.varTypes P).any (P.ifacesRec ·))=true) (Uc:(c.mapsOut == P.mapsAmong fn.resultTypes.toList)=true)
  (O7:(c.loops == (fn.params.toList++s.plain.varTypes P).any (P.loopsFrom ·))=true) (Ud:(c.wideKeys == (fn.params.toList++s.plain.varTypes P++fn.resultTypes.toList).any (P.wideKeysFrom ·))=true)
  (NR:s.vars.all (P.varReadable ·)=true) (R2:fn.resultTypes.all (fun t=>P.readableRec t && decide (t<P.types.size))=true) (Ue:(c.ifacesOut == fn.resultTypes.toList.any (P.ifacesRec ·))=true) (Uf:(c.loopsOut == fn.resultTypes.toList.any (P.loopsFrom ·))=true) (N0:(c.plainKeys == P.plainKeys)=true) (Jn:c.shortTexts.isNone=true) (Ug:P.stopsHeard=true)
  (Uh:P.mayEnter=true) (Ui:(c.lifted == P.liftsFinal)=true) (Uj:(P.make == some c.make)=true) (Uk:c.domain=[]) (Ul:c.kinds=[]) (Um:(c.pinned == c.pinnedBy)=true)
  (Un:(c.veiled == (fn.params.toList++s.plain.varTypes P++fn.resultTypes.toList).any (P.veiledRec ·))=true) (Uo:c.veiledFits P fn.params.toList (fn.params.toList++s.plain.varTypes P++fn.resultTypes.toList)=true):joinedFacts P f fn s c=true:=by
 unfold joinedFacts;simp only [h1,h2,h3,h4,h5,h6,h7,h8,h9,dc,nb,k9,Ua,In,Ub,Uc,O7,Ud,NR,R2,Ue,Uf,N0,Jn,Ug,Un,Uo,Uh,Ui,Uj,Um,Bool.and_self,Uk,Ul,List.isEmpty_nil,if_true,beq_self_eq_true]
end Kw
