/- Lemmas for RPU: functions of the program as predicate transformers, and their contracts. -/
import Derived.Test.YtgjfejoohojokaaGreatDoorZU5
set_option linter.all false
set_option maxRecDepth 100000
set_option maxHeartbeats 4000000
namespace Go.Proofs.YtgjfejoohojokaaGreatDoor.primUnseen
section
open Go.ChangeShapes Go.WideShapes Go.ChangeAt Go.RowKit Go.Proofs.YtgjfejoohojokaaGreatDoor
set_option linter.unusedVariables false
theorem rc {P:Program} (h:P.funcs.toList.any Func.goes=false) (f:FuncId):P.goes f=false:=by
 have all:∀ g:Nat,(P.funcs[g]?).any Func.goes=false:=fun g=>by
  cases hg:P.funcs[g]? with
  | none=>rfl
  | some fn =>
   have hm:fn∈P.funcs.toList:=by
    rw [←Array.getElem?_toList] at hg
    exact List.mem_of_getElem? hg
   have:=List.any_eq_false.1 h fn hm
   show Func.goes fn=false
   simpa using this
 unfold Program.goes
 have h1:P.funcs.any Func.goes=false:=by rw [←Array.any_toList];exact h
 rw [h1,Bool.and_false,Bool.or_false,List.any_eq_false]
 intro g _
 rw [all g]
 decide
theorem ue {P:Program} (h:P.funcs.toList.any Func.goes=false) (c:OpenClaim):c.goesBy P=false:=by
 unfold OpenClaim.goesBy Program.goesAt Program.goesFrom
 have e1:∀ o:Option FuncId,o.any P.goes=false:=fun o=>by
  cases o with
  | none=>rfl
  | some f=>exact rc h f
 have e2:∀ l:List FuncId,l.any P.goes=false:=fun l=>by
  rw [List.any_eq_false]
  intro g _
  rw [rc h g]
  decide
 rw [e1,Bool.false_or]
 split
 ·rfl
 ·exact e2 _
theorem Kx:Tryz.pinned.checked.prog.funcs.toList.any Func.goes=false:=by kernel_rfl
theorem k4:false=Rows.primUnseenRow.goesBy Tryz.pinned.checked.prog:=(ue Kx _).symm
end
end Go.Proofs.YtgjfejoohojokaaGreatDoor.primUnseen
