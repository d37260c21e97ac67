/- Lemmas for RPN: functions of the program as predicate transformers, and their contracts. -/
import Derived.Test.YtgcoppcogllpbaaGreatDoorZN4
import Derived.Lay
import Derived.SevenTiedAt
set_option linter.all false
set_option maxRecDepth 100000
set_option maxHeartbeats 4000000
namespace Go.Proofs.YtgcoppcogllpbaaGreatDoor.primNumbers
open Go.ChangeShapes Go.WideShapes Go.ChangeAt Go.RowKit Go.Proofs.YtgcoppcogllpbaaGreatDoor
set_option linter.unusedVariables false
theorem DS (a0 a1:Int) (w:World) (hL:laidMet PP Rows.primNumbersRow.laid w) :
  Calls PP 4 #[.int .i64 a0,.int .i64 a1] w fun e w'=>e=.returned (.bool true)∧Kw.Fr [] w.heap w'.heap∧w'.os=w.os∧w'.output=w.output :=
 ((kP (x:=a0) (y:=a1) (kR (by simp [Rows.primNumbersRow]) hL) (nE (by simp [Rows.primNumbersRow]) hL)).2 w rfl).mono fun _ _ ⟨_,he,⟨hv,hf⟩,_,ho,hout,_⟩=>⟨by rw [he,hv],hf,ho,hout⟩
theorem sB (os:Os) (args:Array Value):laidMet PP Rows.primNumbersRow.laid ((World.laidAll PP os Rows.primNumbersRow.laid).forCall (fun _ _=>0) ⟨#[],args,[]⟩).memory :=
 laidMet_laidAll args (by kernel_rfl) (by kernel_rfl)
theorem lifted (os:Os) (started:os.Started) (H:Type) (enc:TypeId × Value->H) :
  ReturnsInHanded {} Tryz.checked os 4 .any (fun w args=>(Rows.primNumbersSpec.pre enc Tryz.prog Tryz.f4 Rows.primNumbersRow.domain false w args∧laidMet Tryz.prog Rows.primNumbersRow.laid w)∧sizedMet enc Tryz.prog Tryz.f4 (OpenSpec.ofChange Rows.primNumbersSpec) false w args)
   (Rows.primNumbersSpec.post enc Tryz.prog Tryz.f4 false true false false):=by
 refine returnsInHanded_of_change_and (C:=Tryz.checked) (X:=fun w _=>laidMet Tryz.prog Rows.primNumbersRow.laid w) (fun _ _ _ hh h=>h.of_heap hh) DU started (by kernel_rfl) Tryz.func4
  (ChangeSpec.witness_at (enc:=enc) (C:=Tryz.checked) (os:=os) (X:=fun w _=>laidMet Tryz.prog Rows.primNumbersRow.laid w) false (World.laidAll PP os Rows.primNumbersRow.laid) #[.int .i64 0,.int .i64 0] 8 (World.laidAll_os _ _ _) (by kernel_rfl) (by kernel_rfl) (by kernel_rfl) (by kernel_rfl) (by kernel_rfl) (sB os _)) ?_
 intro W base args ds gs before hval0 hW hcnd _ hL _
 have hval:∀ (j:Nat) t v,Tryz.f4.params[j]?=some t->args[j]?=some v->Value.okWide Tryz.prog W .any base t v:=hval0
 have hW':=hW
 obtain ⟨p,q,hA0,hV,rfl,hfz,hnd⟩:=hW
 have hA:DataW.TrodAll enc Tryz.prog W 0 (fun _=>true) true Tryz.f4.params.toList args.toList ds p:=hA0
 rw [Tryz.params4] at hA hval
 obtain ⟨v0,v1,d0,d1,p0,p1,rfl,rfl,rfl,h0,h1⟩:=trodAll_two hA
 obtain ⟨rfl,rfl⟩:=trodVars_none hV
 obtain ⟨a,rfl,rfl,rfl,wa⟩:=open_int Tryz.underlying3 (hval 0 3 v0 rfl rfl) h0
 obtain ⟨b,rfl,rfl,rfl,wb⟩:=open_int Tryz.underlying3 (hval 1 3 v1 rfl rfl) h1
 clear hA0 hval0
 simp only [List.append_nil] at hW'
 refine (DS a b W hL).mono fun e W' ⟨he,hf,ho,hout⟩=>?_
 subst he
 exact ⟨_,rfl,Kw.post_law (pa:=[]) (pv:=[]) hW' (fun _ _ _=>trodAll_mk1 (shut_bool Tryz.underlying4 _)) (fun sp _=>trodAll_mk2 (shut_int Tryz.underlying3 wa) (shut_int Tryz.underlying3 wb)) (fun _ _=>rfl) hf ho hout⟩
end Go.Proofs.YtgcoppcogllpbaaGreatDoor.primNumbers
