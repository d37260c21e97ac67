/- Lemmas for RPT: functions of the program as predicate transformers, and their contracts. -/
import Derived.Test.YtgcoppcogllpbaaGreatDoorZT4
import Derived.Lay
import Derived.WideKeyArgs
import Derived.SizedLaws
import Derived.SevenTiedAt
set_option linter.all false
set_option maxRecDepth 100000
set_option maxHeartbeats 4000000
namespace Go.Proofs.YtgcoppcogllpbaaGreatDoor.primTexts
open Go.ChangeShapes Go.WideShapes Go.ChangeAt Go.RowKit Go.Proofs.YtgcoppcogllpbaaGreatDoor
set_option linter.unusedVariables false
theorem DS (a0 a1:ByteArray) (w:World) (hL:laidMet PP Rows.primTextsRow.laid w) :
  Calls PP 3 #[.string a0,.string a1] w fun e w'=>e=.returned (.bool true)∧Kw.Fr [] w.heap w'.heap∧w'.os=w.os∧w'.output=w.output :=
 ((oU (x:=a0) (y:=a1) (li (by simp [Rows.primTextsRow]) hL) (oD (by simp [Rows.primTextsRow]) hL)).2 w rfl).mono fun _ _ ⟨_,he,⟨hv,hf⟩,_,ho,hout,_⟩=>⟨by rw [he,hv],hf,ho,hout⟩
theorem tq (os:Os) (args:Array Value):laidMet PP Rows.primTextsRow.laid ((World.laidAll PP os Rows.primTextsRow.laid).forCall (fun _ _=>0) ⟨#[],args,[]⟩).memory :=
 laidMet_laidAll args (by kernel_rfl) (by kernel_rfl)
theorem lifted (os:Os) (started:os.Started) (H:Type) (enc:TypeId × Value->H) :
  ReturnsInHanded {} Tryz.checked os 3 .any (fun w args=>(Rows.primTextsSpec.pre enc Tryz.prog Tryz.f3 Rows.primTextsRow.domain false w args∧laidMet Tryz.prog Rows.primTextsRow.laid w)∧sizedMet enc Tryz.prog Tryz.f3 (OpenSpec.ofChange Rows.primTextsSpec) false w args)
   (Rows.primTextsSpec.post enc Tryz.prog Tryz.f3 false true false false):=by
 refine returnsInHanded_of_change_and (C:=Tryz.checked) (X:=fun w _=>laidMet Tryz.prog Rows.primTextsRow.laid w) (fun _ _ _ hh h=>h.of_heap hh) DZ started (by kernel_rfl) Tryz.func3
  (ChangeSpec.witness_at (enc:=enc) (C:=Tryz.checked) (os:=os) (X:=fun w _=>laidMet Tryz.prog Rows.primTextsRow.laid w) false (World.laidAll PP os Rows.primTextsRow.laid) #[.string ⟨#[]⟩,.string ⟨#[]⟩] 8 (World.laidAll_os _ _ _) (by kernel_rfl) (by kernel_rfl) (by kernel_rfl) (by kernel_rfl) (by kernel_rfl) (tq os _)) ?_
 intro W base args ds gs before hval0 hW hcnd _ hL _
 have hval:∀ (j:Nat) t v,Tryz.f3.params[j]?=some t->args[j]?=some v->Value.okWide Tryz.prog W .any base t v:=hval0
 have hW':=hW
 obtain ⟨p,q,hA0,hV,rfl,hfz,hnd⟩:=hW
 have hA:DataW.TrodAll enc Tryz.prog W 0 (fun _=>true) true Tryz.f3.params.toList args.toList ds p:=hA0
 rw [Tryz.params3] at hA hval
 obtain ⟨v0,v1,d0,d1,p0,p1,rfl,rfl,rfl,h0,h1⟩:=trodAll_two hA
 obtain ⟨rfl,rfl⟩:=trodVars_none hV
 obtain ⟨a,rfl,rfl,rfl,wa⟩:=Go.ChangeMaps.open_string Tryz.underlying9 (hval 0 9 v0 rfl rfl) h0
 obtain ⟨b,rfl,rfl,rfl,wb⟩:=Go.ChangeMaps.open_string Tryz.underlying9 (hval 1 9 v1 rfl rfl) h1
 clear hA0 hval0
 simp only [List.append_nil] at hW'
 refine (DS a b W hL).mono fun e W' ⟨he,hf,ho,hout⟩=>?_
 subst he
 exact ⟨_,rfl,Kw.post_law (pa:=[]) (pv:=[]) hW' (fun _ _ _=>trodAll_mk1 (shut_bool Tryz.underlying4 _)) (fun sp _=>trodAll_mk2 (Go.ChangeMaps.shut_string Tryz.underlying9 wa) (Go.ChangeMaps.shut_string Tryz.underlying9 wb)) (fun _ _=>rfl) hf ho hout⟩
end Go.Proofs.YtgcoppcogllpbaaGreatDoor.primTexts
