/- Lemmas for RPU: functions of the program as predicate transformers, and their contracts. -/
import Derived.Test.YtgjfejoohojokaaGreatDoorZU4
import Derived.Lay
import Derived.WideKeyArgs
import Derived.SizedLaws
import Derived.SevenTiedAt
set_option linter.all false
set_option maxRecDepth 100000
set_option maxHeartbeats 4000000
namespace Go.Proofs.YtgjfejoohojokaaGreatDoor.primUnseen
section
open Go.ChangeShapes Go.WideShapes Go.ChangeAt Go.RowKit Go.Proofs.YtgjfejoohojokaaGreatDoor
set_option linter.unusedVariables false
theorem IT (a:Option Addr) (l c:Nat) (xs:List StepP) (w:World) (hL:laidMet PP Rows.primUnseenRow.laid w) (hs:jf w.heap a l xs) (hl:l<=10000000000000) :
  Calls PP 3 #[.slice a l c] w fun e w'=>e=.returned (.bool true)∧Kw.Fr [] w.heap w'.heap∧w'.os=w.os∧w'.output=w.output :=
 ((sL (H:=w.heap) (c:=c) (qH (by simp [Rows.primUnseenRow]) hL) (tW (by simp [Rows.primUnseenRow]) hL) hs).2 w rfl).mono fun _ _ ⟨_,he,⟨hv,hf⟩,_,ho,hout,_⟩=>⟨by rw [he,hv],hf,ho,hout⟩
theorem Ae (os:Os) (args:Array Value):laidMet PP Rows.primUnseenRow.laid ((World.laidAll PP os Rows.primUnseenRow.laid).forCall (fun _ _=>0) ⟨#[],args,[]⟩).memory :=
 laidMet_laidAll args (by kernel_rfl) (by kernel_rfl)
theorem lifted (os:Os) (started:os.Started) (H:Type) (enc:TypeId × Value->H) :
  ReturnsInHanded {} Tryz.checked os 3 .any (fun w args=>(Rows.primUnseenSpec.pre enc Tryz.prog Tryz.f3 Rows.primUnseenRow.domain false w args∧laidMet Tryz.prog Rows.primUnseenRow.laid w)∧sizedMet enc Tryz.prog Tryz.f3 (OpenSpec.ofChange Rows.primUnseenSpec) false w args)
   (Rows.primUnseenSpec.post enc Tryz.prog Tryz.f3 false true false false):=by
 refine returnsInHanded_of_change_and (C:=Tryz.checked) (X:=fun w _=>laidMet Tryz.prog Rows.primUnseenRow.laid w) (fun _ _ _ hh h=>h.of_heap hh) IZ started (by kernel_rfl) Tryz.func3
  (ChangeSpec.witness_at (enc:=enc) (C:=Tryz.checked) (os:=os) (X:=fun w _=>laidMet Tryz.prog Rows.primUnseenRow.laid w) false (World.laidAll PP os Rows.primUnseenRow.laid) #[.slice none 0 0] 8 (World.laidAll_os _ _ _) (by kernel_rfl) (by kernel_rfl) (by kernel_rfl) (by kernel_rfl) (by kernel_rfl) (Ae os _)) ?_
 intro W base args ds gs before hval0 hW hcnd hsz0 hL _
 have hval:∀ (j:Nat) t v,Tryz.f3.params[j]?=some t->args[j]?=some v->Value.okWide Tryz.prog W .any base t v:=hval0
 have hsz:(DataW.weightsEach Tryz.prog (Tryz.f3.params.toList++Rows.primUnseenSpec.plain.varTypes Tryz.prog) (ds++gs)).all (·<=reachBytes)=true:=hsz0
 have hW':=hW
 obtain ⟨p,q,hA0,hV,rfl,hfz,hnd⟩:=hW
 have hA:DataW.TrodAll enc Tryz.prog W 0 (fun _=>true) true Tryz.f3.params.toList args.toList ds p:=hA0
 rw [Tryz.params3] at hA hval hsz
 obtain ⟨v0,d0,rfl,rfl,h0⟩:=trodAll_one hA
 obtain ⟨rfl,rfl⟩:=trodVars_none hV
 have hsl:=okWide_slice vn (hval 0 22 v0 rfl rfl)
 obtain ⟨a,l,c,xs,rfl,hs,hl⟩:=wo h0 hsl fun n hn=>by
  have:=List.all_eq_true.1 hsz n (DataW.weights_mem_each (j:=0) (t:=22) (d:=d0) rfl rfl n hn)
  simpa using this
 clear hA0 hval0
 simp only [List.append_nil,List.nil_append] at hW'
 refine (IT a l c xs W hL hs hl).mono fun e W' ⟨he,hf,ho,hout⟩=>?_
 subst he
 exact ⟨_,rfl,Kw.post_law (pa:=p) (pv:=[]) hW' (fun _ _ _=>trodAll_mk1 (shut_bool Tryz.underlying4 _)) (fun sp hsp=>by
  have:=trodAll_mk1 (y6 hf (by kernel_rfl) (of_decide_eq_true (by kernel_rfl)) h0 (sp:=sp) (fun x hx=>hsp x hx))
  exact this) (fun _ _=>rfl) hf ho hout⟩
end
end Go.Proofs.YtgjfejoohojokaaGreatDoor.primUnseen
