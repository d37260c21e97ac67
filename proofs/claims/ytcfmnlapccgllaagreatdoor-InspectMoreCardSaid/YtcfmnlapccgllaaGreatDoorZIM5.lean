/- Lemmas for RIM: functions of the program as predicate transformers, and their contracts. -/
import Derived.Test.YtcfmnlapccgllaaGreatDoorZIM4
import Derived.Lay
import Derived.WideKeyArgs
import Derived.SizedLaws
import Derived.SevenTiedAt
set_option linter.all false
set_option maxRecDepth 100000
set_option maxHeartbeats 4000000
namespace Go.Proofs.YtcfmnlapccgllaaGreatDoor.inspectMore
section
open Go.ChangeShapes Go.WideShapes Go.ChangeAt Go.RowKit Go.Proofs.YtcfmnlapccgllaaGreatDoor
set_option linter.unusedVariables false
theorem Ch (a0:Int) (a1:Int) (w:World) (hL:laidMet PP Rows.inspectMoreRow.laid w) :
  Calls PP 3 #[.int .i64 a0,.int .i64 a1] w fun e w'=>e=.returned (.bool true)∧Kw.Fr [] w.heap w'.heap∧w'.os=w.os∧w'.output=w.output :=
 ((mV (n:=a0) (again:=a1) (mL (by simp [Rows.inspectMoreRow]) hL) (mY (by simp [Rows.inspectMoreRow]) hL) (qb (by simp [Rows.inspectMoreRow]) hL)).2 w rfl).mono fun _ _ ⟨_,he,⟨hv,hf⟩,_,ho,hout,_⟩=>⟨by rw [he,hv],hf,ho,hout⟩
theorem ut (os:Os) (args:Array Value):laidMet PP Rows.inspectMoreRow.laid ((World.laidAll PP os Rows.inspectMoreRow.laid).forCall (fun _ _=>0) ⟨#[],args,[]⟩).memory :=
 laidMet_laidAll args (by kernel_rfl) (by kernel_rfl)
theorem lifted (os:Os) (started:os.Started) (H:Type) (enc:TypeId × Value->H) :
  ReturnsInHanded {} Tryz.checked os 3 .any (fun w args=>(Rows.inspectMoreSpec.pre enc Tryz.prog Tryz.f3 Rows.inspectMoreRow.domain false w args∧laidMet Tryz.prog Rows.inspectMoreRow.laid w)∧sizedMet enc Tryz.prog Tryz.f3 (OpenSpec.ofChange Rows.inspectMoreSpec) false w args)
   (Rows.inspectMoreSpec.post enc Tryz.prog Tryz.f3 false true false false):=by
 refine returnsInHanded_of_change_and (C:=Tryz.checked) (X:=fun w _=>laidMet Tryz.prog Rows.inspectMoreRow.laid w) (fun _ _ _ hh h=>h.of_heap hh) Cg started (by kernel_rfl) Tryz.func3
  (ChangeSpec.witness_at (enc:=enc) (C:=Tryz.checked) (os:=os) (X:=fun w _=>laidMet Tryz.prog Rows.inspectMoreRow.laid w) false (World.laidAll PP os Rows.inspectMoreRow.laid) #[.int .i64 0,.int .i64 0] 8 (World.laidAll_os _ _ _) (by kernel_rfl) (by kernel_rfl) (by kernel_rfl) (by kernel_rfl) (by kernel_rfl) (ut os _)) ?_
 intro W base args ds gs before hval0 hW hcnd hsz0 hL _
 have hval:∀ (j:Nat) t v,Tryz.f3.params[j]?=some t->args[j]?=some v->Value.okWide Tryz.prog W .any base t v:=hval0
 have hW':=hW
 obtain ⟨p,q,hA0,hV,rfl,hfz,hnd⟩:=hW
 have hA:DataW.TrodAll enc Tryz.prog W 0 (fun _=>true) true Tryz.f3.params.toList args.toList ds p:=hA0
 rw [Tryz.params3] at hA hval
 obtain ⟨v0,v1,d0,d1,p0,p1,rfl,rfl,rfl,h0,h1⟩:=trodAll_two hA
 obtain ⟨rfl,rfl⟩:=trodVars_none hV
 obtain ⟨a0,rfl,rfl,rfl,w0⟩:=open_int Tryz.underlying3 (hval 0 3 v0 rfl rfl) h0
 obtain ⟨a1,rfl,rfl,rfl,w1⟩:=open_int Tryz.underlying3 (hval 1 3 v1 rfl rfl) h1
 clear hA0 hval0
 simp only [List.append_nil,List.nil_append] at hW'
 refine (Ch a0 a1 W hL).mono fun e W' ⟨he,hf,ho,hout⟩=>?_
 subst he
 exact ⟨_,rfl,Kw.post_law (pa:=[]) (pv:=[]) hW' (fun _ _ _=>trodAll_mk1 (shut_bool Tryz.underlying4 _)) (fun sp hsp=>by
  have:=trodAll_mk2 (shut_int Tryz.underlying3 (w:=W') (base:=0) (spare:=sp) (held:=true) (enc:=enc) w0) (shut_int Tryz.underlying3 w1)
  exact this) (fun _ _=>rfl) hf ho hout⟩
end
end Go.Proofs.YtcfmnlapccgllaaGreatDoor.inspectMore
