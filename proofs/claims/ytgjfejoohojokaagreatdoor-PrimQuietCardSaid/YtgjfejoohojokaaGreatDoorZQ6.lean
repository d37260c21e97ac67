/- Lemmas for RPQ: functions of the program as predicate transformers, and their contracts. -/
import Derived.Test.YtgjfejoohojokaaGreatDoorZQ5
import Derived.Lay
import Derived.WideKeyArgs
import Derived.SizedLaws
import Derived.SevenTiedAt
set_option linter.all false
set_option maxRecDepth 100000
set_option maxHeartbeats 4000000
namespace Go.Proofs.YtgjfejoohojokaaGreatDoor.primQuiet
open Go.ChangeShapes Go.WideShapes Go.ChangeAt Go.RowKit Go.Proofs.YtgjfejoohojokaaGreatDoor
set_option linter.unusedVariables false
theorem Lt (a0:Int) (a1:Int) (a:Option Addr) (l c:Nat) (xs:List StepP) (w:World) (hL:laidMet PP Rows.primQuietRow.laid w) (hs:fQ w.heap a l xs) (hl:l<=10000000000000) :
  Calls PP 4 #[.int .i64 a0,.int .i64 a1,.slice a l c] w fun e w'=>e=.returned (.bool true)∧Kw.Fr [] w.heap w'.heap∧w'.os=w.os∧w'.output=w.output :=
 ((pO (H:=w.heap) (words:=a0) (oops:=a1) (c:=c) (mD (by simp [Rows.primQuietRow]) hL) (pN (by simp [Rows.primQuietRow]) hL) hs hl).2 w rfl).mono fun _ _ ⟨_,he,⟨hv,hf⟩,_,ho,hout,_⟩=>⟨by rw [he,hv],hf,ho,hout⟩
theorem wZ (os:Os) (args:Array Value):laidMet PP Rows.primQuietRow.laid ((World.laidAll PP os Rows.primQuietRow.laid).forCall (fun _ _=>0) ⟨#[],args,[]⟩).memory :=
 laidMet_laidAll args (by kernel_rfl) (by kernel_rfl)
theorem lifted (os:Os) (started:os.Started) (H:Type) (enc:TypeId × Value->H) :
  ReturnsInHanded {} Tryz.checked os 4 .any (fun w args=>(Rows.primQuietSpec.pre enc Tryz.prog Tryz.f4 Rows.primQuietRow.domain false w args∧laidMet Tryz.prog Rows.primQuietRow.laid w)∧sizedMet enc Tryz.prog Tryz.f4 (OpenSpec.ofChange Rows.primQuietSpec) false w args)
   (Rows.primQuietSpec.post enc Tryz.prog Tryz.f4 false true false false):=by
 refine returnsInHanded_of_change_and (C:=Tryz.checked) (X:=fun w _=>laidMet Tryz.prog Rows.primQuietRow.laid w) (fun _ _ _ hh h=>h.of_heap hh) K8 started (by kernel_rfl) Tryz.func4
  (ChangeSpec.witness_at (enc:=enc) (C:=Tryz.checked) (os:=os) (X:=fun w _=>laidMet Tryz.prog Rows.primQuietRow.laid w) false (World.laidAll PP os Rows.primQuietRow.laid) #[.int .i64 0,.int .i64 0,.slice none 0 0] 8 (World.laidAll_os _ _ _) (by kernel_rfl) (by kernel_rfl) (by kernel_rfl) (by kernel_rfl) (by kernel_rfl) (wZ os _)) ?_
 intro W base args ds gs before hval0 hW hcnd hsz0 hL _
 have hval:∀ (j:Nat) t v,Tryz.f4.params[j]?=some t->args[j]?=some v->Value.okWide Tryz.prog W .any base t v:=hval0
 have hsz:(DataW.weightsEach Tryz.prog (Tryz.f4.params.toList++Rows.primQuietSpec.plain.varTypes Tryz.prog) (ds++gs)).all (·<=reachBytes)=true:=hsz0
 have hW':=hW
 obtain ⟨p,q,hA0,hV,rfl,hfz,hnd⟩:=hW
 have hA:DataW.TrodAll enc Tryz.prog W 0 (fun _=>true) true Tryz.f4.params.toList args.toList ds p:=hA0
 rw [Tryz.params4] at hA hval hsz
 obtain ⟨v0,v1,v2,d0,d1,d2,p0,p1,p2,rfl,rfl,rfl,h0,h1,h2⟩:=trodAll_three hA
 obtain ⟨rfl,rfl⟩:=trodVars_none hV
 obtain ⟨a0,rfl,rfl,rfl,w0⟩:=open_int Tryz.underlying3 (hval 0 3 v0 rfl rfl) h0
 obtain ⟨a1,rfl,rfl,rfl,w1⟩:=open_int Tryz.underlying3 (hval 1 3 v1 rfl rfl) h1
 have hsl:=okWide_slice qO (hval 2 22 v2 rfl rfl)
 obtain ⟨a,l,c,xs,rfl,hs,hl⟩:=rR h2 hsl fun n hn=>by
  have:=List.all_eq_true.1 hsz n (DataW.weights_mem_each (j:=2) (t:=22) (d:=d2) rfl rfl n hn)
  simpa using this
 clear hA0 hval0
 simp only [List.append_nil,List.nil_append] at hW'
 refine (Lt a0 a1 a l c xs W hL hs hl).mono fun e W' ⟨he,hf,ho,hout⟩=>?_
 subst he
 exact ⟨_,rfl,Kw.post_law (pa:=p2) (pv:=[]) hW' (fun _ _ _=>trodAll_mk1 (shut_bool Tryz.underlying4 _)) (fun sp hsp=>by
  have:=trodAll_mk3 (shut_int Tryz.underlying3 (w:=W') (base:=0) (spare:=sp) (held:=true) (enc:=enc) w0) (shut_int Tryz.underlying3 w1) (tF hf (by kernel_rfl) (of_decide_eq_true (by kernel_rfl)) h2 (sp:=sp) (fun x hx=>hsp x hx))
  exact this) (fun _ _=>rfl) hf ho hout⟩
end Go.Proofs.YtgjfejoohojokaaGreatDoor.primQuiet
