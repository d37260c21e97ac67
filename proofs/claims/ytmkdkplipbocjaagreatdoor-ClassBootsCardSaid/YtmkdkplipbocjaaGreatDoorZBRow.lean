/- For every two numbers, words and oops, the Go function kilnlaw13.ClassBoots answers true and leaves its arguments as they were; there is no condition on the inputs. -/
import Derived.Test.YtmkdkplipbocjaaGreatDoorZB5
import Derived.Lay
import Derived.SevenTiedAt
set_option linter.all false
set_option maxRecDepth 100000
namespace Go.Proofs.YtmkdkplipbocjaaGreatDoor.classBoots
open Go.ChangeShapes Go.WideShapes Go.ChangeAt Go.RowKit Go.Proofs.YtmkdkplipbocjaaGreatDoor
set_option linter.unusedVariables false
theorem walk (a0 a1 : Int) (w : World) (hL : laidMet PP Rows.classBootsRow.laid w) :
    Calls PP 3 #[.int .i64 a0, .int .i64 a1] w fun e w' => e = .returned (.bool true) ∧ Kw.Fr [] w.heap w'.heap ∧ w'.os = w.os ∧ w'.output = w.output :=
  ((classBoots_c (Q := fun v H => v = .bool true ∧ Kw.Fr [] w.heap H) (words := a0) (oops := a1) (kinds_of_laid hL) (names_of_laid hL) fun H' h => ⟨rfl, h⟩).2 w rfl).mono fun _ _ ⟨_, he, ⟨hv, hf⟩, _, ho, hout, _⟩ => ⟨by rw [he, hv], hf, ho, hout⟩
theorem laid_met (os : Os) (args : Array Value) : laidMet PP Rows.classBootsRow.laid ((World.laidAll PP os Rows.classBootsRow.laid).forCall (fun _ _ => 0) ⟨#[], args, []⟩).memory :=
  laidMet_laidAll args (by kernel_rfl) (by kernel_rfl)
theorem lifted (os : Os) (started : os.Started) (H : Type) (enc : TypeId × Value → H) :
    ReturnsInHanded {} Tryz.checked os 3 .any (fun w args => (Rows.classBootsSpec.pre enc Tryz.prog Tryz.f3 Rows.classBootsRow.domain false w args ∧ laidMet Tryz.prog Rows.classBootsRow.laid w) ∧ sizedMet enc Tryz.prog Tryz.f3 (OpenSpec.ofChange Rows.classBootsSpec) false w args)
      (Rows.classBootsSpec.post enc Tryz.prog Tryz.f3 false true false false) := by
  refine returnsInHanded_of_change_and (C := Tryz.checked) (X := fun w _ => laidMet Tryz.prog Rows.classBootsRow.laid w) (fun _ _ _ hh h => h.of_heap hh) ownK started (by kernel_rfl) Tryz.func3
    (ChangeSpec.witness_at (enc := enc) (C := Tryz.checked) (os := os) (X := fun w _ => laidMet Tryz.prog Rows.classBootsRow.laid w) false (World.laidAll PP os Rows.classBootsRow.laid) #[.int .i64 0, .int .i64 0] 8 (World.laidAll_os _ _ _) (by kernel_rfl) (by kernel_rfl) (by kernel_rfl) (by kernel_rfl) (by kernel_rfl) (laid_met os _)) ?_
  intro W base args ds gs before hval0 hW hcnd _ hL _
  have hval : ∀ (j : Nat) t v, Tryz.f3.params[j]? = some t → args[j]? = some v → Value.okWide Tryz.prog W .any base t v := hval0
  have hW' := hW
  obtain ⟨p, q, hA0, hV, rfl, hfz, hnd⟩ := hW
  have hA : DataW.TrodAll enc Tryz.prog W 0 (fun _ => true) true Tryz.f3.params.toList args.toList ds p := hA0
  rw [Tryz.params3] at hA hval
  obtain ⟨v0, v1, d0, d1, p0, p1, rfl, rfl, rfl, h0, h1⟩ := trodAll_two hA
  obtain ⟨rfl, rfl⟩ := trodVars_none hV
  obtain ⟨a, rfl, rfl, rfl, wa⟩ := open_int Tryz.underlying3 (hval 0 3 v0 rfl rfl) h0
  obtain ⟨b, rfl, rfl, rfl, wb⟩ := open_int Tryz.underlying3 (hval 1 3 v1 rfl rfl) h1
  clear hA0 hval0
  simp only [List.append_nil] at hW'
  refine (walk a b W hL).mono fun e W' ⟨he, hf, ho, hout⟩ => ?_
  subst he
  exact ⟨_, rfl, Kw.post_law (pa := []) (pv := []) hW' (fun _ _ _ => trodAll_mk1 (shut_bool Tryz.underlying4 _)) (fun sp _ => trodAll_mk2 (shut_int Tryz.underlying3 wa) (shut_int Tryz.underlying3 wb)) (fun _ _ => rfl) hf ho hout⟩
theorem f_holds : Rows.ClassBootsSaid :=
  OpenClaim.holds_of_wide 3 Tryz.f3 rfl rfl rfl rfl rfl rfl rfl ⟨rfl, rfl, rfl, rfl, rfl⟩ rfl rfl rfl rfl rfl (by kernel_rfl) Tryz.func3 (by kernel_rfl)
    (of_decide_eq_true (by kernel_rfl)) (by unfold Func.isWrapper; first | (rw [if_pos (by decide +kernel)]; kernel_rfl) | (rw [if_neg (by decide +kernel)]; exact ⟨rfl, rfl⟩))
    (fun os started H enc _ => lifted os started H enc)
theorem proved : Rows.ClassBootsCardSaid :=
  Claim7.holds_tied_plain_at .later [] [.data, .data] true (true, "676f08ca7572fe87d9f82f6e622d317e8e7fb774fb28ea804af8a75e67ff5c9f") false
    f_holds (fun _ h => by cases h) (by kernel_rfl) (fun _ h => by cases h) classBoots_row_tie rfl ⟨rfl, rfl⟩ (by kernel_rfl) rfl
    (fun f fn hf hfn => by
      obtain rfl : f = 3 := Option.some.inj ((show Tryz.prog.funcNamed "kiln/kilnlaw13.ClassBoots" = some 3 by kernel_rfl).symm.trans hf) |>.symm
      obtain rfl : fn = Tryz.f3 := (Option.some.inj (Tryz.func3.symm.trans hfn)).symm
      exact ⟨by kernel_rfl, fun j t ht => by
        rw [Tryz.params3] at ht
        have h3 : t = 3 := by
          rcases j with _ | _ | j
          · simpa using ht.symm
          · simpa using ht.symm
          · simp at ht
        subst h3
        exact (show Tryz.prog.wantsStandIn 3 = false by kernel_rfl)⟩)
    (by kernel_rfl)
#print axioms proved
end Go.Proofs.YtmkdkplipbocjaaGreatDoor.classBoots
