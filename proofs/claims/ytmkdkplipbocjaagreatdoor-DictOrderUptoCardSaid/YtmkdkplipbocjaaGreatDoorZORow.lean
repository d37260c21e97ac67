/- For every two numbers, words and oops, and every list of steps, all of bulk at most 1048576, the Go function kilnlaw14.DictOrder answers true and leaves its arguments as they were. -/
import Derived.Test.YtmkdkplipbocjaaGreatDoorZO6
import Derived.Lay
import Derived.SevenTiedAt
set_option linter.all false
set_option maxRecDepth 100000
set_option maxHeartbeats 4000000
namespace Go.Proofs.YtmkdkplipbocjaaGreatDoor.dictOrder
open Go.ChangeShapes Go.WideShapes Go.ChangeAt Go.RowKit Go.Proofs.YtmkdkplipbocjaaGreatDoor
set_option linter.unusedVariables false
theorem walk (a0 a1 : Int) (a : Option Addr) (l c : Nat) (xs : List StepW) (w : World) (hL : laidMet PP Rows.dictOrderUptoRow.laid w) (hs : StepsW w.heap a l xs) (hl : l ≤ 1048576) :
    Calls PP 8 #[.int .i64 a0, .int .i64 a1, .slice a l c] w fun e w' => e = .returned (.bool true) ∧ Kw.Fr [] w.heap w'.heap ∧ w'.os = w.os ∧ w'.output = w.output :=
  have hk := kinds_of_laid hL
  have hN := names_of_laid hL
  ((dictOrder_c (Q := fun v H => v = .bool true ∧ Kw.Fr [] w.heap H) (words := a0) (oops := a1) (c := c) hk hN hs (by omega) (fun f hq => fixed_c (hk.fr f (by simp)) (hN.fr f (by simp)) hq) fun H' h => ⟨rfl, h⟩).2 w rfl).mono fun _ _ ⟨_, he, ⟨hv, hf⟩, _, ho, hout, _⟩ => ⟨by rw [he, hv], hf, ho, hout⟩
theorem laid_met (os : Os) (args : Array Value) : laidMet PP Rows.dictOrderUptoRow.laid ((World.laidAll PP os Rows.dictOrderUptoRow.laid).forCall (fun _ _ => 0) ⟨#[], args, []⟩).memory :=
  laidMet_laidAll args (by kernel_rfl) (by kernel_rfl)
theorem reads (os : Os) {H : Type} (enc : TypeId × Value → H) : ∃ places, DataW.whole enc Tryz.prog ((World.laidAll PP os Rows.dictOrderUptoRow.laid).forCall (fun _ _ => 0) ⟨#[], #[.int .i64 0, .int .i64 0, .slice none 0 0], []⟩).memory Tryz.f8.params.toList Rows.dictOrderSpec.vars false #[Value.int .i64 0, .int .i64 0, .slice none 0 0].toList 8 = some ([.lit (.int .i64 0), .lit (.int .i64 0), .nil], [], places) :=
  ⟨[], by kernel_rfl⟩
theorem lifted (os : Os) (started : os.Started) (H : Type) (enc : TypeId × Value → H) (F : Stop.Interp) :
    ReturnsInHanded {} Tryz.checked os 8 .any ((Rows.OpenSpec.upto Rows.dictOrderSpec).preRow enc Tryz.prog Tryz.f8 Rows.dictOrderUptoRow.domain false Rows.dictOrderUptoRow.laid) (((Rows.OpenSpec.upto Rows.dictOrderSpec).at F).post enc Tryz.prog Tryz.f8 false true false false) := by
  obtain ⟨places, hx⟩ := reads os enc
  refine returnsInHanded_of_row (C := Tryz.checked) (s := Rows.OpenSpec.upto Rows.dictOrderSpec) ownK started (by kernel_rfl) Tryz.func8
    (witness_row_at (enc := enc) (C := Tryz.checked) false (World.laidAll PP os Rows.dictOrderUptoRow.laid) #[.int .i64 0, .int .i64 0, .slice none 0 0] (World.laidAll_os _ _ _) (by kernel_rfl) (by kernel_rfl) (by kernel_rfl)
      (OpenSpec.preRow_of_cond 8 hx (by kernel_rfl) (fun k hk => by cases hk; kernel_rfl) (by kernel_rfl) (laid_met os _))) ?_
  intro W base args ds gs before hval0 hW _ hcond _ hL _ _
  have hval : ∀ (j : Nat) t v, Tryz.f8.params[j]? = some t → args[j]? = some v → Value.okWide Tryz.prog W .any base t v := hval0
  have hW' := hW
  obtain ⟨p, q, hA0, hV, rfl, hfz, hnd⟩ := hW
  have hA : DataW.TrodAll enc Tryz.prog W 0 (fun _ => true) true Tryz.f8.params.toList args.toList ds p := hA0
  rw [Tryz.params8] at hA hval
  obtain ⟨v0, v1, v2, d0, d1, d2, p0, p1, p2, rfl, rfl, rfl, h0, h1, h2⟩ := trodAll_three hA
  obtain ⟨rfl, rfl⟩ := trodVars_none hV
  obtain ⟨a, rfl, rfl, rfl, wa⟩ := open_int Tryz.underlying3 (hval 0 3 v0 rfl rfl) h0
  obtain ⟨b, rfl, rfl, rfl, wb⟩ := open_int Tryz.underlying3 (hval 1 3 v1 rfl rfl) h1
  have hsl := okWide_slice uStepsW (hval 2 62 v2 rfl rfl)
  obtain ⟨a3, l, c, xs, rfl, hs, hl⟩ := stepsW_open h2 hsl
  have hl : l ≤ 1048576 := by
    rcases hl with h | ⟨el, sp, rfl, h⟩
    · omega
    · have := bulk_slice (elems := el) (spare := sp) (by simp) (hcond _ rfl)
      omega
  clear hA0 hval0
  simp only [List.append_nil, List.nil_append] at hW'
  refine (walk a b a3 l c xs W hL hs hl).mono fun e W' ⟨he, hf, ho, hout⟩ => ?_
  subst he
  exact ⟨_, rfl, Kw.post_law (pa := p2) (pv := []) hW' (fun _ _ _ => trodAll_mk1 (shut_bool Tryz.underlying4 _)) (fun sp hsp => by
    have := trodAll_mk3 (shut_int Tryz.underlying3 (w := W') (base := 0) (spare := sp) (held := true) (enc := enc) wa) (shut_int Tryz.underlying3 wb) (arg_stays hf (by kernel_rfl) (of_decide_eq_true (by kernel_rfl)) h2 (sp := sp) (fun x hx => hsp x hx))
    exact this) (fun _ _ => rfl) hf ho hout⟩
noncomputable abbrev PC := Tryz.pinned.checked.prog
abbrev RW := Rows.dictOrderUptoRow
abbrev RS := (Rows.OpenSpec.upto Rows.dictOrderSpec).bare
noncomputable abbrev FN := Tryz.f8
theorem j1 : RW.wf (OpenSpec.ofChange RS) = true := by kernel_rfl
theorem j2 : laidOutB PC = true := by kernel_rfl
theorem j3 : mapsRowed PC = true := by kernel_rfl
theorem j4 : FN.params.all (PC.readableRec ·) = true := by kernel_rfl
theorem j5 : namedTie PC RW.named RS.vars = true := by kernel_rfl
theorem j6 : (RW.stops == []) = true := by kernel_rfl
theorem j7 : (PC.stops == []) = true := by kernel_rfl
theorem j8 : (RW.knobs == []) = true := by kernel_rfl
theorem j9 : (PC.stopKnobs == []) = true := by kernel_rfl
theorem j10 : (RW.inPlace == PC.inPlace 8) = true := by kernel_rfl
theorem j11 : (RW.unfollowed == PC.unfollowed 8) = true := by kernel_rfl
theorem j12 : (RW.recurses == PC.recurses 8) = true := by kernel_rfl
theorem j13 : (RW.named == PC.varsNamed 8) = true := by kernel_rfl
theorem j14 : (RW.maps == (FN.params.toList ++ RS.plain.varTypes PC).any (PC.mapsRec ·)) = true := by kernel_rfl
theorem j15 : (RW.ifaces == (FN.params.toList ++ RS.plain.varTypes PC).any (PC.ifacesRec ·)) = true := by kernel_rfl
theorem j16 : (RW.mapsOut == PC.mapsAmong FN.resultTypes.toList) = true := by kernel_rfl
theorem j17 : (RW.loops == (FN.params.toList ++ RS.plain.varTypes PC).any (PC.loopsFrom ·)) = true := by kernel_rfl
theorem j18 : (RW.wideKeys == (FN.params.toList ++ RS.plain.varTypes PC ++ FN.resultTypes.toList).any (PC.wideKeysFrom ·)) = true := by kernel_rfl
theorem j19 : RS.vars.all (PC.varReadable ·) = true := by kernel_rfl
theorem j20 : FN.resultTypes.all (fun t => PC.readableRec t && decide (t < PC.types.size)) = true := by kernel_rfl
theorem j21 : (RW.ifacesOut == FN.resultTypes.toList.any (PC.ifacesRec ·)) = true := by kernel_rfl
theorem j22 : (RW.loopsOut == FN.resultTypes.toList.any (PC.loopsFrom ·)) = true := by kernel_rfl
theorem j23 : (RW.plainKeys == PC.plainKeys) = true := by kernel_rfl
theorem j24 : RW.shortTexts.isNone = true := by kernel_rfl
theorem j25 : PC.stopsHeard = true := by kernel_rfl
theorem j28 : PC.mayEnter = true := by kernel_rfl
theorem j29 : (RW.lifted == PC.liftsFinal) = true := by kernel_rfl
theorem j30 : (PC.make == some RW.make) = true := by kernel_rfl
theorem j32 : (RW.pinned == RW.pinnedBy) = true := by kernel_rfl
theorem j26 : (RW.veiled == (FN.params.toList ++ RS.plain.varTypes PC ++ FN.resultTypes.toList).any (PC.veiledRec ·)) = true := by kernel_rfl
theorem j27 : RW.veiledFits PC FN.params.toList (FN.params.toList ++ RS.plain.varTypes PC ++ FN.resultTypes.toList) = true := by kernel_rfl
theorem closed : joinedFacts PC 8 FN RS RW = true :=
  Kw.joined_of j1 j2 j3 j4 j5 j6 j7 j8 j9 j10 j11 j12 j13 j14 j15 j16 j17 j18 j19 j20 j21 j22 j23 j24 j25 j28 j29 j30 rfl rfl j32 j26 j27
theorem inst : Tryz.f8.isInstance Tryz.pinned.checked.prog Rows.dictOrderUptoRow.origin Rows.dictOrderUptoRow.targs := of_decide_eq_true (by kernel_rfl)
theorem wrap : Tryz.f8.isWrapper Tryz.pinned.checked.prog Rows.dictOrderUptoRow.wrapper Rows.dictOrderUptoRow.mainSum := by unfold Func.isWrapper; first | (rw [if_pos (by decide +kernel)]; kernel_rfl) | (rw [if_neg (by decide +kernel)]; exact ⟨rfl, rfl⟩)
theorem fnum : Tryz.pinned.checked.prog.funcNamed Rows.dictOrderUptoRow.func = some 8 := by kernel_rfl
theorem f_holds : Rows.DictOrderUptoSaid :=
  OpenClaim.holds_of_cond 8 Tryz.f8 rfl rfl rfl rfl rfl rfl rfl ⟨rfl, rfl, rfl, rfl, rfl⟩ rfl rfl rfl rfl rfl fnum Tryz.func8 closed inst wrap
    (fun os started H enc _ F => by rw [OpenClaim.pre_eq_preRow]; exact lifted os started H enc F)
theorem proved : Rows.DictOrderUptoCardSaid :=
  Claim7.holds_tied_plain_at .later [] [.data, .data] true (true, "676f08ca7572fe87d9f82f6e622d317e8e7fb774fb28ea804af8a75e67ff5c9f") false
    f_holds (fun _ h => by cases h) (by kernel_rfl) (fun _ h => by cases h) dictOrderUpto_row_tie rfl ⟨rfl, rfl⟩ (by kernel_rfl) rfl
    (fun f fn hf hfn => by
      obtain rfl : f = 8 := Option.some.inj ((show Tryz.prog.funcNamed "kiln/kilnlaw14.DictOrder" = some 8 by kernel_rfl).symm.trans hf) |>.symm
      obtain rfl : fn = Tryz.f8 := (Option.some.inj (Tryz.func8.symm.trans hfn)).symm
      exact ⟨by kernel_rfl, fun j t ht => by
        rw [Tryz.params8] at ht
        have h3 : t = 3 ∨ t = 62 := by
          rcases j with _ | _ | _ | j
          · exact .inl (by simpa using ht.symm)
          · exact .inl (by simpa using ht.symm)
          · exact .inr (by simpa using ht.symm)
          · simp at ht
        rcases h3 with rfl | rfl
        · exact (show Tryz.prog.wantsStandIn 3 = false by kernel_rfl)
        · exact (show Tryz.prog.wantsStandIn 62 = false by kernel_rfl)⟩)
    (by kernel_rfl)
#print axioms proved
end Go.Proofs.YtmkdkplipbocjaaGreatDoor.dictOrder
