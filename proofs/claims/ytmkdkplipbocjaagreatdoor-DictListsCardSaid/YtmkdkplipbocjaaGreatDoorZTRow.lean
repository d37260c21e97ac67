/- For every two numbers, words and oops, and every list of steps, the Go function kilnlaw14.DictLists answers true and leaves its arguments as they were; there is no condition on the inputs. -/
import Derived.Test.YtmkdkplipbocjaaGreatDoorZT6
import Derived.Lay
import Derived.SevenTiedAt
set_option linter.all false
set_option maxRecDepth 100000
set_option maxHeartbeats 4000000
namespace Go.Proofs.YtmkdkplipbocjaaGreatDoor.dictLists
open Go.ChangeShapes Go.WideShapes Go.ChangeAt Go.RowKit Go.Proofs.YtmkdkplipbocjaaGreatDoor
set_option linter.unusedVariables false
theorem bStepW : PP.bytesOf 68 = 64 := by kernel_rfl
theorem walk (a0 a1 : Int) (a : Option Addr) (l c : Nat) (xs : List StepW) (w : World) (hL : laidMet PP Rows.dictListsRow.laid w) (hs : ma w.heap a l xs) (hl : l <= 10000000000000) :
    Calls PP 9 #[.int .i64 a0, .int .i64 a1, .slice a l c] w fun e w' => e = .returned (.bool true) ∧ Kw.Fr [] w.heap w'.heap ∧ w'.os = w.os ∧ w'.output = w.output :=
  ((sh (Q := fun v H => v = .bool true ∧ Kw.Fr [] w.heap H) (words := a0) (oops := a1) (c := c) (jZ hL) (jX hL) hs hl (fun f hq => BG ((jZ hL).fr f (by simp)) ((jX hL).fr f (by simp)) hq) fun H' h => ⟨rfl, h⟩).2 w rfl).mono fun _ _ ⟨_, he, ⟨hv, hf⟩, _, ho, hout, _⟩ => ⟨by rw [he, hv], hf, ho, hout⟩
theorem laid_met (os : Os) (args : Array Value) : laidMet PP Rows.dictListsRow.laid ((World.laidAll PP os Rows.dictListsRow.laid).forCall (fun _ _ => 0) ⟨#[], args, []⟩).memory :=
  laidMet_laidAll args (by kernel_rfl) (by kernel_rfl)
theorem lifted (os : Os) (started : os.Started) (H : Type) (enc : TypeId × Value -> H) :
    ReturnsInHanded {} Tryz.checked os 9 .any (fun w args => (Rows.dictListsSpec.pre enc Tryz.prog Tryz.f9 Rows.dictListsRow.domain false w args ∧ laidMet Tryz.prog Rows.dictListsRow.laid w) ∧ sizedMet enc Tryz.prog Tryz.f9 (OpenSpec.ofChange Rows.dictListsSpec) false w args)
      (Rows.dictListsSpec.post enc Tryz.prog Tryz.f9 false true false false) := by
  refine returnsInHanded_of_change_and (C := Tryz.checked) (X := fun w _ => laidMet Tryz.prog Rows.dictListsRow.laid w) (fun _ _ _ hh h => h.of_heap hh) Qt started (by kernel_rfl) Tryz.func9
    (ChangeSpec.witness_at (enc := enc) (C := Tryz.checked) (os := os) (X := fun w _ => laidMet Tryz.prog Rows.dictListsRow.laid w) false (World.laidAll PP os Rows.dictListsRow.laid) #[.int .i64 0, .int .i64 0, .slice none 0 0] 8 (World.laidAll_os _ _ _) (by kernel_rfl) (by kernel_rfl) (by kernel_rfl) (by kernel_rfl) (by kernel_rfl) (laid_met os _)) ?_
  intro W base args ds gs before hval0 hW hcnd hsz0 hL _
  have hval : ∀ (j : Nat) t v, Tryz.f9.params[j]? = some t -> args[j]? = some v -> Value.okWide Tryz.prog W .any base t v := hval0
  have hsz : (DataW.weightsEach Tryz.prog (Tryz.f9.params.toList ++ Rows.dictListsSpec.plain.varTypes Tryz.prog) (ds ++ gs)).all (· <= reachBytes) = true := hsz0
  have hW' := hW
  obtain ⟨p, q, hA0, hV, rfl, hfz, hnd⟩ := hW
  have hA : DataW.TrodAll enc Tryz.prog W 0 (fun _ => true) true Tryz.f9.params.toList args.toList ds p := hA0
  rw [Tryz.params9] at hA hval hsz
  obtain ⟨v0, v1, v2, d0, d1, d2, p0, p1, p2, rfl, rfl, rfl, h0, h1, h2⟩ := trodAll_three hA
  obtain ⟨rfl, rfl⟩ := trodVars_none hV
  obtain ⟨a, rfl, rfl, rfl, wa⟩ := open_int Tryz.underlying3 (hval 0 3 v0 rfl rfl) h0
  obtain ⟨b, rfl, rfl, rfl, wb⟩ := open_int Tryz.underlying3 (hval 1 3 v1 rfl rfl) h1
  have hsl := okWide_slice rj (hval 2 62 v2 rfl rfl)
  obtain ⟨a3, l, c, xs, rfl, hs, hl⟩ := sk h2 hsl
  have hl : l <= 10000000000000 := by
    rcases hl with h | ⟨el, sp, rfl, h⟩
    · omega
    · have h5 := List.all_eq_true.1 hsz ((el.length + sp.length) * 64) (DataW.weights_mem_each (j := 2) (t := 62) (d := .slice el sp) rfl rfl _ (by simp only [DataW.weights, rj, bStepW]; exact List.mem_cons_self ..))
      have hb : reachBytes = 140737488351232 := by decide
      have h6 : (el.length + sp.length) * 64 <= reachBytes := by simpa using h5
      rw [hb] at h6
      omega
  clear hA0 hval0
  simp only [List.append_nil, List.nil_append] at hW'
  refine (walk a b a3 l c xs W hL hs hl).mono fun e W' ⟨he, hf, ho, hout⟩ => ?_
  subst he
  exact ⟨_, rfl, Kw.post_law (pa := p2) (pv := []) hW' (fun _ _ _ => trodAll_mk1 (shut_bool Tryz.underlying4 _)) (fun sp hsp => by
    have := trodAll_mk3 (shut_int Tryz.underlying3 (w := W') (base := 0) (spare := sp) (held := true) (enc := enc) wa) (shut_int Tryz.underlying3 wb) (wB hf (by kernel_rfl) (of_decide_eq_true (by kernel_rfl)) h2 (sp := sp) (fun x hx => hsp x hx))
    exact this) (fun _ _ => rfl) hf ho hout⟩
noncomputable abbrev PC := Tryz.pinned.checked.prog
abbrev RW := Rows.dictListsRow
abbrev RS := Rows.dictListsSpec
noncomputable abbrev FN := Tryz.f9
theorem j1 : RW.wf (OpenSpec.ofChange RS) = true := by kernel_rfl
theorem j2 : laidOutB PC = true := by kernel_rfl
theorem j3 : mapsRowed PC = true := by kernel_rfl
theorem j4 : FN.params.all (PC.readableRec ·) = true := by kernel_rfl
theorem j5 : namedTie PC RW.named RS.vars = true := by kernel_rfl
theorem j6 : (RW.stops == []) = true := by kernel_rfl
theorem j7 : (PC.stops == []) = true := by kernel_rfl
theorem j8 : (RW.knobs == []) = true := by kernel_rfl
theorem j9 : (PC.stopKnobs == []) = true := by kernel_rfl
theorem j10 : (RW.inPlace == PC.inPlace 9) = true := by kernel_rfl
theorem j11 : (RW.unfollowed == PC.unfollowed 9) = true := by kernel_rfl
theorem j12 : (RW.recurses == PC.recurses 9) = true := by kernel_rfl
theorem j13 : (RW.named == PC.varsNamed 9) = true := by kernel_rfl
theorem j14 : (RW.maps == (FN.params.toList ++ RS.plain.varTypes PC).any (PC.mapsRec ·)) = true := by kernel_rfl
theorem j15 : (RW.ifaces == (FN.params.toList ++ RS.plain.varTypes PC).any (PC.ifacesRec ·)) = true := by kernel_rfl
theorem j16 : (RW.mapsOut == PC.mapsAmong FN.resultTypes.toList) = true := by kernel_rfl
theorem j17 : (RW.loops == (FN.params.toList ++ RS.plain.varTypes PC).any (PC.loopsFrom ·)) = true := by kernel_rfl
theorem j18 : (RW.wideKeys == (FN.params.toList ++ RS.plain.varTypes PC ++ FN.resultTypes.toList).any (PC.wideKeysFrom ·)) = true := by kernel_rfl
theorem j19 : RS.vars.all (PC.varReadable ·) = true := by kernel_rfl
theorem j20 : FN.resultTypes.all (fun t => PC.readableRec t && decide (t < PC.types.size)) = true := by kernel_rfl
theorem j21 : (RW.ifacesOut == FN.resultTypes.toList.any (PC.ifacesRec ·)) = true := by kernel_rfl
theorem j22 : (RW.loopsOut == FN.resultTypes.toList.any (PC.loopsFrom ·)) = true := by kernel_rfl
theorem j23 : (RW.plainKeys == PC.plainKeys) = true := by kernel_rfl
theorem j24 : RW.shortTexts.isNone = true := by kernel_rfl
theorem j25 : PC.stopsHeard = true := by kernel_rfl
theorem j28 : PC.mayEnter = true := by kernel_rfl
theorem j29 : (RW.lifted == PC.liftsFinal) = true := by kernel_rfl
theorem j30 : (PC.make == some RW.make) = true := by kernel_rfl
theorem j32 : (RW.pinned == RW.pinnedBy) = true := by kernel_rfl
theorem j26 : (RW.veiled == (FN.params.toList ++ RS.plain.varTypes PC ++ FN.resultTypes.toList).any (PC.veiledRec ·)) = true := by kernel_rfl
theorem j27 : RW.veiledFits PC FN.params.toList (FN.params.toList ++ RS.plain.varTypes PC ++ FN.resultTypes.toList) = true := by kernel_rfl
theorem closed : joinedFacts PC 9 FN RS RW = true :=
  Kw.joined_of j1 j2 j3 j4 j5 j6 j7 j8 j9 j10 j11 j12 j13 j14 j15 j16 j17 j18 j19 j20 j21 j22 j23 j24 j25 j28 j29 j30 rfl rfl j32 j26 j27
theorem inst : Tryz.f9.isInstance Tryz.pinned.checked.prog Rows.dictListsRow.origin Rows.dictListsRow.targs := of_decide_eq_true (by kernel_rfl)
theorem wrap : Tryz.f9.isWrapper Tryz.pinned.checked.prog Rows.dictListsRow.wrapper Rows.dictListsRow.mainSum := by unfold Func.isWrapper; first | (rw [if_pos (by decide +kernel)]; kernel_rfl) | (rw [if_neg (by decide +kernel)]; exact ⟨rfl, rfl⟩)
theorem fnum : Tryz.pinned.checked.prog.funcNamed Rows.dictListsRow.func = some 9 := by kernel_rfl
theorem f_holds : Rows.DictListsSaid :=
  OpenClaim.holds_of_wide 9 Tryz.f9 rfl rfl rfl rfl rfl rfl rfl ⟨rfl, rfl, rfl, rfl, rfl⟩ rfl rfl rfl rfl rfl fnum Tryz.func9 closed inst wrap
    (fun os started H enc _ => lifted os started H enc)
theorem proved : Rows.DictListsCardSaid :=
  Claim7.holds_tied_plain_at .later [] [.data, .data] true (true, "676f08ca7572fe87d9f82f6e622d317e8e7fb774fb28ea804af8a75e67ff5c9f") false
    f_holds (fun _ h => by cases h) (by kernel_rfl) (fun _ h => by cases h) dictLists_row_tie rfl ⟨rfl, rfl⟩ (by kernel_rfl) rfl
    (fun f fn hf hfn => by
      obtain rfl : f = 9 := Option.some.inj ((show Tryz.prog.funcNamed "kiln/kilnlaw14.DictLists" = some 9 by kernel_rfl).symm.trans hf) |>.symm
      obtain rfl : fn = Tryz.f9 := (Option.some.inj (Tryz.func9.symm.trans hfn)).symm
      exact ⟨by kernel_rfl, fun j t ht => by
        rw [Tryz.params9] at ht
        have h3 : t = 3 ∨ t = 62 := by
          rcases j with _ | _ | _ | j
          · exact .inl (by simpa using ht.symm)
          · exact .inl (by simpa using ht.symm)
          · exact .inr (by simpa using ht.symm)
          · simp at ht
        rcases h3 with rfl | rfl
        · exact (show Tryz.prog.wantsStandIn 3 = false by kernel_rfl)
        · exact (show Tryz.prog.wantsStandIn 62 = false by kernel_rfl)⟩)
    (by kernel_rfl)
#print axioms proved
end Go.Proofs.YtmkdkplipbocjaaGreatDoor.dictLists
