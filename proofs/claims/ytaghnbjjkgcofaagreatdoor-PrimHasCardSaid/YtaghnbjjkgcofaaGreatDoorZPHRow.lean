/- For every number, every text and every list of words, the Go function kilnlaw17.PrimHas answers true and leaves its arguments as they were; there is no condition on the inputs. -/
import Derived.Test.YtaghnbjjkgcofaaGreatDoorZPH2
import Derived.Test.YtaghnbjjkgcofaaGreatDoorCards
import Derived.Test.YtaghnbjjkgcofaaGreatDoorTie
import Derived.ProofKit
import Derived.LaidLaws
import Derived.Handed
import Derived.WideKeyArgs
import Derived.SizedLaws
import Derived.Lay
import Derived.SevenTiedAt
set_option linter.all false
set_option maxRecDepth 100000
set_option maxHeartbeats 4000000
namespace Go.Proofs.YtaghnbjjkgcofaaGreatDoor
open Kw
theorem ownK : ownKnob Tryz.prog.godebug = none := by kernel_rfl
theorem uWords : PP.underlying 22 = some (.slice 27) := by kernel_rfl
/-- What came in reads behind the call as before, if no old memory has changed. -/
theorem laidOut : laidOutB PP = true := by kernel_rfl
theorem old_same {W W' : World} (hf : Fr [] W.heap W'.heap) {x : MemPlace} (hx : x.block < W.heap.size) : W.sameAt W' x := by
  cases x with
  | cell b off =>
    show ag W'.heap ⟨b, off, none⟩ = ag W.heap ⟨b, off, none⟩
    have e : W'.heap[b]? = W.heap[b]? := hf.2 b hx (by simp)
    unfold ag
    dsimp only
    rw [e]
  | map b => exact hf.2 _ hx (by simp)
theorem arg_stays {Hh : Type} {enc : TypeId × Value -> Hh} {W W' : World} (hf : Fr [] W.heap W'.heap) {t : TypeId} (hr : PP.readableRec t = true) (hrow : t < PP.types.size) {v : Value} {d : DataW Hh} {p : List MemPlace}
    (h : DataW.Trod enc PP W 0 (fun _ => true) true t v d p) {sp : Nat -> Bool} (hs : ∀ x ∈ p, sp x.block = true) : DataW.Trod enc PP W' 0 sp true t v d p := by
  have hlt : ∀ x ∈ p, x.block < W.heap.size := fun x hx => by
    obtain ⟨n, hn⟩ := h
    exact DataW.trod_lt n _ _ _ hn x hx
  exact WideElems.Trod_stays laidOut hr hrow h (fun x hx => old_same hf (hlt x hx)) hs
end Go.Proofs.YtaghnbjjkgcofaaGreatDoor
namespace Go.Proofs.YtaghnbjjkgcofaaGreatDoor.primHas
open Go.ChangeShapes Go.WideShapes Go.ChangeAt Go.RowKit Go.Proofs.YtaghnbjjkgcofaaGreatDoor
set_option linter.unusedVariables false
theorem walk (c : Int) (x : ByteArray) (a : Option Addr) (l cc : Nat) (w : World) :
    Calls PP 3 #[.int .i64 c, .string x, .slice a l cc] w fun e w' => e = .returned (.bool true) ∧ Kw.Fr [] w.heap w'.heap ∧ w'.os = w.os ∧ w'.output = w.output :=
  ((fV (H := w.heap) (c := c) (x := x) (a := a) (l := l) (cc := cc)).2 w rfl).mono fun _ _ ⟨_, he, ⟨hv, hf⟩, _, ho, hout, _⟩ => ⟨by rw [he, hv], hf, ho, hout⟩
theorem laid_met (os : Os) (args : Array Value) : laidMet PP Rows.primHasRow.laid ((World.laidAll PP os Rows.primHasRow.laid).forCall (fun _ _ => 0) ⟨#[], args, []⟩).memory :=
  laidMet_laidAll args (by kernel_rfl) (by kernel_rfl)
theorem lifted (os : Os) (started : os.Started) (H : Type) (enc : TypeId × Value -> H) :
    ReturnsInHanded {} Tryz.checked os 3 .any (fun w args => (Rows.primHasSpec.pre enc Tryz.prog Tryz.f3 Rows.primHasRow.domain false w args ∧ laidMet Tryz.prog Rows.primHasRow.laid w) ∧ sizedMet enc Tryz.prog Tryz.f3 (OpenSpec.ofChange Rows.primHasSpec) false w args)
      (Rows.primHasSpec.post enc Tryz.prog Tryz.f3 false true false false) := by
  refine returnsInHanded_of_change_and (C := Tryz.checked) (X := fun w _ => laidMet Tryz.prog Rows.primHasRow.laid w) (fun _ _ _ hh h => h.of_heap hh) ownK started (by kernel_rfl) Tryz.func3
    (ChangeSpec.witness_at (enc := enc) (C := Tryz.checked) (os := os) (X := fun w _ => laidMet Tryz.prog Rows.primHasRow.laid w) false (World.laidAll PP os Rows.primHasRow.laid) #[.int .i64 0, .string ⟨#[]⟩, .slice none 0 0] 8 (World.laidAll_os _ _ _) (by kernel_rfl) (by kernel_rfl) (by kernel_rfl) (by kernel_rfl) (by kernel_rfl) (laid_met os _)) ?_
  intro W base args ds gs before hval0 hW hcnd hsz0 hL _
  have hval : ∀ (j : Nat) t v, Tryz.f3.params[j]? = some t -> args[j]? = some v -> Value.okWide Tryz.prog W .any base t v := hval0
  have hsz : (DataW.weightsEach Tryz.prog (Tryz.f3.params.toList ++ Rows.primHasSpec.plain.varTypes Tryz.prog) (ds ++ gs)).all (· <= reachBytes) = true := hsz0
  have hW' := hW
  obtain ⟨p, q, hA0, hV, rfl, hfz, hnd⟩ := hW
  have hA : DataW.TrodAll enc Tryz.prog W 0 (fun _ => true) true Tryz.f3.params.toList args.toList ds p := hA0
  rw [Tryz.params3] at hA hval hsz
  obtain ⟨v0, v1, v2, d0, d1, d2, p0, p1, p2, rfl, rfl, rfl, h0, h1, h2⟩ := trodAll_three hA
  obtain ⟨rfl, rfl⟩ := trodVars_none hV
  obtain ⟨a, rfl, rfl, rfl, wa⟩ := open_int Tryz.underlying3 (hval 0 3 v0 rfl rfl) h0
  obtain ⟨s, rfl, rfl, rfl, wb⟩ := Go.ChangeMaps.open_string Tryz.underlying9 (hval 1 9 v1 rfl rfl) h1
  obtain ⟨a3, l, c, rfl⟩ := okWide_slice uWords (hval 2 22 v2 rfl rfl)
  clear hA0 hval0
  simp only [List.append_nil, List.nil_append] at hW'
  refine (walk a s a3 l c W).mono fun e W' ⟨he, hf, ho, hout⟩ => ?_
  subst he
  exact ⟨_, rfl, Kw.post_law (pa := p2) (pv := []) hW' (fun _ _ _ => trodAll_mk1 (shut_bool Tryz.underlying4 _)) (fun sp hsp => by
    have := trodAll_mk3 (shut_int Tryz.underlying3 (w := W') (base := 0) (spare := sp) (held := true) (enc := enc) wa) (Go.ChangeMaps.shut_string Tryz.underlying9 wb) (arg_stays hf (by kernel_rfl) (of_decide_eq_true (by kernel_rfl)) h2 (sp := sp) (fun x hx => hsp x hx))
    exact this) (fun _ _ => rfl) hf ho hout⟩
noncomputable abbrev PC := Tryz.pinned.checked.prog
abbrev RW := Rows.primHasRow
abbrev RS := Rows.primHasSpec
noncomputable abbrev FN := Tryz.f3
theorem j1 : RW.wf (OpenSpec.ofChange RS) = true := by kernel_rfl
theorem j2 : laidOutB PC = true := by kernel_rfl
theorem j3 : mapsRowed PC = true := by kernel_rfl
theorem j4 : FN.params.all (PC.readableRec ·) = true := by kernel_rfl
theorem j5 : namedTie PC RW.named RS.vars = true := by kernel_rfl
theorem j6 : (RW.stops == []) = true := by kernel_rfl
theorem j7 : (PC.stops == []) = true := by kernel_rfl
theorem j8 : (RW.knobs == []) = true := by kernel_rfl
theorem j9 : (PC.stopKnobs == []) = true := by kernel_rfl
theorem j10 : (RW.inPlace == PC.inPlace 3) = true := by kernel_rfl
theorem j11 : (RW.unfollowed == PC.unfollowed 3) = true := by kernel_rfl
theorem j12 : (RW.recurses == PC.recurses 3) = true := by kernel_rfl
theorem j13 : (RW.named == PC.varsNamed 3) = true := by kernel_rfl
theorem j14 : (RW.maps == (FN.params.toList ++ RS.plain.varTypes PC).any (PC.mapsRec ·)) = true := by kernel_rfl
theorem j15 : (RW.ifaces == (FN.params.toList ++ RS.plain.varTypes PC).any (PC.ifacesRec ·)) = true := by kernel_rfl
theorem j16 : (RW.mapsOut == PC.mapsAmong FN.resultTypes.toList) = true := by kernel_rfl
theorem j17 : (RW.loops == (FN.params.toList ++ RS.plain.varTypes PC).any (PC.loopsFrom ·)) = true := by kernel_rfl
theorem j18 : (RW.wideKeys == (FN.params.toList ++ RS.plain.varTypes PC ++ FN.resultTypes.toList).any (PC.wideKeysFrom ·)) = true := by kernel_rfl
theorem j19 : RS.vars.all (PC.varReadable ·) = true := by kernel_rfl
theorem j20 : FN.resultTypes.all (fun t => PC.readableRec t && decide (t < PC.types.size)) = true := by kernel_rfl
theorem j21 : (RW.ifacesOut == FN.resultTypes.toList.any (PC.ifacesRec ·)) = true := by kernel_rfl
theorem j22 : (RW.loopsOut == FN.resultTypes.toList.any (PC.loopsFrom ·)) = true := by kernel_rfl
theorem j23 : (RW.plainKeys == PC.plainKeys) = true := by kernel_rfl
theorem j24 : RW.shortTexts.isNone = true := by kernel_rfl
theorem j25 : PC.stopsHeard = true := by kernel_rfl
theorem j28 : PC.mayEnter = true := by kernel_rfl
theorem j29 : (RW.lifted == PC.liftsFinal) = true := by kernel_rfl
theorem j30 : (PC.make == some RW.make) = true := by kernel_rfl
theorem j32 : (RW.pinned == RW.pinnedBy) = true := by kernel_rfl
theorem j26 : (RW.veiled == (FN.params.toList ++ RS.plain.varTypes PC ++ FN.resultTypes.toList).any (PC.veiledRec ·)) = true := by kernel_rfl
theorem j27 : RW.veiledFits PC FN.params.toList (FN.params.toList ++ RS.plain.varTypes PC ++ FN.resultTypes.toList) = true := by kernel_rfl
theorem closed : joinedFacts PC 3 FN RS RW = true :=
  Kw.joined_of j1 j2 j3 j4 j5 j6 j7 j8 j9 j10 j11 j12 j13 j14 j15 j16 j17 j18 j19 j20 j21 j22 j23 j24 j25 j28 j29 j30 rfl rfl j32 j26 j27
theorem inst : Tryz.f3.isInstance Tryz.pinned.checked.prog Rows.primHasRow.origin Rows.primHasRow.targs := of_decide_eq_true (by kernel_rfl)
theorem wrap : Tryz.f3.isWrapper Tryz.pinned.checked.prog Rows.primHasRow.wrapper Rows.primHasRow.mainSum := by unfold Func.isWrapper; first | (rw [if_pos (by decide +kernel)]; kernel_rfl) | (rw [if_neg (by decide +kernel)]; exact ⟨rfl, rfl⟩)
theorem fnum : Tryz.pinned.checked.prog.funcNamed Rows.primHasRow.func = some 3 := by kernel_rfl
theorem f_holds : Rows.PrimHasSaid :=
  OpenClaim.holds_of_wide 3 Tryz.f3 rfl rfl rfl rfl rfl rfl rfl ⟨rfl, rfl, rfl, rfl, rfl⟩ rfl rfl rfl rfl rfl fnum Tryz.func3 closed inst wrap
    (fun os started H enc _ => lifted os started H enc)
theorem proved : Rows.PrimHasCardSaid :=
  Claim7.holds_tied_plain_at .later [] [.data, .data, .data, .data] true (true, "8d87b03f7b7b7be5c80e7aadd71c281104e5a8c543fc915feb0caf838bec3781") false
    f_holds (fun _ h => by cases h) (by kernel_rfl) (fun _ h => by cases h) primHas_row_tie rfl ⟨rfl, rfl⟩ (by kernel_rfl) rfl
    (fun f fn hf hfn => by
      obtain rfl : f = 3 := Option.some.inj ((show Tryz.prog.funcNamed "kiln/kilnlaw17.PrimHas" = some 3 by kernel_rfl).symm.trans hf) |>.symm
      obtain rfl : fn = Tryz.f3 := (Option.some.inj (Tryz.func3.symm.trans hfn)).symm
      exact ⟨by kernel_rfl, fun j t ht => by
        rw [Tryz.params3] at ht
        have h3 : t = 3 ∨ t = 9 ∨ t = 22 := by
          rcases j with _ | _ | _ | j
          · exact .inl (by simpa using ht.symm)
          · exact .inr (.inl (by simpa using ht.symm))
          · exact .inr (.inr (by simpa using ht.symm))
          · simp at ht
        rcases h3 with rfl | rfl | rfl
        · exact (show Tryz.prog.wantsStandIn 3 = false by kernel_rfl)
        · exact (show Tryz.prog.wantsStandIn 9 = false by kernel_rfl)
        · exact (show Tryz.prog.wantsStandIn 22 = false by kernel_rfl)⟩)
    (by kernel_rfl)
#print axioms proved
end Go.Proofs.YtaghnbjjkgcofaaGreatDoor.primHas
