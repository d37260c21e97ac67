/- Lemmas for RAgain: functions of the program as predicate transformers, and their contracts. -/
import Derived.Test.YtmkdkplipbocjaaGreatDoorZA5
import Derived.ProofKit
import Derived.Test.YtmkdkplipbocjaaGreatDoorCards
import Derived.Test.YtmkdkplipbocjaaGreatDoorTie
import Derived.LaidLaws
import Derived.Handed
import Derived.Lib.LaidU8
import Derived.Deep.Strs
import Derived.WideKeyArgs
import Derived.SizedLaws
import Derived.JoinedOf
set_option linter.all false
set_option maxRecDepth 100000
set_option maxHeartbeats 4000000
namespace Go.Proofs.YtmkdkplipbocjaaGreatDoor
open Kw
section
variable {H : Heap} {bp br : Nat} {Fp Fq : Foot} {s : SP} {t : TB} {v : KV} {Q : QT}
theorem seen_c (hP : PK H bp Fp s t) (hR : RK H br Fq s t) (hv : KAll s t v) (h : ∀ H', Fr [] H H' → Q (.bool true) H') : callS PP n_k15 #[.pointer (some ⟨bp, 0, none⟩), .pointer (some ⟨br, 0, none⟩)] Q H := by
 have hm1 := hv.ks.shape.many1
 have hg := hv.ks.shape.globs
 have hw1 := hv.names.wf.m1
 have hw2 := hv.names.wf.len
 apply k15_ok
 unfold k15 iV wW
 refine all_r hR hv.ks fun al ll cl Gl H1 hol f1 hGl => ⟨_, _, _, rfl, ?_⟩
 have hll : ll = v.cls.length := by have := hol.len; simpa [intsV, oopsK] using this.symm
 refine count_k (hP.nil f1) hv fun H2 f2 => ⟨_, rfl, trivial, ?_⟩
 have F2 := f1.trans f2
 rw [bneI, cond_dec, if_neg (by omega)]
 refine globals_k (hP.nil F2) hv fun ag lg cg Gg H3 hog f3 hGg => ⟨_, _, _, rfl, trivial, ?_⟩
 have F3 := F2.trans f3
 have hlg : lg = v.glob.length := by have := hog.len; simpa [strsV, globsK] using this.symm
 refine globals_r (hR.nil F3) hv fun ag2 lg2 cg2 Gg2 H4 hog2 f4 hGg2 => ⟨_, _, _, rfl, trivial, ?_⟩
 have F4 := F3.trans f4
 refine same_c (hog.fr f4 (by simp)).rd hog2.rd (by omega) ⟨_, rfl, trivial, ?_⟩
 rw [decide_eq_true rfl]
 simp only [Bool.not_true, cond_false]
 obtain ⟨tb, Ft, hct, hT, _⟩ := (hR.nil F4).tb
 refine ⟨_, rfl, _, hct, ksymbols_k (hP.nil F4) fun tbp Ftp hctp hTp => ⟨_, rfl, ⟨⟨hct, trivial⟩, trivial⟩, ptAll_c hTp fun aS ls cs Gs H5 hos f5 hGs => ⟨_, _, _, rfl, ⟨⟨(cell_fr f5 (by simp) (cell_lt hct)).trans hct, trivial⟩, trivial⟩, ?_⟩⟩⟩
 have F5 := F4.trans f5
 have hls : ls = t.texts.length := by have := hos.len; simpa [strsV] using this.symm
 refine tall_c (hT.fr f5 (Disj.nil_right _)) fun aS2 ls2 cs2 Gs2 H6 hos2 f6 hGs2 => ⟨_, _, _, rfl, trivial, ?_⟩
 have F6 := F5.trans f6
 refine same_c (hos.fr f6 (by simp)).rd hos2.rd (by omega) ⟨_, rfl, trivial, ?_⟩
 rw [decide_eq_true rfl]
 simp only [Bool.not_true, cond_false]
 obtain ⟨sb, hb, Fh, hcs, hch, hRR, _⟩ := (hR.nil F6).hp
 refine ⟨_, rfl, _, hcs, _, rfl, _, hch, kspace_k (hP.nil F6) fun sbp Fsp hcsp hSp _ _ _ => ⟨_, rfl, ⟨⟨hch, trivial⟩, ⟨hcs, trivial⟩, trivial⟩, psHeap_c hSp fun hbp Fhp hRp _ _ => ⟨_, rfl, ⟨⟨hch, trivial⟩, ⟨hcs, trivial⟩, trivial⟩, hmarked_c hRp ⟨_, rfl, ⟨⟨hch, trivial⟩, ⟨hcs, trivial⟩, trivial⟩, rmarked_c hRR ⟨_, rfl, trivial, ?_⟩⟩⟩⟩⟩
 rw [bneI, cond_dec, if_neg (fun hn => hn rfl)]
 refine kspace_k (hP.nil F6) fun sbp Fsp hcsp hSp _ _ _ => ⟨_, rfl, trivial, psKept_c hSp fun ak ck H7 _ f7 => ⟨_, _, _, rfl, trivial, ?_⟩⟩
 have F7 := F6.trans f7
 have hst : s.stack.length = 0 := by rw [hv.stack]; rfl
 rw [bneI, cond_dec, if_neg (by omega)]
 refine ⟨fun w H' => ∃ i : Nat, w = [.int .i64 i] ∧ i ≤ ll ∧ Fr [] H7 H', fun w _ => match w with
   | [.int _ i] => (ll - i).toNat
   | _ => 0, ⟨0, rfl, Nat.zero_le _, Fr.refl _ _⟩, ?_⟩
 rintro w H8 ⟨i, rfl, hi, f8⟩ _
 have F8 := F7.trans f8
 refine ⟨_, rfl, ?_⟩
 rw [cond_dec]
 refine ite_i (fun hlt => ?_) fun hlt => ?_
 · have hlt' : i < v.cls.length := by omega
   have e : IntKind.wrap .i64 ((i : Int) + 1) = ((i + 1 : Nat) : Int) := by rw [wrap64_id (by omega) (by omega)]; omega
   have f18 : Fr [] H1 H8 := ((((((f2.trans f3).trans f4).trans f5).trans f6).trans f7).trans f8)
   obtain ⟨p, rfl, hcell⟩ := rd_oops hol f18 hlt'
   refine ⟨⟨by omega, hlt⟩, _, rfl, _, by rw [Int.toNat_natCast]; exact hcell, asked_c (hP.nil F8) (hR.nil F8) hv fun H9 f9 => ⟨_, rfl, ?_⟩⟩
   simp only [Bool.not_true, cond_false]
   rw [e]
   exact ⟨⟨i + 1, rfl, by omega, f8.trans f9⟩, by simp; omega⟩
 · refine kspace_k (hP.nil F8) fun sbp Fsp hcsp hSp _ _ _ => ⟨_, rfl, psRoom_c hSp fun H9 f9 => ⟨_, _, rfl, ?_⟩⟩
   have F9 := F8.trans f9
   obtain ⟨sb2, Fs2, hc2, hS2, _⟩ := (hR.nil F9).sp
   refine ⟨_, rfl, _, hc2, rsRoom_c hS2 fun H10 f10 => ⟨_, _, rfl, ?_⟩⟩
   rw [beqI, cond_dec, if_pos rfl, beqI, decide_eq_true rfl]
   exact h _ (F9.trans f10)
end
section
variable {H : Heap} {Q : QT}
theorem none_c (h : ∀ H', Fr [] H H' → Q (.bool true) H') : callS PP n_k13 #[] Q H := by
 apply k13_ok
 unfold k13 A0 iV wW; dsimp only [shH]
 refine kfind_nil ⟨_, _, rfl, kdefine_nil ⟨_, _, rfl, kinfo_nil fun H3 f3 => ⟨_, _, _, _, _, _, _, rfl, ?_⟩⟩⟩
 have fp := Fr.push [] H3 (.cells #[.string (⟨#[]⟩ : ByteArray), .string (⟨#[]⟩ : ByteArray), .slice none 0 0, .int .i64 0] 121)
 have hB := Blk.new H3 #[.string (⟨#[]⟩ : ByteArray), .string (⟨#[]⟩ : ByteArray), .slice none 0 0, .int .i64 0] 121
 generalize (H3.push (.cells #[.string (⟨#[]⟩ : ByteArray), .string (⟨#[]⟩ : ByteArray), .slice none 0 0, .int .i64 0] 121)) = G at fp hB ⊢
 obtain ⟨w0, w1, w2, w3, hB1, hf1⟩ := st4 hB (o := 0) (by simp) (.string ⟨#[]⟩) (.string ⟨#[]⟩) (.slice none 0 0) (.int .i64 0)
 have F1 := (Up.fresh (f3.trans fp) (F := [H3.size]) (F' := [H3.size]) ⟨hf1, fun _ h => .inl h⟩ (by have := f3.1; simpa using this)).1
 refine ⟨w0, w1, w2, w3, value_nil ⟨_, _, rfl, over_nil ⟨_, _, rfl, kglobal_nil ⟨_, rfl, setValue_nil ⟨_, rfl, ?_⟩⟩⟩⟩⟩
 rw [add_none, add_none, add_none]
 show ∃ (I23 : List Value → Heap → Prop) (μ23 : List Value → Heap → Nat), I23 [.int .i64 0] ((setH (setH (setH (setH G ⟨H3.size, 0, none⟩ (.string ⟨#[]⟩)) ⟨H3.size, 0 + 1, none⟩ (.string ⟨#[]⟩)) ⟨H3.size, 0 + 2, none⟩ (.slice none 0 0)) ⟨H3.size, 0 + 3, none⟩ (.int .i64 0)).push (.cells (intsV [2, 2, 2, 2, 2, 2, 2]).toArray 23)) ∧ _
 generalize (setH (setH (setH (setH G ⟨H3.size, 0, none⟩ (.string ⟨#[]⟩)) ⟨H3.size, 0 + 1, none⟩ (.string ⟨#[]⟩)) ⟨H3.size, 0 + 2, none⟩ (.slice none 0 0)) ⟨H3.size, 0 + 3, none⟩ (.int .i64 0)) = G1 at hB1 hf1 F1 ⊢
 have fq := Fr.push [] G1 (.cells (intsV [2, 2, 2, 2, 2, 2, 2]).toArray 23)
 have hr : Rd 1 (G1.push (.cells (intsV [2, 2, 2, 2, 2, 2, 2]).toArray 23)) (some ⟨G1.size, 0, none⟩) 7 (intsV [2, 2, 2, 2, 2, 2, 2]) := rd_new (cs := [2, 2, 2, 2, 2, 2, 2])
 have hB2 := hB1.fr fq (by simp)
 generalize (G1.push (.cells (intsV [2, 2, 2, 2, 2, 2, 2]).toArray 23)) = G2 at fq hr hB2 ⊢
 have F2 := F1.trans fq
 refine ⟨fun w H' => H' = G2 ∧ ∃ i : Nat, w = [.int .i64 i] ∧ i ≤ 7, fun w _ => match w with
   | [.int _ i] => (7 - i).toNat
   | _ => 0, ⟨rfl, 0, rfl, by decide⟩, ?_⟩
 rintro w H8 ⟨rfl, i, rfl, hi⟩ _
 refine ⟨_, rfl, ?_⟩
 rw [cond_dec]
 refine ite_i (fun hlt => ?_) fun hlt => ?_
 · obtain ⟨p, hp, hcell, hlt3⟩ := hr.int (i := (i : Int)) (by omega) (by omega)
   cases hp
   rw [Int.toNat_natCast] at hcell hlt3
   have hx : ([2, 2, 2, 2, 2, 2, 2] : List Int).getD i 0 = 2 := by
     rcases i with _ | _ | _ | _ | _ | _ | _ | i
     all_goals first | rfl | omega
   rw [hx] at hcell
   have e : IntKind.wrap .i64 ((i : Int) + 1) = ((i + 1 : Nat) : Int) := by rw [wrap64_id (by omega) (by omega)]; omega
   refine ⟨⟨by omega, hlt⟩, _, rfl, _, by rw [Int.toNat_natCast, Nat.mul_one]; exact hcell, num1_c ⟨_, rfl, ?_⟩⟩
   rw [bneI, cond_dec, if_neg (fun hn => hn rfl), e]
   exact ⟨⟨rfl, i + 1, rfl, by omega⟩, by simp; omega⟩
 · rw [beqI, cond_dec, if_pos rfl, cond_dec, if_pos rfl]
   refine ⟨_, hB2.cell 0, ?_⟩
   rw [strEq_dec, cond_dec, if_pos rfl, cond_dec, if_pos rfl]
   simp only [Option.isNone_none, cond_true]
   refine count_nil ⟨_, rfl, ?_⟩
   rw [beqI, cond_dec, if_pos rfl]
   refine globals_nil ⟨_, _, _, rfl, ?_⟩
   rw [beqI, cond_dec, if_pos (by decide)]
   refine under_nil fun H9 f9 => ⟨_, _, _, rfl, ?_⟩
   rw [beqI, cond_dec, if_pos (by decide)]
   refine kspace_nil ⟨_, rfl, ?_⟩
   simp only [Option.isNone_none, cond_true]
   exact ksymbols_nil ⟨_, rfl, h _ (F2.trans f9)⟩
end
attribute [local irreducible] bootRH bootH bootL
section
variable {H : Heap} {Q : QT}
theorem boot160 : ((bootR0 160 20).allocAll bootPlan).1 = 0 := by kernel_rfl
theorem sound_c (hk : Kinds H) {Q : QT} (h : ∀ b F H', PK H' b F (bootS 160 20) bootT → Fr [] H H' → (∀ x ∈ F, H.size ≤ x) → Q (.tuple #[.pointer (some ⟨b, 0, none⟩), .int .i64 0]) H') : callS PP n_k10 #[.int .i64 160, .int .i64 20] Q H :=
 kboot_k hk (fun hb => absurd ⟨by decide, by decide, by decide, by decide⟩ hb) (fun _ he => absurd boot160 he) fun _ _ => h
theorem classBoots_c {words oops : Int} (hk : Kinds H) (hN : NamesAt H) (h : ∀ H', Fr [] H H' → Q (.bool true) H') : callS PP n_k3 #[.int .i64 words, .int .i64 oops] Q H := by
 apply k3_ok
 unfold k3 iV
 have nok : ∀ (H3 : Heap), Fr [] H H3 → callS PP n_k10 #[.int .i64 160, .int .i64 20] (fun v11 H4 => ∃ p12 : Option Addr, ∃ n13 : Int, v11 = .tuple #[.pointer p12, .int .i64 n13] ∧ cond (!(Option.isNone p12)) (callS PP n_k12 #[.int .i64 n13] (fun v14 H5 => ∃ n15 : Int, v14 = .int .i64 n15 ∧ cond (n15 == 0) (callS PP n_k13 #[] (fun v16 H6 => ∃ b17 : Bool, v16 = .bool b17 ∧ Q (.bool b17) H6) H5) (Q (.bool false) H5)) H4) (Q (.bool false) H4)) H3 := by
   intro H3 F3
   refine sound_c (hk.fr F3 (by simp)) fun b F H4 _ f4 _ => ⟨_, _, rfl, ?_⟩
   simp only [Option.isNone_some, Bool.not_false, cond_true]
   refine num1_c ⟨_, rfl, ?_⟩
   rw [beqI, cond_dec, if_pos rfl]
   exact none_c fun H5 f5 => ⟨_, rfl, h _ ((F3.trans f4).trans f5)⟩
 have bad : ∀ (e : Int) (H2 : Heap), Fr [] H H2 → (∀ {Q' : Value → Heap → Prop} (_ : ∀ H3, Fr [] H2 H3 → Q' (.tuple #[.pointer none, .int .i64 e]) H3), callS PP n_k11 #[.int .i64 words, .int .i64 oops] Q' H2) →
     callS PP 11 #[.int .i64 words, .int .i64 oops] (fun v6 H2 => ∃ p7 : Option Addr, ∃ n8 : Int, v6 = .tuple #[.pointer p7, .int .i64 n8] ∧ callS PP 12 #[.int .i64 e] (fun v9 H3 => ∃ words0 : Int, v9 = .int .i64 words0 ∧ cond (words0 != n8) (Q (.bool false) H3) (cond (!((Option.isNone (none : Option Addr)) == (Option.isNone p7))) (Q (.bool false) H3) (cond (Option.isNone (none : Option Addr)) (callS PP 10 #[.int .i64 160, .int .i64 20] (fun v11 H4 => ∃ p12 : Option Addr, ∃ words3 : Int, v11 = .tuple #[.pointer p12, .int .i64 words3] ∧ cond (!(Option.isNone p12)) (callS PP 12 #[.int .i64 words3] (fun v14 H5 => ∃ words5 : Int, v14 = .int .i64 words5 ∧ cond (words5 == 0) (callS PP 13 #[] (fun v16 H6 => ∃ b17 : Bool, v16 = .bool b17 ∧ Q (.bool b17) H6) H5) (Q (.bool false) H5)) H4) (Q (.bool false) H4)) H3) (callS PP 14 #[.pointer (none : Option Addr), .int .i64 14] (fun v18 H7 => ∃ words9 : Int, ∃ oops0 : Int, v18 = .tuple #[.int .i64 words9, .int .i64 oops0] ∧ callS PP 15 #[.pointer (none : Option Addr), .pointer p7] (fun v21 H8 => ∃ b22 : Bool, v21 = .bool b22 ∧ cond b22 (cond (words9 == 17) (callS PP 12 #[.int .i64 oops0] (fun v23 H9 => ∃ oops4 : Int, v23 = .int .i64 oops4 ∧ cond (oops4 == 0) (callS PP 13 #[] (fun v25 H20 => ∃ b26 : Bool, v25 = .bool b26 ∧ Q (.bool b26) H20) H9) (Q (.bool false) H9)) H8) (Q (.bool false) H8)) (Q (.bool false) H8)) H7) H3)))) H2) H2 := by
   intro e H2 F2 hR
   refine hR fun H3 f3 => ⟨_, _, rfl, num1_c ⟨_, rfl, ?_⟩⟩
   rw [bneI, cond_dec, if_neg (fun hn => hn rfl)]
   simp only [Option.isNone_none, beq_self_eq_true, Bool.not_true, cond_false, cond_true]
   exact nok H3 (F2.trans f3)
 refine kboot_k hk (fun hb => ?_) (fun hg he H1 f1 => ?_) fun hg hz b F H1 hP f1 hF => ?_
 · refine ⟨_, _, rfl, bad 1 H (Fr.refl _ _) fun {Q'} hq => boot_r hN (fun _ => hq H (Fr.refl _ _)) (fun hg => absurd hg hb) fun hg => absurd hg hb⟩
 · refine ⟨_, _, rfl, bad _ H1 f1 fun {Q'} hq => boot_r (hN.fr f1 (by simp)) (fun hb => absurd hg hb) (fun _ _ H3 f3 => hq H3 f3) fun _ hz => absurd hz he⟩
 · refine ⟨_, _, rfl, boot_r (hN.fr f1 (by simp)) (fun hb => absurd hg hb) (fun _ he => absurd hz he) fun _ _ b2 F2 H2 hR f2 hF2 => ⟨_, _, rfl, num1_c ⟨_, rfl, ?_⟩⟩⟩
   rw [bneI, cond_dec, if_neg (fun hn => hn rfl)]
   simp only [Option.isNone_some, beq_self_eq_true, Bool.not_true, cond_false]
   have hv := boot_ok hg.1 hg.2.1 hg.2.2.1 hg.2.2.2 hz
   have F12 := f1.trans f2
   refine numbered_k (hP.nil f2) hv fun H3 f3 => ⟨_, _, rfl, ?_⟩
   have e14 : numberedK bootV 14 = (17, 0) := by kernel_rfl
   rw [e14]
   refine seen_c ((hP.nil f2).nil f3) (hR.nil f3) hv fun H4 f4 => ⟨_, rfl, ?_⟩
   simp only [cond_true]
   rw [beqI, cond_dec, if_pos rfl]
   refine num1_c ⟨_, rfl, ?_⟩
   rw [beqI, cond_dec, if_pos rfl]
   exact none_c fun H5 f5 => ⟨_, rfl, h _ (((F12.trans f3).trans f4).trans f5)⟩
end
end Go.Proofs.YtmkdkplipbocjaaGreatDoor
namespace Kw
open Go
theorem keptBut_of {W W' : World} {may : MemPlace → Prop} (hf : Fr [] W.heap W'.heap) (ho : W'.os = W.os) (hout : W'.output = W.output) : W.keptBut W' may := by
 refine ⟨ho, hout, fun i hi => ?_⟩
 rw [hf.2 i hi (by simp)]
 cases h : W.heap[i]? with
 | none => trivial
 | some o => cases o <;> first | exact ⟨rfl, rfl, rfl, fun _ _ => rfl⟩ | exact .inr ⟨rfl, rfl⟩ | rfl
theorem post_law {H : Type} {enc : TypeId × Value → H} {P : Program} {f : Func} {s : ChangeSpec} {apart fresh handsOn : Bool} {W W' : World} {args : Array Value} {v : Value} {ds gs : List (DataW H)} {before pa pv : List MemPlace}
   (hW : DataW.Whole enc P f.params.toList s.vars apart W args.toList ds gs before)
   (hres : ∀ (b : Nat) (sp : Nat → Bool) (hd : Bool), DataW.TrodAll enc P W' b sp hd f.resultTypes.toList (v.resultList f.resultTypes.size) (s.fn H (ds ++ gs)).results [])
   (hargs : ∀ sp : Nat → Bool, (∀ p ∈ before, sp p.block = true) → DataW.TrodAll enc P W' 0 sp true f.params.toList args.toList (s.fn H (ds ++ gs)).args pa)
   (hvars : ∀ sp : Nat → Bool, (∀ p ∈ before, sp p.block = true) → DataW.TrodVars enc P W' sp s.vars (s.fn H (ds ++ gs)).vars pv)
   (hf : Fr [] W.heap W'.heap) (ho : W'.os = W.os) (hout : W'.output = W.output) : s.post enc P f apart fresh handsOn false W args v W' :=
 ⟨ds, gs, before, [], pa, pv, hW, hres _ _ _, hargs _ (fun p hp => by simpa using hW.lt p hp), hvars _ (fun p hp => by simpa using hW.lt p hp), keptBut_of hf ho hout, fun h => by cases h⟩
end Kw
namespace Go.Proofs.YtmkdkplipbocjaaGreatDoor
open Kw
theorem ownK : ownKnob Tryz.prog.godebug = none := by kernel_rfl
theorem gNames : Tryz.prog.globalNamed "kiln/kilnref13.Names" = some g_kilnref13_Names := by kernel_rfl
theorem gKinds : Tryz.prog.globalNamed "kiln/word.kinds" = some g_word_kinds := by kernel_rfl
theorem gNamesT : (Tryz.prog.globals[g_kilnref13_Names]?).map (·.type) = some 115 := by kernel_rfl
theorem gKindsT : (Tryz.prog.globals[g_word_kinds]?).map (·.type) = some 284 := by kernel_rfl
theorem uNames : Tryz.prog.underlying 115 = some (.array 14 9) := by kernel_rfl
theorem uKinds : Tryz.prog.underlying 284 = some (.array 4 3) := by kernel_rfl
theorem uInt : Tryz.prog.underlying 3 = some (.int .i64) := by kernel_rfl
theorem uStr : Tryz.prog.underlying 9 = some .string := by kernel_rfl
theorem cInt : Tryz.prog.cellsOf 3 = 1 := by kernel_rfl
theorem cStr : Tryz.prog.cellsOf 9 = 1 := by kernel_rfl
theorem cell_var {W : World} {n : String} {g : Nat} {cs : Array Value} {i : Nat} {v : Value} (hg : PP.globalNamed n = some g) (hv : W.var? PP n = some cs) (h : cs[i]? = some v) : cellH W.heap ⟨g, i, none⟩ = some v := by
 have := World.var?_cell hg hv i
 rw [h] at this
 exact this
open Go.Lib in
theorem names_of_laid {W : World} (h : laidMet PP Rows.classBootsRow.laid W) : NamesAt W.heap := by
 obtain ⟨g, t, cs, fuel, p, hg, ht, hv, hd⟩ := laidMet.reads h (n := "kiln/kilnref13.Names") (d := Rows.laid_kiln_kilnref13_Names) (by simp [Rows.classBootsRow])
 obtain rfl := Option.some.inj (gNames.symm.trans hg)
 obtain rfl := Option.some.inj (gNamesT.symm.trans ht)
 intro i hi
 have h14 : i < 14 := hi
 obtain ⟨fuel', d, q, he, hd'⟩ := array_elem uNames hd i h14
 rw [cStr, Nat.mul_one] at hd'
 obtain ⟨s, hcs, hx, _⟩ := DataW.trod_string uStr hd'
 obtain ⟨hdx, _⟩ := Prod.mk.inj hx
 have hc : cs.toList[i]? = some (.string s) := by
   have := congrArg (·[0]?) hcs
   simpa [List.getElem?_take, List.getElem?_drop] using this
 have hs : s = kNames[i] := by
   have e : some d = some (.lit (.string (kNames[i]).data.toList) : DataW Unit) := by
     rw [← he]
     rcases i with _ | _ | _ | _ | _ | _ | _ | _ | _ | _ | _ | _ | _ | _ | i
     all_goals first | rfl | omega
   rw [hdx] at e
   have e2 : s.data.toList = (kNames[i]).data.toList := by simpa using e
   cases s with
   | mk sd =>
     have e3 : sd = (kNames[i]).data := Array.ext' e2
     rw [e3]
 have hf := cell_var gNames hv (i := i) (v := .string s) (by rw [← hc]; simp)
 rw [hs] at hf
 exact hf
open Go.Lib in
theorem kinds_of_laid {W : World} (h : laidMet PP Rows.classBootsRow.laid W) : Kinds W.heap := by
 obtain ⟨g, t, cs, fuel, p, hg, ht, hv, hd⟩ := laidMet.reads h (n := "kiln/word.kinds") (d := Rows.laid_kiln_word_kinds) (by simp [Rows.classBootsRow])
 obtain rfl := Option.some.inj (gKinds.symm.trans hg)
 obtain rfl := Option.some.inj (gKindsT.symm.trans ht)
 have one : ∀ i (k : Int), i < 4 → ([3, 1, 2, 1] : List Int)[i]? = some k → cellH W.heap ⟨g_word_kinds, i, none⟩ = some (.int .i64 k) := by
   intro i k hi hk
   obtain ⟨fuel', d, q, he, hd'⟩ := array_elem uKinds hd i hi
   rw [cInt, Nat.mul_one] at hd'
   obtain ⟨n, hcs, hx, _⟩ := DataW.trod_int uInt hd'
   obtain ⟨hdx, _⟩ := Prod.mk.inj hx
   have hc : cs.toList[i]? = some (.int .i64 n) := by
     have := congrArg (·[0]?) hcs
     simpa [List.getElem?_take, List.getElem?_drop] using this
   have hs : n = k := by
     have e : some d = some (.lit (.int .i64 k) : DataW Unit) := by
       rw [← he]
       rcases i with _ | _ | _ | _ | i
       all_goals first | omega | (cases hk; rfl)
     rw [hdx] at e
     simpa using e
   have hf := cell_var gKinds hv (i := i) (v := .int .i64 n) (by rw [← hc]; simp)
   rw [hs] at hf
   exact hf
 exact ⟨one 0 3 (by decide) rfl, one 1 1 (by decide) rfl, one 2 2 (by decide) rfl, one 3 1 (by decide) rfl⟩
end Go.Proofs.YtmkdkplipbocjaaGreatDoor
namespace Go.Proofs.YtmkdkplipbocjaaGreatDoor
open Kw
section
variable {H : Heap} {Q : QT}
def markB : ByteArray := ⟨#[109, 97, 114, 107]⟩
theorem cap16 {n c : Nat} (hn : n ≤ 10000000001000) (hc : c < n) : Builtin.nextslicecap n c * 16 ≤ 281474976710656 := by
 have := nextslicecap_le2 hc
 omega
theorem lmarked_c {a : Option Addr} {l c : Nat} {xs : List ByteArray} (hr : Rd 1 H a l (strsV xs)) (hlk : l ≤ 10000000000000)
   (h : ∀ a' l' c' G H', Own 1 H' a' l' c' (strsV (xs ++ List.replicate 8 markB)) G → Fr [] H H' → (∀ x ∈ G, H.size ≤ x) → Q (.slice a' l' c') H') : callS PP n_k102 #[.slice a l c] Q H := by
 have hs1 : sliceInfo PP 37 = some (1, 16, some (.string (⟨#[]⟩ : ByteArray))) := by kernel_rfl
 have hl : l = xs.length := by have := hr.1; simpa [strsV] using this.symm
 apply k102_ok
 unfold k102 A0 iV wW
 refine ⟨fun w H' => ∃ (i : Nat) (a' : Option Addr) (l' c' : Nat) (G : Foot), w = [.slice a' l' c', .int .i64 i] ∧ i ≤ l ∧ Own 1 H' a' l' c' (strsV (xs.take i)) G ∧ Fr [] H H' ∧ (∀ x ∈ G, H.size ≤ x), fun w _ => match w with
   | [_, .int _ i] => (l - i).toNat
   | _ => 0, ⟨0, none, 0, 0, [], rfl, Nat.zero_le _, by simpa [strsV] using Own.nil 1 H, Fr.refl _ _, by simp⟩, ?_⟩
 rintro w H1 ⟨i, a1, l1, c1, G, rfl, hi, ho, hf1, hG⟩ _
 have hl1 : l1 = i := by have := ho.len; simp only [strsV, List.length_map, List.length_take] at this; omega
 refine ⟨_, _, _, _, rfl, ?_⟩
 rw [cond_dec]
 refine ite_i (fun hlt => ?_) fun hlt => ?_
 · obtain ⟨p, hlt2, rfl, hcell⟩ := (hr.fr' hf1 (by simp)).str (i := (i : Int)) (by omega) hlt
   simp only [Int.toNat_natCast] at hcell hlt2
   have htk : xs.take (i + 1) = xs.take i ++ [xs[i]] := by rw [List.take_add_one, List.getElem?_eq_getElem hlt2]; rfl
   have e : IntKind.wrap .i64 ((i : Int) + 1) = ((i + 1 : Nat) : Int) := by rw [wrap64_id (by omega) (by omega)]; omega
   refine ⟨⟨by omega, hlt⟩, _, rfl, _, by rw [Int.toNat_natCast, Nat.mul_one]; exact hcell, ?_⟩
   refine evS_append1_of hs1 rfl (by kernel_rfl) ho rfl (by simp [oneC]) (fun c hc => cap16 (by omega) hc) (by decide) fun a' c' G2 H3 g1 g2 g3 => ⟨_, _, _, rfl, ?_⟩
   have hfr := Up.fresh hf1 g2 hG
   rw [e]
   refine ⟨⟨i + 1, a', l1 + 1, c', G2, rfl, by omega, ?_, hfr.1, hfr.2⟩, by simp; omega⟩
   rw [htk, strsV_append]; exact g1
 · have hil : i = l := by omega
   rw [List.take_of_length_le (by omega)] at ho
   refine ⟨fun w H' => ∃ (k : Nat) (a' : Option Addr) (l' c' : Nat) (G : Foot), w = [.slice a' l' c', .int .i64 k] ∧ k ≤ 8 ∧ Own 1 H' a' l' c' (strsV (xs ++ List.replicate k markB)) G ∧ Fr [] H H' ∧ (∀ x ∈ G, H.size ≤ x), fun w _ => match w with
     | [_, .int _ i] => (8 - i).toNat
     | _ => 0, ⟨0, a1, l1, c1, G, rfl, by omega, by simpa using ho, hf1, hG⟩, ?_⟩
   rintro w H3 ⟨k, a3, l3, c3, G3, rfl, hk, ho3, hf3, hG3⟩ _
   have hl3 : l3 = l + k := by have := ho3.len; simp only [strsV, List.length_map, List.length_append, List.length_replicate] at this; omega
   refine ⟨_, _, _, _, rfl, ?_⟩
   rw [cond_dec]
   refine ite_i (fun hlt => ?_) fun hlt => ?_
   · have e : IntKind.wrap .i64 ((k : Int) + 1) = ((k + 1 : Nat) : Int) := by rw [wrap64_id (by omega) (by omega)]; omega
     refine evS_append1_of hs1 rfl (by kernel_rfl) ho3 rfl (by simp [oneC]) (fun c hc => cap16 (by omega) hc) (by decide) fun a' c' G2 H4 g1 g2 g3 => ⟨_, _, _, rfl, ?_⟩
     have hfr := Up.fresh hf3 g2 hG3
     rw [e]
     refine ⟨⟨k + 1, a', l3 + 1, c', G2, rfl, by omega, ?_, hfr.1, hfr.2⟩, by simp; omega⟩
     rw [List.replicate_succ', ← List.append_assoc, strsV_append]; exact g1
   · have hk8 : k = 8 := by omega
     subst hk8
     exact h _ _ _ _ H3 ho3 hf3 hG3
theorem over_c {a : Option Addr} {l c : Nat} {xs : List Value} {G : Foot} (ho : Own 1 H a l c xs G) (hlk : l ≤ 100000000000000) (h : ∀ H', Fr G H H' → Q (.tuple #[]) H') : callS PP n_k104 #[.slice a l c] Q H := by
 apply k104_ok
 unfold k104 iV wW; dsimp only [shH]
 have hlc := ho.2.1
 refine ⟨fun w H' => ∃ i : Nat, w = [.int .i64 i] ∧ i ≤ l ∧ Fr G H H' ∧ ∀ b, a = some ⟨b, 0, none⟩ → ∃ cs, Blk H' b cs ∧ cs.size = c, fun w _ => match w with
   | [.int _ i] => (l - i).toNat
   | _ => 0, ⟨0, rfl, Nat.zero_le _, Fr.refl _ _, fun b hb => ?_⟩, ?_⟩
 · rcases ho.2.2 with ⟨h1, _⟩ | ⟨b', cs, h1, _, h3, h4, _⟩
   · rw [h1] at hb; cases hb
   · rw [h1] at hb; cases hb
     exact ⟨cs, h3, by omega⟩
 rintro w H1 ⟨i, rfl, hi, hf, hB⟩ _
 refine ⟨_, rfl, ?_⟩
 rw [cond_dec]
 refine ite_i (fun hlt => ?_) fun hlt => h H1 hf
 have e : IntKind.wrap .i64 ((i : Int) + 1) = ((i + 1 : Nat) : Int) := by rw [wrap64_id (by omega) (by omega)]; omega
 rcases ho.2.2 with ⟨_, h2, _⟩ | ⟨b, cs, h1, h2, _⟩
 · omega
 obtain ⟨cs', hb, hsz⟩ := hB b h1
 subst h1
 refine ⟨⟨by omega, hlt⟩, _, rfl, ?_⟩
 rw [add_none, Int.toNat_natCast, Nat.mul_one, Nat.zero_add, e]
 refine ⟨hb.wr (by omega), ⟨i + 1, rfl, by omega, hf.trans (Fr.set (by rw [h2]; simp)), fun b' hb' => ?_⟩, by simp; omega⟩
 cases hb'
 exact ⟨_, hb.set i _, by simpa using hsz⟩
end
theorem kDefineAll_all {s : SP} {v : KV} {t : TB} (hv : KAll s t v) (name sup : ByteArray) (own : List ByteArray) : ∃ v', KAll (kDefineAll s v t name sup own).2.1 (kDefineAll s v t name sup own).2.2 v' := by
 unfold kDefineAll
 by_cases h : (defK v t name sup own).2 = 0
 · rw [if_neg (by simpa using h)]
   obtain ⟨j, hj, ej, hlt, hno, _, _⟩ := defK_ok hv h
   rw [ej]
   have A := kDefine_ok hv hj hlt (name := name) (own := own) hno
   by_cases he : (kDefine s t v.clsW name (v.cls[j]).oop own).1.2 = 0
   · obtain ⟨n, ns, l, d, h1, _⟩ := A.2 he
     exact ⟨_, h1⟩
   · exact ⟨v, (A.1 he).2.1⟩
 · rw [if_pos h]; exact ⟨v, hv⟩
theorem kGlobalAll_all {s : SP} {v : KV} {t : TB} (hv : KAll s t v) (name : ByteArray) : ∃ v', KAll (kGlobalAll s v t name).2.1 (kGlobalAll s v t name).2.2 v' := by
 unfold kGlobalAll
 by_cases h : globK v t name = 0
 · rw [if_neg (by simpa using h)]
   have hlt : v.glob.length < 256 := by
     unfold globK at h
     split at h
     · cases h
     split at h
     · cases h
     split at h
     · cases h
     · omega
   have A := kGlobal_ok hv hlt (name := name)
   by_cases he : (kGlobal s t (globW v.glob) name).1 = 0
   · obtain ⟨n, d, h1, _⟩ := A.2 he
     exact ⟨_, h1⟩
   · exact ⟨v, (A.1 he).1⟩
 · rw [if_pos h]; exact ⟨v, hv⟩
theorem setValueK_all {s : SP} {v : KV} {t : TB} (hv : KAll s t v) (n w : Int) : ∃ v', KAll (setValueK s v n w).2 t v' := by
 unfold setValueK
 split
 · exact ⟨v, hv⟩
 split
 · exact ⟨v, hv⟩
 · rename_i h1 h2
   have := (hv.setG (i := n.toNat) (by omega) (w := w) (Classical.byContradiction h2)).2
   have e : ((n.toNat : Nat) : Int) = n := by omega
   rw [e] at this
   exact ⟨_, this⟩
structure Tw (H : Heap) (bp br : Nat) (Fp Fq : Foot) (s : SP) (t : TB) (v : KV) : Prop where
 p : PK H bp Fp s t
 r : RK H br Fq s t
 dis : Disj Fp Fq
 gk : g_word_kinds ∉ Fq
 v : KAll s t v
section
variable {H : Heap} {bp br : Nat} {Fp Fq : Foot} {s : SP} {t : TB} {v : KV} {Q : QT}
theorem Tw.fr (h : Tw H bp br Fp Fq s t v) {H' : Heap} {G : Foot} (hf : Fr G H H') (h1 : Disj Fp G) (h2 : Disj Fq G) (h3 : g_word_kinds ∉ G) : Tw H' bp br Fp Fq s t v :=
 ⟨h.p.fr hf h1 h3, h.r.fr hf h2, h.dis, h.gk, h.v⟩
theorem Tw.nil (h : Tw H bp br Fp Fq s t v) {H' : Heap} (hf : Fr [] H H') : Tw H' bp br Fp Fq s t v := h.fr hf (Disj.nil_right _) (Disj.nil_right _) (by simp)
theorem Tw.glt (h : Tw H bp br Fp Fq s t v) : g_word_kinds < H.size := cell_lt h.p.kinds.1
theorem Tw.r1 (h : Tw H bp br Fp Fq s t v) {H1 : Heap} {Fp' : Foot} (hu : Up Fp H Fp' H1) : RK H1 br Fq s t := h.r.fr hu.1 h.dis.symm
theorem Tw.both (h : Tw H bp br Fp Fq s t v) {H1 H2 : Heap} {Fp' Fq' : Foot} {s' : SP} {t' : TB} {v' : KV} (hP : PK H1 bp Fp' s' t') (hu : Up Fp H Fp' H1) (hR : RK H2 br Fq' s' t') (hu2 : Up Fq H1 Fq' H2) (hv : KAll s' t' v') :
   Tw H2 bp br Fp' Fq' s' t' v' ∧ Up (Fp ++ Fq) H (Fp' ++ Fq') H2 := by
 have hd1 : Disj Fp' Fq := fun x hx hm => by
   rcases hu.2 x hx with h1 | h1
   · exact h.dis x h1 hm
   · have := h.r.lt x hm; omega
 have hd2 : Disj Fp' Fq' := fun x hx hm => by
   rcases hu2.2 x hm with h1 | h1
   · exact hd1 x hx h1
   · have := hP.lt x hx; omega
 have hs := hu.1.1
 refine ⟨⟨hP.fr hu2.1 hd1 h.gk, hR, hd2, fun hm => ?_, hv⟩, ⟨(hu.1.mono fun x hx => by simp [hx]).trans (hu2.1.mono fun x hx => by simp [hx]), fun x hx => ?_⟩⟩
 · rcases hu2.2 _ hm with h1 | h1
   · exact h.gk h1
   · have := h.glt; omega
 · rcases List.mem_append.1 hx with hx | hx
   · exact (hu.2 x hx).imp (fun h => by simp [h]) id
   · rcases hu2.2 x hx with h1 | h1
     · exact .inl (by simp [h1])
     · exact .inr (by omega)
theorem blkA {b : Nat} {cs : Array Value} (h : Blk H b cs) (j : Nat) {v : Value} (hv : cs[j]? = some v) : cellH H ((⟨b, 0, none⟩ : Addr).add j) = some v := by
 rw [add_none, Nat.zero_add, h.cell j]; exact hv
theorem Outs.more {H H' : Heap} {a : Option Addr} {l : Nat} {F : Foot} (h : Outs H a l F) (hs : H.size ≤ H'.size) : Outs H' a l F := h.imp id fun h p hp => ⟨Nat.lt_of_lt_of_le (h p hp).1 hs, (h p hp).2⟩
theorem rd_prefix {a : Option Addr} {l l' : Nat} {xs ys : List Value} (h : Rd 1 H a l' (xs ++ ys)) (hl : l = xs.length) : Rd 1 H a l xs := by
 have h1 := h.1
 simp only [List.length_append] at h1
 refine ⟨by omega, fun ha => by have := h.2.1 ha; omega, fun p hp i hi => ?_⟩
 rw [h.2.2 p hp i (by omega), List.getElem?_append_left (by omega)]
theorem outs_rd {a : Option Addr} {l : Nat} {F : Foot} {ys : List Value} (ho : Outs H a l F) {H' : Heap} (hf : Fr F H H') (hk : Rd 1 H a l ys) : Rd 1 H' a l ys := ho.rd (F' := F) ⟨hf, fun _ h => .inl h⟩ hk
end
theorem condI {a b : Int} {A B : Prop} (h1 : a = b → A) (h2 : a ≠ b → B) : cond (a == b) A B := by
 rw [beqI, cond_dec]
 exact ite_i h1 h2
section
variable {H : Heap} {bp br : Nat} {Fp Fq : Foot} {s : SP} {t : TB} {v : KV} {Q : QT}
theorem pair_end {x e : Int} (h : Q (.bool true) H) : cond (x == x) (callS PP n_k12 #[.int .i64 e] (fun v59 H16 => ∃ n60 : Int, v59 = .int .i64 n60 ∧ Q (.bool (n60 == e)) H16) H) (Q (.bool false) H) := by
 refine condI (fun _ => num1_c ⟨_, rfl, ?_⟩) fun hn => absurd rfl hn
 rw [beqI, decide_eq_true rfl]; exact h
theorem plays_c (hT : Tw H bp br Fp Fq s t v) {kind i word : Int} {name other : ByteArray} {names : List ByteArray} {a : Option Addr} {l c : Nat} (hr : Rd 1 H a l (strsV names)) (ho1 : Outs H a l Fp) (ho2 : Outs H a l Fq) (hlk : l ≤ 10000000000000)
   (h : ∀ H' Fp' Fq' s' t' v', Tw H' bp br Fp' Fq' s' t' v' → Up (Fp ++ Fq) H (Fp' ++ Fq') H' → Q (.bool true) H') :
   callS PP n_k24 #[.pointer (some ⟨bp, 0, none⟩), .pointer (some ⟨br, 0, none⟩), .agg #[.int .i64 kind, .int .i64 i, .int .i64 word, .string name, .string other, .slice a l c]] Q H := by
 apply k24_ok
 unfold k24 A0 iV; dsimp only [shH]
 have fp : Fr [] H (H.push (.cells #[.int .i64 kind, .int .i64 i, .int .i64 word, .string name, .string other, .slice a l c] 39)) := Fr.push _ _ _
 have hB := Blk.new H #[.int .i64 kind, .int .i64 i, .int .i64 word, .string name, .string other, .slice a l c] 39
 have hT0 := hT.nil fp
 have hlp := hT.p.lt
 have hlq := hT.r.lt
 generalize (H.push (.cells #[.int .i64 kind, .int .i64 i, .int .i64 word, .string name, .string other, .slice a l c] 39)) = H0 at fp hB hT0 ⊢
 have hnp : H.size ∉ Fp := fun hm => Nat.lt_irrefl _ (hlp _ hm)
 have hnq : H.size ∉ Fq := fun hm => Nat.lt_irrefl _ (hlq _ hm)
 have hr0 : Rd 1 H0 a l (strsV names) := hr.fr' fp (by simp)
 have ho10 := ho1.more fp.1
 have ho20 := ho2.more fp.1
 have fin : ∀ {H' Fp' Fq' s' t' v'}, Tw H' bp br Fp' Fq' s' t' v' → Up (Fp ++ Fq) H0 (Fp' ++ Fq') H' → Q (.bool true) H' := fun hT' hu => h _ _ _ _ _ _ hT' ((Up.of_nil fp).trans hu)
 have finn : ∀ {H'}, Fr [] H0 H' → Q (.bool true) H' := fun hf => fin (hT0.nil hf) (Up.of_nil hf)
 generalize H.size = sb0 at hB hnp hnq ⊢
 refine ⟨_, hB.cell 0, condI (fun _ => ?_) fun _ => condI (fun _ => ?_) fun _ => condI (fun _ => ?_) fun _ => condI (fun _ => ?_) fun _ => condI (fun _ => ?_) fun _ => condI (fun _ => ?_) fun _ => condI (fun _ => ?_) fun _ => condI (fun _ => ?_) fun _ => condI (fun _ => ?_) fun _ => condI (fun _ => ?_) fun _ => condI (fun _ => ?_) fun _ => finn (Fr.refl _ _)⟩
 · -- a class is defined
   refine ⟨_, _, _, blkA hB 5 rfl, lmarked_c hr0 hlk fun af lf cf Gf H1 hof f1 hGf => ⟨_, _, _, rfl, ?_⟩⟩
   have hlf : lf = l + 8 := by have h1 := hof.len; have h2 := hr.1; simp only [strsV, List.length_map, List.length_append, List.length_replicate] at h1 h2; omega
   have hB1 := hB.fr f1 (by simp)
   have hT1 := hT0.nil f1
   have hlc := hof.2.1
   have hsz := hT0.p.lt
   have hszq := hT0.r.lt
   have hfp : Disj Gf Fp := fun x hx hm => by have := hGf x hx; have := hsz x hm; omega
   have hfq : Disj Gf Fq := fun x hx hm => by have := hGf x hx; have := hszq x hm; omega
   refine ⟨_, blkA hB1 3 rfl, _, blkA hB1 4 rfl, _, _, _, blkA hB1 5 rfl, ⟨by omega, by omega⟩, ?_⟩
   have hrf : Rd 1 H1 af l (strsV names) := by
     have := hof.rd
     rw [strsV_append] at this
     exact rd_prefix this (by have := hr.1; omega)
   rw [Int.toNat_natCast]
   refine kdefine_k hT1.p hT.v hrf (.inr (Own.out hof hfp)) (by omega) (by omega) fun H2 Fp' hP hu1 => ⟨_, _, rfl, trivial, ?_⟩
   have hB2 := hB1.fr hu1.1 hnp
   have hof2 := hof.fr hu1.1 hfp
   have hr2 := outs_rd (ho10.more f1.1) hu1.1 (hr0.fr' f1 (by simp))
   refine ⟨_, blkA hB2 3 rfl, _, blkA hB2 4 rfl, _, _, _, blkA hB2 5 rfl, define0_r (hT1.r1 hu1) hT.v hr2 ((ho20.more f1.1).more hu1.1.1) (by omega) fun H3 Fq' hR3 hu3 => ⟨_, _, rfl, ?_⟩⟩
   have hB3 := hB2.fr hu3.1 hnq
   have hof3 := hof2.fr hu3.1 hfq
   have hr3 := ((ho20.more f1.1).more hu1.1.1).rd hu3 hr2
   obtain ⟨v', hv'⟩ := kDefineAll_all hT.v name other names
   obtain ⟨hT3, hu⟩ := hT1.both hP hu1 hR3 hu3 hv'
   refine ⟨_, _, _, blkA hB3 5 rfl, lmarked_c hr3 hlk fun a4 l4 c4 G4 H4 ho4 f4 hG4 => ⟨_, _, _, rfl, ?_⟩⟩
   have hof4 := hof3.fr f4 (by simp)
   refine same_c hof4.rd ho4.rd (by omega) ⟨_, rfl, over_c hof4 (by omega) fun H5 f5 => ⟨rfl, ?_⟩⟩
   rw [decide_eq_true rfl]
   have hT4 := hT3.nil f4
   have hltf := hof.lt
   have d1 : Disj Fp' Gf := fun x hx hm => by
     rcases hu.2 x (by simp [hx]) with h1 | h1
     · rcases List.mem_append.1 h1 with h1 | h1
       · exact hfp x hm h1
       · exact hfq x hm h1
     · have := hltf x hm; omega
   have d2 : Disj Fq' Gf := fun x hx hm => by
     rcases hu.2 x (by simp [hx]) with h1 | h1
     · rcases List.mem_append.1 h1 with h1 | h1
       · exact hfp x hm h1
       · exact hfq x hm h1
     · have := hltf x hm; omega
   have hT5 := hT4.fr f5 d1 d2 fun hm => by have := hGf _ hm; have := hT0.glt; omega
   refine condI (fun _ => num1_c ⟨_, rfl, condI (fun _ => fin hT5 ?_) fun hn => absurd rfl hn⟩) fun hn => absurd rfl hn
   have u4 := (Up.of_nil (F := Fp ++ Fq) f1).trans (hu.trans (Up.of_nil f4))
   exact Up.mid u4 f5 fun x hx => hGf x hx
 · -- a global
   refine ⟨_, blkA hB 3 rfl, _, blkA hB 3 rfl, kglobal_k hT0.p hT.v fun H1 Fp' hP hu1 => ?_⟩
   have hB1 := hB.fr hu1.1 hnp
   refine ⟨_, rfl, ⟨⟨blkA hB1 3 rfl, trivial⟩, trivial⟩, num1_c ⟨_, rfl, ⟨⟨blkA hB1 3 rfl, trivial⟩, trivial⟩, global_r (hT0.r1 hu1) hT.v fun H2 Fq' hR2 hu2 => ⟨_, rfl, trivial, ?_⟩⟩⟩
   rw [beqI, decide_eq_true rfl]
   obtain ⟨v', hv'⟩ := kGlobalAll_all hT.v name
   obtain ⟨hT2, hu⟩ := hT0.both hP hu1 hR2 hu2 hv'
   exact fin hT2 hu
 · -- a global's value is set
   refine ⟨_, blkA hB 1 rfl, _, blkA hB 2 rfl, _, blkA hB 1 rfl, _, blkA hB 2 rfl, setValue_k hT0.p hT.v fun H1 Fp' hP hu1 => ?_⟩
   have hB1 := hB.fr hu1.1 hnp
   refine ⟨_, rfl, ⟨⟨blkA hB1 2 rfl, trivial⟩, ⟨⟨blkA hB1 1 rfl, trivial⟩, trivial⟩⟩, num1_c ⟨_, rfl, ⟨⟨blkA hB1 2 rfl, trivial⟩, ⟨⟨blkA hB1 1 rfl, trivial⟩, trivial⟩⟩, setValue_r (hT0.r1 hu1) hT.v fun H2 Fq' hR2 hu2 => ⟨_, rfl, trivial, ?_⟩⟩⟩
   rw [beqI, decide_eq_true rfl]
   obtain ⟨v', hv'⟩ := setValueK_all hT.v i word
   obtain ⟨hT2, hu⟩ := hT0.both hP hu1 hR2 hu2 hv'
   exact fin hT2 hu
 · -- a global's value
   refine ⟨_, blkA hB 1 rfl, value_k hT0.p hT.v fun H1 f1 => ⟨_, _, rfl, _, blkA (hB.fr f1 (by simp)) 1 rfl, value_r (hT0.r.nil f1) hT.v fun H2 f2 => ⟨_, _, rfl, pair_end (finn (f1.trans f2))⟩⟩⟩
 · -- the heap's mark
   obtain ⟨sb, hb, Fh, hcs, hch, _⟩ := hT0.r.hp
   obtain ⟨sb', F1, hcs', hS', hsub', _⟩ := hT0.r.sp
   have hsb : sb' = sb := by rw [hcs] at hcs'; simpa using hcs'.symm
   have hsq : sb ∈ Fq := by
     obtain ⟨_, _, _, _, F3, F4, _, _, _, _, eF, _⟩ := hS'
     rw [← hsb]
     exact hsub' _ (by rw [eF]; simp)
   have hbq := hT0.r.bmem
   have nsp : sb ∉ Fp := fun hm => hT0.dis _ hm hsq
   have nbp : br ∉ Fp := fun hm => hT0.dis _ hm hbq
   refine ⟨_, blkA hB 1 rfl, _, rfl, _, hcs, _, rfl, _, hch, _, blkA hB 1 rfl, kspace_k hT0.p fun sbp Fsp hcsp hSp hsubp hup hup2 => ⟨_, rfl, ⟨⟨blkA hB 1 rfl, trivial⟩, ⟨hch, trivial⟩, ⟨hcs, trivial⟩, ⟨blkA hB 1 rfl, trivial⟩, trivial⟩, psHeap_c hSp fun hbp Fhp hRp hsub3 hup3 => ⟨_, rfl, ⟨⟨blkA hB 1 rfl, trivial⟩, ⟨hch, trivial⟩, ⟨hcs, trivial⟩, ⟨blkA hB 1 rfl, trivial⟩, trivial⟩, mark_c hRp fun H1 hR1 hf1 => ?_⟩⟩⟩
   have fP : Fr Fp H0 H1 := (hf1.mono hsub3).mono hsubp
   have hu1 : Up Fp H0 Fp H1 := ⟨fP, fun _ h => .inl h⟩
   have hB1 := hB.fr fP hnp
   have c1 : cellH H1 ⟨br, 0, none⟩ = some (.pointer (some ⟨sb, 0, none⟩)) := by rw [cell_fr fP nbp (hT0.r.lt _ hbq)]; exact hcs
   have c2 : cellH H1 ⟨sb, 0, none⟩ = some (.pointer (some ⟨hb, 0, none⟩)) := by rw [cell_fr fP nsp (hT0.r.lt _ hsq)]; exact hch
   have hP1 := hup2 H1 _ (hup3 H1 _ hR1 hf1) (hf1.mono hsub3)
   obtain ⟨sb1, hb1, Fh1, hcs1, hch1, hRR1, _, _, huph1⟩ := (hT0.r1 hu1).hp
   have e1 : sb1 = sb := by rw [c1] at hcs1; simpa using hcs1.symm
   subst e1
   have e2 : hb1 = hb := by rw [c2] at hch1; simpa using hch1.symm
   subst e2
   refine ⟨_, rfl, ⟨⟨blkA hB1 1 rfl, trivial⟩, ⟨c2, trivial⟩, ⟨c1, trivial⟩, trivial⟩, num1_c ⟨_, rfl, ⟨⟨blkA hB1 1 rfl, trivial⟩, ⟨c2, trivial⟩, ⟨c1, trivial⟩, trivial⟩, rmarks_c hRR1 fun H2 hR2 hf2 => ⟨_, rfl, trivial, ?_⟩⟩⟩
   rw [beqI, decide_eq_true rfl]
   obtain ⟨Fq', hK2, hu2⟩ := huph1 H2 Fh1 _ hR2 ⟨hf2, fun _ h => .inl h⟩
   obtain ⟨hT2, hu⟩ := hT0.both hP1 hu1 hK2 hu2 (hT.v.marks i)
   exact fin hT2 hu
 · -- a collection
   refine kspace_k hT0.p fun sbp Fsp hcsp hSp hsubp hup hup2 => ⟨_, rfl, psCollect_c hSp fun H1 hS1 hf1 _ => ⟨_, _, _, rfl, ?_⟩⟩
   have hP1 := hup2 H1 _ hS1 hf1
   have hu1 : Up Fp H0 Fp H1 := ⟨hf1.mono hsubp, fun _ h => .inl h⟩
   obtain ⟨sb, F1, hc, hS, _, _, hupq⟩ := (hT0.r1 hu1).sp
   refine ⟨_, rfl, _, hc, rsCollect_c hS fun H2 F2 hS2 hu2 => ⟨_, _, _, rfl, ?_⟩⟩
   obtain ⟨Fq', hK2, hu2'⟩ := hupq H2 F2 _ hS2 hu2
   obtain ⟨hT2, hu⟩ := hT0.both hP1 hu1 hK2 hu2' hT.v.collect
   exact fin hT2 hu
 · refine ⟨_, blkA hB 1 rfl, asked_c hT0.p hT0.r hT.v fun H1 f1 => ⟨_, rfl, finn f1⟩⟩
 · refine ⟨_, blkA hB 3 rfl, kfind_k hT0.p hT.v fun H1 f1 => ⟨_, _, rfl, _, blkA (hB.fr f1 (by simp)) 3 rfl, find_r (hT0.r.nil f1) hT.v fun H2 f2 => ⟨_, _, rfl, pair_end (finn (f1.trans f2))⟩⟩⟩
 · refine ⟨_, blkA hB 1 rfl, numbered_k hT0.p hT.v fun H1 f1 => ⟨_, _, rfl, _, blkA (hB.fr f1 (by simp)) 1 rfl, numbered_r (hT0.r.nil f1) hT.v fun H2 f2 => ⟨_, _, rfl, pair_end (finn (f1.trans f2))⟩⟩⟩
 · refine ⟨_, blkA hB 2 rfl, of_k hT0.p hT.v ⟨_, _, rfl, _, blkA hB 2 rfl, of_r hT0.r hT.v ⟨_, _, rfl, pair_end (finn (Fr.refl _ _))⟩⟩⟩
 · refine seen_c hT0.p hT0.r hT.v fun H1 f1 => ⟨_, rfl, finn f1⟩
end
attribute [local irreducible] bootRH bootH bootL
structure StepV where
 kind : Int
 i : Int
 word : Int
 name : ByteArray
 other : ByteArray
 names : List ByteArray
def StepV.vals (x : StepV) (a : Option Addr) (l c : Nat) : List Value := [.int .i64 x.kind, .int .i64 x.i, .int .i64 x.word, .string x.name, .string x.other, .slice a l c]
def StepV.ok (H : Heap) (x : StepV) (a : Option Addr) (l c : Nat) : Prop := Rd 1 H a l (strsV x.names) ∧ l ≤ c ∧ l ≤ 10000000000000 ∧ (l = 0 ∨ ∀ q, a = some q → q.block < H.size)
def StepAt (H : Heap) (p : Addr) (x : StepV) : Prop := ∃ a l c, (∀ j v, (x.vals a l c)[j]? = some v → cellH H (p.add j) = some v) ∧ x.ok H a l c
def StepsAt (H : Heap) (a : Option Addr) (n : Nat) (xs : List StepV) : Prop := xs.length = n ∧ ∀ i x, xs[i]? = some x → ∃ p, a = some p ∧ StepAt H (p.add (i * 6)) x
theorem cell_lt' {H : Heap} {a : Addr} {v : Value} (h : cellH H a = some v) : a.block < H.size := by
 unfold cellH at h
 rcases Nat.lt_or_ge a.block H.size with h1 | h1
 · exact h1
 · rw [Array.getElem?_eq_none h1] at h; cases h
theorem cell_keep {H H' : Heap} (hf : Fr [] H H') {a : Addr} {v : Value} (h : cellH H a = some v) : cellH H' a = some v := by
 have hb := cell_lt' h
 unfold cellH at h ⊢
 rw [hf.2 _ hb (by simp)]
 exact h
theorem StepAt.fr {H H' : Heap} (hf : Fr [] H H') {p : Addr} {x : StepV} (h : StepAt H p x) : StepAt H' p x := by
 obtain ⟨a, l, c, h1, h2, h3, h4, h5⟩ := h
 exact ⟨a, l, c, fun j v hv => cell_keep hf (h1 j v hv), h2.fr' hf (fun _ _ => by simp), h3, h4, h5.imp id fun h5 q hq => Nat.lt_of_lt_of_le (h5 q hq) hf.1⟩
section
variable {H : Heap} {Q : QT}
theorem condD {P : Prop} [Decidable P] {A B : Prop} (h1 : P → A) (h2 : ¬ P → B) : cond (decide P) A B := by
 rw [cond_dec]; exact ite_i h1 h2
theorem boots_c {words oops : Int} (hk : Kinds H) (hN : NamesAt H) {R : Option Addr → Option Addr → Int → Heap → Prop}
   (hbad : ∀ e H', Fr [] H H' → R none none e H') (hok : ∀ bp br Fp Fq H', Tw H' bp br Fp Fq (bootS words oops) bootT bootV → Fr [] H H' → (∀ x ∈ Fp ++ Fq, H.size ≤ x) → R (some ⟨bp, 0, none⟩) (some ⟨br, 0, none⟩) 0 H') :
   callS PP n_k10 #[.int .i64 words, .int .i64 oops] (fun v4 H1 => ∃ p5 : Option Addr, ∃ n6 : Int, v4 = .tuple #[.pointer p5, .int .i64 n6] ∧ callS PP n_k11 #[.int .i64 words, .int .i64 oops] (fun v7 H2 => ∃ p8 : Option Addr, ∃ n9 : Int, v7 = .tuple #[.pointer p8, .int .i64 n9] ∧ callS PP n_k12 #[.int .i64 n6] (fun v10 H3 => ∃ n11 : Int, v10 = .int .i64 n11 ∧ cond (n11 != n9) (Q (.bool false) H3) (cond (!((Option.isNone p5) == (Option.isNone p8))) (Q (.bool false) H3) (R p5 p8 n9 H3))) H2) H1) H := by
 have bad : ∀ (e : Int) (H2 : Heap), Fr [] H H2 → (∀ {Q' : Value → Heap → Prop} (_ : ∀ H3, Fr [] H2 H3 → Q' (.tuple #[.pointer none, .int .i64 e]) H3), callS PP n_k11 #[.int .i64 words, .int .i64 oops] Q' H2) →
     callS PP n_k11 #[.int .i64 words, .int .i64 oops] (fun v7 H2 => ∃ p8 : Option Addr, ∃ n9 : Int, v7 = .tuple #[.pointer p8, .int .i64 n9] ∧ callS PP n_k12 #[.int .i64 e] (fun v10 H3 => ∃ n11 : Int, v10 = .int .i64 n11 ∧ cond (n11 != n9) (Q (.bool false) H3) (cond (!((Option.isNone (none : Option Addr)) == (Option.isNone p8))) (Q (.bool false) H3) (R none p8 n9 H3))) H2) H2 := by
   intro e H2 F2 hR
   refine hR fun H3 f3 => ⟨_, _, rfl, num1_c ⟨_, rfl, ?_⟩⟩
   rw [bneI, cond_dec, if_neg (fun hn => hn rfl)]
   simp only [Option.isNone_none, beq_self_eq_true, Bool.not_true, cond_false]
   exact hbad e H3 (F2.trans f3)
 refine kboot_k hk (fun hb => ?_) (fun hg he H1 f1 => ?_) fun hg hz b F H1 hP f1 hF => ?_
 · refine ⟨_, _, rfl, bad 1 H (Fr.refl _ _) fun {Q'} hq => boot_r hN (fun _ => hq H (Fr.refl _ _)) (fun hg => absurd hg hb) fun hg => absurd hg hb⟩
 · refine ⟨_, _, rfl, bad _ H1 f1 fun {Q'} hq => boot_r (hN.fr f1 (by simp)) (fun hb => absurd hg hb) (fun _ _ H3 f3 => hq H3 f3) fun _ hz => absurd hz he⟩
 · refine ⟨_, _, rfl, boot_r (hN.fr f1 (by simp)) (fun hb => absurd hg hb) (fun _ he => absurd hz he) fun _ _ b2 F2 H2 hR f2 hF2 => ⟨_, _, rfl, num1_c ⟨_, rfl, ?_⟩⟩⟩
   rw [bneI, cond_dec, if_neg (fun hn => hn rfl)]
   simp only [Option.isNone_some, beq_self_eq_true, Bool.not_true, cond_false]
   have hv := boot_ok hg.1 hg.2.1 hg.2.2.1 hg.2.2.2 hz
   have hs := f1.1
   have hlt : g_word_kinds < H.size := cell_lt hk.1
   refine hok b b2 F F2 H2 ⟨hP.nil f2, hR, fun x hx hm => ?_, fun hm => ?_, hv⟩ (f1.trans f2) (fun x hx => ?_)
   · have := hP.lt x hx; have := hF2 x hm; omega
   · have := hF2 _ hm; omega
   · rcases List.mem_append.1 hx with hx | hx
     · exact hF x hx
     · have := hF2 x hx; omega
structure Going (H0 H : Heap) (bp br : Nat) : Prop where
 tw : ∃ Fp Fq s t v, Tw H bp br Fp Fq s t v ∧ ∀ x ∈ Fp ++ Fq, H0.size ≤ x
 fr : Fr [] H0 H
theorem going_step {H0 H : Heap} {bp br : Nat} (hg : Going H0 H bp br) {q : Addr} {x : StepV} (hx : StepAt H0 q x) {Q : QT} (h : ∀ H', Going H0 H' bp br → Q (.bool true) H') :
   ∃ n18 : Int, cellH H q = some (.int .i64 n18) ∧ ∃ n19 : Int, cellH H (q.add 1) = some (.int .i64 n19) ∧ ∃ n20 : Int, cellH H (q.add 2) = some (.int .i64 n20) ∧ ∃ s21 : ByteArray, cellH H (q.add 3) = some (.string s21) ∧ ∃ s22 : ByteArray, cellH H (q.add 4) = some (.string s22) ∧ ∃ a23 : Option Addr, ∃ l23 c23 : Nat, cellH H (q.add 5) = some (.slice a23 l23 c23) ∧
     callS PP n_k24 #[.pointer (some ⟨bp, 0, none⟩), .pointer (some ⟨br, 0, none⟩), .agg #[.int .i64 n18, .int .i64 n19, .int .i64 n20, .string s21, .string s22, .slice a23 l23 c23]] Q H := by
 obtain ⟨a, l, c, h1, h2, h3, h4, h5⟩ := hx.fr hg.fr
 obtain ⟨Fp, Fq, s, t, v, hT, hF⟩ := hg.tw
 obtain ⟨a', l', c', g1, _, _, _, g5⟩ := hx
 have e0 : cellH H q = some (.int .i64 x.kind) := by have := h1 0 _ rfl; simpa [Addr.add] using this
 have es : Value.slice a l c = .slice a' l' c' := by
   have q1 := h1 5 _ rfl
   have q2 := cell_keep hg.fr (g1 5 _ rfl)
   rw [q1] at q2
   exact Option.some.inj q2
 cases es
 have out : ∀ F, (∀ x ∈ F, H0.size ≤ x) → Outs H a l F := fun F hF => g5.imp id fun g p hp => ⟨Nat.lt_of_lt_of_le (g p hp) hg.fr.1, fun hm => by have := hF _ hm; have := g p hp; omega⟩
 refine ⟨_, e0, _, h1 1 _ rfl, _, h1 2 _ rfl, _, h1 3 _ rfl, _, h1 4 _ rfl, _, _, _, h1 5 _ rfl, ?_⟩
 refine plays_c hT h2 (out Fp fun x hx => hF x (by simp [hx])) (out Fq fun x hx => hF x (by simp [hx])) h4 fun H' Fp' Fq' s' t' v' hT' hu => h H' ⟨⟨Fp', Fq', s', t', v', hT', ?_⟩, ?_⟩
 · intro x hx
   rcases hu.2 x hx with h6 | h6
   · exact hF x h6
   · have := hg.fr.1; omega
 · exact ⟨Nat.le_trans hg.fr.1 hu.1.1, fun b hb _ => by rw [hu.1.2 b (Nat.lt_of_lt_of_le hb hg.fr.1) (fun hm => by have := hF b hm; omega), hg.fr.2 b hb (by simp)]⟩
theorem going_end {H0 H : Heap} {bp br : Nat} (hg : Going H0 H bp br) {Q : QT} (h : ∀ H', Fr [] H0 H' → Q (.bool true) H') :
   callS PP n_k15 #[.pointer (some ⟨bp, 0, none⟩), .pointer (some ⟨br, 0, none⟩)] (fun v26 H7 => ∃ b27 : Bool, v26 = .bool b27 ∧ cond b27 (callS PP n_k13 #[] (fun v28 H8 => ∃ b29 : Bool, v28 = .bool b29 ∧ Q (.bool b29) H8) H7) (Q (.bool false) H7)) H := by
 obtain ⟨Fp, Fq, s, t, v, hT, hF⟩ := hg.tw
 refine seen_c hT.p hT.r hT.v fun H1 f1 => ⟨_, rfl, ?_⟩
 simp only [cond_true]
 exact none_c fun H2 f2 => ⟨_, rfl, h H2 ((hg.fr.trans f1).trans f2)⟩
end
end Go.Proofs.YtmkdkplipbocjaaGreatDoor
namespace Go.Proofs.YtmkdkplipbocjaaGreatDoor
open Kw Go.Deep
noncomputable def stepFs : Array Field := match PP.underlying 39 with
 | some (.struct fs) => fs
 | _ => #[]
theorem uStep : PP.underlying 39 = some (.struct stepFs) := by kernel_rfl
theorem uSteps : PP.underlying 35 = some (.slice 39) := by kernel_rfl
theorem uStrs : PP.underlying 37 = some (.slice 9) := by kernel_rfl
theorem uWord : PP.underlying 36 = some (.int .i64) := by kernel_rfl
theorem cWord : PP.cellsOf 36 = 1 := by kernel_rfl
theorem cStrs : PP.cellsOf 37 = 1 := by kernel_rfl
theorem cStep : PP.cellsOf 39 = 6 := by kernel_rfl
theorem bStr : PP.bytesOf 9 = 16 := by kernel_rfl
theorem bStep : PP.bytesOf 39 = 80 := by kernel_rfl
theorem stepF0 : (stepFs[0]?).map (fun f => (f.type, f.offset)) = some (3, 0) := by kernel_rfl
theorem stepF1 : (stepFs[1]?).map (fun f => (f.type, f.offset)) = some (3, 1) := by kernel_rfl
theorem stepF2 : (stepFs[2]?).map (fun f => (f.type, f.offset)) = some (36, 2) := by kernel_rfl
theorem stepF3 : (stepFs[3]?).map (fun f => (f.type, f.offset)) = some (9, 3) := by kernel_rfl
theorem stepF4 : (stepFs[4]?).map (fun f => (f.type, f.offset)) = some (9, 4) := by kernel_rfl
theorem stepF5 : (stepFs[5]?).map (fun f => (f.type, f.offset)) = some (37, 5) := by kernel_rfl
theorem field_open {Hh : Type} {enc : TypeId × Value → Hh} {W : World} {n : Nat} {fs : Array Field} {cs : List Value} {xs : List (DataW Hh × List MemPlace)} (hlen : xs.length = fs.size)
   (h : ∀ (i : Nat) (f : Field), fs[i]? = some f → DataW.trod enc PP W 0 (fun _ => true) true n f.type ((cs.drop f.offset).take (PP.cellsOf f.type)) = xs[i]?) {j : Nat} {t : TypeId} {off : Nat}
   (hf : (fs[j]?).map (fun f => (f.type, f.offset)) = some (t, off)) (hc : PP.cellsOf t = 1) : ∃ y, xs[j]? = some y ∧ DataW.trod enc PP W 0 (fun _ => true) true n t ((cs.drop off).take 1) = some y := by
 obtain ⟨f, hf1, hf2⟩ := Option.map_eq_some_iff.1 hf
 obtain ⟨rfl, rfl⟩ := Prod.mk.inj hf2
 have hj : j < fs.size := by
   rcases Nat.lt_or_ge j fs.size with h1 | h1
   · exact h1
   · rw [Array.getElem?_eq_none h1] at hf1; cases hf1
 have hx : xs[j]? = some (xs[j]'(by omega)) := List.getElem?_eq_getElem (by omega)
 refine ⟨_, hx, ?_⟩
 have := h j f hf1
 rw [hc, hx] at this
 exact this
theorem step_open {Hh : Type} {enc : TypeId × Value → Hh} {W : World} {n : Nat} {cs : List Value} {x : DataW Hh × List MemPlace} (h : DataW.trod enc PP W 0 (fun _ => true) true n 39 cs = some x) :
   ∃ y a l c, cs = StepV.vals y a l c ∧ Rd 1 W.heap a l (strsV y.names) ∧ l ≤ c ∧ (l = 0 ∨ ∃ m, (l + m) * 16 ∈ x.1.weights PP 39) := by
 obtain ⟨xs, n', _, rfl, hl, hxl, hx⟩ := DataW.trod_struct uStep h
 rw [cStep] at hl
 obtain ⟨y0, e0, t0⟩ := field_open hxl hx stepF0 cInt
 obtain ⟨y1, e1, t1⟩ := field_open hxl hx stepF1 cInt
 obtain ⟨y2, e2, t2⟩ := field_open hxl hx stepF2 cWord
 obtain ⟨y3, e3, t3⟩ := field_open hxl hx stepF3 cStr
 obtain ⟨y4, e4, t4⟩ := field_open hxl hx stepF4 cStr
 obtain ⟨y5, e5, t5⟩ := field_open hxl hx stepF5 cStrs
 obtain ⟨k0, v0, _, _⟩ := DataW.trod_int uInt t0
 obtain ⟨k1, v1, _, _⟩ := DataW.trod_int uInt t1
 obtain ⟨k2, v2, _, _⟩ := DataW.trod_int uWord t2
 obtain ⟨s3, v3, _⟩ := DataW.trod_string uStr t3
 obtain ⟨s4, v4, _⟩ := DataW.trod_string uStr t4
 have hcs : ∀ v5, (cs.drop 5).take 1 = [v5] → cs = [.int .i64 k0, .int .i64 k1, .int .i64 k2, .string s3, .string s4, v5] := fun v5 h5 => by
   match cs, hl with
   | [a, b, c, d, e, f], _ =>
     simp at v0 v1 v2 v3 v4 h5
     subst v0; subst v1; subst v2; subst v3; subst v4; subst h5
     rfl
 rcases open_strs uStrs uStr cStr t5 with ⟨h5, _⟩ | ⟨a, len, cap, m, Sx, h5, _, hlc, _, hm, hy, hS⟩
 · exact ⟨⟨k0, k1, k2, s3, s4, []⟩, none, 0, 0, hcs _ h5, ⟨rfl, fun _ => rfl, fun p hp => by cases hp⟩, Nat.le_refl _, .inl rfl⟩
 · refine ⟨⟨k0, k1, k2, s3, s4, (List.range len).map Sx⟩, some a, len, cap, hcs _ h5, ⟨by simp [strsV], fun h => (by cases h), fun p hp i hi => ?_⟩, hlc, .inr ⟨m - len, ?_⟩⟩
   · cases hp
     have hlm : len ≤ m := by rw [hm]; simpa using hlc
     have := (hS i (by omega)).1
     have hi' : i < len := by omega
     show W.cell? (a.add i) = _
     rw [this]
     simp [strsV, hi']
   · simp only [DataW.weights, uStep]
     have hj : (stepFs.toList.map (·.type))[5]? = some 37 := by
       obtain ⟨f, hf1, hf2⟩ := Option.map_eq_some_iff.1 stepF5
       obtain ⟨hf3, _⟩ := Prod.mk.inj hf2
       rw [List.getElem?_map, Array.getElem?_toList, hf1]
       simp [hf3]
     refine DataW.weights_mem_each hj (d := y5.1) (by rw [List.getElem?_map, e5]; rfl) _ ?_
     rw [hy]
     simp [DataW.weights, uStrs, bStr]
theorem weightsAll_mem {Hh : Type} {P : Program} {e : TypeId} {d : DataW Hh} : ∀ {ds : List (DataW Hh)}, d ∈ ds → ∀ n ∈ d.weights P e, n ∈ DataW.weightsAll P e ds
 | [], h, _, _ => by cases h
 | _ :: _, h, n, hn => by
   simp only [DataW.weightsAll, List.mem_append]
   rcases List.mem_cons.1 h with rfl | h
   · exact Or.inl hn
   · exact Or.inr (weightsAll_mem h n hn)
theorem addr_lt {q : Addr} {n m : Nat} (h : (q.add n).block < m) : q.block < m := by
 have e : (q.add n).block = q.block := by unfold Addr.add; split <;> rfl
 rw [e] at h
 exact h
theorem steps_open {Hh : Type} {enc : TypeId × Value → Hh} {W : World} {v : Value} {d : DataW Hh} {p : List MemPlace} (h : DataW.Trod enc PP W 0 (fun _ => true) true 35 v d p)
   (hv : ∃ a l c, v = .slice a l c) (hz : ∀ n ∈ d.weights PP 35, n ≤ reachBytes) : ∃ a l c xs, v = .slice a l c ∧ StepsAt W.heap a l xs ∧ l ≤ 10000000000000 := by
 obtain ⟨a0, l0, c0, rfl⟩ := hv
 obtain ⟨fuel, h⟩ := h
 rcases open_slice uSteps h with ⟨h0, _⟩ | ⟨a, len, cap, m, n, D, Pl, hcs, _, hlc, _, hm, hx, hel⟩
 · have e : Value.slice a0 l0 c0 = .slice none 0 0 := by simpa [Value.cells] using h0
   cases e
   exact ⟨none, 0, 0, [], rfl, ⟨rfl, fun i x hx => by simp at hx⟩, by omega⟩
 have e : Value.slice a0 l0 c0 = .slice (some a) len cap := by simpa [Value.cells] using hcs
 cases e
 obtain ⟨hd, _⟩ := Prod.mk.inj hx
 subst hd
 have hlm : l0 ≤ m := by rw [hm]; simpa using hlc
 simp only [DataW.weights, uSteps, List.length_map, List.length_range, bStep] at hz
 have hb : reachBytes = 140737488351232 := by decide
 have hlen : l0 ≤ 10000000000000 := by
   have := hz _ (List.mem_cons_self ..)
   rw [hb] at this
   omega
 have each : ∀ i, i < l0 → ∃ y, StepAt W.heap (a.add (i * 6)) y := fun i hi => by
   obtain ⟨cs', h1, h2⟩ := hel i (by omega)
   rw [cStep] at h1
   obtain ⟨y, b, l, c, rfl, h3, h4, h5⟩ := step_open h2
   obtain ⟨_, _, hc⟩ := World.cells?_some h1
   refine ⟨y, b, l, c, fun j v hv => ?_, h3, h4, ?_, ?_⟩
   · have hj : j < 6 := by
       rcases Nat.lt_or_ge j 6 with h | h
       · exact h
       · rw [List.getElem?_eq_none (by simpa [StepV.vals] using h)] at hv; cases hv
     have := hc j hj
     rw [hv] at this
     exact this
   · rcases h5 with h5 | ⟨m', h5⟩
     · omega
     · have := hz ((l + m') * 16) (List.mem_cons_of_mem _ (List.mem_append_left _ (weightsAll_mem (List.mem_map.2 ⟨i, by simpa using hi, rfl⟩) _ h5)))
       rw [hb] at this
       omega
   · by_cases hl : l = 0
     · exact .inl hl
     · refine .inr fun q hq => ?_
       have h6 := h3.2.2 q hq 0 (by omega)
       have h7 := h3.1
       rw [List.getElem?_eq_getElem (by omega)] at h6
       exact addr_lt (cell_lt' h6)
 obtain ⟨Y, hY⟩ : ∃ Y : Nat → StepV, ∀ i, i < l0 → StepAt W.heap (a.add (i * 6)) (Y i) := by
   refine ⟨fun i => if hi : i < l0 then Classical.choose (each i hi) else ⟨0, 0, 0, ⟨#[]⟩, ⟨#[]⟩, []⟩, fun i hi => ?_⟩
   simp only [dif_pos hi]
   exact Classical.choose_spec (each i hi)
 refine ⟨some a, l0, c0, (List.range l0).map Y, rfl, ⟨by simp, fun i x hx => ⟨a, rfl, ?_⟩⟩, hlen⟩
 have hi : i < l0 := by
   rcases Nat.lt_or_ge i l0 with h | h
   · exact h
   · rw [List.getElem?_eq_none (by simpa using h)] at hx; cases hx
 have : x = Y i := by simpa [hi] using hx.symm
 rw [this]
 exact hY i hi
theorem laidOut : laidOutB PP = true := by kernel_rfl
theorem old_same {W W' : World} (hf : Fr [] W.heap W'.heap) {x : MemPlace} (hx : x.block < W.heap.size) : W.sameAt W' x := by
 cases x with
 | cell b off =>
   show cellH W'.heap ⟨b, off, none⟩ = cellH W.heap ⟨b, off, none⟩
   have e : W'.heap[b]? = W.heap[b]? := hf.2 b hx (by simp)
   unfold cellH
   dsimp only
   rw [e]
 | map b => exact hf.2 _ hx (by simp)
theorem arg_stays {Hh : Type} {enc : TypeId × Value → Hh} {W W' : World} (hf : Fr [] W.heap W'.heap) {t : TypeId} (hr : PP.readableRec t = true) (hrow : t < PP.types.size) {v : Value} {d : DataW Hh} {p : List MemPlace}
   (h : DataW.Trod enc PP W 0 (fun _ => true) true t v d p) {sp : Nat → Bool} (hs : ∀ x ∈ p, sp x.block = true) : DataW.Trod enc PP W' 0 sp true t v d p := by
 have hlt : ∀ x ∈ p, x.block < W.heap.size := fun x hx => by
   obtain ⟨n, hn⟩ := h
   exact DataW.trod_lt n _ _ _ hn x hx
 exact WideElems.Trod_stays laidOut hr hrow h (fun x hx => old_same hf (hlt x hx)) hs
end Go.Proofs.YtmkdkplipbocjaaGreatDoor
namespace Kw
open Go
theorem joined_of {P : Program} {f : FuncId} {fn : Func} {s : ChangeSpec} {c : OpenClaim} (h1 : c.wf (OpenSpec.ofChange s) = true) (h2 : laidOutB P = true) (h3 : mapsRowed P = true) (h4 : fn.params.all (P.readableRec ·) = true) (h5 : namedTie P c.named s.vars = true)
   (h6 : (c.stops == []) = true) (h7 : (P.stops == []) = true) (h8 : (c.knobs == []) = true) (h9 : (P.stopKnobs == []) = true) (h10 : (c.inPlace == P.inPlace f) = true) (h11 : (c.unfollowed == P.unfollowed f) = true) (h12 : (c.recurses == P.recurses f) = true) (h13 : (c.named == P.varsNamed f) = true)
   (h14 : (c.maps == (fn.params.toList ++ s.plain.varTypes P).any (P.mapsRec ·)) = true) (h15 : (c.ifaces == (fn.params.toList ++ s.plain.varTypes P).any (P.ifacesRec ·)) = true) (h16 : (c.mapsOut == P.mapsAmong fn.resultTypes.toList) = true)
   (h17 : (c.loops == (fn.params.toList ++ s.plain.varTypes P).any (P.loopsFrom ·)) = true) (h18 : (c.wideKeys == (fn.params.toList ++ s.plain.varTypes P ++ fn.resultTypes.toList).any (P.wideKeysFrom ·)) = true)
   (h19 : s.vars.all (P.varReadable ·) = true) (h20 : fn.resultTypes.all (fun t => P.readableRec t && decide (t < P.types.size)) = true) (h21 : (c.ifacesOut == fn.resultTypes.toList.any (P.ifacesRec ·)) = true) (h22 : (c.loopsOut == fn.resultTypes.toList.any (P.loopsFrom ·)) = true) (h23 : (c.plainKeys == P.plainKeys) = true) (h24 : c.shortTexts.isNone = true) (h25 : P.stopsHeard = true)
   (h28 : P.mayEnter = true) (h29 : (c.lifted == P.liftsFinal) = true) (h30 : (P.make == some c.make) = true) (h31 : c.domain = []) (h33 : c.kinds = []) (h32 : (c.pinned == c.pinnedBy) = true)
   (h26 : (c.veiled == (fn.params.toList ++ s.plain.varTypes P ++ fn.resultTypes.toList).any (P.veiledRec ·)) = true) (h27 : c.veiledFits P fn.params.toList (fn.params.toList ++ s.plain.varTypes P ++ fn.resultTypes.toList) = true) : joinedFacts P f fn s c = true := by
 unfold joinedFacts
 simp only [h1, h2, h3, h4, h5, h6, h7, h8, h9, h10, h11, h12, h13, h14, h15, h16, h17, h18, h19, h20, h21, h22, h23, h24, h25, h26, h27, h28, h29, h30, h32, Bool.and_self, h31, h33, List.isEmpty_nil, if_true, beq_self_eq_true]
end Kw
namespace Go.Proofs.YtmkdkplipbocjaaGreatDoor
open Kw
attribute [local irreducible] bootRH bootH bootL
section
variable {H : Heap} {Q : QT}
theorem PK.again {b : Nat} {F : Foot} {s : SP} {t : TB} (h : PK H b F s t) {sb tb : Nat} (h0 : cellH H ⟨b, 0, none⟩ = some (.pointer (some ⟨sb, 0, none⟩))) (h1 : cellH H ⟨b, 1, none⟩ = some (.pointer (some ⟨tb, 0, none⟩))) {e : TypeId} :
   ∃ F', PK (H.push (.cells #[.pointer (some ⟨sb, 0, none⟩), .pointer (some ⟨tb, 0, none⟩)] e)) H.size F' s t ∧ ∀ x ∈ F', x ∈ F ∨ x = H.size := by
 have hlt := h.lt
 have hg := cell_lt h.kinds.1
 obtain ⟨sb', tb', F1, F2, rfl, g1, g2, g3, k1, k2, hB, hS, hT⟩ := h
 rw [hB.cell] at h0 h1
 have e0 : sb' = sb := by simpa using h0
 have e1 : tb' = tb := by simpa using h1
 subst e0; subst e1
 have fp := Fr.push [] H (.cells #[.pointer (some ⟨sb', 0, none⟩), .pointer (some ⟨tb', 0, none⟩)] e)
 refine ⟨H.size :: (F1 ++ F2), ⟨sb', tb', F1, F2, rfl, fun hm => ?_, fun hm => ?_, g3, by omega, k2, Blk.new _ _ _, hS.fr fp (Disj.nil_right _) (by simp), hT.fr fp (Disj.nil_right _)⟩, fun x hx => ?_⟩
 · exact Nat.lt_irrefl _ (hlt _ (by simp [hm]))
 · exact Nat.lt_irrefl _ (hlt _ (by simp [hm]))
 · rcases List.mem_cons.1 hx with rfl | hx
   · exact .inr rfl
   · exact .inl (by simp only [List.mem_cons]; exact .inr hx)
theorem going_over {H0 : Heap} {bp br : Nat} (hg : Going H0 H bp br) {Q : QT} (h : ∀ bp' H', Going H0 H' bp' br → Q (.tuple #[.pointer (some ⟨bp', 0, none⟩), .int .i64 0]) H') :
   callS PP n_k19 #[.pointer (some ⟨bp, 0, none⟩)] (fun v19 H6 => ∃ p20 : Option Addr, v19 = .pointer p20 ∧ callS PP n_k26 #[.pointer (some ⟨bp, 0, none⟩)] (fun v21 H7 => ∃ p22 : Option Addr, v21 = .pointer p22 ∧ callS PP n_k25 #[.pointer p20, .pointer p22] Q H7) H6) H := by
 obtain ⟨Fp, Fq, s, t, v, hT, hF⟩ := hg.tw
 refine kspace_k hT.p fun sb F1 hcs _ _ _ _ => ⟨_, rfl, ksymbols_k hT.p fun tb F2 hct _ => ⟨_, rfl, over_k ?_⟩⟩
 obtain ⟨F', hP, hF'⟩ := hT.p.again hcs hct (e := 90)
 have fp : Fr [] H _ := Fr.push [] H (.cells #[.pointer (some ⟨sb, 0, none⟩), .pointer (some ⟨tb, 0, none⟩)] 90)
 refine h _ _ ⟨⟨F', Fq, s, t, v, ⟨hP, hT.r.nil fp, fun x hx hm => ?_, hT.gk, hT.v⟩, fun x hx => ?_⟩, hg.fr.trans fp⟩
 · rcases hF' x hx with h1 | h1
   · exact hT.dis x h1 hm
   · have := hT.r.lt x hm; omega
 · rcases List.mem_append.1 hx with hx | hx
   · rcases hF' x hx with h1 | h1
     · exact hF x (by simp [h1])
     · have := hg.fr.1; omega
   · exact hF x (by simp [hx])
theorem classAgain_c {words oops at_ : Int} {a : Option Addr} {l c : Nat} {xs : List StepV} (hk : Kinds H) (hN : NamesAt H) (hs : StepsAt H a l xs) (hl : l ≤ 10000000000000) (h : ∀ H', Fr [] H H' → Q (.bool true) H') :
   callS PP n_k6 #[.int .i64 words, .int .i64 oops, .slice a l c, .int .i64 at_] Q H := by
 apply k6_ok
 unfold k6 iV wW
 have hxl := hs.1
 refine @boots_c H Q words oops hk hN _ (fun e H1 f1 => ?_) fun bp br Fp Fq H1 hT f1 hF => ?_
 · simp only [Option.isNone_none, cond_true]
   exact classBoots_c (hk.fr f1 (by simp)) (hN.fr f1 (by simp)) fun H2 f2 => ⟨_, rfl, h _ (f1.trans f2)⟩
 simp only [Option.isNone_some, cond_false]
 refine ⟨fun w H' => ∃ (i : Nat) (b : Nat), w = [.pointer (some ⟨b, 0, none⟩), .int .i64 i] ∧ i ≤ l ∧ Going H H' b br, fun w _ => match w with
   | [_, .int _ i] => (l - i).toNat
   | _ => 0, ⟨0, bp, rfl, Nat.zero_le _, ⟨_, _, _, _, _, hT, hF⟩, f1⟩, ?_⟩
 rintro w H2 ⟨i, b, rfl, hi, hg⟩ _
 refine ⟨_, _, rfl, ?_⟩
 rw [cond_dec]
 refine ite_i (fun hlt => ?_) fun _ => going_end hg h
 generalize hM : (1099511627776 : Int) = M
 refine condD (fun _ => ?_) fun _ => going_end hg h
 have hil : i < xs.length := by omega
 obtain ⟨p, hp, hst⟩ := hs.2 i xs[i] (List.getElem?_eq_getElem hil)
 have e : IntKind.wrap .i64 ((i : Int) + 1) = ((i + 1 : Nat) : Int) := by rw [wrap64_id (by omega) (by omega)]; omega
 refine condI (fun _ => ?_) fun _ => ?_
 · refine going_over hg fun b' H3 hg3 => ⟨_, _, rfl, ?_⟩
   simp only [Option.isNone_some, cond_false]
   refine num1_c ⟨_, rfl, ?_⟩
   rw [bneI, cond_dec, if_neg (fun hn => hn rfl)]
   refine ⟨⟨by omega, hlt⟩, _, hp, ?_⟩
   rw [Int.toNat_natCast, e]
   refine going_step hg3 hst fun H4 hg4 => ⟨_, rfl, ?_⟩
   simp only [Bool.not_true, cond_false]
   exact ⟨⟨i + 1, b', rfl, by omega, hg4⟩, by simp; omega⟩
 · refine ⟨⟨by omega, hlt⟩, _, hp, ?_⟩
   rw [Int.toNat_natCast, e]
   refine going_step hg hst fun H3 hg3 => ⟨_, rfl, ?_⟩
   simp only [Bool.not_true, cond_false]
   exact ⟨⟨i + 1, b, rfl, by omega, hg3⟩, by simp; omega⟩
end
end Go.Proofs.YtmkdkplipbocjaaGreatDoor
