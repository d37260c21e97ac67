/- Lemmas for RAgain: functions of the program as predicate transformers, and their contracts. -/
import Derived.Test.YtmkdkplipbocjaaGreatDoorZA4
set_option linter.all false
set_option maxRecDepth 100000
set_option maxHeartbeats 4000000
namespace Go.Proofs.YtmkdkplipbocjaaGreatDoor
open Kw
abbrev infoTail (R0 LC : Addr) (Q : QT) (H6 : Heap) : Prop :=
 ∃ s36 : ByteArray, cellH H6 LC = some (.string s36) ∧ ∃ s37 : ByteArray, cellH H6 (LC.add 1) = some (.string s37) ∧ ∃ a38 : Option Addr, ∃ l38 : Nat, ∃ c38 : Nat, cellH H6 (LC.add 2) = some (.slice a38 l38 c38) ∧ ∃ n39 : Int, cellH H6 (LC.add 3) = some (.int .i64 n39) ∧
 Wr H6 R0 ∧ Wr (setH H6 R0 (.string s36)) (R0.add 1) ∧ Wr (setH (setH H6 R0 (.string s36)) (R0.add 1) (.string s37)) (R0.add 2) ∧ Wr (setH (setH (setH H6 R0 (.string s36)) (R0.add 1) (.string s37)) (R0.add 2) (.slice a38 l38 c38)) (R0.add 3) ∧
 ∃ s40 : ByteArray, cellH (setH (setH (setH (setH H6 R0 (.string s36)) (R0.add 1) (.string s37)) (R0.add 2) (.slice a38 l38 c38)) (R0.add 3) (.int .i64 n39)) R0 = some (.string s40) ∧
 ∃ s41 : ByteArray, cellH (setH (setH (setH (setH H6 R0 (.string s36)) (R0.add 1) (.string s37)) (R0.add 2) (.slice a38 l38 c38)) (R0.add 3) (.int .i64 n39)) (R0.add 1) = some (.string s41) ∧
 ∃ a42 : Option Addr, ∃ l42 : Nat, ∃ c42 : Nat, cellH (setH (setH (setH (setH H6 R0 (.string s36)) (R0.add 1) (.string s37)) (R0.add 2) (.slice a38 l38 c38)) (R0.add 3) (.int .i64 n39)) (R0.add 2) = some (.slice a42 l42 c42) ∧
 ∃ n43 : Int, cellH (setH (setH (setH (setH H6 R0 (.string s36)) (R0.add 1) (.string s37)) (R0.add 2) (.slice a38 l38 c38)) (R0.add 3) (.int .i64 n39)) (R0.add 3) = some (.int .i64 n43) ∧
 Q (.tuple #[.agg #[.string s40, .string s41, .slice a42 l42 c42, .int .i64 n43], .int .i64 0]) (setH (setH (setH (setH H6 R0 (.string s36)) (R0.add 1) (.string s37)) (R0.add 2) (.slice a38 l38 c38)) (R0.add 3) (.int .i64 n39))
abbrev infoMid (R0 LC RD : Addr) (o : Int) (Q : QT) (H : Heap) : Prop :=
 ∃ p22 : Option Addr, cellH H RD = some (.pointer p22) ∧ callS PP n_k180 #[.agg #[.pointer p22], .int .i64 o] (fun v23 H6 => ∃ n24 : Int, v23 = .int .i64 n24 ∧ cond (decide (n24 > 0)) (∃ p25 : Option Addr, cellH H6 RD = some (.pointer p25) ∧
   callS PP n_k176 #[.agg #[.pointer p25], .int .i64 n24, .int .i64 0] (fun v26 H7 => ∃ s27 : ByteArray, v26 = .string s27 ∧ Wr H7 (LC.add 1) ∧ infoTail R0 LC Q (setH H7 (LC.add 1) (.string s27))) H6) (infoTail R0 LC Q H6)) H
section
variable {H : Heap} {b : Nat} {F : Foot} {s : SP} {t : TB} {v : KV} {Q : QT}
theorem info_tail {r0 lc : Nat} {nm sup : ByteArray} {a : Option Addr} {l c : Nat} {ly : Int} {cs : Array Value} (hLC : Blk H lc #[.string nm, .string sup, .slice a l c, .int .i64 ly]) (hR0 : Blk H r0 cs) (hsz : cs.size = 4)
   (h : ∀ H', Fr [r0] H H' → Q (.tuple #[.agg #[.string nm, .string sup, .slice a l c, .int .i64 ly], .int .i64 0]) H') : infoTail ⟨r0, 0, none⟩ ⟨lc, 0, none⟩ Q H := by
 obtain ⟨x0, x1, x2, x3, rfl⟩ : ∃ x0 x1 x2 x3, cs = #[x0, x1, x2, x3] := by
   obtain ⟨l⟩ := cs
   match l, hsz with
   | [x0, x1, x2, x3], _ => exact ⟨_, _, _, _, rfl⟩
 obtain ⟨w0, w1, w2, w3, hB, hf⟩ := st4 hR0 (o := 0) (by omega) (.string nm) (.string sup) (.slice a l c) (.int .i64 ly)
 exact ⟨_, hLC.cell 0, _, hLC.cell 1, _, _, _, hLC.cell 2, _, hLC.cell 3, w0, w1, w2, w3, _, hB.cell 0, _, hB.cell 1, _, _, _, hB.cell 2, _, hB.cell 3, h _ hf⟩
theorem info_mid {r0 lc rb : Nat} {nm : ByteArray} {a : Option Addr} {l c : Nat} {ly : Int} {cs : Array Value} (hK : PK H b F s t) (hv : KAll s t v) {i : Nat} (hi : i < v.cls.length) (hLC : Blk H lc #[.string nm, .string ⟨#[]⟩, .slice a l c, .int .i64 ly]) (hRD : Blk H rb #[.pointer (some ⟨b, 0, none⟩)]) (hR0 : Blk H r0 cs) (hsz : cs.size = 4) (hne : lc ≠ r0)
   (h : ∀ H', Fr [lc, r0] H H' → Q (.tuple #[.agg #[.string nm, .string (infoK v t i).sup, .slice a l c, .int .i64 ly], .int .i64 0]) H') : infoMid ⟨r0, 0, none⟩ ⟨lc, 0, none⟩ ⟨rb, 0, none⟩ (v.cls[i]).oop Q H := by
 refine ⟨_, hRD.cell 0, super_k hK fun H6 hf6 => ⟨_, rfl, ?_⟩⟩
 have es : (if koop s.h (v.cls[i]).oop 1 = 1 then 0 else koop s.h (v.cls[i]).oop 1) = superK v i := by
   rw [hv.ks.up hi]; unfold superK; rw [List.getElem?_eq_getElem hi]
 rw [es]
 rw [cond_dec]
 have hsup : (infoK v t i).sup = match upIdx v i with
   | some j => match v.cls[j]? with
     | some d => tx t d.name
     | none => ⟨#[]⟩
   | none => ⟨#[]⟩ := by unfold infoK; rw [List.getElem?_eq_getElem hi] <;> rfl
 rcases hv.ks.upI hi with ⟨_, e0, e1⟩ | ⟨j, hj, hlt, e0, _, e1⟩
 · rw [e1] at hsup
   simp only at hsup
   rw [e0, if_neg (by decide)]
   rw [hsup] at h
   exact info_tail (hLC.fr hf6 (by simp)) (hR0.fr hf6 (by simp)) hsz fun H' hf => h H' ((hf6.of_nil).trans (hf.mono (by simp)))
 · rw [e1] at hsup
   simp only [List.getElem?_eq_getElem hj] at hsup
   have hb := (up_arr hv.ks hj).1
   rw [e0, if_pos (by omega)]
   refine ⟨_, (hRD.fr hf6 (by simp)).cell 0, text_k (hK.nil hf6) fun H7 hf7 => ⟨_, rfl, ?_⟩⟩
   have hL7 := (hLC.fr hf6 (by simp)).fr hf7 (by simp)
   rw [hv.name hj, ← hsup]
   refine ⟨hL7.wr (o := 1) (by simp), ?_⟩
   have hfl : Fr [lc] H7 (setH H7 ⟨lc, 1, none⟩ (.string (infoK v t i).sup)) := Fr.set (by simp)
   exact info_tail (hL7.set 1 (.string (infoK v t i).sup)) (((hR0.fr hf6 (by simp)).fr hf7 (by simp)).fr hfl (by simpa using Ne.symm hne)) hsz fun H' hf => h H' ((((hf6.trans hf7).of_nil).trans (hfl.mono (by simp))).trans (hf.mono (by simp)))
theorem kinfo_k (hK : PK H b F s t) (hv : KAll s t v) {o : Int} (h1 : ∀ i, plK v o = some i → ∀ a l c G H', Own 1 H' a l c (strsV (infoK v t i).own) G → Fr [] H H' → (∀ x ∈ G, H.size ≤ x) → Q (.tuple #[.agg #[.string (infoK v t i).name, .string (infoK v t i).sup, .slice a l c, .int .i64 (infoK v t i).lay], .int .i64 0]) H')
   (h2 : plK v o = none → ∀ H', Fr [] H H' → Q (.tuple #[.agg #[.string ⟨#[]⟩, .string ⟨#[]⟩, .slice none 0 0, .int .i64 0], .int .i64 130]) H') : callS PP n_k67 #[.pointer (some ⟨b, 0, none⟩), .int .i64 o] Q H := by
 apply k67_ok
 unfold k67 A0 iV; dsimp only [shH]
 have hf0 : Fr [] H (H.push (.cells #[.string (⟨#[]⟩ : ByteArray), .string (⟨#[]⟩ : ByteArray), .slice none 0 0, .int .i64 0] 121)) := Fr.push _ _ _
 have hR0 := Blk.new H #[.string (⟨#[]⟩ : ByteArray), .string (⟨#[]⟩ : ByteArray), .slice none 0 0, .int .i64 0] 121
 have hK0 := hK.nil hf0
 generalize (H.push (.cells #[.string (⟨#[]⟩ : ByteArray), .string (⟨#[]⟩ : ByteArray), .slice none 0 0, .int .i64 0] 121)) = H0 at hf0 hR0 hK0 ⊢
 refine look_k hK0 hv (fun i hp H1 hf1 => ?_) fun hp H1 hf1 => ?_
 rotate_left
 · refine ⟨_, _, rfl, Wr_push.2 (by simp), ?_⟩
   simp only [show ((130 : Int) != 0) = true from rfl, cond_true]
   rw [locB]
   have hf2 : Fr [] H1 (H1.push (.cells #[.pointer none] 131)) := Fr.push _ _ _
   have hR2 := (hR0.fr hf1 (by simp)).fr hf2 (by simp)
   obtain ⟨w0, w1, w2, w3, hB, hf⟩ := st4 hR2 (o := 0) (by simp) (.string ⟨#[]⟩) (.string ⟨#[]⟩) (.slice none 0 0) (.int .i64 0)
   refine ⟨w0, w1, w2, w3, _, hB.cell 0, _, hB.cell 1, _, _, _, hB.cell 2, _, hB.cell 3, h2 hp _ ?_⟩
   exact (Up.fresh ((hf0.trans hf1).trans hf2) (F := [H.size]) (F' := [H.size]) ⟨hf, fun _ h => .inl h⟩ (by simp)).1
 refine ⟨_, _, rfl, Wr_push.2 (by simp), ?_⟩
 simp only [show ((0 : Int) != 0) = false from rfl, cond_false]
 rw [locB]
 have hfr : Fr [] H1 (H1.push (.cells #[.pointer (some ⟨b, 0, none⟩)] 131)) := Fr.push _ _ _
 have hRD := Blk.new H1 #[.pointer (some ⟨b, 0, none⟩)] 131
 have hR1 := (hR0.fr hf1 (by simp)).fr hfr (by simp)
 have hF1 := (hf0.trans hf1).trans hfr
 have hK1 := hK.nil hF1
 have hlt1 : H.size < H1.size := (hR0.fr hf1 (by simp)).lt
 generalize (H1.push (.cells #[.pointer (some ⟨b, 0, none⟩)] 131)) = HR at hfr hRD hR1 hF1 hK1 ⊢
 obtain ⟨hi, rfl⟩ := plK_some hp
 have hI : infoK v t i = ⟨tx t (v.cls[i]).name, (infoK v t i).sup, (v.cls[i]).own.map (tx t), (v.cls[i]).lay⟩ := by
   unfold infoK; rw [List.getElem?_eq_getElem hi]
 have en : (infoK v t i).name = tx t (v.cls[i]).name := by rw [hI]
 have eo : (infoK v t i).own = (v.cls[i]).own.map (tx t) := by rw [hI]
 have el : (infoK v t i).lay = (v.cls[i]).lay := by rw [hI]
 have hq := h1 i hp
 rw [en, eo, el] at hq
 have fin : ∀ (H9 : Heap) (lc : Nat) (a : Option Addr) (l c : Nat) (G : Foot), Fr [] HR H9 → Blk H9 lc #[.string ⟨#[]⟩, .string ⟨#[]⟩, .slice none 0 0, .int .i64 0] → HR.size ≤ lc → Own 1 H9 a l c (strsV ((v.cls[i]).own.map (tx t))) G → (∀ x ∈ G, HR.size ≤ x) → lc ∉ G →
     Wr H9 ⟨lc, 0, none⟩ ∧ Wr (setH H9 ⟨lc, 0, none⟩ (.string (tx t (v.cls[i]).name))) ⟨lc, 1, none⟩ ∧ Wr (setH (setH H9 ⟨lc, 0, none⟩ (.string (tx t (v.cls[i]).name))) ⟨lc, 1, none⟩ (.string ⟨#[]⟩)) ⟨lc, 2, none⟩ ∧ Wr (setH (setH (setH H9 ⟨lc, 0, none⟩ (.string (tx t (v.cls[i]).name))) ⟨lc, 1, none⟩ (.string ⟨#[]⟩)) ⟨lc, 2, none⟩ (.slice a l c)) ⟨lc, 3, none⟩ ∧ True ∧
     infoMid ⟨H.size, 0, none⟩ ⟨lc, 0, none⟩ ⟨H1.size, 0, none⟩ (v.cls[i]).oop Q (setH (setH (setH (setH H9 ⟨lc, 0, none⟩ (.string (tx t (v.cls[i]).name))) ⟨lc, 1, none⟩ (.string ⟨#[]⟩)) ⟨lc, 2, none⟩ (.slice a l c)) ⟨lc, 3, none⟩ (.int .i64 (v.cls[i]).lay)) := by
   intro H9 lc a l c G hf9 hL hlc ho hG hn
   obtain ⟨w0, w1, w2, w3, hB, hf⟩ := st4 hL (o := 0) (by simp) (.string (tx t (v.cls[i]).name)) (.string ⟨#[]⟩) (.slice a l c) (.int .i64 (v.cls[i]).lay)
   have hlR : H1.size < HR.size := hRD.lt
   refine ⟨w0, w1, w2, w3, trivial, info_mid (F := F) ?_ hv hi hB ((hRD.fr hf9 (by simp)).fr hf (by simp; omega)) ((hR1.fr hf9 (by simp)).fr hf (by simp; omega)) (by simp) (by omega) fun H' hf' => ?_⟩
   · have := Up.fresh (hF1.trans hf9) (F := [lc]) (F' := [lc]) ⟨hf, fun _ h => .inl h⟩ (by have := hF1.1; simp; omega)
     exact hK.nil this.1
   · have hall : Fr [lc, H.size] H9 H' := (hf.mono (by simp)).trans hf'
     have := Up.fresh (hF1.trans hf9) (F := [lc, H.size]) (F' := [lc, H.size]) ⟨hall, fun _ h => .inl h⟩ (by have := hF1.1; simp; omega)
     refine hq a l c G H' (ho.fr hall fun x hx hm => ?_) this.1 fun x hx => Nat.le_trans hF1.1 (hG x hx)
     simp only [List.mem_cons, List.not_mem_nil, or_false] at hm
     rcases hm with rfl | rfl
     · exact hn hx
     · have := hG _ hx; omega
 have rdc : ∀ {H9 : Heap}, Fr [] HR H9 → cellH H9 ⟨H1.size, 0, none⟩ = some (.pointer (some ⟨b, 0, none⟩)) := fun hf => (hRD.fr hf (by simp)).cell 0
 have r0 := rdc (Fr.refl [] HR)
 have eown := ktexts_own hv hi
 have eoo := hv.ks.ownO hi
 have eln := hv.ks.layN hi
 have enm := hv.name hi
 refine ⟨_, r0, _, r0, _, r0, _, r0, ?_, ?_⟩
 · refine text_k hK1 fun H2 f2 => ⟨_, rfl, ⟨⟨rdc f2, trivial⟩, ⟨rdc f2, trivial⟩, ⟨rdc f2, trivial⟩, trivial⟩, ?_, ?_⟩
   · refine oop_k (hK1.nil f2) fun H3 f3 => ?_
     have F3 := f2.trans f3
     refine ⟨_, rfl, ⟨⟨rdc F3, trivial⟩, ⟨rdc F3, trivial⟩, trivial⟩, ?_, ?_⟩
     · rw [eoo]
       refine texts_k (hK1.nil F3) fun a l c G H4 ho f4 hG => ?_
       have F4 := F3.trans f4
       rw [eown] at ho
       have hG' : ∀ x ∈ G, HR.size ≤ x := fun x hx => Nat.le_trans F3.1 (hG x hx)
       refine ⟨_, _, _, rfl, ⟨⟨rdc F4, trivial⟩, trivial⟩, ?_, ?_⟩
       · refine num_k (hK1.nil F4) fun H5 f5 => ⟨_, rfl, trivial, trivial, ?_⟩
         rw [enm, eln]
         have F5 := F4.trans f5
         have fp : Fr [] H5 (H5.push (.cells #[.string (⟨#[]⟩ : ByteArray), .string (⟨#[]⟩ : ByteArray), .slice none 0 0, .int .i64 0] 121)) := Fr.push _ _ _
         exact fin _ H5.size a l c G (F5.trans fp) (Blk.new _ _ _) F5.1 (ho.fr (f5.trans fp) (by simp)) hG' fun hm => by have := (ho.fr f5 (by simp)).lt _ hm; omega
       · have fp : Fr [] H4 (H4.push (.cells #[.string (⟨#[]⟩ : ByteArray), .string (⟨#[]⟩ : ByteArray), .slice none 0 0, .int .i64 0] 121)) := Fr.push _ _ _
         have F5 := F4.trans fp
         refine ⟨⟨⟨rdc F5, trivial⟩, trivial⟩, num_k (hK1.nil F5) fun H5 f5 => ⟨_, rfl, trivial, ?_⟩⟩
         rw [enm, eln]
         exact fin _ H4.size a l c G (F5.trans f5) ((Blk.new _ _ _).fr f5 (by simp)) F4.1 (ho.fr (fp.trans f5) (by simp)) hG' fun hm => by have := ho.lt _ hm; omega
     · have fp : Fr [] H3 (H3.push (.cells #[.string (⟨#[]⟩ : ByteArray), .string (⟨#[]⟩ : ByteArray), .slice none 0 0, .int .i64 0] 121)) := Fr.push _ _ _
       have F4 := F3.trans fp
       have hL := Blk.new H3 #[.string (⟨#[]⟩ : ByteArray), .string (⟨#[]⟩ : ByteArray), .slice none 0 0, .int .i64 0] 121
       refine ⟨⟨⟨rdc F4, trivial⟩, ⟨rdc F4, trivial⟩, trivial⟩, ?_⟩
       rw [eoo]
       refine texts_k (hK1.nil F4) fun a l c G H5 ho f5 hG => ⟨_, _, _, rfl, ⟨⟨rdc (F4.trans f5), trivial⟩, trivial⟩, num_k (hK1.nil (F4.trans f5)) fun H6 f6 => ⟨_, rfl, trivial, ?_⟩⟩
       rw [eown] at ho
       rw [enm, eln]
       exact fin _ H3.size a l c G ((F4.trans f5).trans f6) ((hL.fr f5 (by simp)).fr f6 (by simp)) F3.1 (ho.fr f6 (by simp)) (fun x hx => Nat.le_trans F4.1 (hG x hx)) fun hm => by have := hG _ hm; have := hL.lt; omega
   · have fp : Fr [] H2 (H2.push (.cells #[.string (⟨#[]⟩ : ByteArray), .string (⟨#[]⟩ : ByteArray), .slice none 0 0, .int .i64 0] 121)) := Fr.push _ _ _
     have F3 := f2.trans fp
     have hL := Blk.new H2 #[.string (⟨#[]⟩ : ByteArray), .string (⟨#[]⟩ : ByteArray), .slice none 0 0, .int .i64 0] 121
     refine ⟨⟨⟨rdc F3, trivial⟩, ⟨rdc F3, trivial⟩, ⟨rdc F3, trivial⟩, trivial⟩, oop_k (hK1.nil F3) fun H4 f4 => ?_⟩
     have F4 := F3.trans f4
     refine ⟨_, rfl, ⟨⟨rdc F4, trivial⟩, ⟨rdc F4, trivial⟩, trivial⟩, ?_⟩
     rw [eoo]
     refine texts_k (hK1.nil F4) fun a l c G H5 ho f5 hG => ⟨_, _, _, rfl, ⟨⟨rdc (F4.trans f5), trivial⟩, trivial⟩, num_k (hK1.nil (F4.trans f5)) fun H6 f6 => ⟨_, rfl, trivial, ?_⟩⟩
     rw [eown] at ho
     rw [enm, eln]
     exact fin _ H2.size a l c G ((F4.trans f5).trans f6) (((hL.fr f4 (by simp)).fr f5 (by simp)).fr f6 (by simp)) f2.1 (ho.fr f6 (by simp)) (fun x hx => Nat.le_trans F4.1 (hG x hx)) fun hm => by have := hG _ hm; have := (hL.fr f4 (by simp)).lt; omega
 · have fp : Fr [] HR (HR.push (.cells #[.string (⟨#[]⟩ : ByteArray), .string (⟨#[]⟩ : ByteArray), .slice none 0 0, .int .i64 0] 121)) := Fr.push _ _ _
   have hL := Blk.new HR #[.string (⟨#[]⟩ : ByteArray), .string (⟨#[]⟩ : ByteArray), .slice none 0 0, .int .i64 0] 121
   refine ⟨⟨⟨rdc fp, trivial⟩, ⟨rdc fp, trivial⟩, ⟨rdc fp, trivial⟩, ⟨rdc fp, trivial⟩, trivial⟩, text_k (hK1.nil fp) fun H2 f2 => ?_⟩
   have F2 := fp.trans f2
   refine ⟨_, rfl, ⟨⟨rdc F2, trivial⟩, ⟨rdc F2, trivial⟩, ⟨rdc F2, trivial⟩, trivial⟩, oop_k (hK1.nil F2) fun H4 f4 => ?_⟩
   have F4 := F2.trans f4
   refine ⟨_, rfl, ⟨⟨rdc F4, trivial⟩, ⟨rdc F4, trivial⟩, trivial⟩, ?_⟩
   rw [eoo]
   refine texts_k (hK1.nil F4) fun a l c G H5 ho f5 hG => ⟨_, _, _, rfl, ⟨⟨rdc (F4.trans f5), trivial⟩, trivial⟩, num_k (hK1.nil (F4.trans f5)) fun H6 f6 => ⟨_, rfl, trivial, ?_⟩⟩
   rw [eown] at ho
   rw [enm, eln]
   exact fin _ HR.size a l c G ((F4.trans f5).trans f6) ((((hL.fr f2 (by simp)).fr f4 (by simp)).fr f5 (by simp)).fr f6 (by simp)) (Nat.le_refl _) (ho.fr f6 (by simp)) (fun x hx => Nat.le_trans F4.1 (hG x hx)) fun hm => by have := hG _ hm; have := ((hL.fr f2 (by simp)).fr f4 (by simp)).lt; omega
theorem look_nil {o : Int} (h : ∀ H', Fr [] H H' → Q (.tuple #[.agg #[.pointer none], .int .i64 2]) H') : callS PP n_k177 #[.pointer none, .int .i64 o] Q H := by
 apply k177_ok
 unfold k177 A0 iV; dsimp only [shH]
 have hf : Fr [] H (H.push (.cells #[.pointer none] 131)) := Fr.push _ _ _
 have hB := Blk.new H #[.pointer none] 131
 refine there_nil ⟨_, rfl, ?_⟩
 simp only [Bool.not_false, cond_true]
 exact ⟨hB.wr (by simp), _, (hB.set 0 _).cell 0, h _ (Fr.late hf (Nat.le_refl _))⟩
theorem kinfo_nil {o : Int} (h : ∀ H', Fr [] H H' → Q (.tuple #[.agg #[.string ⟨#[]⟩, .string ⟨#[]⟩, .slice none 0 0, .int .i64 0], .int .i64 2]) H') : callS PP n_k67 #[.pointer none, .int .i64 o] Q H := by
 apply k67_ok
 unfold k67 A0 iV; dsimp only [shH]
 have hf0 : Fr [] H (H.push (.cells #[.string (⟨#[]⟩ : ByteArray), .string (⟨#[]⟩ : ByteArray), .slice none 0 0, .int .i64 0] 121)) := Fr.push _ _ _
 have hR0 := Blk.new H #[.string (⟨#[]⟩ : ByteArray), .string (⟨#[]⟩ : ByteArray), .slice none 0 0, .int .i64 0] 121
 generalize (H.push (.cells #[.string (⟨#[]⟩ : ByteArray), .string (⟨#[]⟩ : ByteArray), .slice none 0 0, .int .i64 0] 121)) = H0 at hf0 hR0 ⊢
 refine look_nil fun H1 hf1 => ?_
 refine ⟨_, _, rfl, Wr_push.2 (by simp), ?_⟩
 simp only [show ((2 : Int) != 0) = true from rfl, cond_true]
 rw [locB]
 have hf2 : Fr [] H1 (H1.push (.cells #[.pointer none] 131)) := Fr.push _ _ _
 have hR2 := (hR0.fr hf1 (by simp)).fr hf2 (by simp)
 obtain ⟨w0, w1, w2, w3, hB, hf⟩ := st4 hR2 (o := 0) (by simp) (.string ⟨#[]⟩) (.string ⟨#[]⟩) (.slice none 0 0) (.int .i64 0)
 refine ⟨w0, w1, w2, w3, _, hB.cell 0, _, hB.cell 1, _, _, _, hB.cell 2, _, hB.cell 3, h _ ?_⟩
 exact (Up.fresh ((hf0.trans hf1).trans hf2) (F := [H.size]) (F' := [H.size]) ⟨hf, fun _ h => .inl h⟩ (by simp)).1
theorem under_nil {o : Int} (h : ∀ H', Fr [] H H' → Q (.slice none 0 0) H') : callS PP n_k72 #[.pointer none, .int .i64 o] Q H := by
 apply k72_ok
 unfold k72 A0 iV wW; dsimp only [shH]
 refine look_nil fun H1 hf => ⟨_, _, rfl, Wr_push.2 (by simp), ?_⟩
 simp only [show ((2 : Int) != 0) = true from rfl, cond_true]
 rw [locB]
 exact h _ hf.more
end
theorem gB_get {s : ByteArray} {i : Nat} (h : i < s.size) : s[i]? = some s[i] ∧ (s[i]).toNat = gB s i := by
 have : s[i]? = some s[i] := by simp [h]
 exact ⟨this, by rw [gB_some this]⟩
section
variable {H : Heap} {b : Nat} {F : Foot} {s : SP} {t : TB} {v : KV} {Q : QT}
theorem named_k {x : ByteArray} {lo up : Nat} (h : ∀ H', Fr [] H H' → Q (.bool (decide (nameOk lo up x))) H') : callS PP n_k91 #[.string x, .int .u8 lo, .int .u8 up] Q H := by
 apply k91_ok
 unfold k91 iV wW
 have no : ¬ nameOk lo up x → ∀ H', Fr [] H H' → Q (.bool false) H' := fun hn H' hf => by have := h H' hf; rw [decide_eq_false hn] at this; exact this
 rw [strEq_dec, cond_dec]
 refine ite_i (fun h1 => no (fun hn => ?_) _ (Fr.refl _ _)) fun h1 => ?_
 · have := hn.1; rw [h1] at this; exact absurd this (by decide)
 have hpos : 0 < x.size := by
   rcases Nat.eq_zero_or_pos x.size with h0 | h0
   · exfalso; apply h1
     obtain ⟨d⟩ := x
     have : d = #[] := Array.eq_empty_of_size_eq_zero h0
     rw [this]
   · exact h0
 rw [cond_dec]
 refine ite_i (fun h2 => no (fun hn => by have := hn.2.1; omega) _ (Fr.refl _ _)) fun h2 => ?_
 obtain ⟨g1, g2⟩ := gB_get hpos
 refine ⟨_, ⟨Int.le_refl 0, g1⟩, ?_⟩
 rw [g2, cond_dec]
 refine ite_i (fun h3 => no (fun hn => by have := hn.2.2.1; omega) _ (Fr.refl _ _)) fun h3 => ⟨_, ⟨Int.le_refl 0, g1⟩, ?_⟩
 rw [g2, cond_dec]
 refine ite_i (fun h4 => no (fun hn => by have := hn.2.2.2.1; omega) _ (Fr.refl _ _)) fun h4 => ?_
 refine evS_bytes (e := 5) (by kernel_rfl) (by kernel_rfl) (by kernel_rfl) fun cap H0 hf0 hcell => ⟨_, _, _, rfl, ?_⟩
 refine ⟨fun w H' => H' = H0 ∧ ∃ i : Nat, w = [.int .i64 i] ∧ i ≤ x.size ∧ ∀ j, j < i → alnum (gB x j), fun w _ => match w with
   | [.int _ i] => (x.size - i).toNat
   | _ => 0, ⟨rfl, 0, rfl, Nat.zero_le _, fun j hj => by omega⟩, ?_⟩
 rintro w H1 ⟨rfl, i, rfl, hi, hall⟩ _
 refine ⟨_, rfl, ?_⟩
 rw [cond_dec]
 refine ite_i (fun hlt => ?_) fun hlt => ?_
 · have hlt' : i < x.size := by omega
   have e : IntKind.wrap .i64 ((i : Int) + 1) = ((i + 1 : Nat) : Int) := by rw [wrap64_id (by omega) (by omega)]; omega
   have hc := hcell i hlt'
   have hgb : ((x[i]?.getD 0).toNat : Int) = (gB x i : Int) := rfl
   rw [hgb] at hc
   refine ⟨⟨by omega, hlt⟩, _, rfl, _, by rw [Int.toNat_natCast, Nat.mul_one, add_none, Nat.zero_add]; exact hc, ?_⟩
   have go : alnum (gB x i) → (True ∧ ∃ i_1 : Nat, [Value.int .i64 (IntKind.wrap .i64 ((i : Int) + 1))] = [.int .i64 i_1] ∧ i_1 ≤ x.size ∧ ∀ j, j < i_1 → alnum (gB x j)) ∧ ((x.size : Int) - (IntKind.wrap .i64 ((i : Int) + 1))).toNat < ((x.size : Int) - (i : Int)).toNat := fun ha => by
     rw [e]
     refine ⟨⟨trivial, i + 1, rfl, by omega, fun j hj => ?_⟩, by omega⟩
     rcases Nat.lt_or_ge j i with h5 | h5
     · exact hall j h5
     · have : j = i := by omega
       rw [this]; exact ha
   have bad : ¬ alnum (gB x i) → Q (.bool false) H1 := fun ha => no (fun hn => ha (hn.2.2.2.2 i hlt')) _ hf0
   simp only [cond_dec]
   refine ite_i (fun c1 => ite_i (fun c2 => ite_i (fun c3 => bad (by unfold alnum; omega)) fun c3 => ite_i (fun c4 => bad (by unfold alnum; omega)) fun c4 => go (by unfold alnum; omega)) fun c2 => ite_i (fun c3 => ite_i (fun c4 => bad (by unfold alnum; omega)) fun c4 => ite_i (fun c5 => bad (by unfold alnum; omega)) fun c5 => go (by unfold alnum; omega)) fun c3 => go (by unfold alnum; omega)) fun c1 => ite_i (fun c2 => ite_i (fun c3 => ite_i (fun c4 => bad (by unfold alnum; omega)) fun c4 => ite_i (fun c5 => bad (by unfold alnum; omega)) fun c5 => go (by unfold alnum; omega)) fun c3 => ite_i (fun c4 => ite_i (fun c5 => bad (by unfold alnum; omega)) fun c5 => ite_i (fun c6 => bad (by unfold alnum; omega)) fun c6 => go (by unfold alnum; omega)) fun c4 => go (by unfold alnum; omega)) fun c2 => go (by unfold alnum; omega)
 · have : i = x.size := by omega
   subst this
   have := h H1 hf0
   have hok : nameOk lo up x := ⟨hpos, by omega, by omega, by omega, hall⟩
   rw [decide_eq_true hok] at this
   exact this
theorem field_k {x : ByteArray} (h : ∀ H', Fr [] H H' → Q (.bool (decide (fieldOk x))) H') : callS PP n_k203 #[.string x] Q H := by
 apply k203_ok
 unfold k203
 have no : ¬ fieldOk x → Q (.bool false) H := fun hn => by have := h H (Fr.refl _ _); rw [decide_eq_false hn] at this; exact this
 simp only [strEq_dec, cond_dec]
 refine ite_i (fun h1 => no fun hn => hn.1 (.inl h1)) fun h1 => ite_i (fun h2 => no fun hn => hn.1 (.inr (.inl h2))) fun h2 => ite_i (fun h3 => no fun hn => hn.1 (.inr (.inr (.inl h3)))) fun h3 => ite_i (fun h4 => no fun hn => hn.1 (.inr (.inr (.inr (.inl h4))))) fun h4 => ite_i (fun h5 => no fun hn => hn.1 (.inr (.inr (.inr (.inr h5))))) fun h5 => ?_
 refine named_k (lo := 97) (up := 122) fun H' hf => ⟨_, rfl, ?_⟩
 have := h H' hf
 have e : decide (fieldOk x) = decide (nameOk 97 122 x) := by
   rw [decide_eq_decide]
   unfold fieldOk resvd
   constructor
   · exact fun h => h.2
   · exact fun hn => ⟨fun h => by rcases h with h | h | h | h | h <;> contradiction, hn⟩
 rw [e] at this; exact this
theorem contains_k {a : Option Addr} {l c : Nat} {xs : List ByteArray} {x : ByteArray} (hk : Rd 1 H a l (strsV xs)) (hlk : l ≤ 1000000000000000) (h : Q (.bool (decide (x ∈ xs))) H) : callS PP n_k204 #[.slice a l c, .string x] Q H := by
 have hl : l = xs.length := by have := hk.1; simpa [strsV] using this.symm
 apply k204_ok
 unfold k204 iV
 apply k259_ok
 unfold k259 iV wW
 refine ⟨fun w H' => H' = H ∧ ∃ i : Nat, w = [.int .i64 i] ∧ i ≤ l ∧ ∀ j (hj : j < xs.length), j < i → xs[j] ≠ x, fun w _ => match w with
   | [.int _ i] => (l - i).toNat
   | _ => 0, ⟨rfl, 0, rfl, Nat.zero_le _, fun j _ hj => by omega⟩, ?_⟩
 rintro w H1 ⟨rfl, i, rfl, hi, hall⟩ _
 refine ⟨_, rfl, ?_⟩
 rw [cond_dec]
 refine ite_i (fun hlt => ?_) fun hlt => ?_
 · obtain ⟨p, hlt2, rfl, hcell⟩ := hk.str (i := (i : Int)) (by omega) hlt
   simp only [Int.toNat_natCast] at hcell hlt2
   have e : IntKind.wrap .i64 ((i : Int) + 1) = ((i + 1 : Nat) : Int) := by rw [wrap64_id (by omega) (by omega)]; omega
   refine ⟨⟨by omega, hlt⟩, _, rfl, _, by rw [Int.toNat_natCast, Nat.mul_one]; exact hcell, ?_⟩
   rw [strEq_dec, cond_dec]
   refine ite_i (fun he => ⟨_, rfl, ?_⟩) fun he => ?_
   · rw [decide_eq_true (show x ∈ xs by rw [he]; exact List.getElem_mem _)] at h
     rw [decide_eq_true (show (i : Int) ≥ 0 by omega)]; exact h
   · rw [e]
     refine ⟨⟨rfl, i + 1, rfl, by omega, fun j hj hji => ?_⟩, by simp; omega⟩
     rcases Nat.lt_or_ge j i with h5 | h5
     · exact hall j hj h5
     · have : j = i := by omega
       subst this; exact fun e => he e.symm
 · refine ⟨_, rfl, ?_⟩
   have : x ∉ xs := fun hm => by
     obtain ⟨j, hj, he⟩ := List.getElem_of_mem hm
     exact hall j hj (by omega) he
   rw [decide_eq_false this] at h
   exact h
theorem taken_k (hK : PK H b F s t) (hv : KAll s t v) {name : ByteArray} (h : ∀ H', Fr [] H H' → Q (.bool (decide (takenK v t name))) H') : callS PP n_k92 #[.pointer (some ⟨b, 0, none⟩), .string name] Q H := by
 have hg := hv.ks.shape.globs
 apply k92_ok
 unfold k92 iV
 refine kfind_k hK hv fun H1 hf1 => ⟨_, _, rfl, ?_⟩
 rw [beqI, cond_dec]
 refine ite_i (fun h1 => ?_) fun h1 => ?_
 · have := h H1 hf1
   rw [decide_eq_true (show takenK v t name from .inl h1)] at this
   exact this
 · refine globals_k (hK.nil hf1) hv fun a l c G H2 ho hf2 hG => ⟨_, _, _, rfl, contains_k ho.rd ?_ ⟨_, rfl, ?_⟩⟩
   · have := ho.len
     simp only [strsV, globsK, List.length_map] at this
     omega
   · have := h H2 (hf1.trans hf2)
     have e : decide (takenK v t name) = decide (name ∈ globsK v t) := by
       rw [decide_eq_decide]; unfold takenK
       exact ⟨fun h => h.resolve_left h1, .inr⟩
     rw [e] at this; exact this
theorem definable_k (hK : PK H b F s t) (hv : KAll s t v) {name sup : ByteArray} {a : Option Addr} {l c : Nat} {own : List ByteArray} (hk : Rd 1 H a l (strsV own)) (hlc : l ≤ c) (hlk : l ≤ 1000000000000000)
   (h : ∀ H', Fr [] H H' → Q (.tuple #[.int .i64 (defK v t name sup own).1, .int .i64 (defK v t name sup own).2]) H') : callS PP n_k87 #[.pointer (some ⟨b, 0, none⟩), .string name, .string sup, .slice a l c] Q H := by
 have hm1 := hv.ks.shape.many1
 have hl : l = own.length := by have := hk.1; simpa [strsV] using this.symm
 apply k87_ok
 unfold k87 A0 iV wW; dsimp only [shH]
 unfold defK at h
 refine named_k (lo := 65) (up := 90) fun H1 hf1 => ⟨_, rfl, ?_⟩
 rw [← decide_not, cond_dec]
 refine ite_i (fun h1 => ?_) fun h1 => ?_
 · rw [if_pos h1] at h; exact h H1 hf1
 rw [if_neg h1] at h
 refine taken_k (hK.nil hf1) hv fun H2 hf2 => ⟨_, rfl, ?_⟩
 have hF2 := hf1.trans hf2
 rw [cond_dec]
 refine ite_i (fun h2 => ?_) fun h2 => ?_
 · rw [if_pos h2] at h; exact h H2 hF2
 rw [if_neg h2] at h
 refine kfind_k (hK.nil hF2) hv fun H3 hf3 => ⟨_, _, rfl, ?_⟩
 have hF3 := hF2.trans hf3
 rw [bneI, cond_dec]
 refine ite_i (fun h3 => ?_) fun h3 => ?_
 · rw [if_pos h3] at h; exact h H3 hF3
 rw [if_neg h3] at h
 rcases findK_cases v t sup with ⟨e, _⟩ | ⟨j, hj, e, _⟩
 · rw [e] at h3; simp at h3
 have hfl := fields_len hv.ks j hj
 rw [e] at h ⊢
 simp only [hv.ks.idx hj] at h
 rw [locB]
 have hf4 : Fr [] H3 (H3.push (.cells #[.pointer (some ⟨b, 0, none⟩)] 131)) := Fr.push _ _ _
 have hB := Blk.new H3 #[.pointer (some ⟨b, 0, none⟩)] 131
 have hF4 := hF3.trans hf4
 generalize (H3.push (.cells #[.pointer (some ⟨b, 0, none⟩)] 131)) = H4 at hf4 hB hF4 ⊢
 have hW : Wr (H3.push (.cells #[.pointer none] 131)) ⟨H3.size, 0, none⟩ := Wr_push.2 (by simp)
 refine ⟨hW, fun w H' => w = [] ∧ Fr [] H4 H' ∧ ¬ (1 ≤ j ∧ j < 14), ⟨_, hB.cell 0, num_k (hK.nil hF4) fun H5 hf5 => ⟨_, rfl, ?_⟩⟩, ?_⟩
 · rw [hv.ks.num hj, cond_dec]
   refine ite_i (fun h4 => ?_) fun h4 => ⟨rfl, hf5, by omega⟩
   rw [cond_dec]
   refine ite_i (fun h5 => ?_) fun h5 => ⟨rfl, hf5, by omega⟩
   rw [if_pos (by omega)] at h
   exact h H5 (hF4.trans hf5)
 rintro w H5 ⟨rfl, hf5, h4⟩ _
 rw [if_neg h4] at h
 have hF5 := hF4.trans hf5
 refine ⟨rfl, _, (hB.fr hf5 (by simp)).cell 0, fields_k hv j (hK.nil hF5) hj fun a6 l6 c6 G H6 ho6 hf6 hG => ⟨_, _, _, rfl, ?_⟩⟩
 have hF6 := hF5.trans hf6
 have hl6 : l6 = (fieldsK v j).length := by have := ho6.len; simpa [strsV] using this.symm
 refine ⟨fun w H' => ∃ i : Nat, w = [.int .i64 i] ∧ i ≤ l ∧ Fr [] H6 H' ∧ ownE ((fieldsK v j).map (tx t)) (own.take i) (own.drop i) = ownE ((fieldsK v j).map (tx t)) [] own, fun w _ => match w with
   | [.int _ i] => (l - i).toNat
   | _ => 0, ⟨0, rfl, Nat.zero_le _, Fr.refl _ _, by simp⟩, ?_⟩
 rintro w H7 ⟨i, rfl, hi, hf7, hown⟩ _
 have hF7 := hF6.trans hf7
 refine ⟨_, rfl, ?_⟩
 rw [cond_dec]
 refine ite_i (fun hlt => ?_) fun hlt => ?_
 · have hlt' : i < own.length := by omega
   obtain ⟨p, hlt2, rfl, hcell⟩ := (hk.fr' hF7 (by simp)).str (i := (i : Int)) (by omega) hlt
   simp only [Int.toNat_natCast] at hcell hlt2
   have e1 : IntKind.wrap .i64 ((i : Int) + 1) = ((i + 1 : Nat) : Int) := by rw [wrap64_id (by omega) (by omega)]; omega
   have ed : own.drop i = own[i] :: own.drop (i + 1) := List.drop_eq_getElem_cons hlt'
   have et : own.take (i + 1) = own.take i ++ [own[i]] := by rw [List.take_add_one]; simp [hlt']
   rw [ed] at hown
   rw [ownE] at hown
   refine ⟨⟨by omega, hlt⟩, _, rfl, _, by rw [Int.toNat_natCast, Nat.mul_one]; exact hcell, field_k fun H8 hf8 => ⟨_, rfl, ?_⟩⟩
   rw [← decide_not, cond_dec]
   refine ite_i (fun h5 => ?_) fun h5 => ?_
   · rw [if_pos h5] at hown
     rw [if_pos (by rw [← hown]; decide), ← hown] at h
     exact h H8 (hF7.trans hf8)
   rw [if_neg h5] at hown
   have hF8 := hF7.trans hf8
   refine ⟨⟨by omega, by omega⟩, contains_k (xs := own.take i) ?_ (by simp; omega) ⟨_, rfl, ?_⟩⟩
   · have := hk.fr' hF8 (by simp)
     refine ⟨by simp [strsV]; omega, (fun hn => by cases hn), fun q hq k hk' => ?_⟩
     rw [Int.toNat_natCast] at hk'
     have h6 := this.2.2 q hq k (by omega)
     rw [h6]
     simp only [strsV, List.getElem?_map]
     rw [List.getElem?_take_of_lt (by omega)]
   rw [cond_dec]
   refine ite_i (fun h6 => ?_) fun h6 => ?_
   · rw [if_pos h6] at hown
     rw [if_pos (by rw [← hown]; decide), ← hown] at h
     exact h H8 hF8
   rw [if_neg h6] at hown
   refine contains_k ((ho6.fr hf7 (by simp)).fr hf8 (by simp)).rd (by omega) ⟨_, rfl, ?_⟩
   rw [cond_dec]
   refine ite_i (fun h7 => ?_) fun h7 => ?_
   · rw [if_pos h7] at hown
     rw [if_pos (by rw [← hown]; decide), ← hown] at h
     exact h H8 hF8
   rw [if_neg h7] at hown
   rw [e1]
   exact ⟨⟨i + 1, rfl, by omega, hf7.trans hf8, by rw [et]; exact hown⟩, by simp; omega⟩
 · have hil : i = own.length := by omega
   rw [hil, List.drop_length] at hown
   have h0 : ownE ((fieldsK v j).map (tx t)) [] own = 0 := by rw [← hown]; rfl
   rw [if_neg (by rw [h0]; decide)] at h
   have ew : IntKind.wrap .i64 ((l6 : Int) + (l : Int)) = (l6 : Int) + l := wrap64_id (by omega) (by omega)
   rw [ew, cond_dec]
   refine ite_i (fun h5 => ?_) fun h5 => ?_
   · rw [if_pos (by omega)] at h; exact h H7 hF7
   rw [if_neg (by omega)] at h
   refine count_k (hK.nil hF7) hv fun H8 hf8 => ⟨_, rfl, ?_⟩
   rw [cond_dec]
   refine ite_i (fun h6 => ?_) fun h6 => ?_
   · rw [if_pos (by omega)] at h; exact h H8 (hF7.trans hf8)
   rw [if_neg (by omega)] at h
   exact h H8 (hF7.trans hf8)
end
structure PM (H : Heap) (mb b : Nat) (F : Foot) (s : SP) (t : TB) (cnt mk kp : Int) : Prop where
 k : PK H b F s t
 m : Blk H mb #[.pointer (some ⟨b, 0, none⟩), .int .i64 cnt, .int .i64 mk, .int .i64 kp]
 out : mb ∉ F
theorem Up.out {F F' : Foot} {H H' : Heap} (h : Up F H F' H') {x : Nat} (hx : x ∉ F) (hl : x < H.size) : x ∉ F' := fun hm => by
 rcases h.2 x hm with h1 | h1
 · exact hx h1
 · omega
theorem PM.up {H H' : Heap} {mb b : Nat} {F F' : Foot} {s s' : SP} {t t' : TB} {cnt mk kp : Int} (h : PM H mb b F s t cnt mk kp) (hk : PK H' b F' s' t') (hu : Up F H F' H') : PM H' mb b F' s' t' cnt mk kp :=
 ⟨hk, h.m.fr hu.1 h.out, Up.out hu h.out h.m.lt⟩
theorem PM.nil {H H' : Heap} {mb b : Nat} {F : Foot} {s : SP} {t : TB} {cnt mk kp : Int} (h : PM H mb b F s t cnt mk kp) (hf : Fr [] H H') : PM H' mb b F s t cnt mk kp := ⟨h.k.nil hf, h.m.fr hf (by simp), h.out⟩
theorem Up.of_nil {F : Foot} {H H' : Heap} (h : Fr [] H H') : Up F H F H' := ⟨Kw.Fr.of_nil h, fun _ h => .inl h⟩
theorem put_fmt {r : RH} (k i w j : Int) {y : RO} (h : objAt (r.put k i w).2.objs j = some y) : ∃ x, objAt r.objs j = some x ∧ y.fmt = x.fmt := by
 unfold RH.put at h
 split at h
 · exact ⟨y, h, rfl⟩
 split at h
 · exact ⟨y, h, rfl⟩
 split at h
 · exact ⟨y, h, rfl⟩
 · simp only at h
   rw [objAt_updO (f := setO i w) (fun o => rfl)] at h
   cases hx : objAt r.objs j with
   | none => rw [hx] at h; cases h
   | some x =>
     rw [hx] at h
     simp only [Option.map_some, Option.some.injEq] at h
     refine ⟨x, rfl, ?_⟩
     rw [← h]
     split <;> rfl
section
variable {H : Heap} {mb b : Nat} {F : Foot} {s : SP} {t : TB} {v : KV} {cnt mk kp : Int} {Q : QT}
theorem msymbol_k (hM : PM H mb b F s t cnt mk kp) {x : ByteArray} (h : ∀ H' F', PM H' mb b F' s (t.add x).2 cnt mk kp → Up F H F' H' → Q (.tuple #[.int .i64 (if (t.add x).1.2 = 0 then 4 * (t.add x).1.1 + 2 else 0), .int .i64 (t.add x).1.2]) H') : callS PP n_k93 #[.pointer (some ⟨mb, 0, none⟩), .string x] Q H := by
 apply k93_ok
 unfold k93 iV
 obtain ⟨tb, F2, hc, hT, hsub, hnb, hup, _⟩ := hM.k.tb
 refine ⟨_, rfl, _, hM.m.cell 0, _, rfl, _, hc, ptAdd_c hT fun H1 F1 hT1 hu1 => ⟨_, _, rfl, ?_⟩⟩
 obtain ⟨F', hK', hu'⟩ := hup H1 F1 _ hT1 hu1
 have hM' := hM.up hK' hu'
 rw [bneI, cond_dec]
 refine ite_i (fun h1 => ?_) fun h1 => ?_
 · have := h _ _ hM' hu'
   rw [if_neg h1] at this; exact this
 · have hz : (t.add x).1.2 = 0 := Classical.byContradiction h1
   obtain ⟨n, e1, e2, _⟩ := add_ok x hz
   have hw := hK'.wft
   have h2 := (tx_some e2).2
   have h3 := hw.m1
   have h4 := hw.len
   rw [e1]
   refine sym_c ⟨by omega, by omega⟩ ⟨_, _, rfl, ?_⟩
   have := h _ _ hM' hu'
   rw [if_pos hz, e1, hz] at this; exact this
theorem mmake_k (hM : PM H mb b F s t cnt mk kp) {cls : Int} (hcls : 1 ≤ cls ∧ cls ≤ 65536) {a : Option Addr} {l c : Nat} {ws : List Int} (hk : Rd 1 H a l (intsV ws)) (hd : ∀ p, a = some p → p.block ∉ F) (hlk : l ≤ 1000000000)
   (h : ∀ H' F', PM H' mb b F' (s.make cls ws).2 t cnt mk kp → Up F H F' H' → Q (.tuple #[.int .i64 (s.make cls ws).1.1, .int .i64 (s.make cls ws).1.2]) H') : callS PP n_k206 #[.pointer (some ⟨mb, 0, none⟩), .int .i64 cls, .slice a l c] Q H := by
 have hl : l = ws.length := by have := hk.1; simpa [intsV] using this.symm
 apply k206_ok
 unfold k206 A0 iV wW
 unfold SP.make at h
 obtain ⟨sb, F1, hc, hS, hsub, hnb, _, hup⟩ := hM.k.sp
 refine ⟨_, rfl, _, hM.m.cell 0, _, rfl, _, hc, object_c hcls ⟨_, rfl, ⟨⟨hc, trivial⟩, ⟨hM.m.cell 0, trivial⟩, trivial⟩, ?_⟩⟩
 rw [hl]
 refine psAlloc_c hS fun H1 hS1 hf1 => ⟨_, _, rfl, trivial, ?_⟩
 have hfF := hf1.mono hsub
 have hu' : Up F H F H1 := ⟨hfF, fun _ h => .inl h⟩
 have hM' := hM.up (hup H1 _ hS1 hf1) hu'
 have hd' := hk.fr' hfF hd
 rw [bneI, cond_dec]
 refine ite_i (fun h1 => ?_) fun h1 => ?_
 · rw [if_pos h1] at h; exact h _ _ hM' hu'
 rw [if_neg h1] at h
 have hz : (s.alloc (4 * cls) ws.length 0).1.2 = 0 := Classical.byContradiction h1
 obtain ⟨o, e1, o1, o2, _, _, harr, _⟩ := salloc_ok hM.k.wfs hz
 rw [if_pos hz]
 rw [e1] at h ⊢
 have e2 : 4 * o / 4 = o := by omega
 rw [e2] at h
 generalize (s.alloc (4 * cls) ws.length 0).2 = s1 at *
 have hk3 : kindW (4 * o) = 3 := by have := kind_cases (4 * o); omega
 refine oop_c hM'.k.kinds ?_
 unfold ofW
 rw [if_pos hk3]
 simp only [e2]
 refine ⟨_, _, rfl, ?_⟩
 refine ⟨fun w H' => ∃ (i : Nat) (r : RH), w = [.int .i64 i] ∧ i ≤ ws.length ∧ PM H' mb b F { s1 with h := r } t cnt mk kp ∧ Fr F H1 H' ∧ r.lay o i (ws.drop i) = s1.h.lay o 0 ws ∧ ∀ x, objAt r.objs o = some x → x.fmt = 0, fun w _ => match w with
   | [.int _ i] => (ws.length - i).toNat
   | _ => 0, ⟨0, s1.h, rfl, Nat.zero_le _, hM', Fr.refl _ _, rfl, fun x hx => by obtain ⟨y, h2, h3, _⟩ := harr; rw [h2] at hx; cases hx; exact h3⟩, ?_⟩
 rintro w H4 ⟨i, r, rfl, hi, hM4, hf4, hlay, hfmt⟩ _
 refine ⟨_, rfl, ?_⟩
 rw [cond_dec]
 refine ite_i (fun hlt => ?_) fun hlt => ?_
 · obtain ⟨p, rfl, hcell, hlt2⟩ := (hd'.fr' hf4 hd).int (i := (i : Int)) (by omega) (by omega)
   rw [Int.toNat_natCast] at hcell hlt2
   have hx : ws.getD i 0 = ws[i] := by simp [hlt2]
   rw [hx] at hcell
   have ed : ws.drop i = ws[i] :: ws.drop (i + 1) := List.drop_eq_getElem_cons hlt2
   have e : IntKind.wrap .i64 ((i : Int) + 1) = ((i + 1 : Nat) : Int) := by rw [wrap64_id (by omega) (by omega)]; omega
   obtain ⟨sb4, F4, hc4, hS4, hsub4, _, _, hup4⟩ := hM4.k.sp
   refine ⟨⟨by omega, hlt⟩, _, rfl, _, by rw [Int.toNat_natCast, Nat.mul_one]; exact hcell, _, rfl, _, hM4.m.cell 0, _, rfl, _, hc4, psHeap_c hS4 fun hb F5 hR hsub5 hup5 => ⟨_, rfl, put_c hR hfmt fun H6 hR6 hf6 => ⟨_, rfl, ?_⟩⟩⟩
   have hS6 := hup5 H6 _ hR6 hf6
   have hK6 := hup4 H6 _ hS6 (hf6.mono hsub5)
   have hf6' : Fr F H4 H6 := (hf6.mono hsub5).mono hsub4
   have hM6 := hM4.up hK6 ⟨hf6', fun _ h => .inl h⟩
   rw [e]
   refine ⟨⟨i + 1, (r.put o i ws[i]).2, rfl, by omega, hM6, hf4.trans hf6', ?_, fun x hx => ?_⟩, by simp; omega⟩
   · rw [← hlay, ed]
     simp only [RH.lay]
     congr 1
     all_goals omega
   · obtain ⟨y, h2, h3⟩ := put_fmt o i ws[i] o hx
     rw [h3]; exact hfmt y h2
 · have hil : i = ws.length := by omega
   subst hil
   rw [List.drop_length] at hlay
   simp only [RH.lay] at hlay
   rw [hlay] at hM4
   obtain ⟨sb4, F4, hc4, hS4, hsub4, _, hup4, _⟩ := hM4.k.sp
   refine ⟨_, rfl, _, hM4.m.cell 0, _, rfl, _, hc4, ?_⟩
   have fp : Fr [] H4 (H4.push (.cells #[.int .i64 (4 * o)] 36)) := Fr.push _ _ _
   have hM5 := hM4.nil fp
   obtain ⟨sb5, F5, hc5, hS5, hsub5, _, hup5, _⟩ := hM5.k.sp
   have hsb : sb5 = sb4 := by
     have : cellH (H4.push (.cells #[.int .i64 (4 * o)] 36)) ⟨b, 0, none⟩ = cellH H4 ⟨b, 0, none⟩ := cellH_push_lt (hM4.k.lt b hM4.k.bmem)
     rw [this, hc4] at hc5
     simpa using hc5.symm
   subst hsb
   refine psKeep_c hS5 (ws := [4 * o]) ?_ (by omega) fun H7 F7 hS7 hu7 => ⟨_, rfl, ?_⟩
   · refine ⟨rfl, (fun h => by cases h), fun p hp k hk => ?_⟩
     cases hp
     have : k = 0 := by omega
     subst this
     rw [add_none]
     exact (Blk.new H4 _ _).cell 0
   · obtain ⟨F', hK7, hu7'⟩ := hup5 H7 F7 _ hS7 hu7
     have hM7 := hM5.up hK7 hu7'
     exact h H7 F' hM7 ((hu'.trans ⟨hf4, fun _ h => .inl h⟩).trans ((Up.of_nil fp).trans hu7'))
theorem marray_k (hM : PM H mb b F s t cnt mk kp) {a : Option Addr} {l c : Nat} {ws : List Int} (hk : Rd 1 H a l (intsV ws)) (hd : ∀ p, a = some p → p.block ∉ F) (hlk : l ≤ 1000000000)
   (h : ∀ H' F', PM H' mb b F' (s.array ws).2 t cnt mk kp → Up F H F' H' → Q (.tuple #[.int .i64 (s.array ws).1.1, .int .i64 (s.array ws).1.2]) H') : callS PP n_k94 #[.pointer (some ⟨mb, 0, none⟩), .slice a l c] Q H := by
 have hl : l = ws.length := by have := hk.1; simpa [intsV] using this.symm
 apply k94_ok
 unfold k94 iV
 unfold SP.array at h
 rw [beqI, cond_dec]
 refine ite_i (fun h0 => ?_) fun h0 => ?_
 · have : ws = [] := List.eq_nil_of_length_eq_zero (by omega)
   rw [if_pos this] at h
   exact object_c (by decide) ⟨_, rfl, h H F hM (Up.refl _ _)⟩
 · have : ws ≠ [] := fun e => h0 (by rw [hl, e]; rfl)
   rw [if_neg this] at h
   exact mmake_k hM (by decide) hk hd hlk fun H' F' hM' hu => ⟨_, _, rfl, h H' F' hM' hu⟩
end
def Out (H : Heap) (a : Option Addr) (F : Foot) : Prop := ∀ p, a = some p → p.block < H.size ∧ p.block ∉ F
theorem Out.up {H H' : Heap} {a : Option Addr} {F F' : Foot} (h : Out H a F) (hu : Up F H F' H') : Out H' a F' := fun p hp => ⟨Nat.lt_of_lt_of_le (h p hp).1 hu.1.1, Up.out hu (h p hp).2 (h p hp).1⟩
theorem Out.rd {H H' : Heap} {a : Option Addr} {F F' : Foot} {l : Nat} {ys : List Value} (h : Out H a F) (hu : Up F H F' H') (hk : Rd 1 H a l ys) : Rd 1 H' a l ys := hk.fr' hu.1 fun p hp => (h p hp).2
def Outs (H : Heap) (a : Option Addr) (l : Nat) (F : Foot) : Prop := l = 0 ∨ Out H a F
theorem Outs.up {H H' : Heap} {a : Option Addr} {l : Nat} {F F' : Foot} (h : Outs H a l F) (hu : Up F H F' H') : Outs H' a l F' := h.imp id fun h => h.up hu
theorem Outs.rd {H H' : Heap} {a : Option Addr} {F F' : Foot} {l : Nat} {ys : List Value} (h : Outs H a l F) (hu : Up F H F' H') (hk : Rd 1 H a l ys) : Rd 1 H' a l ys := by
 rcases h with h | h
 · subst h
   exact ⟨hk.1, hk.2.1, fun p _ i hi => by simp at hi⟩
 · exact h.rd hu hk
theorem Own.out {H : Heap} {a : Option Addr} {l c : Nat} {xs : List Value} {F G : Foot} (h : Own 1 H a l c xs G) (hd : Disj G F) : Out H a F := fun p hp => by
 have hlt := h.lt
 rcases h.2.2 with ⟨h1, _⟩ | ⟨b', cs, h1, rfl, _⟩
 · rw [h1] at hp; cases hp
 · rw [h1] at hp; cases hp
   exact ⟨hlt _ (by simp), hd _ (by simp)⟩
theorem cell_fr {F : Foot} {H H' : Heap} {b o : Nat} (hf : Fr F H H') (hb : b ∉ F) (hl : b < H.size) : cellH H' ⟨b, o, none⟩ = cellH H ⟨b, o, none⟩ := by
 unfold cellH; rw [hf.2 b hl hb]
theorem rd_new {H : Heap} {cs : List Int} {t : TypeId} : Rd 1 (H.push (.cells (intsV cs).toArray t)) (some ⟨H.size, 0, none⟩) cs.length (intsV cs) := by
 refine ⟨by simp [intsV], (fun h => by cases h), fun p hp k hk => ?_⟩
 cases hp
 rw [add_none, Nat.zero_add, (Blk.new H _ _).cell]
 simp
section
variable {H : Heap} {mb b : Nat} {F : Foot} {s : SP} {t : TB} {v : KV} {cnt mk kp : Int} {Q : QT}
theorem begin_k (hK : PK H b F s t) (h : ∀ H' mb, PM H' mb b F s t t.texts.length s.h.mark s.stack.length → Fr [] H H' → Q (.pointer (some ⟨mb, 0, none⟩)) H') : callS PP n_k88 #[.pointer (some ⟨b, 0, none⟩)] Q H := by
 apply k88_ok
 unfold k88 A0 iV
 obtain ⟨tb, F2, hc2, hT, _⟩ := hK.tb
 obtain ⟨sb, F1, hc, hS, _⟩ := hK.sp
 refine ⟨_, rfl, _, hc2, _, rfl, _, hc, _, rfl, _, hc, ptCount_c hT ⟨_, rfl, ⟨⟨hc, trivial⟩, ⟨hc, trivial⟩, trivial⟩, psHeap_c hS fun hb F3 hR _ _ => ⟨_, rfl, ⟨⟨hc, trivial⟩, trivial⟩, hmarked_c hR ⟨_, rfl, ⟨⟨hc, trivial⟩, trivial⟩, ?_⟩⟩⟩⟩
 refine psKept_c hS fun a c H1 _ hf => ⟨_, _, _, rfl, trivial, trivial, ?_⟩
 have hf2 := hf.more (o := .cells #[.pointer (some ⟨b, 0, none⟩), .int .i64 (t.texts.length : Int), .int .i64 s.h.mark, .int .i64 (s.stack.length : Int)] 146)
 refine h _ H1.size ⟨hK.nil hf2, Blk.new _ _ _, fun hm => ?_⟩ hf2
 have := (hK.nil hf).lt _ hm
 omega
theorem end_k (hM : PM H mb b F s t cnt mk kp) (hkp : 0 ≤ kp ∧ kp ≤ 1000000) {e : Int} (h : ∀ H', PK H' b F (kEnd s t mk cnt kp e).1 (kEnd s t mk cnt kp e).2 → Fr F H H' → Q (.int .i64 e) H') : callS PP n_k90 #[.pointer (some ⟨mb, 0, none⟩), .int .i64 e] Q H := by
 have hmany := hM.k.wfs.many
 apply k90_ok
 unfold k90 iV wW
 unfold kEnd at h
 obtain ⟨sb, F1, hc, hS, hsub, hbF1, _, hup⟩ := hM.k.sp
 refine ⟨_, rfl, _, hM.m.cell 0, _, rfl, _, hc, _, rfl, _, hM.m.cell 3, psKept_c hS fun a c H1 _ hf => ⟨_, _, _, rfl, ⟨⟨(hM.m.fr hf (by simp)).cell 3, trivial⟩, trivial⟩, ?_⟩⟩
 have ew : IntKind.wrap .i64 ((s.stack.length : Int) - kp) = (s.stack.length : Int) - kp := wrap64_id (by omega) (by omega)
 rw [ew]
 refine psDrop_c (hS.nilfr hf) ⟨by omega, by omega⟩ fun H2 hS2 hf2 => ⟨_, rfl, trivial, ?_⟩
 have hf12 : Fr F1 H H2 := hf.of_nil.trans hf2
 have hfF : Fr F H H2 := hf12.mono hsub
 have hM2 := hM.up (hup H2 _ hS2 hf12) ⟨hfF, fun _ h => .inl h⟩
 rw [beqI, cond_dec]
 refine ite_i (fun h1 => ?_) fun h1 => ?_
 · rw [if_pos h1] at h; exact h H2 hM2.k hfF
 rw [if_neg h1] at h
 obtain ⟨tb, F3, hc3, hT, hsub3, hbF3, _, hup3⟩ := hM2.k.tb
 refine ⟨_, rfl, _, hM2.m.cell 0, _, rfl, _, hc3, _, rfl, _, hM2.m.cell 1, ptBack_c hT fun H3 hT3 hf3 => ⟨_, rfl, trivial, ?_⟩⟩
 have hf3' : Fr F H2 H3 := hf3.mono hsub3
 have hM3 := hM2.up (hup3 H3 _ hT3 hf3) ⟨hf3', fun _ h => .inl h⟩
 rw [bneI, cond_dec]
 refine ite_i (fun h2 => ?_) fun h2 => ?_
 · rw [if_neg h2] at h
   obtain ⟨sb4, F4, hc4, hS4, hsub4, _, _, hup4⟩ := hM3.k.sp
   have hsb : sb4 = sb := by
     have hbl := hM.k.lt b hM.k.bmem
     have e1 : cellH H3 ⟨b, 0, none⟩ = some (.pointer (some ⟨sb, 0, none⟩)) := by
       rw [cell_fr hf3 hbF3 (Nat.lt_of_lt_of_le hbl hf12.1), cell_fr hf12 hbF1 hbl, hc]
     rw [hc4] at e1; simpa using e1
   subst hsb
   refine ⟨_, rfl, _, hM3.m.cell 2, psHeap_c hS4 fun hb F5 hR hsub5 hup5 => ⟨_, rfl, ⟨⟨hM3.m.cell 2, trivial⟩, trivial⟩, mark_c hR fun H5 hR5 hf5 => ⟨_, rfl, trivial, ?_⟩⟩⟩
   have hS5 := hup5 H5 _ hR5 hf5
   have hK5 := hup4 H5 _ hS5 (hf5.mono hsub5)
   have := h H5 ?_ ((hfF.trans hf3').trans ((hf5.mono hsub5).mono hsub4))
   · exact this
   · have ed : (s.drop ((s.stack.length : Int) - kp)).2.h = s.h := by unfold SP.drop; split <;> rfl
     simp only [ed] at hK5
     exact hK5
 · have h24 : e = 24 := Classical.byContradiction h2
   rw [if_pos h24] at h
   refine h H3 ?_ (hfF.trans hf3')
   have ed : (s.drop ((s.stack.length : Int) - kp)).2.h = s.h := by unfold SP.drop; split <;> rfl
   have hK3 := hM3.k
   generalize (s.drop ((s.stack.length : Int) - kp)).2 = s' at *
   cases s'
   simp only at ed
   subst ed
   exact hK3
theorem KS.words {s : SP} {v : KV} (h : KS s v) : kwords s.h v.clsA = v.clsW := h.view.all.kwords
theorem mappend_k {H0 : Heap} (hM : PM H0 mb b F s t cnt mk kp) (hf : Fr [] H0 H) {a a2 : Option Addr} {l c c2 l2 : Nat} {G : Foot} {ws xs : List Int} {Q : QT} (ho : Own 1 H a l c (intsV ws) G) (hG : ∀ x ∈ G, H0.size ≤ x) (hws : ws.length ≤ 8192) (h2 : Rd 1 H a2 l2 (intsV xs)) (hxs : l2 ≤ 8192)
   (h : ∀ H' F', PM H' mb b F' (s.array (ws ++ xs)).2 t cnt mk kp → Up F H0 F' H' → Q (.tuple #[.int .i64 (s.array (ws ++ xs)).1.1, .int .i64 (s.array (ws ++ xs)).1.2]) H') :
   evS PP (Builtin.append_ #[108, 108] 108 #[.slice a l c, .slice a2 l2 c2]) (fun v H' => ∃ a3 : Option Addr, ∃ l3 : Nat, ∃ c3 : Nat, v = .slice a3 l3 c3 ∧ True ∧ callS PP n_k94 #[.pointer (some ⟨mb, 0, none⟩), .slice a3 l3 c3] Q H') H := by
 have hs1 : sliceInfo PP 108 = some (1, 8, some (.int .i64 0)) := by kernel_rfl
 have hl : l = ws.length := by have := ho.len; simpa [intsV] using this.symm
 have hlt := hM.k.lt
 refine evS_append hs1 rfl (by kernel_rfl) ho h2 intsV_one (by omega) (by decide) (by decide) fun a' c' G' H' g1 g2 g3 => ⟨_, _, _, rfl, trivial, ?_⟩
 obtain ⟨hf', hG'⟩ := Up.fresh hf g2 hG
 have ho' : Out H' a' F := Own.out g1 fun x hx hm => by have := hG' x hx; have := hlt x hm; omega
 rw [← intsV_append] at g1
 exact marray_k (hM.nil hf') g1.rd (fun p hp => (ho' p hp).2) (by omega) fun H2 F' hM2 hu => h H2 F' hM2 ((Up.of_nil hf').trans hu)
theorem mdefine3_k (hM : PM H mb b F s t cnt mk kp) (hk : KS s v) {c : Int} (hc : 1 ≤ c ∧ c ≤ 65536) (hst : s.stack.length < 65000)
   (h : ∀ H' F', PM H' mb b F' (kDef3 s t v.clsW (4 * c)).2.1 t cnt mk kp → Up F H F' H' → Q (.tuple #[.int .i64 (kDef3 s t v.clsW (4 * c)).1.1, .int .i64 (kDef3 s t v.clsW (4 * c)).1.2]) H') :
   ∃ J37 : List Value → Heap → Prop, (∃ q38, (some ⟨mb, 0, none⟩ : Option Addr) = some q38 ∧ ∃ p39 : Option Addr, cellH H q38 = some (.pointer p39) ∧ ∃ q40, (some ⟨mb, 0, none⟩ : Option Addr) = some q40 ∧ ∃ p41 : Option Addr, cellH H q40 = some (.pointer p41) ∧ (callS PP 74 #[.agg #[.pointer p41], .int .i64 0] (fun v42 H12 => ∃ n43 : Int, v42 = .int .i64 n43 ∧ ((cellH H12 q38 = some (.pointer p39) ∧ True) ∧ True) ∧ (callS PP 95 #[.agg #[.pointer p39], .int .i64 n43] (fun v44 H13 => ∃ a45 : Option Addr, ∃ l45 : Nat, ∃ c45 : Nat, v44 = .slice a45 l45 c45 ∧ True ∧ True ∧ evS PP (Builtin.append_ #[108, 108] 108 #[.slice a45 l45 c45, .slice (some (⟨H13.size, 0, none⟩ : Addr)) 1 1]) (fun v46 H14 => ∃ a47 : Option Addr, ∃ l47 : Nat, ∃ c47 : Nat, v46 = .slice a47 l47 c47 ∧ True ∧ callS PP 94 #[.pointer (some ⟨mb, 0, none⟩ : Option Addr), .slice a47 l47 c47] (fun v48 H15 => ∃ n49 : Int, ∃ n50 : Int, v48 = .tuple #[.int .i64 n49, .int .i64 n50] ∧ True ∧ J37 [.int .i64 n50, .int .i64 n49] H15) H14) (H13.push (.cells #[.int .i64 (4 * c)] 36))) H12) ∧ (((cellH (H12.push (.cells #[.int .i64 (4 * c)] 36)) q38 = some (.pointer p39) ∧ True) ∧ True) ∧ callS PP 95 #[.agg #[.pointer p39], .int .i64 n43] (fun v51 H16 => ∃ a52 : Option Addr, ∃ l52 : Nat, ∃ c52 : Nat, v51 = .slice a52 l52 c52 ∧ True ∧ evS PP (Builtin.append_ #[108, 108] 108 #[.slice a52 l52 c52, .slice (some (⟨H12.size, 0, none⟩ : Addr)) 1 1]) (fun v53 H17 => ∃ a54 : Option Addr, ∃ l54 : Nat, ∃ c54 : Nat, v53 = .slice a54 l54 c54 ∧ True ∧ callS PP 94 #[.pointer (some ⟨mb, 0, none⟩ : Option Addr), .slice a54 l54 c54] (fun v55 H18 => ∃ n56 : Int, ∃ n57 : Int, v55 = .tuple #[.int .i64 n56, .int .i64 n57] ∧ True ∧ J37 [.int .i64 n57, .int .i64 n56] H18) H17) H16) (H12.push (.cells #[.int .i64 (4 * c)] 36)))) H) ∧ (((cellH (H.push (.cells #[.int .i64 (4 * c)] 36)) q40 = some (.pointer p41) ∧ True) ∧ ((cellH (H.push (.cells #[.int .i64 (4 * c)] 36)) q38 = some (.pointer p39) ∧ True) ∧ True)) ∧ callS PP 74 #[.agg #[.pointer p41], .int .i64 0] (fun v58 H19 => ∃ n59 : Int, v58 = .int .i64 n59 ∧ ((cellH H19 q38 = some (.pointer p39) ∧ True) ∧ True) ∧ callS PP 95 #[.agg #[.pointer p39], .int .i64 n59] (fun v60 H20 => ∃ a61 : Option Addr, ∃ l61 : Nat, ∃ c61 : Nat, v60 = .slice a61 l61 c61 ∧ True ∧ evS PP (Builtin.append_ #[108, 108] 108 #[.slice a61 l61 c61, .slice (some (⟨H.size, 0, none⟩ : Addr)) 1 1]) (fun v62 H21 => ∃ a63 : Option Addr, ∃ l63 : Nat, ∃ c63 : Nat, v62 = .slice a63 l63 c63 ∧ True ∧ callS PP 94 #[.pointer (some ⟨mb, 0, none⟩ : Option Addr), .slice a63 l63 c63] (fun v64 H22 => ∃ n65 : Int, ∃ n66 : Int, v64 = .tuple #[.int .i64 n65, .int .i64 n66] ∧ True ∧ J37 [.int .i64 n66, .int .i64 n65] H22) H21) H20) H19) (H.push (.cells #[.int .i64 (4 * c)] 36)))) ∧ ∀ w67 H23, J37 w67 H23 → ∀ _g : Nat → Value, ∃ n68 : Int, ∃ n69 : Int, w67 = [.int .i64 n68, .int .i64 n69] ∧ cond (n68 != 0) (Q (.tuple #[.int .i64 0, .int .i64 n68]) H23) (∃ q70, (some ⟨mb, 0, none⟩ : Option Addr) = some q70 ∧ ∃ p71 : Option Addr, cellH H23 q70 = some (.pointer p71) ∧ ∃ q72, p71 = some q72 ∧ ∃ p73 : Option Addr, cellH H23 q72 = some (.pointer p73) ∧ callS PP 96 #[.pointer p73, .int .i64 0, .int .i64 n69] (fun v74 H24 => ∃ n75 : Int, v74 = .int .i64 n75 ∧ callS PP 183 #[.int .i64 (4 * c)] (fun v76 H25 => ∃ n77 : Int, ∃ n78 : Int, v76 = .tuple #[.int .i64 n77, .int .i64 n78] ∧ Q (.tuple #[.int .i64 n77, .int .i64 n78]) H25) H24) H23) := by
 have hm1 := hk.shape.many1
 have hcw : v.clsW.length ≤ 8192 := by simp [KV.clsW]; omega
 have hws : ∀ w ∈ v.clsW ++ [4 * c], isW w := fun w hw => by
   rcases List.mem_append.1 hw with hw | hw
   · exact clsW_words hk w hw
   · simp only [List.mem_singleton] at hw; rw [hw]; exact isW_obj hc.1 hc.2
 obtain ⟨h1, h2, ⟨m, h3, h3'⟩, h4⟩ := array_ok hk (by omega) hws
 refine ⟨fun w H' => ∃ F', w = [.int .i64 (s.array (v.clsW ++ [4 * c])).1.2, .int .i64 (s.array (v.clsW ++ [4 * c])).1.1] ∧ PM H' mb b F' (s.array (v.clsW ++ [4 * c])).2 t cnt mk kp ∧ Up F H F' H', ?_, ?_⟩
 · have hB := hM.m
   have mc : ∀ {H' : Heap}, Fr [] H H' → cellH H' ⟨mb, 0, none⟩ = some (.pointer (some ⟨b, 0, none⟩)) := fun hf => (hB.fr hf (by simp)).cell 0
   have one : ∀ {H' : Heap}, Rd 1 (H'.push (.cells #[.int .i64 (4 * c)] 36)) (some ⟨H'.size, 0, none⟩) 1 (intsV [4 * c]) := fun {H'} => rd_new (H := H') (cs := [4 * c])
   refine ⟨_, rfl, _, hB.cell 0, _, rfl, _, hB.cell 0, ?_, ?_⟩
   · refine root_k hM.k fun H12 f12 => ⟨_, rfl, ⟨⟨mc f12, trivial⟩, trivial⟩, ?_, ?_⟩
     · rw [hk.root0]
       refine words_k (hM.k.nil f12) fun a l cc G H13 ho f13 hG => ⟨_, _, _, rfl, trivial, trivial, ?_⟩
       rw [KS.words hk] at ho
       have fp := (Fr.push [] H13 (.cells #[.int .i64 (4 * c)] 36))
       refine mappend_k hM ((f12.trans f13).trans fp) (ho.fr fp (by simp)) (fun x hx => Nat.le_trans f12.1 (hG x hx)) hcw one (by decide) fun H' F' hM' hu => ⟨_, _, rfl, trivial, F', rfl, hM', hu⟩
     · have fp := (Fr.push [] H12 (.cells #[.int .i64 (4 * c)] 36))
       refine ⟨⟨⟨mc (f12.trans fp), trivial⟩, trivial⟩, ?_⟩
       rw [hk.root0]
       refine words_k (hM.k.nil (f12.trans fp)) fun a l cc G H13 ho f13 hG => ⟨_, _, _, rfl, trivial, ?_⟩
       rw [KS.words hk] at ho
       refine mappend_k hM ((f12.trans fp).trans f13) ho (fun x hx => Nat.le_trans (f12.trans fp).1 (hG x hx)) hcw (one.fr' f13 (by simp)) (by decide) fun H' F' hM' hu => ⟨_, _, rfl, trivial, F', rfl, hM', hu⟩
   · have fp := (Fr.push [] H (.cells #[.int .i64 (4 * c)] 36))
     refine ⟨⟨⟨mc fp, trivial⟩, ⟨mc fp, trivial⟩, trivial⟩, ?_⟩
     refine root_k (hM.k.nil fp) fun H12 f12 => ⟨_, rfl, ⟨⟨mc (fp.trans f12), trivial⟩, trivial⟩, ?_⟩
     rw [hk.root0]
     refine words_k (hM.k.nil (fp.trans f12)) fun a l cc G H13 ho f13 hG => ⟨_, _, _, rfl, trivial, ?_⟩
     rw [KS.words hk] at ho
     refine mappend_k hM ((fp.trans f12).trans f13) ho (fun x hx => Nat.le_trans (fp.trans f12).1 (hG x hx)) hcw (one.fr' (f12.trans f13) (by simp)) (by decide) fun H' F' hM' hu => ⟨_, _, rfl, trivial, F', rfl, hM', hu⟩
 · rintro w H23 ⟨F', rfl, hM', hu⟩ _
   unfold kDef3 at h
   refine ⟨_, _, rfl, ?_⟩
   rw [bneI, cond_dec]
   refine ite_i (fun he => ?_) fun he => ?_
   · rw [if_pos he] at h; exact h _ _ hM' hu
   rw [if_neg he] at h
   obtain ⟨sb, F1, hcs, hS, hsub, _, _, hup⟩ := hM'.k.sp
   refine ⟨_, rfl, _, hM'.m.cell 0, _, rfl, _, hcs, psSetRoot_c hS (fun o ho => ?_) fun H4 hS4 hf4 => ⟨_, rfl, ?_⟩⟩
   · obtain ⟨x, hx1, hx2, _⟩ := h1.view.root
     rw [h1.king] at ho
     rw [hx1] at ho; cases ho; exact hx2
   have hK4 := hup H4 _ hS4 hf4
   have hu4 : Up F' H23 F' H4 := ⟨hf4.mono hsub, fun _ h => .inl h⟩
   have hM4 := hM'.up hK4 hu4
   refine oop_c hM4.k.kinds ?_
   unfold ofW
   rw [if_pos (show kindW (4 * c) = 3 by have := kind_cases (4 * c); omega)]
   exact ⟨_, _, rfl, h _ _ hM4 (hu.trans hu4)⟩
theorem mdefine2_k (hM : PM H mb b F s t cnt mk kp) (hk : KS s v) {n up l : Int} (hn : isW n) (hup : 1 ≤ up ∧ up ≤ 65536) (hl : isW l) (hst : s.stack.length < 64000) {n27 n31 : Int} (e27 : n27 = 72) (e31 : n31 = 1)
   {n29 : Int} (e29 : n29 = 4 * up) {n33 : Int} (e33 : n33 = 2 * ((v.cls.length : Int) + 1) + 1)
   (h : ∀ H' F', PM H' mb b F' (kDef2 s t v.clsW n up l).2.1 t cnt mk kp → Up F H F' H' → Q (.tuple #[.int .i64 (kDef2 s t v.clsW n up l).1.1, .int .i64 (kDef2 s t v.clsW n up l).1.2]) H') :
   callS PP 206 #[.pointer (some ⟨mb, 0, none⟩ : Option Addr), .int .i64 12, .slice (some (⟨H.size, 0, none⟩ : Addr)) 7 7] (fun v34 H11 => ∃ n35 : Int, ∃ n36 : Int, v34 = .tuple #[.int .i64 n35, .int .i64 n36] ∧ cond (n36 != 0) (Q (.tuple #[.int .i64 0, .int .i64 n36]) H11) (∃ J37 : List Value → Heap → Prop, (∃ q38, (some ⟨mb, 0, none⟩ : Option Addr) = some q38 ∧ ∃ p39 : Option Addr, cellH H11 q38 = some (.pointer p39) ∧ ∃ q40, (some ⟨mb, 0, none⟩ : Option Addr) = some q40 ∧ ∃ p41 : Option Addr, cellH H11 q40 = some (.pointer p41) ∧ (callS PP 74 #[.agg #[.pointer p41], .int .i64 0] (fun v42 H12 => ∃ n43 : Int, v42 = .int .i64 n43 ∧ ((cellH H12 q38 = some (.pointer p39) ∧ True) ∧ True) ∧ (callS PP 95 #[.agg #[.pointer p39], .int .i64 n43] (fun v44 H13 => ∃ a45 : Option Addr, ∃ l45 : Nat, ∃ c45 : Nat, v44 = .slice a45 l45 c45 ∧ True ∧ True ∧ evS PP (Builtin.append_ #[108, 108] 108 #[.slice a45 l45 c45, .slice (some (⟨H13.size, 0, none⟩ : Addr)) 1 1]) (fun v46 H14 => ∃ a47 : Option Addr, ∃ l47 : Nat, ∃ c47 : Nat, v46 = .slice a47 l47 c47 ∧ True ∧ callS PP 94 #[.pointer (some ⟨mb, 0, none⟩ : Option Addr), .slice a47 l47 c47] (fun v48 H15 => ∃ n49 : Int, ∃ n50 : Int, v48 = .tuple #[.int .i64 n49, .int .i64 n50] ∧ True ∧ J37 [.int .i64 n50, .int .i64 n49] H15) H14) (H13.push (.cells #[.int .i64 n35] 36))) H12) ∧ (((cellH (H12.push (.cells #[.int .i64 n35] 36)) q38 = some (.pointer p39) ∧ True) ∧ True) ∧ callS PP 95 #[.agg #[.pointer p39], .int .i64 n43] (fun v51 H16 => ∃ a52 : Option Addr, ∃ l52 : Nat, ∃ c52 : Nat, v51 = .slice a52 l52 c52 ∧ True ∧ evS PP (Builtin.append_ #[108, 108] 108 #[.slice a52 l52 c52, .slice (some (⟨H12.size, 0, none⟩ : Addr)) 1 1]) (fun v53 H17 => ∃ a54 : Option Addr, ∃ l54 : Nat, ∃ c54 : Nat, v53 = .slice a54 l54 c54 ∧ True ∧ callS PP 94 #[.pointer (some ⟨mb, 0, none⟩ : Option Addr), .slice a54 l54 c54] (fun v55 H18 => ∃ n56 : Int, ∃ n57 : Int, v55 = .tuple #[.int .i64 n56, .int .i64 n57] ∧ True ∧ J37 [.int .i64 n57, .int .i64 n56] H18) H17) H16) (H12.push (.cells #[.int .i64 n35] 36)))) H11) ∧ (((cellH (H11.push (.cells #[.int .i64 n35] 36)) q40 = some (.pointer p41) ∧ True) ∧ ((cellH (H11.push (.cells #[.int .i64 n35] 36)) q38 = some (.pointer p39) ∧ True) ∧ True)) ∧ callS PP 74 #[.agg #[.pointer p41], .int .i64 0] (fun v58 H19 => ∃ n59 : Int, v58 = .int .i64 n59 ∧ ((cellH H19 q38 = some (.pointer p39) ∧ True) ∧ True) ∧ callS PP 95 #[.agg #[.pointer p39], .int .i64 n59] (fun v60 H20 => ∃ a61 : Option Addr, ∃ l61 : Nat, ∃ c61 : Nat, v60 = .slice a61 l61 c61 ∧ True ∧ evS PP (Builtin.append_ #[108, 108] 108 #[.slice a61 l61 c61, .slice (some (⟨H11.size, 0, none⟩ : Addr)) 1 1]) (fun v62 H21 => ∃ a63 : Option Addr, ∃ l63 : Nat, ∃ c63 : Nat, v62 = .slice a63 l63 c63 ∧ True ∧ callS PP 94 #[.pointer (some ⟨mb, 0, none⟩ : Option Addr), .slice a63 l63 c63] (fun v64 H22 => ∃ n5 : Int, ∃ n6 : Int, v64 = .tuple #[.int .i64 n5, .int .i64 n6] ∧ True ∧ J37 [.int .i64 n6, .int .i64 n5] H22) H21) H20) H19) (H11.push (.cells #[.int .i64 n35] 36)))) ∧ ∀ w67 H23, J37 w67 H23 → ∀ _g : Nat → Value, ∃ n8 : Int, ∃ n9 : Int, w67 = [.int .i64 n8, .int .i64 n9] ∧ cond (n8 != 0) (Q (.tuple #[.int .i64 0, .int .i64 n8]) H23) (∃ q70, (some ⟨mb, 0, none⟩ : Option Addr) = some q70 ∧ ∃ p71 : Option Addr, cellH H23 q70 = some (.pointer p71) ∧ ∃ q72, p71 = some q72 ∧ ∃ p73 : Option Addr, cellH H23 q72 = some (.pointer p73) ∧ callS PP 96 #[.pointer p73, .int .i64 0, .int .i64 n9] (fun v74 H24 => ∃ n75 : Int, v74 = .int .i64 n75 ∧ callS PP 183 #[.int .i64 n35] (fun v76 H25 => ∃ n77 : Int, ∃ n78 : Int, v76 = .tuple #[.int .i64 n77, .int .i64 n78] ∧ Q (.tuple #[.int .i64 n77, .int .i64 n78]) H25) H24) H23))) (H.push (.cells #[.int .i64 n, .int .i64 n29, .int .i64 l, .int .i64 n27, .int .i64 n27, .int .i64 n31, .int .i64 n33] 36)) := by
 have hm1 := hk.shape.many1
 have hcw : v.clsW.length = v.cls.length := by simp [KV.clsW]
 subst e27 e31 e29 e33
 have hws := clsSlots_words (n := n) (up := up) (l := l) (k := v.clsW.length) hn (isW_obj hup.1 hup.2) hl (by omega)
 obtain ⟨b1, b2, b3, b4⟩ := make_ok hk (by omega) (cls := 12) (by decide) hws
 have fp := (Fr.push [] H (.cells (intsV (clsSlots n up l v.clsW.length)).toArray 36))
 have hlt := hM.k.lt
 rw [← hcw]
 unfold kDef2 at h
 refine mmake_k (s := s) (ws := clsSlots n up l v.clsW.length) (hM.nil fp) (by decide) rd_new (fun p hp hm => ?_) (by decide) fun H' F' hM' hu => ⟨_, _, rfl, ?_⟩
 · cases hp
   exact absurd (hlt _ hm) (Nat.lt_irrefl _)
 rw [bneI, cond_dec]
 have hu' := (Up.of_nil fp).trans hu
 refine ite_i (fun he => ?_) fun he => ?_
 · rw [if_pos he] at h
   have := h _ _ hM' hu'
   have hz := (b3 he).2
   exact this
 rw [if_neg he] at h
 have hz : (s.make 12 (clsSlots n up l v.clsW.length)).1.2 = 0 := Classical.byContradiction he
 obtain ⟨c, ec, est, c1, c2, _⟩ := b4 hz
 rw [ec] at h ⊢
 exact mdefine3_k hM' b1 ⟨c1, c2⟩ (by rw [est, List.length_append]; simp; omega) fun H2 F2 hM2 hu2 => h H2 F2 hM2 (hu'.trans hu2)
theorem kDef2_t (s : SP) (t : TB) (cw : List Int) (n up l : Int) : (kDef2 s t cw n up l).2.2 = t := by
 unfold kDef2
 split
 · rfl
 · unfold kDef3; split <;> rfl
theorem mdefine_k (hM : PM H mb b F s t cnt mk kp) (hk : KS s v) {name : ByteArray} {up : Int} (hup : 1 ≤ up ∧ up ≤ 65536) (hst : s.stack.length < 60000) {a : Option Addr} {l c : Nat} {own : List ByteArray} (hr : Rd 1 H a l (strsV own)) (hout : Outs H a l F) (hlk : l ≤ 100000000)
   (h : ∀ H' F', PM H' mb b F' (kDef s t v.clsW name up own).2.1 (kDef s t v.clsW name up own).2.2 cnt mk kp → Up F H F' H' → Q (.tuple #[.int .i64 (kDef s t v.clsW name up own).1.1, .int .i64 (kDef s t v.clsW name up own).1.2]) H') :
   callS PP n_k89 #[.pointer (some ⟨mb, 0, none⟩), .string name, .int .i64 up, .slice a l c] Q H := by
 have hs1 : sliceInfo PP 108 = some (1, 8, some (.int .i64 0)) := by kernel_rfl
 have hm1 := hk.shape.many1
 have hl : l = own.length := by have := hr.1; simpa [strsV] using this.symm
 apply k89_ok
 unfold k89 A0 iV wW
 unfold kDef at h
 refine msymbol_k hM fun H1 F1 hM1 hu1 => ⟨_, _, rfl, ?_⟩
 rw [bneI, cond_dec]
 refine ite_i (fun h1 => ?_) fun h1 => ?_
 · rw [if_pos h1] at h; exact h H1 F1 hM1 hu1
 rw [if_neg h1] at h
 have hz1 : (t.add name).1.2 = 0 := Classical.byContradiction h1
 rw [if_pos hz1]
 obtain ⟨nn, en, en2, _⟩ := add_ok name hz1
 rw [en] at h ⊢
 generalize (t.add name).2 = t1 at *
 have hout1 := hout.up hu1
 have hr1 := hout.rd hu1 hr
 refine ⟨fun w H' => ∃ (i : Nat) (t' : TB) (acc : List Int) (a' : Option Addr) (l' c' : Nat) (G F' : Foot), w = [.slice a' l' c', .int .i64 i] ∧ i ≤ own.length ∧ PM H' mb b F' s t' cnt mk kp ∧ Up F1 H1 F' H' ∧ t'.addAll acc (own.drop i) = t1.addAll [] own ∧ Own 1 H' a' l' c' (intsV acc) G ∧ (∀ x ∈ G, H1.size ≤ x ∧ x ∉ F') ∧ acc.length = i, fun w _ => match w with
   | [_, .int _ i] => (own.length - i).toNat
   | _ => 0, ⟨0, t1, [], none, 0, 0, [], F1, rfl, Nat.zero_le _, hM1, Up.refl _ _, rfl, by simpa [intsV] using Own.nil 1 H1, by simp, rfl⟩, ?_⟩
 rintro w H2 ⟨i, t2, acc, a2, l2, c2, G, F2, rfl, hi, hM2, hu2, hadd, ho, hG, hacc⟩ _
 have hl2 : l2 = i := by have := ho.len; simp only [intsV, List.length_map] at this; omega
 have hgm := hM1.m.lt
 have hgk := hM1.k.kinds.lt
 refine ⟨_, _, _, _, rfl, ?_⟩
 rw [cond_dec]
 refine ite_i (fun hlt => ?_) fun hlt => ?_
 · obtain ⟨p, hlt2, rfl, hcell⟩ := (hout1.rd hu2 hr1).str (i := (i : Int)) (by omega) hlt
   simp only [Int.toNat_natCast] at hcell hlt2
   have e1 : IntKind.wrap .i64 ((i : Int) + 1) = ((i + 1 : Nat) : Int) := by rw [wrap64_id (by omega) (by omega)]; omega
   have ed : own.drop i = own[i] :: own.drop (i + 1) := List.drop_eq_getElem_cons hlt2
   rw [ed, TB.addAll] at hadd
   refine ⟨⟨by omega, hlt⟩, _, rfl, _, by rw [Int.toNat_natCast, Nat.mul_one]; exact hcell, msymbol_k hM2 fun H3 F3 hM3 hu3 => ⟨_, _, rfl, ?_⟩⟩
   rw [bneI, cond_dec]
   refine ite_i (fun h3 => ?_) fun h3 => ?_
   · rw [if_pos h3] at hadd
     rw [if_pos (by rw [← hadd]; exact h3), ← hadd] at h
     exact h H3 F3 hM3 ((hu1.trans hu2).trans hu3)
   rw [if_neg h3] at hadd
   have hz3 : (t2.add own[i]).1.2 = 0 := Classical.byContradiction h3
   rw [if_pos hz3]
   have hoG : ∀ x ∈ G, x < H2.size := ho.lt
   have ho3 : Own 1 H3 a2 l2 c2 (intsV acc) G := ho.fr hu3.1 fun x hx => (hG x hx).2
   refine evS_append1 hs1 rfl (by kernel_rfl) ho3 rfl (by simp [oneC]) (by omega) (by decide) (by decide) fun a' c' G2 H4 g1 g2 g3 => ⟨_, _, _, rfl, ?_⟩
   rw [e1]
   have hG3 : ∀ x ∈ G, H1.size ≤ x ∧ x ∉ F3 := fun x hx => ⟨(hG x hx).1, Up.out hu3 (hG x hx).2 (hoG x hx)⟩
   have hF3lt := hM3.k.lt
   have hM4 : PM H4 mb b F3 s (t2.add own[i]).2 cnt mk kp := ⟨hM3.k.fr g2.1 (fun x hx hm => (hG3 x hm).2 hx) (fun hm => by have := (hG3 _ hm).1; omega), hM3.m.fr g2.1 (fun hm => by have := (hG3 _ hm).1; omega), hM3.out⟩
   have hu4 : Up F1 H1 F3 H4 := by
     have h12 := hu2.trans hu3
     refine ⟨⟨Nat.le_trans h12.1.1 g2.1.1, fun x hx hn => ?_⟩, h12.2⟩
     rw [g2.1.2 x (Nat.lt_of_lt_of_le hx h12.1.1) (fun hm => by have := (hG3 x hm).1; omega), h12.1.2 x hx hn]
   refine ⟨⟨i + 1, _, _, a', l2 + 1, c', G2, F3, rfl, by omega, hM4, hu4, hadd, ?_, fun x hx => ?_, by simp [hacc]⟩, by simp; omega⟩
   · rw [intsV_append]; exact g1
   · rcases g2.2 x hx with h5 | h5
     · exact hG3 x h5
     · exact ⟨Nat.le_trans (hu2.trans hu3).1.1 h5, fun hm => by have := hF3lt x hm; omega⟩
 · have hil : i = own.length := by omega
   rw [hil, List.drop_length, TB.addAll] at hadd
   rw [if_neg (by rw [← hadd]; simp), ← hadd] at h
   simp only at h
   unfold kDef1 at h
   have hu12 := hu1.trans hu2
   have hall := addAll_ok (t := t1) [] own (by rw [← hadd])
   rw [← hadd] at hall
   simp only at hall
   obtain ⟨ns, ens, ens2⟩ := hall
   rw [List.nil_append] at ens
   have hwt2 := hM2.k.wft
   have hns : ∀ n ∈ ns, n < t2.texts.length := fun n hn => by
     have : t2.texts[n]? ∈ own.map some := by rw [← ens2]; exact List.mem_map.2 ⟨n, hn, rfl⟩
     obtain ⟨s, _, hs⟩ := List.mem_map.1 this
     exact (tx_some hs.symm).2
   have hnn : nn < t2.texts.length := by
     have h5 := (tx_some en2).2
     have h6 := (addAll_pre t1 [] own).2
     rw [← hadd] at h6
     obtain ⟨m, e⟩ := h6
     rw [e, List.length_append]; omega
   have hws : ∀ w ∈ acc, isW w := fun w hw => by
     rw [ens] at hw
     obtain ⟨x, hx, rfl⟩ := List.mem_map.1 hw
     exact isW_sym hwt2 (hns x hx)
   obtain ⟨a1, a2', ⟨m1, a3, a3'⟩, a4⟩ := array_ok hk (by omega) hws
   refine marray_k hM2 ho.rd (fun p hp => ?_) (by omega) fun H3 F3 hM3 hu3 => ⟨_, _, rfl, ?_⟩
   · rcases ho.2.2 with ⟨h5, _⟩ | ⟨b', cs, h5, h6, _⟩
     · rw [h5] at hp; cases hp
     · rw [h5] at hp; cases hp
       exact (hG b' (by rw [h6]; simp)).2
   have hu13 := hu12.trans hu3
   rw [bneI, cond_dec]
   refine ite_i (fun h5 => ?_) fun h5 => ?_
   · rw [if_pos h5] at h; exact h H3 F3 hM3 hu13
   rw [if_neg h5] at h
   have hz5 : (s.array acc).1.2 = 0 := Classical.byContradiction h5
   obtain ⟨lo, elo, lo1, lo2, _⟩ := a4 hz5
   refine ⟨_, rfl, _, hM3.m.cell 0, count_ks hM3.k a1 fun H4 f4 => ⟨_, rfl, object_c (by decide) ⟨_, rfl, object_c hup ⟨_, rfl, integer_c (by decide) ⟨_, rfl, ?_⟩⟩⟩⟩⟩
   have ew : IntKind.wrap .i64 ((v.cls.length : Int) + 1) = (v.cls.length : Int) + 1 := wrap64_id (by omega) (by omega)
   rw [ew]
   refine integer_c ⟨by omega, by omega⟩ ⟨_, rfl, ?_⟩
   have hu4 : Up F3 H3 F3 H4 := Up.of_nil f4
   refine mdefine2_k (hM3.nil f4) a1 (isW_sym hwt2 hnn) hup (by rw [elo]; exact isW_obj lo1 lo2) (by rw [a3, List.length_append]; omega) rfl rfl rfl rfl fun H5 F5 hM5 hu5 => ?_
   have et : (kDef2 (s.array acc).2 t2 v.clsW (4 * (nn : Int) + 2) up (s.array acc).1.1).2.2 = t2 := kDef2_t _ _ _ _ _ _
   exact h H5 F5 (by rw [et]; exact hM5) ((hu13.trans hu4).trans hu5)
end
section
variable {H : Heap} {b : Nat} {F : Foot} {s : SP} {t : TB} {v : KV} {Q : QT}
theorem kdefine_k (hK : PK H b F s t) (hv : KAll s t v) {name sup : ByteArray} {a : Option Addr} {l c : Nat} {own : List ByteArray} (hr : Rd 1 H a l (strsV own)) (hout : Outs H a l F) (hlc : l ≤ c) (hlk : l ≤ 1000000000000000)
   (h : ∀ H' F', PK H' b F' (kDefineAll s v t name sup own).2.1 (kDefineAll s v t name sup own).2.2 → Up F H F' H' → Q (.tuple #[.int .i64 (kDefineAll s v t name sup own).1.1, .int .i64 (kDefineAll s v t name sup own).1.2]) H') :
   callS PP n_k17 #[.pointer (some ⟨b, 0, none⟩), .string name, .string sup, .slice a l c] Q H := by
 apply k17_ok
 unfold k17 iV
 unfold kDefineAll at h
 refine there_c hK ⟨_, rfl, ?_⟩
 simp only [Bool.not_true, cond_false]
 refine definable_k hK hv hr hlc (by omega) fun H1 hf1 => ⟨_, _, rfl, ?_⟩
 rw [bneI, cond_dec]
 refine ite_i (fun h1 => ?_) fun h1 => ?_
 · rw [if_pos h1] at h; exact h H1 F (hK.nil hf1) (Up.of_nil hf1)
 rw [if_neg h1] at h
 obtain ⟨j, hj, ej, hlt, hno, _, _⟩ := defK_ok hv (Classical.byContradiction h1)
 rw [ej] at h ⊢
 have hb := up_arr hv.ks hj
 have hst : s.stack.length < 60000 := by rw [hv.stack]; decide
 refine begin_k (hK.nil hf1) fun H2 mb hM2 hf2 => ⟨_, rfl, ?_⟩
 have hf12 := hf1.trans hf2
 have hu2 : Up F H F H2 := Up.of_nil hf12
 have hl32 := defK_len (Classical.byContradiction h1)
 refine mdefine_k hM2 hv.ks hb hst (hout.rd hu2 hr) (hout.up hu2) (by have := hr.1; simp only [strsV, List.length_map] at this; omega) fun H3 F3 hM3 hu3 => ⟨_, _, rfl, ?_⟩
 refine end_k hM3 ⟨by omega, by omega⟩ fun H4 hK4 hf4 => ⟨_, rfl, ?_⟩
 have hu4 : Up F H F3 H4 := (hu2.trans hu3).trans ⟨hf4, fun _ h => .inl h⟩
 have := h H4 F3 hK4 hu4
 unfold kDefine at this
 rw [bneI, cond_dec]
 refine ite_i (fun h2 => ?_) fun h2 => ?_
 · rw [if_neg h2] at this; exact this
 · have hz := Classical.byContradiction h2
   rw [if_pos hz] at this
   have e0 : (kDef s t v.clsW name (v.cls[j]).oop own).1.2 = 0 := hz
   rw [e0] at this
   exact this
theorem kdefine_nil {name sup : ByteArray} {a : Option Addr} {l c : Nat} (h : Q (.tuple #[.int .i64 0, .int .i64 2]) H) : callS PP n_k17 #[.pointer none, .string name, .string sup, .slice a l c] Q H := by
 apply k17_ok
 unfold k17 iV
 exact there_nil ⟨_, rfl, h⟩
theorem KS.gwords {s : SP} {v : KV} (h : KS s v) : kwords s.h v.globA = globW v.glob := h.view.globs.kwords
theorem kglobal_k (hK : PK H b F s t) (hv : KAll s t v) {name : ByteArray}
   (h : ∀ H' F', PK H' b F' (kGlobalAll s v t name).2.1 (kGlobalAll s v t name).2.2 → Up F H F' H' → Q (.int .i64 (kGlobalAll s v t name).1) H') :
   callS PP n_k18 #[.pointer (some ⟨b, 0, none⟩), .string name] Q H := by
 have hg := hv.ks.shape.globs
 apply k18_ok
 unfold k18 A0 iV
 unfold kGlobalAll globK at h
 refine there_c hK ⟨_, rfl, ?_⟩
 simp only [Bool.not_true, cond_false]
 refine named_k (lo := 65) (up := 90) fun H1 hf1 => ⟨_, rfl, ?_⟩
 rw [← decide_not, cond_dec]
 refine ite_i (fun h1 => ?_) fun h1 => ?_
 · rw [if_pos h1, if_pos (by decide)] at h; exact h H1 F (hK.nil hf1) (Up.of_nil hf1)
 rw [if_neg h1] at h
 refine taken_k (hK.nil hf1) hv fun H2 hf2 => ⟨_, rfl, ?_⟩
 have hF2 := hf1.trans hf2
 rw [cond_dec]
 refine ite_i (fun h2 => ?_) fun h2 => ?_
 · rw [if_pos h2, if_pos (by decide)] at h; exact h H2 F (hK.nil hF2) (Up.of_nil hF2)
 rw [if_neg h2] at h
 refine globals_k (hK.nil hF2) hv fun a l c G H3 ho hf3 hG => ⟨_, _, _, rfl, ?_⟩
 have hF3 := hF2.trans hf3
 have hl : l = v.glob.length := by have := ho.len; simpa [strsV, globsK] using this.symm
 rw [cond_dec]
 refine ite_i (fun h3 => ?_) fun h3 => ?_
 · rw [if_pos (show 256 ≤ v.glob.length by omega), if_pos (by decide)] at h; exact h H3 F (hK.nil hF3) (Up.of_nil hF3)
 rw [if_neg (show ¬ 256 ≤ v.glob.length by omega), if_neg (by decide)] at h
 refine begin_k (hK.nil hF3) fun H4 mb hM4 hf4 => ⟨_, rfl, ?_⟩
 have hF4 := hF3.trans hf4
 have hu4 : Up F H F H4 := Up.of_nil hF4
 unfold kGlobal at h
 have hst : s.stack.length < 60000 := by rw [hv.stack]; decide
 have hkp : (0 : Int) ≤ s.stack.length ∧ (s.stack.length : Int) ≤ 1000000 := ⟨by omega, by omega⟩
 have fin : ∀ (R : Int × SP × TB) (H5 : Heap) (F5 : Foot), kGlob s t (globW v.glob) name = R → PM H5 mb b F5 R.2.1 R.2.2 t.texts.length s.h.mark s.stack.length → Up F H F5 H5 → callS PP n_k90 #[.pointer (some ⟨mb, 0, none⟩), .int .i64 R.1] (fun v37 H13 => ∃ n38 : Int, v37 = .int .i64 n38 ∧ Q (.int .i64 n38) H13) H5 := by
   intro R H5 F5 eR hM5 hu5
   rw [eR] at h
   exact end_k hM5 hkp fun H6 hK6 hf6 => ⟨_, rfl, h H6 F5 hK6 (hu5.trans ⟨hf6, fun _ h => .inl h⟩)⟩
 refine msymbol_k hM4 fun H5 F5 hM5 hu5 => ⟨_, _, rfl, ?_⟩
 have hu45 := hu4.trans hu5
 rw [beqI, cond_dec]
 refine ite_i (fun h5 => ?_) fun h5 => ?_
 rotate_left
 · have eR : kGlob s t (globW v.glob) name = ((t.add name).1.2, s, (t.add name).2) := by unfold kGlob; rw [if_pos h5]
   have := fin _ H5 F5 eR hM5 hu45
   exact this
 rw [if_pos h5]
 obtain ⟨nn, en, en2, _⟩ := add_ok name h5
 have eR : kGlob s t (globW v.glob) name = kGlob1 s (t.add name).2 (globW v.glob) (4 * (t.add name).1.1 + 2) := by unfold kGlob; rw [if_neg (by simpa using h5)]
 rw [en] at eR ⊢
 generalize (t.add name).2 = t1 at *
 unfold kGlob1 at eR
 have hwt1 := hM5.k.wft
 have hnn := (tx_some en2).2
 have hws : ∀ w ∈ globW v.glob ++ [4 * (nn : Int) + 2, 4], isW w := fun w hw => by
   rcases List.mem_append.1 hw with hw | hw
   · exact globW_words hv.ks w hw
   · simp only [List.mem_cons, List.not_mem_nil, or_false] at hw
     rcases hw with rfl | rfl
     · exact isW_sym hwt1 hnn
     · decide
 obtain ⟨k1, _⟩ := array_ok hv.ks (by omega) hws
 have mc : ∀ {H' : Heap}, Fr [] H5 H' → cellH H' ⟨mb, 0, none⟩ = some (.pointer (some ⟨b, 0, none⟩)) := fun hf => (hM5.m.fr hf (by simp)).cell 0
 refine ⟨_, rfl, _, hM5.m.cell 0, _, rfl, _, hM5.m.cell 0, root_k hM5.k fun H6 f6 => ⟨_, rfl, ⟨⟨mc f6, trivial⟩, trivial⟩, ?_⟩⟩
 rw [hv.ks.root1]
 refine words_k (hM5.k.nil f6) fun a7 l7 c7 G7 H7 ho7 f7 hG7 => ⟨_, _, _, rfl, trivial, object_c (by decide) ⟨_, rfl, trivial, trivial, ?_⟩⟩
 rw [KS.gwords hv.ks] at ho7
 have fp := (Fr.push [] H7 (.cells #[.int .i64 (4 * (nn : Int) + 2), .int .i64 4] 36))
 have hr2 : Rd 1 (H7.push (.cells #[.int .i64 (4 * (nn : Int) + 2), .int .i64 4] 36)) (some ⟨H7.size, 0, none⟩) 2 (intsV [4 * (nn : Int) + 2, 4]) := rd_new (cs := [4 * (nn : Int) + 2, 4])
 rw [show ((4 : Int) * 1) = 4 from rfl]
 generalize (H7.push (.cells #[.int .i64 (4 * (nn : Int) + 2), .int .i64 4] 36)) = Hp at fp hr2 ⊢
 have hgl := globW_len v.glob
 refine mappend_k (xs := [4 * (nn : Int) + 2, 4]) hM5 ((f6.trans f7).trans fp) (ho7.fr fp (by simp)) (fun x hx => Nat.le_trans f6.1 (hG7 x hx)) (by omega) hr2 (by decide) fun H8 F8 hM8 hu8 => ⟨_, _, rfl, trivial, ?_⟩
 have hu58 := hu45.trans hu8
 rw [beqI, cond_dec]
 refine ite_i (fun h6 => ?_) fun h6 => ?_
 · rw [if_neg (by simpa using h6)] at eR
   obtain ⟨sb, F1, hcs, hS, hsub, _, _, hup⟩ := hM8.k.sp
   refine ⟨_, rfl, _, hM8.m.cell 0, _, rfl, _, hcs, psSetRoot_c hS (fun o ho => ?_) fun H9 hS9 hf9 => ⟨_, rfl, ?_⟩⟩
   · obtain ⟨x, hx1, hx2, _⟩ := k1.view.root
     rw [k1.king] at ho
     rw [hx1] at ho; cases ho; exact hx2
   have hu9 : Up F8 H8 F8 H9 := ⟨hf9.mono hsub, fun _ h => .inl h⟩
   have := fin _ H9 F8 eR (hM8.up (hup H9 _ hS9 hf9) hu9) (hu58.trans hu9)
   rw [h6]; exact this
 · rw [if_pos h6] at eR
   have := fin _ H8 F8 eR hM8 hu58
   exact this
theorem kglobal_nil {name : ByteArray} (h : Q (.int .i64 2) H) : callS PP n_k18 #[.pointer none, .string name] Q H := by
 apply k18_ok
 unfold k18 A0 iV
 exact there_nil ⟨_, rfl, h⟩
theorem over_k {p q : Nat} (h : Q (.tuple #[.pointer (some ⟨H.size, 0, none⟩), .int .i64 0]) (H.push (.cells #[.pointer (some ⟨p, 0, none⟩), .pointer (some ⟨q, 0, none⟩)] 90))) : callS PP n_k25 #[.pointer (some ⟨p, 0, none⟩), .pointer (some ⟨q, 0, none⟩)] Q H := by
 apply k25_ok
 unfold k25 A0 iV
 exact h
theorem over_nil {q : Option Addr} (h : Q (.tuple #[.pointer none, .int .i64 2]) H) : callS PP n_k25 #[.pointer none, .pointer q] Q H := by
 apply k25_ok
 unfold k25 A0 iV
 exact h
theorem kspace_k (hK : PK H b F s t) (h : ∀ sb F1, cellH H ⟨b, 0, none⟩ = some (.pointer (some ⟨sb, 0, none⟩)) → PSp H sb F1 s → (∀ x ∈ F1, x ∈ F) → (∀ H' F1' s', PSp H' sb F1' s' → Up F1 H F1' H' → ∃ F', PK H' b F' s' t ∧ Up F H F' H') → (∀ H' s', PSp H' sb F1 s' → Fr F1 H H' → PK H' b F s' t) → Q (.pointer (some ⟨sb, 0, none⟩)) H) : callS PP n_k19 #[.pointer (some ⟨b, 0, none⟩)] Q H := by
 obtain ⟨sb, F1, hc, hS, hsub, _, hup, hup2⟩ := hK.sp
 apply k19_ok
 unfold k19
 exact ⟨_, rfl, _, hc, h sb F1 hc hS hsub hup hup2⟩
theorem kspace_nil (h : Q (.pointer none) H) : callS PP n_k19 #[.pointer none] Q H := by
 apply k19_ok
 unfold k19
 exact h
theorem ksymbols_k (hK : PK H b F s t) (h : ∀ tb F1, cellH H ⟨b, 1, none⟩ = some (.pointer (some ⟨tb, 0, none⟩)) → PTb H tb F1 t → Q (.pointer (some ⟨tb, 0, none⟩)) H) : callS PP n_k26 #[.pointer (some ⟨b, 0, none⟩)] Q H := by
 obtain ⟨tb, F1, hc, hT, _⟩ := hK.tb
 apply k26_ok
 unfold k26
 exact ⟨_, rfl, _, hc, h tb F1 hc hT⟩
theorem ksymbols_nil (h : Q (.pointer none) H) : callS PP n_k26 #[.pointer none] Q H := by
 apply k26_ok
 unfold k26
 exact h
end
section
variable {H : Heap} {b : Nat} {F : Foot} {s : SP} {t : TB} {v : KV} {Q : QT}
theorem globals_r (hK : RK H b F s t) (hv : KAll s t v) (h : ∀ a l c G H', Own 1 H' a l c (strsV (globsK v t)) G → Fr [] H H' → (∀ x ∈ G, H.size ≤ x) → Q (.slice a l c) H') : callS PP n_k78 #[.pointer (some ⟨b, 0, none⟩)] Q H := by
 have hs1 : sliceInfo PP 37 = some (1, 16, some (.string (⟨#[]⟩ : ByteArray))) := by kernel_rfl
 have hg := hv.ks.shape.globs
 obtain ⟨e0, b0, b1⟩ := KS.s1 hv.ks
 have h3 := hv.names.wf.m1
 have h4 := hv.names.wf.len
 apply k78_ok
 unfold k78 A0 iV wW
 refine root_r hK hv.ks e0 b0 b1 ⟨_, rfl, words_r hK fun aw lw cw Gw H0 how hfw hGw => ⟨_, _, _, rfl, ?_⟩⟩
 rw [show kwords s.h v.globA = globW v.glob from hv.ks.view.globs.kwords] at how
 have hgl := globW_len v.glob
 have hlw : lw = 2 * v.glob.length := by have := how.len; simp only [intsV, List.length_map, hgl] at this; omega
 have hlen : (globsK v t).length = v.glob.length := by simp [globsK]
 refine ⟨fun w H' => ∃ (i : Nat) (a : Option Addr) (l' c : Nat) (G : Foot), w = [.slice a l' c, .int .i64 (2 * i : Nat)] ∧ i ≤ v.glob.length ∧ Own 1 H' a l' c (strsV ((globsK v t).take i)) G ∧ Fr [] H0 H' ∧ (∀ x ∈ G, H0.size ≤ x), fun w _ => match w with
   | [_, .int _ i] => (2 * v.glob.length - i).toNat
   | _ => 0, ⟨0, none, 0, 0, [], rfl, Nat.zero_le _, by simpa [strsV] using Own.nil 1 H0, Fr.refl _ _, by simp⟩, ?_⟩
 rintro w H1 ⟨i, a1, l1, c1, G, rfl, hi, ho, hf1, hG⟩ _
 have hl1 : l1 = i := by have := ho.len; simp only [strsV, List.length_map, List.length_take] at this; omega
 refine ⟨_, _, _, _, rfl, ?_⟩
 have ew : IntKind.wrap .i64 (((2 * i : Nat) : Int) + 1) = ((2 * i : Nat) : Int) + 1 := wrap64_id (by omega) (by omega)
 rw [ew, cond_dec]
 refine ite_i (fun hlt => ?_) fun hlt => ?_
 · have hlt' : i < v.glob.length := by omega
   obtain ⟨p, rfl, hcell, hlt2⟩ := (how.rd.fr' hf1 (by simp)).int (i := ((2 * i : Nat) : Int)) (by omega) (by omega)
   rw [Int.toNat_natCast] at hcell hlt2
   have hx : (globW v.glob).getD (2 * i) 0 = symW v.glob[i].1 := by
     rw [List.getD_eq_getElem?_getD, (globW_get hlt').1]; rfl
   rw [hx] at hcell
   have hn := hv.names.glob _ (List.getElem_mem hlt')
   have htk : (globsK v t).take (i + 1) = (globsK v t).take i ++ [tx t v.glob[i].1] := by
     rw [List.take_add_one, List.getElem?_eq_getElem (by omega)]; simp [globsK]
   have e : IntKind.wrap .i64 (((2 * i : Nat) : Int) + 2) = ((2 * (i + 1) : Nat) : Int) := by rw [wrap64_id (by omega) (by omega)]; omega
   refine ⟨⟨by omega, by omega⟩, _, rfl, _, by rw [Int.toNat_natCast, Nat.mul_one]; exact hcell, text_r (hK.nil (hfw.trans hf1)) (I64_small (by unfold symW; omega) (by unfold symW; omega)) ⟨_, rfl, ?_⟩⟩
   rw [ktextW_sym hv.names.wf hn]
   refine evS_append1 hs1 rfl (by kernel_rfl) ho rfl (by simp [oneC]) (by omega) (by decide) (by decide) fun a' c' G2 H3 g1 g2 g3 => ⟨_, _, _, rfl, ?_⟩
   have hfr := Up.fresh hf1 g2 hG
   rw [e]
   refine ⟨⟨i + 1, a', l1 + 1, c', G2, rfl, by omega, ?_, hfr.1, hfr.2⟩, by simp; omega⟩
   rw [htk, strsV_append]; exact g1
 · rw [List.take_of_length_le (by omega)] at ho
   exact h _ _ _ _ H1 ho (hfw.trans hf1) fun x hx => Nat.le_trans hfw.1 (hG x hx)
theorem value_r (hK : RK H b F s t) (hv : KAll s t v) {n : Int} (h : ∀ H', Fr [] H H' → Q (.tuple #[.int .i64 (valueK v n).1, .int .i64 (valueK v n).2]) H') : callS PP n_k106 #[.pointer (some ⟨b, 0, none⟩), .int .i64 n] Q H := by
 have hg := hv.ks.shape.globs
 obtain ⟨e0, b0, b1⟩ := KS.s1 hv.ks
 apply k106_ok
 unfold k106 iV wW
 unfold valueK at h
 rw [cond_dec]
 refine ite_i (fun h1 => ?_) fun h1 => ?_
 · rw [dif_neg (by omega)] at h; exact h _ (Fr.refl _ _)
 refine globals_r hK hv fun a l c G H1 ho hf hG => ⟨_, _, _, rfl, ?_⟩
 have hl : l = v.glob.length := by have := ho.len; simpa [strsV, globsK] using this.symm
 rw [cond_dec]
 refine ite_i (fun h2 => ?_) fun h2 => ?_
 · rw [dif_neg (by omega)] at h; exact h _ hf
 rw [dif_pos (by omega)] at h
 have e : IntKind.wrap .i64 (IntKind.wrap .i64 (2 * n) + 1) = ((2 * n.toNat + 1 : Nat) : Int) := by rw [wrap64_id (n := 2 * n) (by omega) (by omega), wrap64_id (by omega) (by omega)]; omega
 refine root_r (hK.nil hf) hv.ks e0 b0 b1 ⟨_, rfl, ?_⟩
 rw [e]
 refine slot_r (hK.nil hf) ⟨_, rfl, ?_⟩
 rw [(hv.ks.globAt (by omega)).2]
 exact h _ hf
theorem setValue_r (hK : RK H b F s t) (hv : KAll s t v) {n w : Int} (h : ∀ H' F', RK H' b F' (setValueK s v n w).2 t → Up F H F' H' → Q (.int .i64 (setValueK s v n w).1) H') : callS PP n_k105 #[.pointer (some ⟨b, 0, none⟩), .int .i64 n, .int .i64 w] Q H := by
 have hg := hv.ks.shape.globs
 obtain ⟨e0, b0, b1⟩ := KS.s1 hv.ks
 apply k105_ok
 unfold k105 iV wW
 unfold setValueK at h
 refine value_r hK hv fun H1 hf1 => ⟨_, _, rfl, ?_⟩
 unfold valueK
 by_cases hn : 0 ≤ n ∧ n < v.glob.length
 · rw [dif_pos hn]
   rw [if_neg (by omega)] at h
   simp only [show ((0 : Int) != 0) = false from rfl, cond_false]
   have hK1 := hK.nil hf1
   refine refIs_c ⟨_, rfl, ?_⟩
   rw [← decide_not, cond_dec]
   refine ite_i (fun hw => ?_) fun hw => ?_
   · rw [if_pos hw] at h
     exact h _ _ hK1 (Up.of_nil hf1)
   rw [if_neg hw] at h
   obtain ⟨sb, hb, F1, hc, c0, hR, hsub, _, hup⟩ := hK1.hp
   refine ⟨_, rfl, _, hc, _, rfl, _, c0, slot_r hK1 ⟨_, rfl, ⟨⟨c0, trivial⟩, ⟨hc, trivial⟩, trivial⟩, ?_⟩⟩
   rw [e0]
   refine refOop13_c (I64_small (by omega) (by omega)) ⟨_, rfl, ⟨⟨c0, trivial⟩, ⟨hc, trivial⟩, trivial⟩, ?_⟩
   have e : IntKind.wrap .i64 (IntKind.wrap .i64 (2 * n) + 1) = 2 * n + 1 := by rw [wrap64_id (n := 2 * n) (by omega) (by omega), wrap64_id (by omega) (by omega)]
   rw [refOop_obj b0, e]
   refine rput_c hR fun H4 hR4 hf4 => ⟨_, rfl, trivial, ?_⟩
   obtain ⟨F', hK4, hu⟩ := hup H4 F1 _ hR4 ⟨hf4, fun x hx => .inl hx⟩
   exact h _ _ hK4 ((Up.of_nil hf1).trans hu)
 · rw [dif_neg hn]
   rw [if_pos (by omega)] at h
   simp only [show ((1 : Int) != 0) = true from rfl, cond_true]
   exact h _ _ (hK.nil hf1) (Up.of_nil hf1)
theorem taken_r (hK : RK H b F s t) (hv : KAll s t v) {name : ByteArray} (h : ∀ H', Fr [] H H' → Q (.bool (decide (takenK v t name))) H') : callS PP n_k115 #[.pointer (some ⟨b, 0, none⟩), .string name] Q H := by
 have hg := hv.ks.shape.globs
 apply k115_ok
 unfold k115 iV wW
 refine find_r hK hv fun H1 hf1 => ⟨_, _, rfl, globals_r (hK.nil hf1) hv fun a l c G H2 ho hf2 hG => ⟨_, _, _, rfl, ?_⟩⟩
 have hF2 := hf1.trans hf2
 have hl : l = (globsK v t).length := by have := ho.len; simpa [strsV] using this.symm
 have hl2 : (globsK v t).length = v.glob.length := by simp [globsK]
 refine ⟨fun w H' => H' = H2 ∧ ∃ i : Nat, w = [.int .i64 i] ∧ i ≤ l ∧ ∀ j (hj : j < (globsK v t).length), j < i → (globsK v t)[j] ≠ name, fun w _ => match w with
   | [.int _ i] => (l - i).toNat
   | _ => 0, ⟨rfl, 0, rfl, Nat.zero_le _, fun j _ hj => by omega⟩, ?_⟩
 rintro w H3 ⟨rfl, i, rfl, hi, hall⟩ _
 refine ⟨_, rfl, ?_⟩
 rw [cond_dec]
 refine ite_i (fun hlt => ?_) fun hlt => ?_
 · obtain ⟨p, hlt2, rfl, hcell⟩ := ho.rd.str (i := (i : Int)) (by omega) hlt
   simp only [Int.toNat_natCast] at hcell hlt2
   have e : IntKind.wrap .i64 ((i : Int) + 1) = ((i + 1 : Nat) : Int) := by rw [wrap64_id (by omega) (by omega)]; omega
   refine ⟨⟨by omega, hlt⟩, _, rfl, _, by rw [Int.toNat_natCast, Nat.mul_one]; exact hcell, ?_⟩
   rw [strEq_dec, cond_dec]
   refine ite_i (fun he => ?_) fun he => ?_
   · have := h _ hF2
     rw [decide_eq_true (show takenK v t name from .inr (he ▸ List.getElem_mem hlt2))] at this
     exact this
   · rw [e]
     refine ⟨⟨rfl, i + 1, rfl, by omega, fun j hj hji => ?_⟩, by simp; omega⟩
     rcases Nat.lt_or_ge j i with h5 | h5
     · exact hall j hj h5
     · have : j = i := by omega
       subst this; exact he
 · have hno : name ∉ globsK v t := fun hm => by
     obtain ⟨j, hj, he⟩ := List.getElem_of_mem hm
     exact hall j hj (by omega) he
   have := h _ hF2
   have e : decide (takenK v t name) = ((findK v t name).2 == 0) := by
     rw [beqI, decide_eq_decide]; unfold takenK
     exact ⟨fun h => h.resolve_right hno, .inl⟩
   rw [e] at this; exact this
theorem texts_r (hK : RK H b F s t) (hv : KAll s t v) {i : Nat} (hi : i < v.cls.length) (h : ∀ a l c G H', Own 1 H' a l c (strsV ((v.cls[i]).own.map (tx t))) G → Fr [] H H' → (∀ x ∈ G, H.size ≤ x) → Q (.slice a l c) H') : callS PP n_k264 #[.pointer (some ⟨b, 0, none⟩), .int .i64 (v.cls[i]).ownA] Q H := by
 have hs1 : sliceInfo PP 37 = some (1, 16, some (.string (⟨#[]⟩ : ByteArray))) := by kernel_rfl
 have h3 := hv.names.wf.m1
 have h4 := hv.names.wf.len
 have hown := hv.ks.view.own hi
 have hol : (v.cls[i]).own.length ≤ 8192 := by have := (hown.bnd hv.ks.wf.h).2.2.1; simpa using this
 apply k264_ok
 unfold k264 A0 iV wW
 refine words_r hK fun aw lw cw Gw H0 how hfw hGw => ⟨_, _, _, rfl, ?_⟩
 rw [hown.kwords] at how
 have hlw : lw = (v.cls[i]).own.length := by have := how.len; simpa [intsV] using this.symm
 refine ⟨fun w H' => ∃ (k : Nat) (a : Option Addr) (l' c : Nat) (G : Foot), w = [.slice a l' c, .int .i64 k] ∧ k ≤ (v.cls[i]).own.length ∧ Own 1 H' a l' c (strsV (((v.cls[i]).own.map (tx t)).take k)) G ∧ Fr [] H0 H' ∧ (∀ x ∈ G, H0.size ≤ x), fun w _ => match w with
   | [_, .int _ k] => ((v.cls[i]).own.length - k).toNat
   | _ => 0, ⟨0, none, 0, 0, [], rfl, Nat.zero_le _, by simpa [strsV] using Own.nil 1 H0, Fr.refl _ _, by simp⟩, ?_⟩
 rintro w H1 ⟨k, a1, l1, c1, G, rfl, hk, ho, hf1, hG⟩ _
 have hl1 : l1 = k := by have := ho.len; simp only [strsV, List.length_map, List.length_take] at this; omega
 refine ⟨_, _, _, _, rfl, ?_⟩
 rw [cond_dec]
 refine ite_i (fun hlt => ?_) fun hlt => ?_
 · have hlt' : k < (v.cls[i]).own.length := by omega
   obtain ⟨p, rfl, hcell, hlt2⟩ := (how.rd.fr' hf1 (by simp)).int (i := (k : Int)) (by omega) hlt
   rw [Int.toNat_natCast] at hcell hlt2
   have hx : ((v.cls[i]).own.map symW).getD k 0 = symW (v.cls[i]).own[k] := by simp [hlt']
   rw [hx] at hcell
   have hn := hv.names.own _ (List.getElem_mem hi) _ (List.getElem_mem hlt')
   have htk : ((v.cls[i]).own.map (tx t)).take (k + 1) = ((v.cls[i]).own.map (tx t)).take k ++ [tx t (v.cls[i]).own[k]] := by
     rw [List.take_add_one, List.getElem?_eq_getElem (by simpa using hlt')]; simp
   have e : IntKind.wrap .i64 ((k : Int) + 1) = ((k + 1 : Nat) : Int) := by rw [wrap64_id (by omega) (by omega)]; omega
   refine ⟨⟨by omega, hlt⟩, _, rfl, _, by rw [Int.toNat_natCast, Nat.mul_one]; exact hcell, text_r (hK.nil (hfw.trans hf1)) (I64_small (by unfold symW; omega) (by unfold symW; omega)) ⟨_, rfl, ?_⟩⟩
   rw [ktextW_sym hv.names.wf hn]
   refine evS_append1 hs1 rfl (by kernel_rfl) ho rfl (by simp [oneC]) (by omega) (by decide) (by decide) fun a' c' G2 H3 g1 g2 g3 => ⟨_, _, _, rfl, ?_⟩
   have hfr := Up.fresh hf1 g2 hG
   rw [e]
   refine ⟨⟨k + 1, a', l1 + 1, c', G2, rfl, by omega, ?_, hfr.1, hfr.2⟩, by simp; omega⟩
   rw [htk, strsV_append]; exact g1
 · rw [List.take_of_length_le (by simp; omega)] at ho
   exact h _ _ _ _ H1 ho (hfw.trans hf1) fun x hx => Nat.le_trans hfw.1 (hG x hx)
end
abbrev infoTailR (R0 LC : Addr) (Q : QT) (H6 : Heap) : Prop :=
 ∃ s36 : ByteArray, cellH H6 LC = some (.string s36) ∧ ∃ s37 : ByteArray, cellH H6 (LC.add 1) = some (.string s37) ∧ ∃ a38 : Option Addr, ∃ l38 : Nat, ∃ c38 : Nat, cellH H6 (LC.add 2) = some (.slice a38 l38 c38) ∧ ∃ n39 : Int, cellH H6 (LC.add 3) = some (.int .i64 n39) ∧
 Wr H6 R0 ∧ Wr (setH H6 R0 (.string s36)) (R0.add 1) ∧ Wr (setH (setH H6 R0 (.string s36)) (R0.add 1) (.string s37)) (R0.add 2) ∧ Wr (setH (setH (setH H6 R0 (.string s36)) (R0.add 1) (.string s37)) (R0.add 2) (.slice a38 l38 c38)) (R0.add 3) ∧
 ∃ s40 : ByteArray, cellH (setH (setH (setH (setH H6 R0 (.string s36)) (R0.add 1) (.string s37)) (R0.add 2) (.slice a38 l38 c38)) (R0.add 3) (.int .i64 n39)) R0 = some (.string s40) ∧
 ∃ s41 : ByteArray, cellH (setH (setH (setH (setH H6 R0 (.string s36)) (R0.add 1) (.string s37)) (R0.add 2) (.slice a38 l38 c38)) (R0.add 3) (.int .i64 n39)) (R0.add 1) = some (.string s41) ∧
 ∃ a42 : Option Addr, ∃ l42 : Nat, ∃ c42 : Nat, cellH (setH (setH (setH (setH H6 R0 (.string s36)) (R0.add 1) (.string s37)) (R0.add 2) (.slice a38 l38 c38)) (R0.add 3) (.int .i64 n39)) (R0.add 2) = some (.slice a42 l42 c42) ∧
 ∃ n43 : Int, cellH (setH (setH (setH (setH H6 R0 (.string s36)) (R0.add 1) (.string s37)) (R0.add 2) (.slice a38 l38 c38)) (R0.add 3) (.int .i64 n39)) (R0.add 3) = some (.int .i64 n43) ∧
 Q (.agg #[.string s40, .string s41, .slice a42 l42 c42, .int .i64 n43]) (setH (setH (setH (setH H6 R0 (.string s36)) (R0.add 1) (.string s37)) (R0.add 2) (.slice a38 l38 c38)) (R0.add 3) (.int .i64 n39))
section
variable {H : Heap} {b : Nat} {F : Foot} {s : SP} {t : TB} {v : KV} {Q : QT}
theorem info_tailR {r0 lc : Nat} {nm sup : ByteArray} {a : Option Addr} {l c : Nat} {ly : Int} {cs : Array Value} (hLC : Blk H lc #[.string nm, .string sup, .slice a l c, .int .i64 ly]) (hR0 : Blk H r0 cs) (hsz : cs.size = 4)
   (h : ∀ H', Fr [r0] H H' → Q (.agg #[.string nm, .string sup, .slice a l c, .int .i64 ly]) H') : infoTailR ⟨r0, 0, none⟩ ⟨lc, 0, none⟩ Q H := by
 obtain ⟨x0, x1, x2, x3, rfl⟩ : ∃ x0 x1 x2 x3, cs = #[x0, x1, x2, x3] := by
   obtain ⟨l⟩ := cs
   match l, hsz with
   | [x0, x1, x2, x3], _ => exact ⟨_, _, _, _, rfl⟩
 obtain ⟨w0, w1, w2, w3, hB, hf⟩ := st4 hR0 (o := 0) (by omega) (.string nm) (.string sup) (.slice a l c) (.int .i64 ly)
 exact ⟨_, hLC.cell 0, _, hLC.cell 1, _, _, _, hLC.cell 2, _, hLC.cell 3, w0, w1, w2, w3, _, hB.cell 0, _, hB.cell 1, _, _, _, hB.cell 2, _, hB.cell 3, h _ hf⟩
theorem rnum_c {n : Int} (h0 : -1000000000000 ≤ n) (h1 : n ≤ 1000000000000) (h : Q (.int .i64 n) H) : callS PP n_k265 #[.int .i64 (2 * n + 1)] Q H := by
 apply k265_ok
 unfold k265 iV wW
 have e1 : IntKind.wrap .i64 (2 * n + 1 - 1) = 2 * n := by rw [wrap64_id (by omega) (by omega)]; omega
 have e2 : Int.tdiv (2 * n) 2 = n := by rw [Int.mul_comm]; exact Int.mul_tdiv_cancel _ (by decide)
 have e3 : IntKind.wrap .i64 n = n := wrap64_id (by omega) (by omega)
 rw [e1, e2, e3]
 exact h
theorem info0_r (hK : RK H b F s t) (hv : KAll s t v) {i : Nat} (hi : i < v.cls.length) (h : ∀ a l c G H', Own 1 H' a l c (strsV (infoK v t i).own) G → Fr [] H H' → (∀ x ∈ G, H.size ≤ x) → Q (.agg #[.string (infoK v t i).name, .string (infoK v t i).sup, .slice a l c, .int .i64 (infoK v t i).lay]) H') :
   callS PP n_k221 #[.pointer (some ⟨b, 0, none⟩), .int .i64 (v.cls[i]).oop] Q H := by
 apply k221_ok
 unfold k221 A0 iV; dsimp only [shH]
 have hob := (hv.ks.view.own hi).bnd hv.ks.wf.h
 have hlay := hv.ks.shape.lay _ (List.getElem_mem hi)
 have hf0 : Fr [] H (H.push (.cells #[.string (⟨#[]⟩ : ByteArray), .string (⟨#[]⟩ : ByteArray), .slice none 0 0, .int .i64 0] 121)) := Fr.push _ _ _
 have hR0 := Blk.new H #[.string (⟨#[]⟩ : ByteArray), .string (⟨#[]⟩ : ByteArray), .slice none 0 0, .int .i64 0] 121
 have hK0 := hK.nil hf0
 generalize (H.push (.cells #[.string (⟨#[]⟩ : ByteArray), .string (⟨#[]⟩ : ByteArray), .slice none 0 0, .int .i64 0] 121)) = H0 at hf0 hR0 hK0 ⊢
 have hI : infoK v t i = ⟨tx t (v.cls[i]).name, (infoK v t i).sup, (v.cls[i]).own.map (tx t), (v.cls[i]).lay⟩ := by
   unfold infoK; rw [List.getElem?_eq_getElem hi]
 have en : (infoK v t i).name = tx t (v.cls[i]).name := by rw [hI]
 have eo : (infoK v t i).own = (v.cls[i]).own.map (tx t) := by rw [hI]
 have el : (infoK v t i).lay = (v.cls[i]).lay := by rw [hI]
 rw [en, eo, el] at h
 refine name_r hK0 hv hi ⟨_, rfl, slot_r hK0 ⟨_, rfl, ?_⟩⟩
 rw [hv.ks.c2 hi]
 refine refOop13_c (I64_small (by omega) (by omega)) ⟨_, rfl, ?_⟩
 rw [refOop_obj hob.1]
 refine texts_r hK0 hv hi fun a l c G H1 ho hf1 hG => ⟨_, _, _, rfl, slot_r (hK0.nil hf1) ⟨_, rfl, ?_⟩⟩
 rw [hv.ks.c5 hi]
 refine rnum_c (by omega) (by omega) ⟨_, rfl, ?_⟩
 have hf2 : Fr [] H1 (H1.push (.cells #[.string (⟨#[]⟩ : ByteArray), .string (⟨#[]⟩ : ByteArray), .slice none 0 0, .int .i64 0] 121)) := Fr.push _ _ _
 have hL := Blk.new H1 #[.string (⟨#[]⟩ : ByteArray), .string (⟨#[]⟩ : ByteArray), .slice none 0 0, .int .i64 0] 121
 have hl0 : H.size < H1.size := Nat.lt_of_lt_of_le hR0.lt hf1.1
 generalize hH2 : (H1.push (.cells #[.string (⟨#[]⟩ : ByteArray), .string (⟨#[]⟩ : ByteArray), .slice none 0 0, .int .i64 0] 121)) = H2 at hf2 hL ⊢
 obtain ⟨w0, w1, w2, w3, hB, hf3⟩ := st4 hL (o := 0) (by simp) (.string (tx t (v.cls[i]).name)) (.string ⟨#[]⟩) (.slice a l c) (.int .i64 (v.cls[i]).lay)
 refine ⟨w0, w1, w2, w3, ?_⟩
 have hF2 := (hf0.trans hf1).trans hf2
 have hF3 := (Up.fresh hF2 (F := [H1.size]) (F' := [H1.size]) ⟨hf3, fun _ h => .inl h⟩ (by simp; omega)).1
 have hG' : ∀ x ∈ G, H.size < x ∧ x < H1.size := fun x hx => ⟨Nat.lt_of_lt_of_le hR0.lt (hG x hx), ho.lt x hx⟩
 have hR3 := ((hR0.fr hf1 (by simp)).fr hf2 (by simp)).fr hf3 (by simp; omega)
 have hB' : Blk _ H1.size #[.string (tx t (v.cls[i]).name), .string ⟨#[]⟩, .slice a l c, .int .i64 (v.cls[i]).lay] := hB
 have ho3 : Own 1 (setH (setH (setH (setH H2 ⟨H1.size, 0, none⟩ (.string (tx t (v.cls[i]).name))) ⟨H1.size, 0 + 1, none⟩ (.string ⟨#[]⟩)) ⟨H1.size, 0 + 2, none⟩ (.slice a l c)) ⟨H1.size, 0 + 3, none⟩ (.int .i64 (v.cls[i]).lay)) a l c (strsV ((v.cls[i]).own.map (tx t))) G :=
   (ho.fr hf2 (by simp)).fr hf3 fun x hx hm => by simp only [List.mem_singleton] at hm; have := (hG' x hx).2; omega
 have fin : ∀ H' (_ : Fr [H1.size, H.size] (setH (setH (setH (setH H2 ⟨H1.size, 0, none⟩ (.string (tx t (v.cls[i]).name))) ⟨H1.size, 0 + 1, none⟩ (.string ⟨#[]⟩)) ⟨H1.size, 0 + 2, none⟩ (.slice a l c)) ⟨H1.size, 0 + 3, none⟩ (.int .i64 (v.cls[i]).lay)) H'), Q (.agg #[.string (tx t (v.cls[i]).name), .string (infoK v t i).sup, .slice a l c, .int .i64 (v.cls[i]).lay]) H' := by
   intro H' hf'
   refine h a l c G H' (ho3.fr hf' fun x hx hm => ?_) ?_ fun x hx => Nat.le_of_lt (hG' x hx).1
   · have := hG' x hx
     simp only [List.mem_cons, List.not_mem_nil, or_false] at hm
     omega
   · exact (Up.fresh hF3 (F := [H1.size, H.size]) (F' := [H1.size, H.size]) ⟨hf', fun _ h => .inl h⟩ (by simp; omega)).1
 have hK3 := hK.nil hF3
 show callS PP n_k224 _ _ (setH (setH (setH (setH H2 ⟨H1.size, 0, none⟩ (.string (tx t (v.cls[i]).name))) ⟨H1.size, 0 + 1, none⟩ (.string ⟨#[]⟩)) ⟨H1.size, 0 + 2, none⟩ (.slice a l c)) ⟨H1.size, 0 + 3, none⟩ (.int .i64 (v.cls[i]).lay))
 generalize (setH (setH (setH (setH H2 ⟨H1.size, 0, none⟩ (.string (tx t (v.cls[i]).name))) ⟨H1.size, 0 + 1, none⟩ (.string ⟨#[]⟩)) ⟨H1.size, 0 + 2, none⟩ (.slice a l c)) ⟨H1.size, 0 + 3, none⟩ (.int .i64 (v.cls[i]).lay)) = H3 at *
 refine up_r hK3 hv.ks hi ⟨_, rfl, ?_⟩
 have hsup : (infoK v t i).sup = match upIdx v i with
   | some j => match v.cls[j]? with
     | some d => tx t d.name
     | none => ⟨#[]⟩
   | none => ⟨#[]⟩ := by unfold infoK; rw [List.getElem?_eq_getElem hi] <;> rfl
 rw [bneI, cond_dec]
 rcases hv.ks.upI hi with ⟨_, e0, e1⟩ | ⟨j, hj, hlt, e0, _, e1⟩
 · rw [e1] at hsup
   simp only at hsup
   rw [e0, if_neg (by decide)]
   rw [hsup] at fin
   exact info_tailR hB' hR3 (by simp) fun H' hf' => fin H' (hf'.mono (by simp))
 · rw [e1] at hsup
   simp only [List.getElem?_eq_getElem hj] at hsup
   have hb := (up_arr hv.ks hj).1
   rw [e0, if_pos (by omega)]
   refine name_r hK3 hv hj ⟨_, rfl, hB'.wr (o := 1) (by simp), ?_⟩
   rw [← hsup]
   have hfl : Fr [H1.size] H3 (setH H3 ⟨H1.size, 1, none⟩ (.string (infoK v t i).sup)) := Fr.set (by simp)
   exact info_tailR (hB'.set 1 (.string (infoK v t i).sup)) (hR3.fr hfl (by simp; omega)) (by simp) fun H' hf' => fin H' ((hfl.mono (by simp)).trans (hf'.mono (by simp)))
theorem info_r (hK : RK H b F s t) (hv : KAll s t v) {o : Int} (h1 : ∀ i, plK v o = some i → ∀ a l c G H', Own 1 H' a l c (strsV (infoK v t i).own) G → Fr [] H H' → (∀ x ∈ G, H.size ≤ x) → Q (.tuple #[.agg #[.string (infoK v t i).name, .string (infoK v t i).sup, .slice a l c, .int .i64 (infoK v t i).lay], .int .i64 0]) H')
   (h2 : plK v o = none → ∀ H', Fr [] H H' → Q (.tuple #[.agg #[.string ⟨#[]⟩, .string ⟨#[]⟩, .slice none 0 0, .int .i64 0], .int .i64 130]) H') : callS PP n_k124 #[.pointer (some ⟨b, 0, none⟩), .int .i64 o] Q H := by
 apply k124_ok
 unfold k124 A0 iV; dsimp only [shH]
 have hf0 : Fr [] H (H.push (.cells #[.string (⟨#[]⟩ : ByteArray), .string (⟨#[]⟩ : ByteArray), .slice none 0 0, .int .i64 0] 121)) := Fr.push _ _ _
 have hR0 := Blk.new H #[.string (⟨#[]⟩ : ByteArray), .string (⟨#[]⟩ : ByteArray), .slice none 0 0, .int .i64 0] 121
 have hK0 := hK.nil hf0
 generalize (H.push (.cells #[.string (⟨#[]⟩ : ByteArray), .string (⟨#[]⟩ : ByteArray), .slice none 0 0, .int .i64 0] 121)) = H0 at hf0 hR0 hK0 ⊢
 refine place_r hK0 hv.ks fun H1 hf1 => ⟨_, rfl, ?_⟩
 unfold placeN
 cases hp : plK v o with
 | none =>
   simp only [show ((0 : Int) == 0) = true from rfl, cond_true]
   obtain ⟨w0, w1, w2, w3, hB, hf⟩ := st4 (hR0.fr hf1 (by simp)) (o := 0) (by simp) (.string ⟨#[]⟩) (.string ⟨#[]⟩) (.slice none 0 0) (.int .i64 0)
   refine ⟨w0, w1, w2, w3, _, hB.cell 0, _, hB.cell 1, _, _, _, hB.cell 2, _, hB.cell 3, h2 hp _ ?_⟩
   exact (Up.fresh (hf0.trans hf1) (F := [H.size]) (F' := [H.size]) ⟨hf, fun _ h => .inl h⟩ (by simp)).1
 | some i =>
   obtain ⟨hi, rfl⟩ := plK_some hp
   rw [beqI, cond_dec, if_neg (by simp only; omega)]
   refine info0_r (hK0.nil hf1) hv hi fun a l c G H2 ho hf2 hG => ⟨_, _, _, _, _, _, rfl, ?_⟩
   obtain ⟨w0, w1, w2, w3, hB, hf⟩ := st4 ((hR0.fr hf1 (by simp)).fr hf2 (by simp)) (o := 0) (by simp) (.string (infoK v t i).name) (.string (infoK v t i).sup) (.slice a l c) (.int .i64 (infoK v t i).lay)
   have hl0 : H.size < H1.size := Nat.lt_of_lt_of_le hR0.lt hf1.1
   refine ⟨w0, w1, w2, w3, _, hB.cell 0, _, hB.cell 1, _, _, _, hB.cell 2, _, hB.cell 3, h1 i hp a l c G _ (ho.fr hf fun x hx hm => ?_) ?_ fun x hx => ?_⟩
   · simp only [List.mem_singleton] at hm
     have := hG x hx; omega
   · exact (Up.fresh ((hf0.trans hf1).trans hf2) (F := [H.size]) (F' := [H.size]) ⟨hf, fun _ h => .inl h⟩ (by simp)).1
   · have := hG x hx; omega
theorem layout_r (hK : RK H b F s t) (hv : KAll s t v) {o : Int} (h : ∀ H', Fr [] H H' → Q (match plK v o with | some i => .tuple #[.int .i64 (infoK v t i).lay, .int .i64 0] | none => .tuple #[.int .i64 0, .int .i64 130]) H') : callS PP n_k193 #[.pointer (some ⟨b, 0, none⟩), .int .i64 o] Q H := by
 apply k193_ok
 unfold k193 A0 iV; dsimp only [shH]
 refine info_r hK hv (fun i hp a l c G H1 ho hf hG => ?_) fun hp H1 hf => ?_
 · rw [hp] at h
   have hL := Blk.new H1 #[.string (⟨#[]⟩ : ByteArray), .string (⟨#[]⟩ : ByteArray), .slice none 0 0, .int .i64 0] 121
   obtain ⟨w0, w1, w2, w3, hB, hf3⟩ := st4 hL (o := 0) (by simp) (.string (infoK v t i).name) (.string (infoK v t i).sup) (.slice a l c) (.int .i64 (infoK v t i).lay)
   refine ⟨_, _, _, _, _, _, _, rfl, w0, w1, w2, w3, _, hB.cell 3, h _ ?_⟩
   exact (Up.fresh (hf.trans (Fr.push [] H1 _)) (F := [H1.size]) (F' := [H1.size]) ⟨hf3, fun _ h => .inl h⟩ (by have := hf.1; simpa using this)).1
 · rw [hp] at h
   have hL := Blk.new H1 #[.string (⟨#[]⟩ : ByteArray), .string (⟨#[]⟩ : ByteArray), .slice none 0 0, .int .i64 0] 121
   obtain ⟨w0, w1, w2, w3, hB, hf3⟩ := st4 hL (o := 0) (by simp) (.string ⟨#[]⟩) (.string ⟨#[]⟩) (.slice none 0 0) (.int .i64 0)
   refine ⟨_, _, _, _, _, _, _, rfl, w0, w1, w2, w3, _, hB.cell 3, h _ ?_⟩
   exact (Up.fresh (hf.trans (Fr.push [] H1 _)) (F := [H1.size]) (F' := [H1.size]) ⟨hf3, fun _ h => .inl h⟩ (by have := hf.1; simpa using this)).1
end
def letterN (n : Nat) : Prop := (97 ≤ n ∧ n ≤ 122) ∨ (65 ≤ n ∧ n ≤ 90)
instance (n : Nat) : Decidable (letterN n) := inferInstanceAs (Decidable (_ ∨ _))
def plainN (s : ByteArray) : Prop := 1 ≤ s.size ∧ s.size ≤ 32 ∧ letterN (gB s 0) ∧ ∀ i, i < s.size → alnum (gB s i)
noncomputable instance (s : ByteArray) : Decidable (plainN s) := Classical.propDecidable _
section
variable {H : Heap} {Q : QT}
theorem letter_r {n : Nat} (h : Q (.bool (decide (letterN n))) H) : callS PP n_k263 #[.int .u8 n] Q H := by
 apply k263_ok
 unfold k263
 have fin : ∀ x : Bool, x = decide (letterN n) → Q (.bool x) H := fun x hx => hx ▸ h
 simp only [cond_dec]
 refine ite_i (fun h1 => ite_i (fun h2 => fin _ ?_) fun h2 => ite_i (fun h3 => fin _ ?_) fun h3 => fin _ ?_) fun h1 => ite_i (fun h3 => fin _ ?_) fun h3 => fin _ ?_
 all_goals
   rw [Bool.eq_iff_iff]
   simp only [decide_eq_true_iff, true_iff, false_iff, Bool.false_eq_true]
   unfold letterN
   omega
theorem plain_r {x : ByteArray} (h : Q (.bool (decide (plainN x))) H) : callS PP n_k213 #[.string x] Q H := by
 apply k213_ok
 unfold k213 iV wW
 have no : ¬ plainN x → Q (.bool false) H := fun hn => by rw [decide_eq_false hn] at h; exact h
 rw [cond_dec]
 refine ite_i (fun h1 => no fun hn => by have := hn.1; omega) fun h1 => ?_
 rw [cond_dec]
 refine ite_i (fun h2 => no fun hn => by have := hn.2.1; omega) fun h2 => ?_
 have hpos : 0 < x.size := by omega
 obtain ⟨g1, g2⟩ := gB_get hpos
 refine ⟨_, ⟨Int.le_refl 0, g1⟩, ?_⟩
 rw [g2]
 refine letter_r ⟨_, rfl, ?_⟩
 rw [← decide_not, cond_dec]
 refine ite_i (fun h3 => no fun hn => h3 hn.2.2.1) fun h3 => ?_
 refine ⟨fun w H' => H' = H ∧ ∃ i : Nat, w = [.int .i64 i] ∧ i ≤ x.size ∧ ∀ j, j < i → alnum (gB x j), fun w _ => match w with
   | [.int _ i] => (x.size - i).toNat
   | _ => 0, ⟨rfl, 0, rfl, Nat.zero_le _, fun j hj => by omega⟩, ?_⟩
 rintro w H1 ⟨rfl, i, rfl, hi, hall⟩ _
 refine ⟨_, rfl, ?_⟩
 rw [cond_dec]
 refine ite_i (fun hlt => ?_) fun hlt => ?_
 · have hlt' : i < x.size := by omega
   have e : IntKind.wrap .i64 ((i : Int) + 1) = ((i + 1 : Nat) : Int) := by rw [wrap64_id (by omega) (by omega)]; omega
   obtain ⟨k1, k2⟩ := gB_get hlt'
   have go : alnum (gB x i) → (True ∧ ∃ i_1 : Nat, [Value.int .i64 (IntKind.wrap .i64 ((i : Int) + 1))] = [.int .i64 i_1] ∧ i_1 ≤ x.size ∧ ∀ j, j < i_1 → alnum (gB x j)) ∧ ((x.size : Int) - (IntKind.wrap .i64 ((i : Int) + 1))).toNat < ((x.size : Int) - (i : Int)).toNat := fun ha => by
     rw [e]
     refine ⟨⟨trivial, i + 1, rfl, by omega, fun j hj => ?_⟩, by omega⟩
     rcases Nat.lt_or_ge j i with h5 | h5
     · exact hall j h5
     · have : j = i := by omega
       rw [this]; exact ha
   have bad : ¬ alnum (gB x i) → Q (.bool false) H1 := fun ha => no fun hn => ha (hn.2.2.2 i hlt')
   have k1' : x[Int.toNat (i : Int)]? = some x[i] := by rw [Int.toNat_natCast]; exact k1
   refine ⟨_, ⟨by omega, k1'⟩, ?_⟩
   rw [k2]
   refine letter_r ⟨_, rfl, ?_⟩
   rw [← decide_not, cond_dec]
   have hgo : letterN (gB x i) → alnum (gB x i) := fun h => by unfold letterN at h; unfold alnum; omega
   refine ite_i (fun h4 => ?_) fun h4 => ?_
   · refine ⟨_, ⟨by omega, k1'⟩, ?_⟩
     rw [k2, cond_dec]
     refine ite_i (fun h5 => bad (by unfold letterN at h4; unfold alnum; omega)) fun h5 => ⟨_, ⟨by omega, k1'⟩, ?_⟩
     rw [k2, cond_dec]
     refine ite_i (fun h6 => bad (by unfold letterN at h4; unfold alnum; omega)) fun h6 => ?_
     have := go (by unfold alnum; omega)
     simpa using this
   · have := go (hgo (Classical.byContradiction h4))
     simpa using this
 · have : i = x.size := by omega
   subst this
   have hok : plainN x := ⟨hpos, by omega, Classical.byContradiction h3, hall⟩
   rw [decide_eq_true hok] at h
   exact h
theorem className_r {x : ByteArray} (h : Q (.bool (decide (nameOk 65 90 x))) H) : callS PP n_k114 #[.string x] Q H := by
 apply k114_ok
 unfold k114
 refine plain_r ⟨_, rfl, ?_⟩
 rw [cond_dec]
 have fin : ∀ y : Bool, y = decide (nameOk 65 90 x) → Q (.bool y) H := fun y hy => hy ▸ h
 refine ite_i (fun hp => ?_) fun hp => ?_
 · obtain ⟨g1, g2⟩ := gB_get (show 0 < x.size from hp.1)
   refine ⟨_, ⟨Int.le_refl 0, g1⟩, ?_⟩
   rw [g2]
   refine fin _ ?_
   rw [decide_eq_decide]
   have hl := hp.2.2.1
   unfold letterN at hl
   constructor
   · exact fun h5 => ⟨hp.1, hp.2.1, by omega, by omega, hp.2.2.2⟩
   · rintro ⟨_, _, h6, h7, _⟩; omega
 · refine fin _ ?_
   have hno : ¬ nameOk 65 90 x := fun hn => hp ⟨hn.1, hn.2.1, .inr ⟨hn.2.2.1, hn.2.2.2.1⟩, hn.2.2.2.2⟩
   rw [decide_eq_false hno]
theorem fieldName_r {x : ByteArray} (h : Q (.bool (decide (fieldOk x))) H) : callS PP n_k260 #[.string x] Q H := by
 apply k260_ok
 unfold k260
 refine plain_r ⟨_, rfl, ?_⟩
 rw [cond_dec]
 have no : ¬ fieldOk x → Q (.bool false) H := fun hn => by rw [decide_eq_false hn] at h; exact h
 refine ite_i (fun hp => ?_) fun hp => no fun hn => hp ⟨hn.2.1, hn.2.2.1, .inl ⟨hn.2.2.2.1, hn.2.2.2.2.1⟩, hn.2.2.2.2.2⟩
 obtain ⟨g1, g2⟩ := gB_get (show 0 < x.size from hp.1)
 refine ⟨_, ⟨Int.le_refl 0, g1⟩, ?_⟩
 rw [g2]
 simp only [strEq_dec, ← decide_not, cond_dec]
 refine ite_i (fun h0 => ?_) fun h0 => no fun hn => by have := hn.2.2.2.1; omega
 refine ite_i (fun h1 => ?_) fun h1 => no fun hn => h1 fun e => hn.1 (.inl e)
 refine ite_i (fun h2 => ?_) fun h2 => no fun hn => h2 fun e => hn.1 (.inr (.inl e))
 refine ite_i (fun h3 => ?_) fun h3 => no fun hn => h3 fun e => hn.1 (.inr (.inr (.inl e)))
 refine ite_i (fun h4 => ?_) fun h4 => no fun hn => h4 fun e => hn.1 (.inr (.inr (.inr (.inl e))))
 have hl := hp.2.2.1
 unfold letterN at hl
 have e : decide (fieldOk x) = decide (¬ x = (⟨#[102, 97, 108, 115, 101]⟩ : ByteArray)) := by
   rw [decide_eq_decide]
   constructor
   · exact fun hn e => hn.1 (.inr (.inr (.inr (.inr e))))
   · refine fun h5 => ⟨fun hr => ?_, hp.1, hp.2.1, by omega, by omega, hp.2.2.2⟩
     rcases hr with e | e | e | e | e <;> contradiction
 rw [e] at h; exact h
end
def InfoR : RepT CI := fun H ys x F => ∃ a l c, ys = [.string x.name, .string x.sup, .slice a l c, .int .i64 x.lay] ∧ Own 1 H a l c (strsV x.own) F
theorem InfoR.fr : FrR InfoR := fun H H' ys x F ⟨a, l, c, e, h⟩ he => ⟨a, l, c, e, h.keep he⟩
theorem InfoR.lt : LtR InfoR := fun H ys x F ⟨a, l, c, e, h⟩ => h.lt
def infosK (v : KV) (t : TB) : List CI := (List.range v.cls.length).map (infoK v t)
section
variable {H : Heap} {b : Nat} {F : Foot} {s : SP} {t : TB} {v : KV} {Q : QT}
theorem infos_r (hK : RK H b F s t) (hv : KAll s t v) (h : ∀ a l c G H', LRep 4 InfoR H' a l c (infosK v t) G → Fr [] H H' → (∀ x ∈ G, H.size ≤ x) → Q (.slice a l c) H') : callS PP n_k223 #[.pointer (some ⟨b, 0, none⟩)] Q H := by
 have hs1 : sliceInfo PP 40 = some (4, 64, some (.agg #[.string (⟨#[]⟩ : ByteArray), .string (⟨#[]⟩ : ByteArray), .slice none 0 0, .int .i64 0])) := by kernel_rfl
 have hm1 := hv.ks.shape.many1
 apply k223_ok
 unfold k223 A0 iV wW
 refine all_r hK hv.ks fun al ll cl Gl H0 hol hfl hGl => ⟨_, _, _, rfl, ?_⟩
 have hll : ll = v.cls.length := by have := hol.len; simpa [intsV, oopsK] using this.symm
 have hlen : (infosK v t).length = v.cls.length := by simp [infosK]
 refine ⟨fun w H' => ∃ (i : Nat) (a : Option Addr) (l' c : Nat) (G : Foot), w = [.slice a l' c, .int .i64 i] ∧ i ≤ v.cls.length ∧ LRep 4 InfoR H' a l' c ((infosK v t).take i) G ∧ Fr [] H0 H' ∧ (∀ x ∈ G, H0.size ≤ x), fun w _ => match w with
   | [_, .int _ i] => (v.cls.length - i).toNat
   | _ => 0, ⟨0, none, 0, 0, [], rfl, Nat.zero_le _, by simpa using LRep.nil, Fr.refl _ _, by simp⟩, ?_⟩
 rintro w H1 ⟨i, a1, l1, c1, G, rfl, hi, ho, hf1, hG⟩ _
 have hl1 : l1 = i := by have := ho.len; simp only [List.length_take] at this; omega
 refine ⟨_, _, _, _, rfl, ?_⟩
 rw [cond_dec]
 refine ite_i (fun hlt => ?_) fun hlt => ?_
 · have hlt' : i < v.cls.length := by omega
   obtain ⟨p, rfl, hcell⟩ := rd_oops hol hf1 hlt'
   have htk : (infosK v t).take (i + 1) = (infosK v t).take i ++ [infoK v t i] := by
     rw [List.take_add_one, List.getElem?_eq_getElem (by omega)]; simp [infosK]
   have e : IntKind.wrap .i64 ((i : Int) + 1) = ((i + 1 : Nat) : Int) := by rw [wrap64_id (by omega) (by omega)]; omega
   refine ⟨⟨by omega, hlt⟩, _, rfl, _, by rw [Int.toNat_natCast]; exact hcell, info0_r (hK.nil (hfl.trans hf1)) hv hlt' fun a l c G2 H2 ho2 hf2 hG2 => ⟨_, _, _, _, _, _, rfl, ?_⟩⟩
   have hlt1 := ho.lt InfoR.lt
   refine LRep.snoc (x := infoK v t i) (G := G2) InfoR.fr InfoR.lt hs1 rfl (by kernel_rfl) (ho.fr InfoR.fr InfoR.lt hf2 (Disj.nil_right _)) ⟨a, l, c, rfl, ho2⟩ rfl (fun x hx hx2 => ?_) (by simp [oneC]) (by omega) (by decide) (by decide) fun a' c' F' H3 g1 g2 g3 => ⟨_, _, _, rfl, ?_⟩
   · have := hlt1 x hx
     have := hG2 x hx2
     omega
   · rw [e]
     have hf3 : Fr [] H0 H3 := (Up.fresh (hf1.trans hf2) (F := G) (F' := G) ⟨g2, fun _ h => .inl h⟩ hG).1
     refine ⟨⟨i + 1, a', l1 + 1, c', F', rfl, by omega, by rw [htk]; exact g1, hf3, fun x hx => ?_⟩, by simp; omega⟩
     rcases g3 x hx with h5 | h5 | h5
     · exact hG x h5
     · exact Nat.le_trans hf1.1 (hG2 x h5)
     · exact Nat.le_trans (hf1.trans hf2).1 h5
 · rw [List.take_of_length_le (by omega)] at ho
   exact h _ _ _ _ H1 ho (hfl.trans hf1) fun x hx => Nat.le_trans hfl.1 (hG x hx)
theorem info_get {a : Option Addr} {l c : Nat} {G : Foot} (hL : LRep 4 InfoR H a l c (infosK v t) G) {i : Nat} (hi : i < v.cls.length) : ∃ p a2 l2 c2 G2, a = some p ∧ p.spot = none ∧ cellH H (p.add (i * 4)) = some (.string (infoK v t i).name) ∧ cellH H ((p.add (i * 4)).add 1) = some (.string (infoK v t i).sup) ∧
   cellH H ((p.add (i * 4)).add 2) = some (.slice a2 l2 c2) ∧ Own 1 H a2 l2 c2 (strsV (infoK v t i).own) G2 ∧ ∀ x ∈ G2, x ∈ G := by
 obtain ⟨p, ys, G2, hp, hsp, hoff, hcell, hyl, ⟨a2, l2, c2, e, ho⟩, hsub⟩ := hL.get (i := i) (by simpa [infosK] using hi)
 have ei : (infosK v t)[i]'(by simpa [infosK] using hi) = infoK v t i := by simp [infosK]
 rw [ei] at e ho
 subst e
 obtain ⟨pb, po, ps⟩ := p
 simp only at hsp hoff
 subst hsp hoff
 have h0 := hcell 0 (by decide)
 have h1 := hcell 1 (by decide)
 have h2 := hcell 2 (by decide)
 refine ⟨_, a2, l2, c2, G2, hp, rfl, ?_, ?_, ?_, ho, hsub⟩
 · rw [add_none, Nat.zero_add]; exact h0
 · rw [add_none, add_none, Nat.zero_add]; exact h1
 · rw [add_none, add_none, Nat.zero_add]; exact h2
theorem at_r {a : Option Addr} {l c : Nat} {G : Foot} (hL : LRep 4 InfoR H a l c (infosK v t) G) {n : Nat} (hn : n ≤ v.cls.length) (hm : v.cls.length ≤ 256) {x : ByteArray}
   (h1 : ∀ j, j < n → (infoK v t j).name = x → (∀ k, k < j → (infoK v t k).name ≠ x) → Q (.int .i64 j) H) (h2 : (∀ k, k < n → (infoK v t k).name ≠ x) → Q (.int .i64 (-1)) H) :
   callS PP n_k266 #[.slice a l c, .int .i64 n, .string x] Q H := by
 have hl : l = v.cls.length := by have := hL.len; simpa [infosK] using this
 apply k266_ok
 unfold k266 iV wW
 refine ⟨fun w H' => H' = H ∧ ∃ i : Nat, w = [.int .i64 i] ∧ i ≤ n ∧ ∀ k, k < i → (infoK v t k).name ≠ x, fun w _ => match w with
   | [.int _ i] => (n - i).toNat
   | _ => 0, ⟨rfl, 0, rfl, Nat.zero_le _, fun k hk => by omega⟩, ?_⟩
 rintro w H1 ⟨rfl, i, rfl, hi, hno⟩ _
 refine ⟨_, rfl, ?_⟩
 rw [cond_dec]
 refine ite_i (fun hlt => ?_) fun hlt => ?_
 · obtain ⟨p, a2, l2, c2, G2, rfl, _, c0, _⟩ := info_get hL (i := i) (by omega)
   have e : IntKind.wrap .i64 ((i : Int) + 1) = ((i + 1 : Nat) : Int) := by rw [wrap64_id (by omega) (by omega)]; omega
   refine ⟨⟨by omega, by omega⟩, _, rfl, _, by rw [Int.toNat_natCast]; exact c0, ?_⟩
   rw [strEq_dec, cond_dec]
   refine ite_i (fun he => h1 i (by omega) he hno) fun he => ?_
   rw [e]
   refine ⟨⟨rfl, i + 1, rfl, by omega, fun k hk => ?_⟩, by simp; omega⟩
   rcases Nat.lt_or_ge k i with h5 | h5
   · exact hno k h5
   · have : k = i := by omega
     subst this; exact he
 · have : i = n := by omega
   subst this
   exact h2 hno
end
def HB (H : Heap) (b sb hb : Nat) : Prop := cellH H ⟨b, 0, none⟩ = some (.pointer (some ⟨sb, 0, none⟩)) ∧ cellH H ⟨sb, 0, none⟩ = some (.pointer (some ⟨hb, 0, none⟩))
theorem cell_lt {H : Heap} {b o : Nat} {v : Value} (h : cellH H ⟨b, o, none⟩ = some v) : b < H.size := by
 unfold cellH at h
 rcases Nat.lt_or_ge b H.size with h1 | h1
 · exact h1
 · simp only [Array.getElem?_eq_none h1] at h; cases h
theorem HB.nil {H H' : Heap} {b sb hb : Nat} (h : HB H b sb hb) (hf : Fr [] H H') : HB H' b sb hb := by
 obtain ⟨h1, h2⟩ := h
 exact ⟨by rw [cell_fr hf (by simp) (cell_lt h1)]; exact h1, by rw [cell_fr hf (by simp) (cell_lt h2)]; exact h2⟩
section
variable {H : Heap} {b sb hb : Nat} {F : Foot} {s : SP} {t : TB} {Q : QT}
theorem PK.hp (hK : PK H b F s t) (hB : HB H b sb hb) : ∃ F1, HRep H hb F1 s.h ∧ (∀ x ∈ F1, x ∈ F) ∧ ∀ H' r', HRep H' hb F1 r' → Fr F1 H H' → PK H' b F { s with h := r' } t ∧ HB H' b sb hb := by
 obtain ⟨sb', F1, hc, hS, hsub, hbF, _, hup⟩ := hK.sp
 obtain ⟨hc1, hc2⟩ := hB
 rw [hc] at hc1
 have e : sb' = sb := by simpa using hc1
 subst e
 obtain ⟨hb', F2, hR, c0, _, _, hsub2, hnb, hup2⟩ := hS.upd
 rw [c0] at hc2
 have e : hb' = hb := by simpa using hc2
 subst e
 have hbl := hK.lt b hK.bmem
 have hsl := hS.lt _ hS.bmem
 refine ⟨F2, hR, fun x hx => hsub x (hsub2 x hx), fun H' r' hR' hf => ⟨hup H' _ (hup2 H' r' hR' hf) (hf.mono hsub2), ?_, ?_⟩⟩
 · rw [cell_fr hf (fun hm => hbF (hsub2 b hm)) hbl]; exact hc
 · rw [cell_fr hf hnb hsl]; exact c0
theorem PK.tbB (hK : PK H b F s t) (hB : HB H b sb hb) : ∃ tb F2, cellH H ⟨b, 1, none⟩ = some (.pointer (some ⟨tb, 0, none⟩)) ∧ PTb H tb F2 t ∧ ∀ H' F2' t', PTb H' tb F2' t' → Up F2 H F2' H' → (∃ F', PK H' b F' s t' ∧ Up F H F' H') ∧ HB H' b sb hb := by
 obtain ⟨sb0, tb, F1, F2, rfl, h1, h2, h3, k1, k2, hBl, hS, hT⟩ := hK
 have hK : PK H b (b :: (F1 ++ F2)) s t := ⟨sb0, tb, F1, F2, rfl, h1, h2, h3, k1, k2, hBl, hS, hT⟩
 obtain ⟨tb', F2', hc', hT', hsub', hbF', hup', _⟩ := hK.tb
 obtain ⟨hc1, hc2⟩ := hB
 have e0 : cellH H ⟨b, 0, none⟩ = some (.pointer (some ⟨sb0, 0, none⟩)) := hBl.cell 0
 rw [e0] at hc1
 have e : sb0 = sb := by simpa using hc1
 subst e
 have hbl := hK.lt b hK.bmem
 have hsl := hS.lt _ hS.bmem
 refine ⟨tb, F2, hBl.cell 1, hT, fun H' F2' t' hT2 hu => ⟨?_, ?_, ?_⟩⟩
 · have hlt := hK.lt
   have hgl := hK.kinds.lt
   have hgS := hS.gk
   refine ⟨b :: (F1 ++ F2'), ⟨_, tb, F1, F2', rfl, h1, Up.out hu h2 hbl, fun x hx hx2 => ?_, k1, Up.out hu k2 hgl, hBl.fr hu.1 h2, hS.fr hu.1 h3 k2, hT2⟩, hu.1.mono fun x hx => by simp [hx], fun x hx => ?_⟩
   · rcases hu.2 x hx2 with h4 | h4
     · exact h3 x hx h4
     · have := hlt x (by simp [hx]); omega
   · rcases List.mem_cons.1 hx with rfl | hx
     · exact .inl (by simp)
     · rcases List.mem_append.1 hx with hx | hx
       · exact .inl (by simp [hx])
       · exact (hu.2 x hx).imp (fun h4 => by simp [h4]) id
 · rw [cell_fr hu.1 h2 hbl]; exact e0
 · rw [cell_fr hu.1 (h3 _ hS.bmem) hsl]; exact hc2
theorem put_all {r : RH} (h : ∀ k x, objAt r.objs k = some x → x.fmt = 0) (k i w : Int) : ∀ j x, objAt (r.put k i w).2.objs j = some x → x.fmt = 0 := fun j x hx => by
 obtain ⟨y, h1, h2⟩ := put_fmt k i w j hx
 rw [h2]; exact h j y h1
theorem lay_all (o : Int) (l : List Int) : ∀ (i : Int) {r : RH}, (∀ k x, objAt r.objs k = some x → x.fmt = 0) → ∀ j x, objAt (r.lay o i l).objs j = some x → x.fmt = 0 := by
 induction l with
 | nil => intro i r h; exact h
 | cons w l ih => intro i r h; exact ih (i + 1) (put_all h o i w)
theorem fillN_all {r : RH} (h : ∀ k x, objAt r.objs k = some x → x.fmt = 0) (n : Nat) : ∀ j x, objAt (fillN r n).objs j = some x → x.fmt = 0 := by
 induction n with
 | zero => exact h
 | succ n ih => exact put_all (lay_all _ _ _ ih) _ _ _
theorem fill_k (hK : PK H b F s ⟨4096, []⟩) (hB : HB H b sb hb) (hfmt : ∀ k x, objAt s.h.objs k = some x → x.fmt = 0)
   (h : ∀ H' F', PK H' b F' { s with h := bootH s.h } bootT → HB H' b sb hb → Up F H F' H' → Q (.tuple #[]) H') : callS PP n_k52 #[.pointer (some ⟨b, 0, none⟩)] Q H := by
 have h14 : kNames.length = 14 := rfl
 apply k52_ok
 unfold k52 A0 iV wW
 obtain ⟨sb0, F1, hc, hS, _⟩ := hK.sp
 have e0 : sb0 = sb := by
   have := hB.1
   rw [hc] at this; simpa using this
 subst e0
 refine ⟨_, rfl, _, hc, ?_⟩
 have hps : ∀ {Q' : Value → Heap → Prop}, Q' (.pointer (some ⟨hb, 0, none⟩)) H → callS PP n_k20 #[.pointer (some ⟨sb0, 0, none⟩)] Q' H := by
   intro Q' hq
   obtain ⟨hb', F1', hR, c0, _⟩ := hS.upd
   obtain ⟨hc1, hc2⟩ := hB
   rw [c0] at hc2
   have e : hb' = hb := by simpa using hc2
   subst e
   apply k20_ok
   unfold k20
   refine sgone_c hS ⟨_, rfl, ?_⟩
   simp only [cond_false]
   exact ⟨_, rfl, _, c0, hq⟩
 refine hps ⟨_, rfl, ?_⟩
 apply k48_ok
 unfold k48 A0
 refine ⟨_, _, _, rfl, ?_⟩
 have fp := (Fr.push [] H (.cells (strsV kNames).toArray 9))
 have hN : Rd 1 (H.push (.cells (strsV kNames).toArray 9)) (some ⟨H.size, 0, none⟩) 14 (strsV kNames) := by
   refine ⟨rfl, (fun h => by cases h), fun p hp k hk => ?_⟩
   cases hp
   rw [add_none, Nat.zero_add, (Blk.new H _ _).cell]
   simp
 have hNo : Out (H.push (.cells (strsV kNames).toArray 9)) (some ⟨H.size, 0, none⟩) F := fun p hp => by
   cases hp
   exact ⟨by simp, fun hm => absurd (hK.lt _ hm) (Nat.lt_irrefl _)⟩
 have hK1 := hK.nil fp
 have hB1 : HB (H.push (.cells (strsV kNames).toArray 9)) b sb0 hb := HB.nil hB fp
 show ∃ (I8 : List Value → Heap → Prop) (μ8 : List Value → Heap → Nat), I8 [.int .i64 0] (H.push (.cells (strsV kNames).toArray 9)) ∧ _
 generalize (H.push (.cells (strsV kNames).toArray 9)) = H0 at fp hN hNo hK1 hB1 ⊢
 refine ⟨fun w H' => ∃ (i : Nat) (F' : Foot), w = [.int .i64 i] ∧ i ≤ 14 ∧ PK H' b F' { s with h := fillN s.h i } ⟨4096, kNames.take i⟩ ∧ HB H' b sb0 hb ∧ Up F H0 F' H', fun w _ => match w with
   | [.int _ i] => (14 - i).toNat
   | _ => 0, ⟨0, F, rfl, by decide, hK1, hB1, Up.refl _ _⟩, ?_⟩
 rintro w H3 ⟨i, F3, rfl, hi, hK3, hB3, hu3⟩ _
 refine ⟨_, rfl, ?_⟩
 rw [cond_dec]
 refine ite_i (fun hlt => ?_) fun hlt => ?_
 · have hlt' : i < kNames.length := by omega
   obtain ⟨p, hlt2, hp, hcell⟩ := (hNo.rd hu3 hN).str (i := (i : Int)) (by omega) (by omega)
   cases hp
   simp only [Int.toNat_natCast] at hcell hlt2
   have e1 : IntKind.wrap .i64 ((i : Int) + 1) = ((i + 1 : Nat) : Int) := by rw [wrap64_id (by omega) (by omega)]; omega
   have e1' : IntKind.wrap .i64 ((i : Int) + 1) = (i : Int) + 1 := wrap64_id (by omega) (by omega)
   have e4 : IntKind.wrap .i64 (4 + (i : Int)) = 4 + (i : Int) := wrap64_id (by omega) (by omega)
   obtain ⟨tb, F4, hc4, hT4, hup4⟩ := PK.tbB hK3 hB3
   refine ⟨⟨by omega, hlt⟩, _, rfl, _, by rw [Int.toNat_natCast, Nat.mul_one]; exact hcell, _, rfl, _, hc4, ptAdd_c hT4 fun H4 F4' hT4' hu4 => ⟨_, _, rfl, ?_⟩⟩
   rw [bootAdd hlt'] at hT4' ⊢
   obtain ⟨⟨F5, hK5, hu5⟩, hB5⟩ := hup4 H4 F4' _ hT4' hu4
   refine sym_c ⟨by simp only; omega, by simp only; omega⟩ ⟨_, _, rfl, object_c (by decide) ⟨_, rfl, ?_⟩⟩
   refine ⟨fun w H' => w = [.int .i64 (if i = 0 then 4 else 16)] ∧ H' = H4, ?_, ?_⟩
   · rw [beqI, cond_dec]
     refine ite_i (fun h0 => object_c (by decide) ⟨_, rfl, ?_, rfl⟩) fun h0 => ⟨?_, rfl⟩
     · rw [if_pos (by omega)]; rfl
     · rw [if_neg (by omega)]; rfl
   rintro w H4' ⟨rfl, rfl⟩ _
   refine ⟨_, rfl, object_c (by decide) ⟨_, rfl, object_c (by decide) ⟨_, rfl, object_c (by decide) ⟨_, rfl, integer_c (by decide) ⟨_, rfl, ?_⟩⟩⟩⟩⟩
   rw [e1', e4]
   refine integer_c ⟨by omega, by omega⟩ ⟨_, rfl, ?_⟩
   have fq := (Fr.push [] H4' (.cells (intsV (fillW i)).toArray 36))
   have hW : Rd 1 (H4'.push (.cells (intsV (fillW i)).toArray 36)) (some ⟨H4'.size, 0, none⟩) 7 (intsV (fillW i)) := rd_new (cs := fillW i)
   have hWo : Out (H4'.push (.cells (intsV (fillW i)).toArray 36)) (some ⟨H4'.size, 0, none⟩) F5 := fun p hp => by
     cases hp
     exact ⟨by simp, fun hm => absurd (hK5.lt _ hm) (Nat.lt_irrefl _)⟩
   have hK6 := hK5.nil fq
   have hB6 : HB (H4'.push (.cells (intsV (fillW i)).toArray 36)) b sb0 hb := HB.nil hB5 fq
   show ∃ (I38 : List Value → Heap → Prop) (μ38 : List Value → Heap → Nat), I38 [.int .i64 0] (H4'.push (.cells (intsV (fillW i)).toArray 36)) ∧ _
   generalize (H4'.push (.cells (intsV (fillW i)).toArray 36)) = H6 at fq hW hWo hK6 hB6 ⊢
   refine ⟨fun w H' => ∃ (k : Nat) (r : RH), w = [.int .i64 k] ∧ k ≤ 7 ∧ PK H' b F5 { s with h := r } ⟨4096, kNames.take (i + 1)⟩ ∧ HB H' b sb0 hb ∧ Fr F5 H6 H' ∧ r.lay (4 + i) k ((fillW i).drop k) = (fillN s.h i).lay (4 + i) 0 (fillW i) ∧ ∀ j x, objAt r.objs j = some x → x.fmt = 0, fun w _ => match w with
     | [.int _ k] => (7 - k).toNat
     | _ => 0, ⟨0, fillN s.h i, rfl, by decide, hK6, hB6, Fr.refl _ _, rfl, fillN_all hfmt i⟩, ?_⟩
   rintro w H7 ⟨k, r, rfl, hk7, hK7, hB7, hf7, hlay, hr⟩ _
   refine ⟨_, rfl, ?_⟩
   rw [cond_dec]
   refine ite_i (fun hkl => ?_) fun hkl => ?_
   · have hkl' : k < (fillW i).length := by show k < 7; omega
     obtain ⟨p, hp, hcell, hlt3⟩ := (hW.fr' hf7 fun p hp => (hWo p hp).2).int (i := (k : Int)) (by omega) (by omega)
     cases hp
     rw [Int.toNat_natCast] at hcell hlt3
     have hx : (fillW i).getD k 0 = (fillW i)[k] := by simp [hkl']
     rw [hx] at hcell
     have ed : (fillW i).drop k = (fillW i)[k] :: (fillW i).drop (k + 1) := List.drop_eq_getElem_cons hkl'
     have ek : IntKind.wrap .i64 ((k : Int) + 1) = ((k + 1 : Nat) : Int) := by rw [wrap64_id (by omega) (by omega)]; omega
     obtain ⟨F8, hR8, hsub8, hup8⟩ := PK.hp hK7 hB7
     refine ⟨⟨by omega, hkl⟩, _, rfl, _, by rw [Int.toNat_natCast, Nat.mul_one]; exact hcell, put_c hR8 (hr _) fun H9 hR9 hf9 => ⟨_, rfl, ?_⟩⟩
     obtain ⟨hK9, hB9⟩ := hup8 H9 _ hR9 hf9
     rw [ek]
     refine ⟨⟨k + 1, (r.put (4 + i) k (fillW i)[k]).2, rfl, by omega, hK9, hB9, hf7.trans (hf9.mono hsub8), ?_, put_all hr _ _ _⟩, by simp; omega⟩
     rw [← hlay, ed]
     rfl
   · have hk : k = 7 := by omega
     subst hk
     have hz : (fillW i).drop 7 = [] := rfl
     rw [hz] at hlay
     simp only [RH.lay] at hlay
     subst hlay
     refine object_c ⟨by omega, by omega⟩ ⟨_, rfl, ?_⟩
     obtain ⟨F8, hR8, hsub8, hup8⟩ := PK.hp hK7 hB7
     refine put_c hR8 (hr _) fun H9 hR9 hf9 => ⟨_, rfl, ?_⟩
     obtain ⟨hK9, hB9⟩ := hup8 H9 _ hR9 hf9
     rw [show (i : Int) + 1 = ((i + 1 : Nat) : Int) by omega]
     refine ⟨⟨i + 1, F5, rfl, by omega, hK9, hB9, ?_⟩, by simp; omega⟩
     exact (hu3.trans hu5).trans ((Up.of_nil fq).trans ⟨hf7.trans (hf9.mono hsub8), fun _ h => .inl h⟩)
 · have hi14 : i = 14 := by omega
   subst hi14
   have fq := (Fr.push [] H3 (.cells (intsV [20, 18, 18, 18, 1, 2, 3]).toArray 3))
   have hW : Rd 1 (H3.push (.cells (intsV [20, 18, 18, 18, 1, 2, 3]).toArray 3)) (some ⟨H3.size, 0, none⟩) 7 (intsV [20, 18, 18, 18, 1, 2, 3]) := rd_new (cs := [20, 18, 18, 18, 1, 2, 3])
   have hWo : Out (H3.push (.cells (intsV [20, 18, 18, 18, 1, 2, 3]).toArray 3)) (some ⟨H3.size, 0, none⟩) F3 := fun p hp => by
     cases hp
     exact ⟨by simp, fun hm => absurd (hK3.lt _ hm) (Nat.lt_irrefl _)⟩
   have hK6 := hK3.nil fq
   have hB6 : HB (H3.push (.cells (intsV [20, 18, 18, 18, 1, 2, 3]).toArray 3)) b sb0 hb := HB.nil hB3 fq
   show ∃ (I38 : List Value → Heap → Prop) (μ38 : List Value → Heap → Nat), I38 [.int .i64 0] (H3.push (.cells (intsV [20, 18, 18, 18, 1, 2, 3]).toArray 3)) ∧ _
   generalize (H3.push (.cells (intsV [20, 18, 18, 18, 1, 2, 3]).toArray 3)) = H6 at fq hW hWo hK6 hB6 ⊢
   refine ⟨fun w H' => ∃ (k : Nat) (r : RH), w = [.int .i64 k] ∧ k ≤ 7 ∧ PK H' b F3 { s with h := r } bootT ∧ HB H' b sb0 hb ∧ Fr F3 H6 H' ∧ r.lay 19 k (fillR.drop k) = bootH s.h ∧ ∀ j x, objAt r.objs j = some x → x.fmt = 0, fun w _ => match w with
     | [.int _ k] => (7 - k).toNat
     | _ => 0, ⟨0, fillN s.h 14, rfl, by decide, by rw [show bootT = ⟨4096, kNames.take 14⟩ from rfl]; exact hK6, hB6, Fr.refl _ _, by rw [bootH]; rfl, fillN_all hfmt 14⟩, ?_⟩
   rintro w H7 ⟨k, r, rfl, hk7, hK7, hB7, hf7, hlay, hr⟩ _
   refine ⟨_, rfl, ?_⟩
   rw [cond_dec]
   refine ite_i (fun hkl => ?_) fun hkl => ?_
   · have hkl' : k < 7 := by omega
     obtain ⟨p, hp, hcell, hlt3⟩ := (hW.fr' hf7 fun p hp => (hWo p hp).2).int (i := (k : Int)) (by omega) (by omega)
     cases hp
     rw [Int.toNat_natCast] at hcell hlt3
     have ek : IntKind.wrap .i64 ((k : Int) + 1) = ((k + 1 : Nat) : Int) := by rw [wrap64_id (by omega) (by omega)]; omega
     have hx : 1 ≤ ([20, 18, 18, 18, 1, 2, 3] : List Int).getD k 0 ∧ ([20, 18, 18, 18, 1, 2, 3] : List Int).getD k 0 ≤ 65536 ∧ fillR.drop k = 4 * ([20, 18, 18, 18, 1, 2, 3] : List Int).getD k 0 :: fillR.drop (k + 1) := by
       rcases k with _ | _ | _ | _ | _ | _ | _ | k
       all_goals first | exact ⟨by decide, by decide, by decide⟩ | omega
     obtain ⟨F8, hR8, hsub8, hup8⟩ := PK.hp hK7 hB7
     refine ⟨⟨by omega, hkl⟩, _, rfl, _, by rw [Int.toNat_natCast, Nat.mul_one]; exact hcell, object_c ⟨hx.1, hx.2.1⟩ ⟨_, rfl, put_c hR8 (hr _) fun H9 hR9 hf9 => ⟨_, rfl, ?_⟩⟩⟩
     obtain ⟨hK9, hB9⟩ := hup8 H9 _ hR9 hf9
     rw [ek]
     refine ⟨⟨k + 1, _, rfl, by omega, hK9, hB9, hf7.trans (hf9.mono hsub8), ?_, put_all hr _ _ _⟩, by simp; omega⟩
     rw [← hlay, hx.2.2]
     rfl
   · have hk : k = 7 := by omega
     subst hk
     have hz : fillR.drop 7 = [] := rfl
     rw [hz] at hlay
     have hlay' : r = bootH s.h := hlay
     rw [hlay'] at hK7
     have hu7 : Up F3 H3 F3 H7 := (Up.of_nil fq).trans ⟨hf7, fun _ h => .inl h⟩
     have hu9 : Up F H F3 H7 := ((Up.of_nil fp).trans hu3).trans hu7
     exact h H7 F3 hK7 hB7 hu9
end
def tailT (pl : List (Value × List ByteArray)) (n : Nat) : List ByteArray := ((pl.drop n).reverse.map (·.2)).flatten
theorem tailT_step {pl : List (Value × List ByteArray)} {n : Nat} (h : n < pl.length) : tailT pl n = tailT pl (n + 1) ++ (pl[n]).2 := by
 unfold tailT
 rw [List.drop_eq_getElem_cons h]
 simp only [List.reverse_cons, List.map_append, List.map_cons, List.map_nil, List.flatten_append, List.flatten_cons, List.flatten_nil, List.append_nil]
theorem tailT_end (pl : List (Value × List ByteArray)) : tailT pl pl.length = [] := by simp [tailT]
theorem tailT_snoc (pl : List (Value × List ByteArray)) (x : Value × List ByteArray) : tailT (pl ++ [x]) 0 = x.2 ++ tailT pl 0 := by simp [tailT]
theorem tailT_pre {pl : List (Value × List ByteArray)} : ∀ (k n : Nat), n + k = pl.length → ∃ r, tailT pl 0 = tailT pl n ++ r ∧ True := by
 intro k n hk
 induction n generalizing k with
 | zero => exact ⟨[], by simp, trivial⟩
 | succ n ih =>
   obtain ⟨r, e, _⟩ := ih (k + 1) (by omega)
   exact ⟨(pl[n]'(by omega)).2 ++ r, by rw [e, tailT_step (by omega)]; simp, trivial⟩
def PartOK (H : Heap) (p : Value × List ByteArray) : Prop := ∃ a l c, p.1 = .slice a l c ∧ Rd 1 H a l (strsV p.2)
section
variable {H : Heap} {b : Nat} {F : Foot} {s : SP} {t : TB} {v : KV} {Q : QT}
theorem infoK_name {i : Nat} (hi : i < v.cls.length) : (infoK v t i).name = tx t (v.cls[i]).name ∧ (infoK v t i).own = (v.cls[i]).own.map (tx t) := by
 unfold infoK; rw [List.getElem?_eq_getElem hi]; exact ⟨rfl, rfl⟩
theorem name_inj (hv : KAll s t v) {i j : Nat} (hi : i < v.cls.length) (hj : j < v.cls.length) (h : (infoK v t i).name = (infoK v t j).name) : i = j := by
 rw [(infoK_name hi).1, (infoK_name hj).1] at h
 have := tx_inj hv.names.wf (hv.names.name _ (List.getElem_mem hi)) (hv.names.name _ (List.getElem_mem hj)) h
 have hn := hv.names.nodup
 have e1 : (v.cls.map (·.name))[i]'(by simpa using hi) = (v.cls.map (·.name))[j]'(by simpa using hj) := by simpa using this
 exact (List.getElem_inj hn).1 e1
theorem name_ne (hv : KAll s t v) {i : Nat} (hi : i < v.cls.length) : (infoK v t i).name ≠ ⟨#[]⟩ := by
 rw [(infoK_name hi).1]
 have := tx_good hv.names.wf (hv.names.name _ (List.getElem_mem hi))
 intro e
 rw [e] at this
 exact absurd this.1 (by decide)
theorem atSup_r (hv : KAll s t v) {a : Option Addr} {l c : Nat} {G : Foot} (hL : LRep 4 InfoR H a l c (infosK v t) G) {i : Nat} (hi : i < v.cls.length)
   (h : Q (.int .i64 (match upIdx v i with | some j => (j : Int) | none => -1)) H) : callS PP n_k266 #[.slice a l c, .int .i64 i, .string (infoK v t i).sup] Q H := by
 have hm1 := hv.ks.shape.many1
 have hsup : (infoK v t i).sup = match upIdx v i with
   | some j => match v.cls[j]? with
     | some d => tx t d.name
     | none => ⟨#[]⟩
   | none => ⟨#[]⟩ := by unfold infoK; rw [List.getElem?_eq_getElem hi] <;> rfl
 rcases hv.ks.upI hi with ⟨_, e0, e1⟩ | ⟨j, hj, hlt, e0, _, e1⟩
 · rw [e1] at hsup h
   simp only at hsup h
   refine at_r hL (Nat.le_of_lt hi) hm1 (fun k hk he _ => ?_) fun _ => h
   rw [hsup] at he
   exact absurd he (name_ne hv (by omega))
 · rw [e1] at hsup h
   simp only [List.getElem?_eq_getElem hj] at hsup h
   have hsj : (infoK v t i).sup = (infoK v t j).name := by rw [hsup, (infoK_name hj).1]
   refine at_r hL (Nat.le_of_lt hi) hm1 (fun k hk he _ => ?_) fun hno => ?_
   · rw [hsj] at he
     have := name_inj hv (by omega) hj he
     subst this; exact h
   · exact absurd hsj.symm (hno j hlt)
theorem fields20_r (hv : KAll s t v) {a : Option Addr} {l c : Nat} {G : Foot} (hL : LRep 4 InfoR H a l c (infosK v t) G) {i : Nat} (hi : i < v.cls.length)
   (h : ∀ a l c G H', Own 1 H' a l c (strsV ((fieldsK v i).map (tx t))) G → Fr [] H H' → (∀ x ∈ G, H.size ≤ x) → Q (.slice a l c) H') : callS PP n_k222 #[.slice a l c, .int .i64 i, .int .i64 (-1), .slice none 0 0] Q H := by
 have hs1 : sliceInfo PP 37 = some (1, 16, some (.string (⟨#[]⟩ : ByteArray))) := by kernel_rfl
 have hs2 : sliceInfo PP 80 = some (1, 24, some (.slice none 0 0)) := by kernel_rfl
 have hm1 := hv.ks.shape.many1
 have hfl := fields_len hv.ks i hi
 have hl : l = v.cls.length := by have := hL.len; simpa [infosK] using this
 apply k222_ok
 unfold k222 A0 iV wW
 refine ⟨fun w H' => ∃ (cx : Int) (a8 : Option Addr) (l8 c8 : Nat) (G8 : Foot) (pl : List (Value × List ByteArray)), w = [.int .i64 cx, .slice a8 l8 c8] ∧ Own 1 H' a8 l8 c8 (pl.map (·.1)) G8 ∧ Fr [] H H' ∧ (∀ x ∈ G8, H.size ≤ x) ∧ (∀ p ∈ pl, PartOK H p) ∧ pl.length + (cx + 1).toNat ≤ i + 1 ∧
     ((cx = -1 ∧ (fieldsK v i).map (tx t) = tailT pl 0) ∨ ∃ j, ∃ _ : j < v.cls.length, cx = (j : Int) ∧ (fieldsK v i).map (tx t) = (fieldsK v j).map (tx t) ++ tailT pl 0), fun w _ => match w with
   | [.int _ cx, _] => (cx + 1).toNat
   | _ => 0, ⟨i, none, 0, 0, [], [], rfl, Own.nil 1 H, Fr.refl _ _, by simp, by simp, by first | (simp; done) | (simp; omega), .inr ⟨i, hi, rfl, by simp [tailT]⟩⟩, ?_⟩
 rintro w H1 ⟨cx, a8, l8, c8, G8, pl, rfl, ho8, hf8, hG8, hpl, hlen8, hcase⟩ _
 have hl8 : l8 = pl.length := by have := ho8.len; simpa using this.symm
 refine ⟨_, _, _, _, rfl, ?_⟩
 rw [cond_dec]
 refine ite_i (fun hge => ?_) fun hge => ?_
 · -- one class more
   rcases hcase with ⟨e, _⟩ | ⟨j, hj, rfl, heq⟩
   · omega
   rw [beqI, cond_dec, if_neg (by omega)]
   obtain ⟨p, a2, l2, c2, G2, rfl, hspot, _, _, cc2, ho2, _⟩ := info_get (hL.fr InfoR.fr InfoR.lt hf8 (Disj.nil_right _)) hj
   obtain ⟨p', a2', l2', c2', G2', hp', _, _, _, cc2', ho2', _⟩ := info_get hL hj
   cases hp'
   refine ⟨⟨by omega, by omega⟩, _, rfl, _, _, _, by rw [Int.toNat_natCast]; exact cc2, ?_⟩
   refine evS_append1 hs2 rfl (by kernel_rfl) ho8 rfl (by simp [oneC]) (by omega) (by decide) (by decide) fun a' c' G3 H3 g1 g2 g3 => ⟨_, _, _, rfl, ⟨by omega, by omega⟩, _, rfl, ?_⟩
   have hfr := Up.fresh hf8 g2 hG8
   have hL3 := hL.fr InfoR.fr InfoR.lt hfr.1 (Disj.nil_right _)
   obtain ⟨p', a3, l3, c3, G4, hp', _, _, cc1, _⟩ := info_get hL3 hj
   cases hp'
   refine ⟨_, by rw [Int.toNat_natCast]; exact cc1, atSup_r hv hL3 hj ⟨_, rfl, ?_⟩⟩
   have hj' : (v.cls[j]).own.map (tx t) = (infoK v t j).own := (infoK_name hj).2.symm
   have hsl : Value.slice a2 l2 c2 = .slice a2' l2' c2' := by
     have e2 : cellH H1 ((p.add (j * 4)).add 2) = cellH H ((p.add (j * 4)).add 2) := by
       obtain ⟨pb, po, ps⟩ := p
       simp only at hspot
       subst hspot
       rw [add_none, add_none] at cc2' ⊢
       exact cell_fr hf8 (by simp) (cell_lt cc2')
     rw [cc2, cc2'] at e2
     exact Option.some.inj e2
   have hpart : PartOK H (.slice a2 l2 c2, (infoK v t j).own) := ⟨a2', l2', c2', hsl, ho2'.rd⟩
   rcases hv.ks.upI hj with ⟨h0, _, e1⟩ | ⟨k, hk, hlt, _, _, e1⟩
   · rw [e1]
     simp only
     refine ⟨⟨-1, a', l8 + 1, c', G3, pl ++ [(.slice a2 l2 c2, (infoK v t j).own)], rfl, by simpa using g1, hfr.1, hfr.2, fun q hq => ?_, by first | (simp; done) | (simp; omega), .inl ⟨rfl, ?_⟩⟩, by first | (simp; done) | (simp; omega)⟩
     · rcases List.mem_append.1 hq with hq | hq
       · exact hpl q hq
       · simp only [List.mem_singleton] at hq; rw [hq]; exact hpart
     · subst h0
       rw [tailT_snoc, heq, hv.ks.fields0 hj, hj']
   · rw [e1]
     simp only
     refine ⟨⟨k, a', l8 + 1, c', G3, pl ++ [(.slice a2 l2 c2, (infoK v t j).own)], rfl, by simpa using g1, hfr.1, hfr.2, fun q hq => ?_, by first | (simp; done) | (simp; omega), .inr ⟨k, hk, rfl, ?_⟩⟩, by first | (simp; done) | (simp; omega)⟩
     · rcases List.mem_append.1 hq with hq | hq
       · exact hpl q hq
       · simp only [List.mem_singleton] at hq; rw [hq]; exact hpart
     · rw [tailT_snoc, heq, hv.ks.fieldsS hj hlt e1, List.map_append, hj', List.append_assoc]
 · -- turned round
   have heq : (fieldsK v i).map (tx t) = tailT pl 0 := by
     rcases hcase with ⟨_, e⟩ | ⟨j, _, e, _⟩
     · exact e
     · omega
   have htot : (tailT pl 0).length ≤ 3000000 := by rw [← heq, List.length_map]; omega
   have hpn : pl.length ≤ 1000 := by omega
   have e0 : IntKind.wrap .i64 ((l8 : Int) - 1) = (pl.length : Int) - 1 := by rw [wrap64_id (by omega) (by omega)]; omega
   refine ⟨fun w H' => ∃ (n : Nat) (a3 : Option Addr) (l3 c3 : Nat) (G3 : Foot), w = [.slice a3 l3 c3, .int .i64 ((n : Int) - 1)] ∧ n ≤ pl.length ∧ Own 1 H' a3 l3 c3 (strsV (tailT pl n)) G3 ∧ Fr [] H1 H' ∧ (∀ x ∈ G3, H1.size ≤ x), fun w _ => match w with
     | [_, .int _ n] => (n + 1).toNat
     | _ => 0, ⟨pl.length, none, 0, 0, [], by rw [e0], Nat.le_refl _, by rw [tailT_end]; exact Own.nil 1 H1, Fr.refl _ _, by simp⟩, ?_⟩
   rintro w H6 ⟨n, a3, l3, c3, G3, rfl, hn, ho3, hf3, hG3⟩ _
   refine ⟨_, _, _, _, rfl, ?_⟩
   rw [cond_dec]
   refine ite_i (fun hge2 => ?_) fun hge2 => ?_
   · have hnp : n - 1 < pl.length := by omega
     have en : (n : Int) - 1 = ((n - 1 : Nat) : Int) := by omega
     have hp := hpl _ (List.getElem_mem hnp)
     obtain ⟨ap, lp, cp, ep, hrp⟩ := hp
     obtain ⟨r, er, _⟩ := tailT_pre (pl := pl) (pl.length - (n - 1)) (n - 1) (by omega)
     have es := tailT_step hnp
     rw [show n - 1 + 1 = n by omega] at es
     have hlp : lp = (pl[n - 1]).2.length := by have := hrp.1; simpa [strsV] using this.symm
     have hle : (tailT pl n).length + (pl[n - 1]).2.length ≤ 3000000 := by
       rw [er, es] at htot
       simp only [List.length_append] at htot
       omega
     have hcellP : ∀ {H' : Heap}, Fr [] H1 H' → ∃ q, a8 = some q ∧ cellH H' (q.add ((n - 1) * 1)) = some (.slice ap lp cp) := by
       intro H' hf'
       have hr8 := (ho8.fr hf' (by simp)).rd
       cases ha : a8 with
       | none =>
         have := hr8.2.1 ha
         omega
       | some q =>
         refine ⟨q, rfl, ?_⟩
         rw [hr8.2.2 q ha ((n - 1) * 1) (by omega)]
         rw [Nat.mul_one, List.getElem?_map, List.getElem?_eq_getElem hnp, ← ep]
         rfl
     refine ⟨fun w H' => ∃ (k : Nat) (a4 : Option Addr) (l4 c4 : Nat) (G4 : Foot), w = [.slice a4 l4 c4, .int .i64 k] ∧ k ≤ (pl[n - 1]).2.length ∧ Own 1 H' a4 l4 c4 (strsV (tailT pl n ++ (pl[n - 1]).2.take k)) G4 ∧ Fr [] H1 H' ∧ (∀ x ∈ G4, H1.size ≤ x), fun w _ => match w with
       | [_, .int _ k] => ((pl[n - 1]).2.length - k).toNat
       | _ => 0, ⟨0, a3, l3, c3, G3, rfl, Nat.zero_le _, by simpa using ho3, hf3, hG3⟩, ?_⟩
     rintro w H7 ⟨k, a4, l4, c4, G4, rfl, hk, ho4, hf4, hG4⟩ _
     have hl4 : l4 = (tailT pl n).length + k := by
       have := ho4.len
       simp only [strsV, List.length_map, List.length_append, List.length_take] at this
       omega
     obtain ⟨q, hq, hcq⟩ := hcellP hf4
     subst hq
     rw [en]
     refine ⟨_, _, _, _, rfl, ⟨by omega, by omega⟩, _, rfl, _, _, _, by rw [Int.toNat_natCast]; exact hcq, ?_⟩
     rw [cond_dec]
     refine ite_i (fun hlt => ?_) fun hlt => ?_
     · obtain ⟨pp, hlt2, rfl, hcell⟩ := (hrp.fr' (hf8.trans hf4) (by simp)).str (i := (k : Int)) (by omega) hlt
       simp only [Int.toNat_natCast] at hcell hlt2
       have e1 : IntKind.wrap .i64 ((k : Int) + 1) = ((k + 1 : Nat) : Int) := by rw [wrap64_id (by omega) (by omega)]; omega
       refine ⟨⟨by omega, by omega⟩, _, rfl, _, _, _, by rw [Int.toNat_natCast]; exact hcq, ⟨by omega, hlt⟩, _, rfl, _, by rw [Int.toNat_natCast, Nat.mul_one]; exact hcell, ?_⟩
       refine evS_append1 hs1 rfl (by kernel_rfl) ho4 rfl (by simp [oneC]) (by omega) (by decide) (by decide) fun a' c' G5 H8 g1 g2 g3 => ⟨_, _, _, rfl, ?_⟩
       have hfr := Up.fresh hf4 g2 hG4
       rw [e1]
       refine ⟨⟨k + 1, a', l4 + 1, c', G5, rfl, by omega, ?_, hfr.1, hfr.2⟩, by first | (simp; done) | (simp; omega)⟩
       rw [List.take_add_one, List.getElem?_eq_getElem hlt2, ← List.append_assoc, strsV_append]
       exact g1
     · have hkl : k = (pl[n - 1]).2.length := by omega
       rw [hkl, List.take_length, ← es] at ho4
       have e1 : IntKind.wrap .i64 (((n - 1 : Nat) : Int) - 1) = ((n - 1 : Nat) : Int) - 1 := wrap64_id (by omega) (by omega)
       rw [e1]
       exact ⟨⟨n - 1, a4, l4, c4, G4, rfl, by omega, ho4, hf4, hG4⟩, by first | (simp; done) | (simp; omega)⟩
   · have : n = 0 := by omega
     subst this
     rw [← heq] at ho3
     exact h _ _ _ G3 H6 ho3 (hf8.trans hf3) fun x hx => Nat.le_trans hf8.1 (hG3 x hx)
end
section
variable {H : Heap} {b : Nat} {F : Foot} {s : SP} {t : TB} {v : KV} {Q : QT}
theorem fields_r (hK : RK H b F s t) (hv : KAll s t v) {o : Int} (h1 : ∀ i, plK v o = some i → ∀ a l c G H', Own 1 H' a l c (strsV ((fieldsK v i).map (tx t))) G → Fr [] H H' → (∀ x ∈ G, H.size ≤ x) → Q (.tuple #[.slice a l c, .int .i64 0]) H')
   (h2 : plK v o = none → ∀ H', Fr [] H H' → Q (.tuple #[.slice none 0 0, .int .i64 130]) H') : callS PP n_k125 #[.pointer (some ⟨b, 0, none⟩), .int .i64 o] Q H := by
 have hm1 := hv.ks.shape.many1
 apply k125_ok
 unfold k125 iV wW
 refine place_r hK hv.ks fun H1 hf1 => ⟨_, rfl, ?_⟩
 unfold placeN
 cases hp : plK v o with
 | none => exact h2 hp H1 hf1
 | some i =>
   obtain ⟨hi, rfl⟩ := plK_some hp
   rw [beqI, cond_dec, if_neg (by simp only; omega)]
   refine infos_r (hK.nil hf1) hv fun a l c G H2 hL hf2 hG => ⟨_, _, _, rfl, ?_⟩
   have e : IntKind.wrap .i64 ((i : Int) + 1 - 1) = (i : Int) := by rw [wrap64_id (by omega) (by omega)]; omega
   simp only [e]
   exact fields20_r hv hL hi fun a2 l2 c2 G2 H3 ho hf3 hG2 => ⟨_, _, _, rfl, h1 i hp a2 l2 c2 G2 H3 ho ((hf1.trans hf2).trans hf3) fun x hx => Nat.le_trans (hf1.trans hf2).1 (hG2 x hx)⟩
theorem under_r (hK : RK H b F s t) (hv : KAll s t v) {o : Int} (h1 : ∀ i, plK v o = some i → ∀ a l c G H', Own 1 H' a l c (intsV (underK v o)) G → Fr [] H H' → (∀ x ∈ G, H.size ≤ x) → Q (.slice a l c) H')
   (h2 : plK v o = none → ∀ H', Fr [] H H' → Q (.slice none 0 0) H') : callS PP n_k126 #[.pointer (some ⟨b, 0, none⟩), .int .i64 o] Q H := by
 have hs1 : sliceInfo PP 66 = some (1, 8, some (.int .i64 0)) := by kernel_rfl
 have hm1 := hv.ks.shape.many1
 apply k126_ok
 unfold k126 A0 iV wW
 refine place_r hK hv.ks fun H1 hf1 => ⟨_, rfl, all_r (hK.nil hf1) hv.ks fun al ll cl Gl H2 hol hf2 hGl => ⟨_, _, _, rfl, ?_⟩⟩
 have hll : ll = v.cls.length := by have := hol.len; simpa [intsV, oopsK] using this.symm
 have hF2 := hf1.trans hf2
 cases hp : plK v o with
 | none =>
   have e0 : placeN v o = 0 := by unfold placeN; rw [hp]
   rw [e0]
   refine ⟨fun w H' => w = [.slice none 0 0, .int .i64 0] ∧ H' = H2, fun _ _ => 0, ⟨rfl, rfl⟩, ?_⟩
   rintro w H3 ⟨rfl, rfl⟩ _
   refine ⟨_, _, _, _, rfl, ?_⟩
   rw [cond_dec, if_neg (by decide)]
   exact h2 hp _ hF2
 | some p =>
   obtain ⟨hpi, hpo⟩ := plK_some hp
   have e0 : placeN v o = (p : Int) + 1 := by unfold placeN; rw [hp]
   rw [e0]
   have ho1 := (up_arr hv.ks hpi).1
   rw [hpo] at ho1
   let D : CV := ⟨0, 0, 0, [], 0, 0, 0, [], [], 0⟩
   let f : Nat → Bool := fun i => decide (Und v o (v.cls.getD i D).oop)
   let pre : Nat → List Int := fun n => ((List.range n).filter f).map fun i : Nat => (i : Int) + 1
   have hpre : ∀ n, pre (n + 1) = pre n ++ if f n then [(n : Int) + 1] else [] := by
     intro n
     simp only [pre, List.range_succ, List.filter_append, List.map_append]
     congr 1
     by_cases hfn : f n <;> simp [hfn]
   have hprel : ∀ n, (pre n).length ≤ n := fun n => by simp only [pre, List.length_map]; exact Nat.le_trans (List.length_filter_le _ _) (by simp)
   have hend : pre v.cls.length = underK v o := rfl
   have hgd : ∀ i (hi : i < v.cls.length), v.cls.getD i D = v.cls[i] := fun i hi => by simp [hi]
   have hlow : ∀ i, i < v.cls.length → i < p → ¬ Und v o (v.cls.getD i D).oop := by
     intro i
     induction i using Nat.strongRecOn with
     | ind i ih =>
       intro hi hip hu
       rw [hgd i hi] at hu
       rcases (und_iff hv.ks hi).1 hu with he | ⟨hne, hu2⟩
       · have := hv.ks.view.inj hi hpi (he.trans hpo.symm)
         omega
       · rcases hv.ks.upI hi with ⟨_, h5, _⟩ | ⟨j, hj, hji, h5, _, _⟩
         · exact hne h5
         · rw [h5] at hu2
           exact ih j hji hj (by omega) (by rw [hgd j hj]; exact hu2)
   have hpre0 : ∀ n, n ≤ p → pre n = [] := by
     intro n hn
     induction n with
     | zero => rfl
     | succ n ih =>
       rw [hpre, ih (by omega)]
       have : f n = false := by simpa [f] using hlow n (by omega) (by omega)
       rw [this]; rfl
   refine ⟨fun w H' => ∃ (i : Nat) (a : Option Addr) (l' c : Nat) (G : Foot), w = [.slice a l' c, .int .i64 ((i : Int) + 1)] ∧ i ≤ v.cls.length ∧ Own 1 H' a l' c (intsV (pre i)) G ∧ Fr [] H2 H' ∧ (∀ x ∈ G, H2.size ≤ x), fun w _ => match w with
     | [_, .int _ i] => ((v.cls.length : Int) + 1 - i).toNat
     | _ => 0, ⟨p, none, 0, 0, [], rfl, Nat.le_of_lt hpi, by rw [hpre0 p (Nat.le_refl _)]; exact Own.nil 1 H2, Fr.refl _ _, by simp⟩, ?_⟩
   rintro w H3 ⟨i, a1, l1, c1, G, rfl, hi, ho, hf3, hG⟩ _
   have hl1 : l1 ≤ i := by have h1 := ho.len; have h2 := hprel i; simp only [intsV, List.length_map] at h1; omega
   refine ⟨_, _, _, _, rfl, ?_⟩
   rw [cond_dec, if_pos (by omega), cond_dec]
   refine ite_i (fun hlt => ?_) fun hlt => ?_
   · have hlt' : i < v.cls.length := by omega
     have ew : IntKind.wrap .i64 ((i : Int) + 1 - 1) = (i : Int) := by rw [wrap64_id (by omega) (by omega)]; omega
     have e1 : IntKind.wrap .i64 ((i : Int) + 1 + 1) = ((i + 1 : Nat) : Int) + 1 := by rw [wrap64_id (by omega) (by omega)]; omega
     obtain ⟨q, rfl, hcell⟩ := rd_oops hol hf3 hlt'
     have hF3 := hF2.trans hf3
     have hfi : f i = decide (Und v o (v.cls[i]).oop) := by simp only [f, hgd i hlt']
     rw [ew, e1]
     refine ⟨⟨by omega, by omega⟩, _, rfl, _, by rw [Int.toNat_natCast]; exact hcell, ?_⟩
     refine ⟨fun w H' => H' = H3 ∧ ∃ x : Int, w = [.int .i64 x] ∧ (Und v o (v.cls[i]).oop ↔ x ≠ 0 ∧ Und v o x) ∧ (x = 0 ∨ ∃ j, ∃ hj : j < v.cls.length, (v.cls[j]).oop = x), fun w _ => match w with
       | [.int _ x] => match plK v x with
         | some j => j + 1
         | none => 0
       | _ => 0, ⟨rfl, _, rfl, ⟨fun hu => ⟨by have := (up_arr hv.ks hlt').1; omega, hu⟩, fun hu => hu.2⟩, .inr ⟨i, hlt', rfl⟩⟩, ?_⟩
     rintro w H4 ⟨rfl, x, rfl, hx, hxc⟩ _
     refine ⟨_, rfl, ?_⟩
     have yes : Und v o (v.cls[i]).oop → ∀ {K : Value → Heap → Prop} (_ : ∀ a' n' c' G' H9, Own 1 H9 a' n' c' (intsV (pre (i + 1))) G' → Fr [] H2 H9 → (∀ x ∈ G', H2.size ≤ x) → K (.slice a' n' c') H9),
         evS PP (Builtin.append_ #[66, 66] 66 #[.slice a1 l1 c1, .slice (some (⟨H4.size, 0, none⟩ : Addr)) 1 1]) K (H4.push (.cells #[.int .i64 ((i : Int) + 1)] 3)) := by
       intro hU K hk
       refine evS_append1 hs1 rfl (by kernel_rfl) ho rfl (by simp [oneC]) (by omega) (by decide) (by decide) fun a' c' G2 H9 g1 g2 g3 => ?_
       have hfr := Up.fresh hf3 g2 hG
       refine hk _ _ _ G2 H9 ?_ hfr.1 hfr.2
       rw [hpre, hfi, decide_eq_true hU]
       simp only [if_pos, intsV_append]
       exact g1
     have no : ¬ Und v o (v.cls[i]).oop → pre (i + 1) = pre i := fun hU => by rw [hpre, hfi, decide_eq_false hU]; simp
     have out : ∀ (hxo : ¬ (x ≠ 0 ∧ x ≠ o)), cond (x == o) (evS PP (Builtin.append_ #[66, 66] 66 #[.slice a1 l1 c1, .slice (some (⟨H4.size, 0, none⟩ : Addr)) 1 1]) (fun v18 H6 => ∃ a19 : Option Addr, ∃ l19 : Nat, ∃ c19 : Nat, v18 = .slice a19 l19 c19 ∧
         (∃ (i_1 : Nat) (a : Option Addr) (l' c : Nat) (G : Foot), [Value.slice a19 l19 c19, .int .i64 (((i + 1 : Nat) : Int) + 1)] = [.slice a l' c, .int .i64 ((i_1 : Int) + 1)] ∧ i_1 ≤ v.cls.length ∧ Own 1 H6 a l' c (intsV (pre i_1)) G ∧ Fr [] H2 H6 ∧ (∀ x ∈ G, H2.size ≤ x)) ∧ ((v.cls.length : Int) + 1 - (((i + 1 : Nat) : Int) + 1)).toNat < ((v.cls.length : Int) + 1 - ((i : Int) + 1)).toNat) (H4.push (.cells #[.int .i64 ((i : Int) + 1)] 3)))
         ((∃ (i_1 : Nat) (a : Option Addr) (l' c : Nat) (G : Foot), [Value.slice a1 l1 c1, .int .i64 (((i + 1 : Nat) : Int) + 1)] = [.slice a l' c, .int .i64 ((i_1 : Int) + 1)] ∧ i_1 ≤ v.cls.length ∧ Own 1 H4 a l' c (intsV (pre i_1)) G ∧ Fr [] H2 H4 ∧ (∀ x ∈ G, H2.size ≤ x)) ∧ ((v.cls.length : Int) + 1 - (((i + 1 : Nat) : Int) + 1)).toNat < ((v.cls.length : Int) + 1 - ((i : Int) + 1)).toNat) := by
       intro hxo
       rw [beqI, cond_dec]
       refine ite_i (fun he => ?_) fun he => ?_
       · have hU : Und v o (v.cls[i]).oop := hx.2 ⟨by omega, by rw [he]; exact .self⟩
         exact yes hU fun a' n' c' G' H9 k1 k2 k3 => ⟨_, _, _, rfl, ⟨i + 1, a', n', c', G', rfl, by omega, k1, k2, k3⟩, by omega⟩
       · have hx0 : x = 0 := Classical.byContradiction fun hn => hxo ⟨hn, he⟩
         have hU : ¬ Und v o (v.cls[i]).oop := fun hU => (hx.1 hU).1 hx0
         refine ⟨⟨i + 1, a1, l1, c1, G, rfl, by omega, by rw [no hU]; exact ho, hf3, hG⟩, by omega⟩
     rw [bneI, cond_dec]
     refine ite_i (fun hx0 => ?_) fun hx0 => out fun hh => hx0 hh.1
     rw [bneI, cond_dec]
     refine ite_i (fun hxo => ?_) fun hxo => out fun hh => hxo hh.2
     rcases hxc with h5 | ⟨j, hj, rfl⟩
     · exact absurd h5 hx0
     refine up_r (hK.nil hF3) hv.ks hj ⟨_, rfl, ?_⟩
     have huj := und_iff hv.ks (o := o) hj
     refine ⟨⟨rfl, superK v j, rfl, ?_, ?_⟩, ?_⟩
     · rw [hx]
       constructor
       · rintro ⟨_, h6⟩
         rcases huj.1 h6 with h7 | h7
         · exact absurd h7 hxo
         · exact h7
       · exact fun h6 => ⟨hx0, huj.2 (.inr h6)⟩
     · rcases hv.ks.upI hj with ⟨_, h6, _⟩ | ⟨k, hk, _, h6, _, _⟩
       · exact .inl h6
       · exact .inr ⟨k, hk, h6.symm⟩
     · simp only [hv.ks.idx hj]
       rcases hv.ks.upI hj with ⟨_, h6, h7⟩ | ⟨k, hk, hkj, h6, _, h7⟩
       · have : plK v (superK v j) = none := h7
         rw [this]; simp
       · rw [h6, hv.ks.idx hk]; simp; omega
   · have : i = v.cls.length := by omega
     subst this
     rw [hend] at ho
     exact h1 p hp _ _ _ G H3 ho (hF2.trans hf3) fun x hx => Nat.le_trans hF2.1 (hG x hx)
end
section
variable {H : Heap} {b : Nat} {F : Foot} {s : SP} {t : TB} {v : KV} {Q : QT}
theorem seek {a a4 : Option Addr} {l l4 : Nat} {xs own : List ByteArray} {x : ByteArray} {n k : Nat} (hk : Rd 1 H a l (strsV xs)) (h4 : Rd 1 H a4 l4 (strsV own)) (hn : own[n]? = some x) (hkl : k ≤ l) (hlk : l ≤ 1000000000000000) (hl4 : l4 = own.length)
   {bad good : Heap → Prop} (hbad : x ∈ xs.take k → bad H) (hgood : x ∉ xs.take k → good H) :
   ∃ (I : List Value → Heap → Prop) (μ : List Value → Heap → Nat), I [.int .i64 0] H ∧ ∀ w H1, I w H1 → ∀ _g : Nat → Value, ∃ m : Int, w = [.int .i64 m] ∧ cond (decide (m < (k : Int))) (((0 : Int) ≤ m ∧ m < (l : Int)) ∧ ∃ q, a = some q ∧ ∃ s : ByteArray, cellH H1 (q.add (Int.toNat m * 1)) = some (.string s) ∧ ((0 : Int) ≤ (n : Int) ∧ (n : Int) < (l4 : Int)) ∧ ∃ q4, a4 = some q4 ∧ ∃ s4 : ByteArray, cellH H1 (q4.add (Int.toNat (n : Int) * 1)) = some (.string s4) ∧ cond (strEq s s4) (bad H1) (I [.int .i64 (IntKind.wrap .i64 (m + 1))] H1 ∧ μ [.int .i64 (IntKind.wrap .i64 (m + 1))] H1 < μ w H1)) (good H1) := by
 have hl : l = xs.length := by have := hk.1; simpa [strsV] using this.symm
 have hnl : n < own.length := by
   rcases Nat.lt_or_ge n own.length with h1 | h1
   · exact h1
   · rw [List.getElem?_eq_none h1] at hn; cases hn
 refine ⟨fun w H' => H' = H ∧ ∃ i : Nat, w = [.int .i64 i] ∧ i ≤ k ∧ ∀ j (hj : j < xs.length), j < i → xs[j] ≠ x, fun w _ => match w with
   | [.int _ i] => (k - i).toNat
   | _ => 0, ⟨rfl, 0, rfl, Nat.zero_le _, fun j _ hj => by omega⟩, ?_⟩
 rintro w H1 ⟨rfl, i, rfl, hi, hall⟩ _
 refine ⟨_, rfl, ?_⟩
 rw [cond_dec]
 refine ite_i (fun hlt => ?_) fun hlt => ?_
 · obtain ⟨p, hlt2, rfl, hcell⟩ := hk.str (i := (i : Int)) (by omega) (by omega)
   simp only [Int.toNat_natCast] at hcell hlt2
   obtain ⟨p4, hlt4, rfl, hcell4⟩ := h4.str (i := (n : Int)) (by omega) (by omega)
   simp only [Int.toNat_natCast] at hcell4 hlt4
   have ex : own[n] = x := by rw [List.getElem?_eq_getElem hnl] at hn; exact Option.some.inj hn
   rw [ex] at hcell4
   have e : IntKind.wrap .i64 ((i : Int) + 1) = ((i + 1 : Nat) : Int) := by rw [wrap64_id (by omega) (by omega)]; omega
   refine ⟨⟨by omega, by omega⟩, _, rfl, _, by rw [Int.toNat_natCast, Nat.mul_one]; exact hcell, ⟨by omega, by omega⟩, _, rfl, _, by rw [Int.toNat_natCast, Nat.mul_one]; exact hcell4, ?_⟩
   rw [strEq_dec, cond_dec]
   refine ite_i (fun he => hbad ?_) fun he => ?_
   · rw [← he]
     exact List.mem_take_iff_getElem.2 ⟨i, by omega, rfl⟩
   · rw [e]
     refine ⟨⟨rfl, i + 1, rfl, by omega, fun j hj hji => ?_⟩, by simp; omega⟩
     rcases Nat.lt_or_ge j i with h5 | h5
     · exact hall j hj h5
     · have : j = i := by omega
       subst this; exact he
 · refine hgood fun hm => ?_
   obtain ⟨j, hj, he⟩ := List.mem_take_iff_getElem.1 hm
   exact hall j (by omega) (by omega) he
theorem refused_r (hK : RK H b F s t) (hv : KAll s t v) {name sup : ByteArray} {a : Option Addr} {l c : Nat} {own : List ByteArray} (hk : Rd 1 H a l (strsV own)) (hlk : l ≤ 1000000000000000)
   (h : ∀ H', Fr [] H H' → Q (.tuple #[.int .i64 (defK v t name sup own).1, .int .i64 (defK v t name sup own).2]) H') : callS PP n_k208 #[.pointer (some ⟨b, 0, none⟩), .string name, .string sup, .slice a l c] Q H := by
 have hm1 := hv.ks.shape.many1
 have hl : l = own.length := by have := hk.1; simpa [strsV] using this.symm
 apply k208_ok
 unfold k208 iV wW
 unfold defK at h
 refine className_r ⟨_, rfl, ?_⟩
 rw [← decide_not, cond_dec]
 refine ite_i (fun h1 => ?_) fun h1 => ?_
 · rw [if_pos h1] at h; exact h H (Fr.refl _ _)
 rw [if_neg h1] at h
 refine taken_r hK hv fun H2 hf2 => ⟨_, rfl, ?_⟩
 rw [cond_dec]
 refine ite_i (fun h2 => ?_) fun h2 => ?_
 · rw [if_pos h2] at h; exact h H2 hf2
 rw [if_neg h2] at h
 refine find_r (hK.nil hf2) hv fun H3 hf3 => ⟨_, _, rfl, ?_⟩
 have hF3 := hf2.trans hf3
 rw [bneI, cond_dec]
 refine ite_i (fun h3 => ?_) fun h3 => ?_
 · rw [if_pos h3] at h
   have e130 : (findK v t sup).2 = 130 := by
     rcases findK_cases v t sup with ⟨e, _⟩ | ⟨j, hj, e, _⟩
     · rw [e]
     · rw [e] at h3; simp at h3
   rw [e130] at h; exact h H3 hF3
 rw [if_neg h3] at h
 rcases findK_cases v t sup with ⟨e, _⟩ | ⟨j, hj, e, _⟩
 · rw [e] at h3; simp at h3
 have hfl := fields_len hv.ks j hj
 rw [e] at h ⊢
 have hpl := hv.ks.idx hj
 simp only [hpl] at h
 refine place_r (hK.nil hF3) hv.ks fun H4 hf4 => ⟨_, rfl, ?_⟩
 have hF4 := hF3.trans hf4
 have epn : placeN v (v.cls[j]).oop = (j : Int) + 1 := by unfold placeN; rw [hpl]
 rw [epn]
 refine ⟨fun w H' => w = [] ∧ H' = H4 ∧ ¬ (1 ≤ j ∧ j < 14), ?_, ?_⟩
 · rw [cond_dec]
   refine ite_i (fun h4 => ?_) fun h4 => ⟨rfl, rfl, by omega⟩
   rw [cond_dec]
   refine ite_i (fun h5 => ?_) fun h5 => ⟨rfl, rfl, by omega⟩
   rw [if_pos (by omega)] at h
   exact h H4 hF4
 rintro w H5 ⟨rfl, rfl, h4⟩ _
 rw [if_neg h4] at h
 refine ⟨rfl, fields_r (hK.nil hF4) hv (fun j' hp' a6 l6 c6 G H6 ho6 hf6 hG => ?_) fun hp' => by rw [hpl] at hp'; cases hp'⟩
 rw [hpl] at hp'
 cases hp'
 refine ⟨_, _, _, _, rfl, ?_⟩
 have hF6 := hF4.trans hf6
 have hl6 : l6 = (fieldsK v j).length := by have := ho6.len; simpa [strsV] using this.symm
 have hk6 : Rd 1 H6 a l (strsV own) := hk.fr' hF6 (by simp)
 refine ⟨fun w H' => H' = H6 ∧ ∃ i : Nat, w = [.int .i64 i] ∧ i ≤ l ∧ ownE ((fieldsK v j).map (tx t)) (own.take i) (own.drop i) = ownE ((fieldsK v j).map (tx t)) [] own, fun w _ => match w with
   | [.int _ i] => (l - i).toNat
   | _ => 0, ⟨rfl, 0, rfl, Nat.zero_le _, by simp⟩, ?_⟩
 rintro w H7 ⟨rfl, i, rfl, hi, hown⟩ _
 refine ⟨_, rfl, ?_⟩
 rw [cond_dec]
 refine ite_i (fun hlt => ?_) fun hlt => ?_
 · have hlt' : i < own.length := by omega
   obtain ⟨p, hlt2, rfl, hcell⟩ := hk6.str (i := (i : Int)) (by omega) hlt
   simp only [Int.toNat_natCast] at hcell hlt2
   have e1 : IntKind.wrap .i64 ((i : Int) + 1) = ((i + 1 : Nat) : Int) := by rw [wrap64_id (by omega) (by omega)]; omega
   have ed : own.drop i = own[i] :: own.drop (i + 1) := List.drop_eq_getElem_cons hlt'
   have et : own.take (i + 1) = own.take i ++ [own[i]] := by rw [List.take_add_one]; simp [hlt']
   have eg : own[i]? = some own[i] := List.getElem?_eq_getElem hlt'
   rw [ed, ownE] at hown
   refine ⟨⟨by omega, hlt⟩, _, rfl, _, by rw [Int.toNat_natCast, Nat.mul_one]; exact hcell, fieldName_r ⟨_, rfl, ?_⟩⟩
   rw [← decide_not, cond_dec]
   refine ite_i (fun h5 => ?_) fun h5 => ?_
   · rw [if_pos h5] at hown
     rw [if_pos (by rw [← hown]; decide), ← hown] at h
     exact h _ hF6
   rw [if_neg h5] at hown
   refine seek (xs := own) hk6 hk6 eg hi hlk hl (fun hin => ?_) fun hnin => ?_
   · rw [if_pos hin] at hown
     rw [if_pos (by rw [← hown]; decide), ← hown] at h
     exact h _ hF6
   rw [if_neg hnin] at hown
   refine seek (xs := (fieldsK v j).map (tx t)) ho6.rd hk6 eg (Nat.le_refl _) (by omega) hl (fun hin => ?_) fun hnin2 => ?_
   · rw [List.take_of_length_le (by simp; omega)] at hin
     rw [if_pos hin] at hown
     rw [if_pos (by rw [← hown]; decide), ← hown] at h
     exact h _ hF6
   rw [List.take_of_length_le (by simp; omega)] at hnin2
   rw [if_neg hnin2] at hown
   rw [e1]
   exact ⟨⟨rfl, i + 1, rfl, by omega, by rw [et]; exact hown⟩, by simp; omega⟩
 · have hil : i = own.length := by omega
   rw [hil, List.drop_length] at hown
   have h0 : ownE ((fieldsK v j).map (tx t)) [] own = 0 := by rw [← hown]; rfl
   rw [if_neg (by rw [h0]; decide)] at h
   have ew : IntKind.wrap .i64 ((l6 : Int) + (l : Int)) = (l6 : Int) + l := wrap64_id (by omega) (by omega)
   rw [ew, cond_dec]
   refine ite_i (fun h5 => ?_) fun h5 => ?_
   · rw [if_pos (by omega)] at h; exact h _ hF6
   rw [if_neg (by omega)] at h
   refine all_r (hK.nil hF6) hv.ks fun a8 l8 c8 G8 H8 ho8 hf8 hG8 => ⟨_, _, _, rfl, ?_⟩
   have hl8 : l8 = v.cls.length := by have := ho8.len; simpa [intsV, oopsK] using this.symm
   rw [cond_dec]
   refine ite_i (fun h6 => ?_) fun h6 => ?_
   · rw [if_pos (by omega)] at h; exact h H8 (hF6.trans hf8)
   rw [if_neg (by omega)] at h
   exact h H8 (hF6.trans hf8)
theorem begin_r (hK : RK H b F s t) (h : ∀ H' nb, RK H' b F s t → Blk H' nb #[.int .i64 (t.texts.length : Int), .int .i64 s.h.mark, .int .i64 (s.stack.length : Int)] → nb ∉ F → Fr [] H H' → H.size ≤ nb → Q (.pointer (some ⟨nb, 0, none⟩)) H') : callS PP n_k116 #[.pointer (some ⟨b, 0, none⟩)] Q H := by
 apply k116_ok
 unfold k116 A0 iV
 obtain ⟨tb, F2, hc2, hT, _⟩ := hK.tb
 obtain ⟨sb, hb, F1, hc, c0, hR, _⟩ := hK.hp
 obtain ⟨sb', F3, hc', hS, _⟩ := hK.sp
 have esb : sb' = sb := by rw [hc] at hc'; simpa using hc'.symm
 subst esb
 obtain ⟨_, a, l, c, _, F4, _, _, _, _, _, _, _, _, hB, _, hO, _⟩ := hS
 have hcS : cellH H ⟨sb', 2, none⟩ = some (.slice a l c) := hB.cell 2
 have hl : l = s.stack.length := by have := hO.len; simpa [intsV] using this.symm
 subst hl
 refine ⟨_, rfl, _, hc2, _, rfl, _, hc, _, rfl, _, c0, _, rfl, _, hc, _, rfl, _, _, _, by rw [add_none]; exact hcS, tcount_c hT ⟨_, rfl, ⟨⟨by rw [add_none]; exact hcS, trivial⟩, ⟨hc, trivial⟩, ⟨c0, trivial⟩, ⟨hc, trivial⟩, trivial⟩, rmarked_c hR ⟨_, rfl, ⟨⟨by rw [add_none]; exact hcS, trivial⟩, ⟨hc, trivial⟩, trivial⟩, trivial, ?_⟩⟩⟩
 have hf2 := Fr.push [] H (.cells #[.int .i64 (t.texts.length : Int), .int .i64 s.h.mark, .int .i64 (s.stack.length : Int)] 257)
 exact h _ H.size (hK.nil hf2) (Blk.new _ _ _) (fun hm => absurd (hK.lt _ hm) (Nat.lt_irrefl _)) hf2 (Nat.le_refl _)
end
section
variable {H : Heap} {b : Nat} {F : Foot} {s : SP} {t : TB} {v : KV} {Q : QT}
theorem end_r (hK : RK H b F s t) {nb : Nat} {cnt mk kp : Int} (hN : Blk H nb #[.int .i64 cnt, .int .i64 mk, .int .i64 kp]) (hnb : nb ∉ F) (hkp : 0 ≤ kp ∧ kp ≤ 1000000) {e : Int} (h : ∀ H' F', RK H' b F' (kEnd s t mk cnt kp e).1 (kEnd s t mk cnt kp e).2 → Up F H F' H' → Q (.int .i64 e) H') :
   callS PP n_k123 #[.pointer (some ⟨b, 0, none⟩), .pointer (some ⟨nb, 0, none⟩), .int .i64 e] Q H := by
 have hmany := hK.wfs.many
 apply k123_ok
 unfold k123 iV wW
 unfold kEnd at h
 obtain ⟨sb, F1, hc, hS, hsub, _, hup⟩ := hK.sp
 have hS' := hS
 obtain ⟨_, a, l, c, _, F4, _, _, _, _, _, _, _, _, hB, _, hO, _⟩ := hS'
 have hcS : cellH H ⟨sb, 2, none⟩ = some (.slice a l c) := hB.cell 2
 have hl : l = s.stack.length := by have := hO.len; simpa [intsV] using this.symm
 subst hl
 have ew : IntKind.wrap .i64 ((s.stack.length : Int) - kp) = (s.stack.length : Int) - kp := wrap64_id (by omega) (by omega)
 refine ⟨_, rfl, _, hc, _, rfl, _, hc, _, rfl, _, _, _, by rw [add_none]; exact hcS, _, rfl, _, hN.cell 2, ?_⟩
 rw [ew]
 refine rsDrop_c hS fun H2 F2 hS2 hu2 => ⟨_, rfl, trivial, ?_⟩
 obtain ⟨F', hK2, hu2'⟩ := hup H2 F2 _ hS2 hu2
 rw [beqI, cond_dec]
 refine ite_i (fun h1 => ?_) fun h1 => ?_
 · rw [if_pos h1] at h
   have := h H2 F' hK2 hu2'
   rw [h1] at this; exact this
 rw [if_neg h1] at h
 have hN2 := hN.fr hu2'.1 hnb
 have hnb2 := Up.out hu2' hnb hN.lt
 obtain ⟨tb, F3, hc3, hT, hsub3, _, hup3⟩ := hK2.tb
 refine ⟨_, rfl, _, hc3, _, rfl, _, hN2.cell 0, tback_c hT fun H3 F4 hT3 hu3 => ⟨_, rfl, trivial, ?_⟩⟩
 obtain ⟨F5, hK3, hu3'⟩ := hup3 H3 F4 _ hT3 hu3
 have hN3 := hN2.fr hu3'.1 hnb2
 have hu23 := hu2'.trans hu3'
 have ed : (s.drop ((s.stack.length : Int) - kp)).2.h = s.h := by unfold SP.drop; split <;> rfl
 rw [bneI, cond_dec]
 refine ite_i (fun h2 => ?_) fun h2 => ?_
 · rw [if_neg h2] at h
   obtain ⟨sb4, hb4, F6, hc4, c04, hR4, hsub4, _, hup4⟩ := hK3.hp
   refine ⟨_, rfl, _, hc4, _, rfl, _, c04, _, rfl, _, hN3.cell 1, rmarks_c hR4 fun H5 hR5 hf5 => ⟨_, rfl, trivial, ?_⟩⟩
   obtain ⟨F7, hK5, hu5⟩ := hup4 H5 F6 _ hR5 ⟨hf5, fun _ h => .inl h⟩
   simp only [ed] at hK5
   exact h H5 F7 hK5 (hu23.trans hu5)
 · have h24 : e = 24 := Classical.byContradiction h2
   rw [if_pos h24] at h
   refine h H3 F5 ?_ hu23
   generalize (s.drop ((s.stack.length : Int) - kp)).2 = s' at *
   cases s'
   simp only at ed
   subst ed
   exact hK3
theorem symbols_r (hK : RK H b F s t) {a : Option Addr} {l c : Nat} {own : List ByteArray} (hr : Rd 1 H a l (strsV own)) (hout : Outs H a l F) (hlk : l ≤ 100000000)
   (h : ∀ H' F' a' l' c' G, RK H' b F' s (t.addAll [] own).2 → Up F H F' H' → Own 1 H' a' l' c' (intsV (t.addAll [] own).1.1) G → (∀ x ∈ G, H.size ≤ x ∧ x ∉ F') → Q (.tuple #[.slice a' l' c', .int .i64 (t.addAll [] own).1.2]) H') :
   callS PP n_k117 #[.pointer (some ⟨b, 0, none⟩), .slice a l c] Q H := by
 have hs1 : sliceInfo PP 108 = some (1, 8, some (.int .i64 0)) := by kernel_rfl
 have hl : l = own.length := by have := hr.1; simpa [strsV] using this.symm
 apply k117_ok
 unfold k117 A0 iV wW
 refine ⟨fun w H' => ∃ (i : Nat) (t' : TB) (acc : List Int) (a' : Option Addr) (l' c' : Nat) (G F' : Foot), w = [.slice a' l' c', .int .i64 i] ∧ i ≤ own.length ∧ RK H' b F' s t' ∧ Up F H F' H' ∧ t'.addAll acc (own.drop i) = t.addAll [] own ∧ Own 1 H' a' l' c' (intsV acc) G ∧ (∀ x ∈ G, H.size ≤ x ∧ x ∉ F') ∧ acc.length = i, fun w _ => match w with
   | [_, .int _ i] => (own.length - i).toNat
   | _ => 0, ⟨0, t, [], none, 0, 0, [], F, rfl, Nat.zero_le _, hK, Up.refl _ _, rfl, by simpa [intsV] using Own.nil 1 H, by simp, rfl⟩, ?_⟩
 rintro w H2 ⟨i, t2, acc, a2, l2, c2, G, F2, rfl, hi, hK2, hu2, hadd, ho, hG, hacc⟩ _
 have hl2 : l2 = i := by have := ho.len; simp only [intsV, List.length_map] at this; omega
 refine ⟨_, _, _, _, rfl, ?_⟩
 rw [cond_dec]
 refine ite_i (fun hlt => ?_) fun hlt => ?_
 · obtain ⟨p, hlt2, rfl, hcell⟩ := (hout.rd hu2 hr).str (i := (i : Int)) (by omega) hlt
   simp only [Int.toNat_natCast] at hcell hlt2
   have e1 : IntKind.wrap .i64 ((i : Int) + 1) = ((i + 1 : Nat) : Int) := by rw [wrap64_id (by omega) (by omega)]; omega
   have ed : own.drop i = own[i] :: own.drop (i + 1) := List.drop_eq_getElem_cons hlt2
   rw [ed, TB.addAll] at hadd
   obtain ⟨tb, F3, hc3, hT, hsub3, _, hup3⟩ := hK2.tb
   refine ⟨_, rfl, _, hc3, ⟨by omega, hlt⟩, _, rfl, _, by rw [Int.toNat_natCast, Nat.mul_one]; exact hcell, tadd_c hT fun H3 F4 hT3 hu3 => ⟨_, _, rfl, trivial, ?_⟩⟩
   obtain ⟨F5, hK3, hu3'⟩ := hup3 H3 F4 _ hT3 hu3
   rw [bneI, cond_dec]
   refine ite_i (fun h3 => ?_) fun h3 => ?_
   · rw [if_pos h3] at hadd
     rw [← hadd] at h
     exact h H3 F5 none 0 0 [] hK3 (hu2.trans hu3') (Own.nil 1 _) (by simp)
   rw [if_neg h3] at hadd
   have hz3 : (t2.add own[i]).1.2 = 0 := Classical.byContradiction h3
   obtain ⟨n, en, en2, _⟩ := add_ok own[i] hz3
   have hw3 := hK3.wft
   have h5 := (tx_some en2).2
   have h6 := hw3.m1
   have h7 := hw3.len
   rw [en] at hadd ⊢
   refine refSym_c ⟨by omega, by omega⟩ ⟨_, rfl, ?_⟩
   have hoG : ∀ x ∈ G, x < H2.size := ho.lt
   have ho3 : Own 1 H3 a2 l2 c2 (intsV acc) G := ho.fr hu3'.1 fun x hx => (hG x hx).2
   refine evS_append1 hs1 rfl (by kernel_rfl) ho3 rfl (by simp [oneC]) (by omega) (by decide) (by decide) fun a' c' G2 H4 g1 g2 g3 => ⟨_, _, _, rfl, ?_⟩
   rw [e1]
   have hG3 : ∀ x ∈ G, H.size ≤ x ∧ x ∉ F5 := fun x hx => ⟨(hG x hx).1, Up.out hu3' (hG x hx).2 (hoG x hx)⟩
   have hF5lt := hK3.lt
   have hK4 : RK H4 b F5 s (t2.add own[i]).2 := hK3.fr g2.1 fun x hx hm => (hG3 x hm).2 hx
   have hu4 : Up F H F5 H4 := by
     have h12 := hu2.trans hu3'
     refine ⟨⟨Nat.le_trans h12.1.1 g2.1.1, fun x hx hn => ?_⟩, h12.2⟩
     rw [g2.1.2 x (Nat.lt_of_lt_of_le hx h12.1.1) (fun hm => by have := (hG3 x hm).1; omega), h12.1.2 x hx hn]
   refine ⟨⟨i + 1, _, _, a', l2 + 1, c', G2, F5, rfl, by omega, hK4, hu4, hadd, ?_, fun x hx => ?_, by simp [hacc]⟩, by simp; omega⟩
   · rw [intsV_append]; exact g1
   · rcases g2.2 x hx with h5 | h5
     · exact hG3 x h5
     · exact ⟨Nat.le_trans (hu2.trans hu3').1.1 h5, fun hm => by have := hF5lt x hm; omega⟩
 · have hil : i = own.length := by omega
   rw [hil, List.drop_length, TB.addAll] at hadd
   rw [← hadd] at h
   exact h H2 F2 a2 l2 c2 G hK2 hu2 ho hG
theorem layB_r (hK : RK H b F s t) {o : Int} {a : Option Addr} {l c : Nat} {ws : List Int} (hk : Rd 1 H a l (intsV ws)) (hout : Out H a F) (hlk : l ≤ 1000000000)
   (h : ∀ H' F', RK H' b F' { s with h := s.h.lay o 0 ws } t → Up F H F' H' → (∀ o, cellH H' ⟨b, o, none⟩ = cellH H ⟨b, o, none⟩) → Q (.tuple #[]) H') : callS PP n_k61 #[.pointer (some ⟨b, 0, none⟩), .int .i64 o, .slice a l c] Q H := by
 have hl : l = ws.length := by have := hk.1; simpa [intsV] using this.symm
 apply k61_ok
 unfold k61 iV wW
 refine ⟨fun w H' => ∃ (i : Nat) (r : RH) (F' : Foot), w = [.int .i64 i] ∧ i ≤ ws.length ∧ RK H' b F' { s with h := r } t ∧ Up F H F' H' ∧ (∀ o, cellH H' ⟨b, o, none⟩ = cellH H ⟨b, o, none⟩) ∧ r.lay o i (ws.drop i) = s.h.lay o 0 ws, fun w _ => match w with
   | [.int _ i] => (ws.length - i).toNat
   | _ => 0, ⟨0, s.h, F, rfl, Nat.zero_le _, hK, Up.refl _ _, fun _ => rfl, rfl⟩, ?_⟩
 rintro w H4 ⟨i, r, F4, rfl, hi, hK4, hu4, hce, hlay⟩ _
 refine ⟨_, rfl, ?_⟩
 rw [cond_dec]
 refine ite_i (fun hlt => ?_) fun hlt => ?_
 · obtain ⟨p, rfl, hcell, hlt2⟩ := (hout.rd hu4 hk).int (i := (i : Int)) (by omega) hlt
   rw [Int.toNat_natCast] at hcell hlt2
   have hx : ws.getD i 0 = ws[i] := by simp [hlt2]
   rw [hx] at hcell
   have ed : ws.drop i = ws[i] :: ws.drop (i + 1) := List.drop_eq_getElem_cons hlt2
   have e : IntKind.wrap .i64 ((i : Int) + 1) = ((i + 1 : Nat) : Int) := by rw [wrap64_id (by omega) (by omega)]; omega
   obtain ⟨sb, hb, F1, hc, c0, hR, hsub, hbn, hup⟩ := hK4.hp
   have hbl := hK4.lt b hK4.bmem
   refine ⟨_, rfl, _, hc, _, rfl, _, c0, ⟨by omega, hlt⟩, _, rfl, _, by rw [Int.toNat_natCast, Nat.mul_one]; exact hcell, rput_c hR fun H6 hR6 hf6 => ⟨_, rfl, trivial, ?_⟩⟩
   obtain ⟨F7, hK7, hu7⟩ := hup H6 F1 _ hR6 ⟨hf6, fun _ h => .inl h⟩
   rw [e]
   refine ⟨⟨i + 1, (r.put o i ws[i]).2, F7, rfl, by omega, hK7, hu4.trans hu7, fun o => by rw [cell_fr hf6 hbn hbl]; exact hce o, ?_⟩, by simp; omega⟩
   rw [← hlay, ed]
   rfl
 · have hil : i = ws.length := by omega
   subst hil
   rw [List.drop_length] at hlay
   simp only [RH.lay] at hlay
   rw [hlay] at hK4
   exact h H4 F4 hK4 hu4 hce
theorem lay_r (hK : RK H b F s t) {o : Int} {a : Option Addr} {l c : Nat} {ws : List Int} (hk : Rd 1 H a l (intsV ws)) (hout : Out H a F) (hlk : l ≤ 1000000000)
   (h : ∀ H' F', RK H' b F' { s with h := s.h.lay o 0 ws } t → Up F H F' H' → Q (.tuple #[]) H') : callS PP n_k61 #[.pointer (some ⟨b, 0, none⟩), .int .i64 o, .slice a l c] Q H :=
 layB_r hK hk hout hlk fun H' F' h1 h2 _ => h H' F' h1 h2
theorem made_r (hK : RK H b F s t) {cls : Int} (hcls : 1 ≤ cls ∧ cls ≤ 65536) {a : Option Addr} {l c : Nat} {ws : List Int} (hk : Rd 1 H a l (intsV ws)) (hout : Out H a F) (hlk : l ≤ 1000000000) (hne : cls = 11 → ws ≠ [])
   (h : ∀ H' F', RK H' b F' (s.make cls ws).2 t → Up F H F' H' → Q (.tuple #[.int .i64 (s.make cls ws).1.1, .int .i64 (s.make cls ws).1.2]) H') : callS PP n_k121 #[.pointer (some ⟨b, 0, none⟩), .int .i64 cls, .slice a l c] Q H := by
 have hl : l = ws.length := by have := hk.1; simpa [intsV] using this.symm
 apply k121_ok
 unfold k121 A0 iV
 unfold SP.make at h
 refine ⟨fun w H' => w = [] ∧ H' = H, ?_, ?_⟩
 · rw [beqI, cond_dec]
   refine ite_i (fun h1 => ?_) fun h1 => ⟨rfl, rfl⟩
   rw [beqI, cond_dec]
   refine ite_i (fun h2 => ?_) fun h2 => ⟨rfl, rfl⟩
   exact absurd (List.eq_nil_of_length_eq_zero (by omega)) (hne h1)
 rintro w H2 ⟨rfl, rfl⟩ _
 obtain ⟨sb, F1, hc, hS, hsub, _, hup⟩ := hK.sp
 refine ⟨rfl, _, rfl, _, hc, refObj_c ⟨by omega, by omega⟩ ⟨_, rfl, ⟨⟨hc, trivial⟩, trivial⟩, ?_⟩⟩
 rw [hl]
 refine rsAlloc_c hS fun H1 F3 hS1 hu1 => ⟨_, _, rfl, trivial, ?_⟩
 obtain ⟨F4, hK4, hu4⟩ := hup H1 F3 _ hS1 hu1
 rw [bneI, cond_dec]
 refine ite_i (fun h1 => ?_) fun h1 => ?_
 · rw [if_pos h1] at h; exact h _ _ hK4 hu4
 rw [if_neg h1] at h
 have hz : (s.alloc (4 * cls) ws.length 0).1.2 = 0 := Classical.byContradiction h1
 obtain ⟨o, e1, o1, o2, _⟩ := salloc_ok hK.wfs hz
 rw [e1] at h ⊢
 have e2 : 4 * o / 4 = o := by omega
 rw [e2] at h
 generalize (s.alloc (4 * cls) ws.length 0).2 = s1 at *
 refine refOop13_c (I64_small (by omega) (by omega)) ⟨_, rfl, ?_⟩
 rw [refOop_obj o1, ← hl]
 refine lay_r hK4 (hout.rd hu4 hk) (hout.up hu4) (by omega) fun H5 F5 hK5 hu5 => ⟨rfl, ?_⟩
 have fp := Fr.push [] H5 (.cells #[.int .i64 (4 * o)] 36)
 have hcx : ∃ sb, cellH H5 ⟨b, 0, none⟩ = some (.pointer (some ⟨sb, 0, none⟩)) := by obtain ⟨sb, _, hc, _⟩ := hK5.sp; exact ⟨sb, hc⟩
 obtain ⟨sb5, hc5⟩ := hcx
 refine ⟨_, rfl, _, hc5, ?_⟩
 have hK6 := hK5.nil fp
 obtain ⟨sb6, F6, hc6, hS6, hsub6, _, hup6⟩ := hK6.sp
 have esb : sb6 = sb5 := by
   rw [cell_fr fp (by simp) (cell_lt hc5), hc5] at hc6
   simpa using hc6.symm
 subst esb
 refine rsKeep_c hS6 (rd_new (cs := [4 * o])) (by decide) fun H7 F7 hS7 hu7 => ⟨_, rfl, ?_⟩
 obtain ⟨F8, hK8, hu8⟩ := hup6 H7 F7 _ hS7 hu7
 exact h H7 F8 hK8 ((hu4.trans hu5).trans ((Up.of_nil fp).trans hu8))
theorem madeA_r (hK : RK H b F s t) {a : Option Addr} {l c : Nat} {ws : List Int} (hk : Rd 1 H a l (intsV ws)) (hout : Out H a F) (hlk : l ≤ 1000000000)
   (h : ∀ H' F', RK H' b F' (s.array ws).2 t → Up F H F' H' → Q (.tuple #[.int .i64 (s.array ws).1.1, .int .i64 (s.array ws).1.2]) H') : callS PP n_k121 #[.pointer (some ⟨b, 0, none⟩), .int .i64 11, .slice a l c] Q H := by
 unfold SP.array at h
 by_cases he : ws = []
 · rw [if_pos he] at h
   have hl : l = 0 := by have := hk.1; rw [he] at this; simpa [intsV] using this.symm
   apply k121_ok
   unfold k121 A0 iV
   refine ⟨fun w H' => False, ?_, fun _ _ hf => hf.elim⟩
   rw [beqI, cond_dec, if_pos rfl, beqI, cond_dec, if_pos (by omega)]
   exact refObj_c (by decide) ⟨_, rfl, h H F hK (Up.refl _ _)⟩
 · rw [if_neg he] at h
   exact made_r hK (by decide) hk hout hlk (fun _ => he) h
end
theorem Up.mid {F F1 G : Foot} {H H1 H2 : Heap} (hu : Up F H F1 H1) (hg : Fr G H1 H2) (hG : ∀ x ∈ G, H.size ≤ x) : Up F H F1 H2 :=
 ⟨⟨Nat.le_trans hu.1.1 hg.1, fun x hx hn => by rw [hg.2 x (Nat.lt_of_lt_of_le hx hu.1.1) (fun hm => by have := hG x hm; omega), hu.1.2 x hx hn]⟩, hu.2⟩
theorem rd_str {H : Heap} {x : ByteArray} {t : TypeId} : Rd 1 (H.push (.cells #[.string x] t)) (some ⟨H.size, 0, none⟩) 1 (strsV [x]) := by
 refine ⟨rfl, (fun h => by cases h), fun p hp k hk => ?_⟩
 cases hp
 rw [add_none, Nat.zero_add, (Blk.new H _ _).cell]
 have : k = 0 := by omega
 subst this; rfl
theorem addAll_one (t : TB) (x : ByteArray) : t.addAll [] [x] = if (t.add x).1.2 ≠ 0 then (([], (t.add x).1.2), (t.add x).2) else (([4 * (t.add x).1.1 + 2], 0), (t.add x).2) := by
 rw [TB.addAll]
 split
 · rfl
 · rw [TB.addAll]; rfl
section
variable {H : Heap} {b : Nat} {F : Foot} {s : SP} {t : TB} {v : KV} {Q : QT}
theorem rappend {H0 : Heap} {F0 : Foot} (hu : Up F0 H0 F H) (hK : RK H b F s t) {a : Option Addr} {l c l2 c2 : Nat} {a2 : Option Addr} {G : Foot} {ws xs : List Int} (ho : Own 1 H a l c (intsV ws) G) (hG : ∀ x ∈ G, H0.size ≤ x ∧ x ∉ F) (hws : ws.length ≤ 8192) (h2 : Rd 1 H a2 l2 (intsV xs)) (hxs : l2 ≤ 8192)
   {K : Value → Heap → Prop} (h : ∀ a' c' H' G', RK H' b F s t → Up F0 H0 F H' → Own 1 H' a' (l + l2) c' (intsV (ws ++ xs)) G' → (∀ x ∈ G', H0.size ≤ x ∧ x ∉ F) → K (.slice a' (l + l2) c') H') :
   evS PP (Builtin.append_ #[108, 108] 108 #[.slice a l c, .slice a2 l2 c2]) K H := by
 have hs1 : sliceInfo PP 108 = some (1, 8, some (.int .i64 0)) := by kernel_rfl
 have hl : l = ws.length := by have := ho.len; simpa [intsV] using this.symm
 have hlt := hK.lt
 refine evS_append hs1 rfl (by kernel_rfl) ho h2 intsV_one (by omega) (by decide) (by decide) fun a' c' G' H' g1 g2 g3 => ?_
 rw [← intsV_append] at g1
 refine h a' c' H' G' (hK.fr g2.1 fun x hx hm => (hG x hm).2 hx) (Up.mid hu g2.1 fun x hx => (hG x hx).1) g1 fun x hx => ?_
 rcases g2.2 x hx with h5 | h5
 · exact hG x h5
 · exact ⟨Nat.le_trans hu.1.1 h5, fun hm => by have := hlt x hm; omega⟩
theorem own_out {a : Option Addr} {l c : Nat} {xs : List Value} {G : Foot} (h : Own 1 H a l c xs G) (hd : ∀ x ∈ G, x ∉ F) : Out H a F := Own.out h fun x hx hm => hd x hx hm
theorem define_r (hK : RK H b F s t) (hk : KS s v) {name : ByteArray} {up : Int} (hup : 1 ≤ up ∧ up ≤ 65536) (hst : s.stack.length < 60000) {a : Option Addr} {l c : Nat} {own : List ByteArray} (hr : Rd 1 H a l (strsV own)) (hout : Outs H a l F) (hlk : l ≤ 100000000)
   (h : ∀ H' F', RK H' b F' (kDef s t v.clsW name up own).2.1 (kDef s t v.clsW name up own).2.2 → Up F H F' H' → Q (.tuple #[.int .i64 (kDef s t v.clsW name up own).1.1, .int .i64 (kDef s t v.clsW name up own).1.2]) H') :
   callS PP n_k209 #[.pointer (some ⟨b, 0, none⟩), .string name, .int .i64 up, .slice a l c] Q H := by
 have hm1 := hk.shape.many1
 have hcw : v.clsW.length = v.cls.length := by simp [KV.clsW]
 apply k209_ok
 unfold k209 A0 iV wW
 unfold kDef at h
 have fp := Fr.push [] H (.cells #[.string name] 9)
 have hup0 : Up F H F (H.push (.cells #[.string name] 9)) := Up.of_nil fp
 refine symbols_r (hK.nil fp) (own := [name]) rd_str (.inr fun p hp => ?_) (by decide) fun H1 F1 a6 l6 c6 G6 hK1 hu1 ho6 hG6 => ⟨_, _, _, _, rfl, ?_⟩
 · cases hp
   exact ⟨by simp, fun hm => absurd (hK.lt _ hm) (Nat.lt_irrefl _)⟩
 have hu01 := hup0.trans hu1
 rw [addAll_one] at hK1 ho6 ⊢
 rw [bneI, cond_dec]
 by_cases h1 : (t.add name).1.2 = 0
 rotate_left
 · rw [if_pos h1] at h
   rw [if_pos (show (t.add name).1.2 ≠ 0 from h1)] at hK1 ⊢
   rw [if_pos h1]
   exact h H1 F1 hK1 hu01
 rw [if_neg (show ¬ (t.add name).1.2 ≠ 0 from fun hn => hn h1)] at hK1 ho6 h ⊢
 rw [if_neg (fun hn => hn rfl)]
 obtain ⟨nn, en, en2, _⟩ := add_ok name h1
 rw [en] at h ho6
 generalize (t.add name).2 = t1 at *
 have hout1 := hout.up hu01
 have hr1 := hout.rd hu01 hr
 have hG6' : ∀ x ∈ G6, H.size ≤ x ∧ x ∉ F1 := fun x hx => ⟨Nat.le_trans fp.1 (hG6 x hx).1, (hG6 x hx).2⟩
 refine symbols_r hK1 hr1 hout1 hlk fun H2 F2 a9 l9 c9 G9 hK2 hu2 ho9 hG9 => ⟨_, _, _, _, rfl, ?_⟩
 have hu02 := hu01.trans hu2
 rw [bneI, cond_dec]
 refine ite_i (fun h2 => ?_) fun h2 => ?_
 · rw [if_pos h2] at h; exact h H2 F2 hK2 hu02
 rw [if_neg h2] at h
 have hz2 : (t1.addAll [] own).1.2 = 0 := Classical.byContradiction h2
 obtain ⟨ns, ens, ens2⟩ := addAll_ok [] own hz2
 rw [List.nil_append] at ens
 have hwt2 := hK2.wft
 have hns : ∀ n ∈ ns, n < (t1.addAll [] own).2.texts.length := fun n hn => by
   have : (t1.addAll [] own).2.texts[n]? ∈ own.map some := by rw [← ens2]; exact List.mem_map.2 ⟨n, hn, rfl⟩
   obtain ⟨s, _, hs⟩ := List.mem_map.1 this
   exact (tx_some hs.symm).2
 have hnn : nn < (t1.addAll [] own).2.texts.length := by
   have h5 := (tx_some en2).2
   obtain ⟨m, e⟩ := (addAll_pre t1 [] own).2
   rw [e, List.length_append]; omega
 have hws : ∀ w ∈ (t1.addAll [] own).1.1, isW w := fun w hw => by
   rw [ens] at hw
   obtain ⟨x, hx, rfl⟩ := List.mem_map.1 hw
   exact isW_sym hwt2 (hns x hx)
 have hl9 : l9 ≤ 1000000000 := by
   have e1 := ho9.len
   have e2 : ns.length = own.length := by have := congrArg List.length ens2; simpa using this
   rw [ens] at e1
   simp only [intsV, List.length_map] at e1
   have e3 : l = own.length := by have := hr.1; simpa [strsV] using this.symm
   omega
 unfold kDef1 at h
 generalize (t1.addAll [] own).1.1 = acc at *
 generalize (t1.addAll [] own).2 = t2 at *
 obtain ⟨a1, a2, ⟨m1, a3, a3'⟩, a4⟩ := array_ok hk (by omega) hws
 refine madeA_r hK2 ho9.rd (own_out ho9 fun x hx => (hG9 x hx).2) hl9 fun H3 F3 hK3 hu3 => ⟨_, _, rfl, ?_⟩
 have hu03 := hu02.trans hu3
 rw [bneI, cond_dec]
 refine ite_i (fun h3 => ?_) fun h3 => ?_
 · rw [if_pos h3] at h; exact h H3 F3 hK3 hu03
 rw [if_neg h3] at h
 have hz3 : (s.array acc).1.2 = 0 := Classical.byContradiction h3
 obtain ⟨lo, elo, lo1, lo2, _⟩ := a4 hz3
 rw [elo] at h ⊢
 generalize (s.array acc).2 = s1 at *
 obtain ⟨e0, b0, b1⟩ := KS.s0 a1
 refine root_r hK3 a1 e0 b0 b1 ⟨_, rfl, words_r hK3 fun aw lw cw Gw H6 how hf6 hGw => ⟨_, _, _, rfl, ?_⟩⟩
 rw [show kwords s1.h v.clsA = v.clsW from a1.view.all.kwords] at how
 have hlw : lw = v.clsW.length := by have := how.len; simpa [intsV] using this.symm
 have hK6 := hK3.nil hf6
 have hl6 : l6 = 1 := by have := ho6.len; simpa [intsV] using this.symm
 have hout6 : Out H1 a6 F1 := own_out ho6 fun x hx => (hG6 x hx).2
 have hr6 := (hout6.rd ((hu2.trans hu3).trans (Up.of_nil hf6)) ho6.rd)
 obtain ⟨q6, hq6, hcell6, _⟩ := hr6.int (i := 0) (by decide) (by omega)
 subst hq6
 have hcell6' : cellH H6 (q6.add (Int.toNat 0 * 1)) = some (.int .i64 (4 * (nn : Int) + 2)) := by simpa using hcell6
 have ew : IntKind.wrap .i64 ((lw : Int) + 1) = (lw : Int) + 1 := wrap64_id (by omega) (by omega)
 refine ⟨⟨Int.le_refl 0, by omega⟩, _, rfl, _, hcell6', refObj_c ⟨by omega, by omega⟩ ⟨_, rfl, ⟨⟨hcell6', trivial⟩, trivial⟩, refObj_c (by decide) ⟨_, rfl, ⟨⟨hcell6', trivial⟩, trivial⟩, refObj_c (by decide) ⟨_, rfl, ⟨⟨hcell6', trivial⟩, trivial⟩, refInt_c (by decide) ⟨_, rfl, ⟨⟨hcell6', trivial⟩, trivial⟩, ?_⟩⟩⟩⟩⟩
 rw [ew]
 refine refInt_c ⟨by omega, by omega⟩ ⟨_, rfl, ⟨⟨hcell6', trivial⟩, trivial⟩, trivial, ?_⟩
 unfold kDef2 at h
 have hws2 := clsSlots_words (n := 4 * (nn : Int) + 2) (up := up) (l := 4 * lo) (k := v.clsW.length) (isW_sym hwt2 hnn) (isW_obj hup.1 hup.2) (isW_obj lo1 lo2) (by omega)
 obtain ⟨k1, k2, k3, k4⟩ := make_ok a1 (by rw [a3, List.length_append]; omega) (cls := 12) (by decide) hws2
 have fp6 := Fr.push [] H6 (.cells (intsV (clsSlots (4 * (nn : Int) + 2) up (4 * lo) v.clsW.length)).toArray 36)
 have hlt6 := hK6.lt
 rw [hlw]
 refine made_r (s := s1) (ws := clsSlots (4 * (nn : Int) + 2) up (4 * lo) v.clsW.length) (hK6.nil fp6) (by decide) rd_new
   (fun p hp => by cases hp; exact ⟨by simp, fun hm => absurd (hlt6 _ hm) (Nat.lt_irrefl _)⟩) (by decide) (fun h => absurd h (by decide)) fun H7 F7 hK7 hu7 => ⟨_, _, rfl, trivial, ?_⟩
 have hu07 := (hu03.trans (Up.of_nil hf6)).trans ((Up.of_nil fp6).trans hu7)
 rw [bneI, cond_dec]
 refine ite_i (fun h4 => ?_) fun h4 => ?_
 · rw [if_pos h4] at h; exact h H7 F7 hK7 hu07
 rw [if_neg h4] at h
 have hz4 : (s1.make 12 (clsSlots (4 * (nn : Int) + 2) up (4 * lo) v.clsW.length)).1.2 = 0 := Classical.byContradiction h4
 obtain ⟨cc, ec, est, cc1, cc2, _⟩ := k4 hz4
 rw [ec] at h ⊢
 generalize (s1.make 12 (clsSlots (4 * (nn : Int) + 2) up (4 * lo) v.clsW.length)).2 = s2 at *
 unfold kDef3 at h
 have hGw' : ∀ x ∈ Gw, H.size ≤ x ∧ x ∉ F7 := fun x hx => by
   have h5 := hGw x hx
   refine ⟨Nat.le_trans hu03.1.1 h5, Up.out ((Up.of_nil fp6).trans hu7) (fun hm => by have := hK3.lt x hm; omega) (how.lt x hx)⟩
 have how7 : Own 1 H7 aw lw cw (intsV v.clsW) Gw := (how.fr fp6 (by simp)).fr hu7.1 fun x hx hm => by
   have h5 := hGw x hx
   have := hK3.lt x hm
   omega
 have fp7 := Fr.push [] H7 (.cells #[.int .i64 (4 * cc)] 36)
 subst hlw
 refine rappend (hu07.trans (Up.of_nil fp7)) (hK7.nil fp7) (how7.fr fp7 (by simp)) hGw' (by omega) (rd_new (cs := [4 * cc])) (by simp) fun a8 c8 H8 G8 hK8 hu8 ho8 hG8 => ⟨_, _, _, rfl, ?_⟩
 refine madeA_r hK8 ho8.rd (own_out ho8 fun x hx => (hG8 x hx).2) (by simp; omega) fun H9 F9 hK9 hu9 => ⟨_, _, rfl, ?_⟩
 have hws3 : ∀ w ∈ v.clsW ++ [4 * cc], isW w := fun w hw => by
   rcases List.mem_append.1 hw with hw | hw
   · exact clsW_words hk w hw
   · simp only [List.mem_singleton] at hw; rw [hw]; exact isW_obj cc1 cc2
 obtain ⟨x1, x2, x3, x4⟩ := array_ok k1 (by rw [est, a3]; simp; omega) hws3
 rw [bneI, cond_dec]
 refine ite_i (fun h5 => ?_) fun h5 => ?_
 · rw [if_pos h5] at h; exact h H9 F9 hK9 (hu8.trans hu9)
 rw [if_neg h5] at h
 obtain ⟨sb, Fs, hcs, hS, hsub, _, hup9⟩ := hK9.sp
 refine ⟨_, rfl, _, hcs, rsSetRoot_c hS fun HA hSA hfA => ⟨_, rfl, refOop13_c (I64_small (by omega) (by omega)) ⟨_, rfl, ?_⟩⟩⟩
 obtain ⟨FA, hKA, huA⟩ := hup9 HA Fs _ hSA ⟨hfA, fun _ h => .inl h⟩
 have := h HA FA hKA ((hu8.trans hu9).trans huA)
 rw [refOop_obj cc1]
 have e4 : 4 * cc / 4 = cc := by omega
 simp only [e4] at this
 exact this
theorem define0_r (hK : RK H b F s t) (hv : KAll s t v) {name sup : ByteArray} {a : Option Addr} {l c : Nat} {own : List ByteArray} (hr : Rd 1 H a l (strsV own)) (hout : Outs H a l F) (hlk : l ≤ 1000000000000000)
   (h : ∀ H' F', RK H' b F' (kDefineAll s v t name sup own).2.1 (kDefineAll s v t name sup own).2.2 → Up F H F' H' → Q (.tuple #[.int .i64 (kDefineAll s v t name sup own).1.1, .int .i64 (kDefineAll s v t name sup own).1.2]) H') :
   callS PP n_k103 #[.pointer (some ⟨b, 0, none⟩), .string name, .string sup, .slice a l c] Q H := by
 apply k103_ok
 unfold k103 iV
 unfold kDefineAll at h
 refine refused_r hK hv hr (by omega) fun H1 hf1 => ⟨_, _, rfl, ?_⟩
 rw [bneI, cond_dec]
 refine ite_i (fun h1 => ?_) fun h1 => ?_
 · rw [if_pos h1] at h; exact h H1 F (hK.nil hf1) (Up.of_nil hf1)
 rw [if_neg h1] at h
 obtain ⟨j, hj, ej, hlt, hno, _, _⟩ := defK_ok hv (Classical.byContradiction h1)
 rw [ej] at h ⊢
 have hb := up_arr hv.ks hj
 have hst : s.stack.length < 60000 := by rw [hv.stack]; decide
 refine begin_r (hK.nil hf1) fun H2 nb hK2 hN hnb hf2 hge => ⟨_, rfl, ?_⟩
 have hu2 : Up F H F H2 := Up.of_nil (hf1.trans hf2)
 have hl32 := defK_len (Classical.byContradiction h1)
 refine define_r hK2 hv.ks hb hst (hout.rd hu2 hr) (hout.up hu2) (by have := hr.1; simp only [strsV, List.length_map] at this; omega) fun H3 F3 hK3 hu3 => ⟨_, _, rfl, ?_⟩
 refine end_r hK3 (hN.fr hu3.1 hnb) (Up.out hu3 hnb hN.lt) ⟨by omega, by omega⟩ fun H4 F4 hK4 hu4 => ⟨_, rfl, ?_⟩
 have := h H4 F4 hK4 ((hu2.trans hu3).trans hu4)
 unfold kDefine at this
 rw [bneI, cond_dec]
 refine ite_i (fun h2 => ?_) fun h2 => ?_
 · rw [if_neg h2] at this; exact this
 · have hz := Classical.byContradiction h2
   rw [if_pos hz] at this
   have e0 : (kDef s t v.clsW name (v.cls[j]).oop own).1.2 = 0 := hz
   rw [e0] at this
   exact this
theorem global_r (hK : RK H b F s t) (hv : KAll s t v) {name : ByteArray}
   (h : ∀ H' F', RK H' b F' (kGlobalAll s v t name).2.1 (kGlobalAll s v t name).2.2 → Up F H F' H' → Q (.int .i64 (kGlobalAll s v t name).1) H') :
   callS PP n_k27 #[.pointer (some ⟨b, 0, none⟩), .string name] Q H := by
 have hg := hv.ks.shape.globs
 obtain ⟨e0, b0, b1⟩ := KS.s1 hv.ks
 apply k27_ok
 unfold k27 A0 iV
 unfold kGlobalAll globK at h
 refine className_r ⟨_, rfl, ?_⟩
 rw [← decide_not, cond_dec]
 refine ite_i (fun h1 => ?_) fun h1 => ?_
 · rw [if_pos h1, if_pos (by decide)] at h; exact h H F hK (Up.refl _ _)
 rw [if_neg h1] at h
 refine taken_r hK hv fun H2 hF2 => ⟨_, rfl, ?_⟩
 rw [cond_dec]
 refine ite_i (fun h2 => ?_) fun h2 => ?_
 · rw [if_pos h2, if_pos (by decide)] at h; exact h H2 F (hK.nil hF2) (Up.of_nil hF2)
 rw [if_neg h2] at h
 refine globals_r (hK.nil hF2) hv fun a l c G H3 ho hf3 hG => ⟨_, _, _, rfl, ?_⟩
 have hF3 := hF2.trans hf3
 have hl : l = v.glob.length := by have := ho.len; simpa [strsV, globsK] using this.symm
 rw [cond_dec]
 refine ite_i (fun h3 => ?_) fun h3 => ?_
 · rw [if_pos (show 256 ≤ v.glob.length by omega), if_pos (by decide)] at h; exact h H3 F (hK.nil hF3) (Up.of_nil hF3)
 rw [if_neg (show ¬ 256 ≤ v.glob.length by omega), if_neg (by decide)] at h
 refine begin_r (hK.nil hF3) fun H4 nb hK4 hN hnb hf4 hge => ⟨_, rfl, ?_⟩
 have hF4 := hF3.trans hf4
 unfold kGlobal at h
 have hst : s.stack.length < 60000 := by rw [hv.stack]; decide
 have fp := Fr.push [] H4 (.cells #[.string name] 9)
 have hu4 : Up F H F (H4.push (.cells #[.string name] 9)) := Up.of_nil (hF4.trans fp)
 have fin : ∀ (R : Int × SP × TB) (H5 : Heap) (F5 : Foot), kGlob s t (globW v.glob) name = R → RK H5 b F5 R.2.1 R.2.2 → Up F H4 F5 H5 → callS PP n_k123 #[.pointer (some ⟨b, 0, none⟩), .pointer (some ⟨nb, 0, none⟩), .int .i64 R.1] (fun v37 H13 => ∃ n38 : Int, v37 = .int .i64 n38 ∧ Q (.int .i64 n38) H13) H5 := by
   intro R H5 F5 eR hK5 hu5
   rw [eR] at h
   exact end_r hK5 (hN.fr hu5.1 hnb) (Up.out hu5 hnb hN.lt) ⟨by omega, by omega⟩ fun H6 F6 hK6 hu6 => ⟨_, rfl, h H6 F6 hK6 (((Up.of_nil hF4).trans hu5).trans hu6)⟩
 refine symbols_r (hK4.nil fp) (own := [name]) rd_str (.inr fun p hp => ?_) (by decide) fun H5 F5 a6 l6 c6 G6 hK5 hu5 ho6 hG6 => ⟨_, _, _, _, rfl, ?_⟩
 · cases hp
   exact ⟨by simp, fun hm => absurd (hK4.lt _ hm) (Nat.lt_irrefl _)⟩
 have hu45 : Up F H4 F5 H5 := (Up.of_nil fp).trans hu5
 rw [addAll_one] at hK5 ho6 ⊢
 rw [beqI, cond_dec]
 by_cases h5 : (t.add name).1.2 = 0
 rotate_left
 · rw [if_pos (show (t.add name).1.2 ≠ 0 from h5)] at hK5 ⊢
   rw [if_neg h5]
   have eR : kGlob s t (globW v.glob) name = ((t.add name).1.2, s, (t.add name).2) := by unfold kGlob; rw [if_pos h5]
   have := fin _ H5 F5 eR hK5 hu45
   exact this
 rw [if_neg (show ¬ (t.add name).1.2 ≠ 0 from fun hn => hn h5)] at hK5 ho6 ⊢
 rw [if_pos rfl]
 obtain ⟨nn, en, en2, _⟩ := add_ok name h5
 have eR : kGlob s t (globW v.glob) name = kGlob1 s (t.add name).2 (globW v.glob) (4 * (t.add name).1.1 + 2) := by unfold kGlob; rw [if_neg (by simpa using h5)]
 rw [en] at eR ho6
 generalize (t.add name).2 = t1 at *
 unfold kGlob1 at eR
 have hwt1 := hK5.wft
 have hnn := (tx_some en2).2
 have hws : ∀ w ∈ globW v.glob ++ [4 * (nn : Int) + 2, 4], isW w := fun w hw => by
   rcases List.mem_append.1 hw with hw | hw
   · exact globW_words hv.ks w hw
   · simp only [List.mem_cons, List.not_mem_nil, or_false] at hw
     rcases hw with rfl | rfl
     · exact isW_sym hwt1 hnn
     · decide
 have hgl := globW_len v.glob
 have hl6 : l6 = 1 := by have := ho6.len; simpa [intsV] using this.symm
 have ho6' : ∀ {H' : Heap}, Fr [] H5 H' → ∃ q, a6 = some q ∧ cellH H' (q.add (Int.toNat 0 * 1)) = some (.int .i64 (4 * (nn : Int) + 2)) := by
   intro H' hf'
   obtain ⟨q6, hq6, hcell6, _⟩ := ((ho6.fr hf' (by simp)).rd).int (i := 0) (by decide) (by omega)
   exact ⟨q6, hq6, by simpa using hcell6⟩
 obtain ⟨q6, hq6, hc6⟩ := ho6' (Fr.refl _ _)
 subst hq6
 have hcell : ∀ {H' : Heap}, Fr [] H5 H' → cellH H' (q6.add (Int.toNat 0 * 1)) = some (.int .i64 (4 * (nn : Int) + 2)) := fun hf' => by
   obtain ⟨q, hq, hc⟩ := ho6' hf'
   cases hq; exact hc
 have kwg : kwords s.h v.globA = globW v.glob := hv.ks.view.globs.kwords
 have one : ∀ {H' : Heap}, Rd 1 (H'.push (.cells #[.int .i64 (4 * (nn : Int) + 2)] 36)) (some ⟨H'.size, 0, none⟩) 1 (intsV [4 * (nn : Int) + 2]) := fun {H'} => rd_new (H := H') (cs := [4 * (nn : Int) + 2])
 have hlt5 := hK5.lt
 have app : ∀ {H' : Heap} {aw : Option Addr} {lw cw : Nat} {Gw : Foot} {a2 : Option Addr} {c2 : Nat}, Fr [] H5 H' → Own 1 H' aw lw cw (intsV (globW v.glob)) Gw → (∀ x ∈ Gw, H5.size ≤ x) → Rd 1 H' a2 1 (intsV [4 * (nn : Int) + 2]) → ∀ {K : Value → Heap → Prop} (_ : ∀ a' l' c' H'' G', RK H'' b F5 s t1 → Up F H4 F5 H'' → Own 1 H'' a' l' c' (intsV (globW v.glob ++ [4 * (nn : Int) + 2])) G' → (∀ x ∈ G', H4.size ≤ x ∧ x ∉ F5) → K (.slice a' l' c') H''),
     evS PP (Builtin.append_ #[108, 108] 108 #[.slice aw lw cw, .slice a2 1 c2]) K H' := by
   intro H' aw lw cw Gw a2 c2 hf' how hGw hr2 K hK'
   exact rappend (hu45.trans (Up.of_nil hf')) (hK5.nil hf') how (fun x hx => ⟨Nat.le_trans hu45.1.1 (hGw x hx), fun hm => by have := hlt5 x hm; have := hGw x hx; omega⟩) (by omega) hr2 (by decide) fun a' c' H'' G' k1 k2 k3 k4 => hK' a' _ c' H'' G' k1 k2 k3 k4
 refine ⟨fun w H' => ∃ (a' : Option Addr) (l' c' : Nat) (G' : Foot), w = [.slice a' l' c'] ∧ RK H' b F5 s t1 ∧ Up F H4 F5 H' ∧ Own 1 H' a' l' c' (intsV (globW v.glob ++ [4 * (nn : Int) + 2])) G' ∧ ∀ x ∈ G', H4.size ≤ x ∧ x ∉ F5, ⟨⟨Int.le_refl 0, by omega⟩, _, rfl, _, hc6, ?_, ?_⟩, ?_⟩
 · refine slot_r hK5 ⟨_, rfl, ⟨⟨hc6, trivial⟩, trivial⟩, ?_, ?_⟩
   · rw [e0]
     refine refOop13_c (I64_small (by omega) (by omega)) ⟨_, rfl, ⟨⟨hc6, trivial⟩, trivial⟩, ?_, ?_⟩
     · rw [refOop_obj b0]
       refine words_r hK5 fun aw lw cw Gw H8 how hf8 hGw => ⟨_, _, _, rfl, ⟨⟨hcell hf8, trivial⟩, trivial⟩, trivial, ?_⟩
       rw [kwg] at how
       have fq := Fr.push [] H8 (.cells #[.int .i64 (4 * (nn : Int) + 2)] 36)
       exact app (hf8.trans fq) (how.fr fq (by simp)) hGw one fun a' l' c' H'' G' k1 k2 k3 k4 => ⟨_, _, _, rfl, trivial, a', l', c', G', rfl, k1, k2, k3, k4⟩
     · have fq := Fr.push [] H5 (.cells #[.int .i64 (4 * (nn : Int) + 2)] 36)
       rw [refOop_obj b0]
       refine ⟨trivial, words_r (hK5.nil fq) fun aw lw cw Gw H8 how hf8 hGw => ⟨_, _, _, rfl, trivial, ?_⟩⟩
       rw [kwg] at how
       exact app (fq.trans hf8) how (fun x hx => Nat.le_trans fq.1 (hGw x hx)) (one.fr' hf8 (by simp)) fun a' l' c' H'' G' k1 k2 k3 k4 => ⟨_, _, _, rfl, trivial, a', l', c', G', rfl, k1, k2, k3, k4⟩
   · have fq := Fr.push [] H5 (.cells #[.int .i64 (4 * (nn : Int) + 2)] 36)
     rw [e0]
     refine ⟨trivial, refOop13_c (I64_small (by omega) (by omega)) ⟨_, rfl, trivial, ?_⟩⟩
     rw [refOop_obj b0]
     refine words_r (hK5.nil fq) fun aw lw cw Gw H8 how hf8 hGw => ⟨_, _, _, rfl, trivial, ?_⟩
     rw [kwg] at how
     exact app (fq.trans hf8) how (fun x hx => Nat.le_trans fq.1 (hGw x hx)) (one.fr' hf8 (by simp)) fun a' l' c' H'' G' k1 k2 k3 k4 => ⟨_, _, _, rfl, trivial, a', l', c', G', rfl, k1, k2, k3, k4⟩
 · have fq := Fr.push [] H5 (.cells #[.int .i64 (4 * (nn : Int) + 2)] 36)
   refine ⟨trivial, slot_r (hK5.nil fq) ⟨_, rfl, trivial, ?_⟩⟩
   rw [e0]
   refine refOop13_c (I64_small (by omega) (by omega)) ⟨_, rfl, trivial, ?_⟩
   rw [refOop_obj b0]
   refine words_r (hK5.nil fq) fun aw lw cw Gw H8 how hf8 hGw => ⟨_, _, _, rfl, trivial, ?_⟩
   rw [kwg] at how
   exact app (fq.trans hf8) how (fun x hx => Nat.le_trans fq.1 (hGw x hx)) (one.fr' hf8 (by simp)) fun a' l' c' H'' G' k1 k2 k3 k4 => ⟨_, _, _, rfl, trivial, a', l', c', G', rfl, k1, k2, k3, k4⟩
 rintro w H6 ⟨a', l', c', G', rfl, hK6, hu6, ho7, hG7⟩ _
 refine ⟨_, _, _, rfl, refObj_c (by decide) ⟨_, rfl, ?_⟩⟩
 rw [show ((4 : Int) * 1) = 4 from rfl]
 have fq := Fr.push [] H6 (.cells #[.int .i64 4] 36)
 have hr4 : Rd 1 (H6.push (.cells #[.int .i64 4] 36)) (some ⟨H6.size, 0, none⟩) 1 (intsV [4]) := rd_new (cs := [4])
 generalize (H6.push (.cells #[.int .i64 4] 36)) = H6' at fq hr4 ⊢
 refine rappend (hu6.trans (Up.of_nil fq)) (hK6.nil fq) (ho7.fr fq (by simp)) hG7 (by simp; omega) hr4 (by decide) fun a8 c8 H8 G8 hK8 hu8 ho8 hG8 => ⟨_, _, _, rfl, ?_⟩
 have ecat : globW v.glob ++ [4 * (nn : Int) + 2] ++ [4] = globW v.glob ++ [4 * (nn : Int) + 2, 4] := by simp
 rw [ecat] at ho8
 have hl8 : l' + 1 ≤ 1000000000 := by have := ho7.len; simp only [intsV, List.length_map, List.length_append, hgl] at this; simp at this; omega
 refine madeA_r hK8 ho8.rd (own_out ho8 fun x hx => (hG8 x hx).2) hl8 fun H9 F9 hK9 hu9 => ⟨_, _, rfl, ?_⟩
 obtain ⟨k1, _⟩ := array_ok hv.ks (by omega) hws
 rw [beqI, cond_dec]
 refine ite_i (fun h6 => ?_) fun h6 => ?_
 · rw [if_neg (by simpa using h6)] at eR
   obtain ⟨sb, Fs, hcs, hS, hsub, _, hup9⟩ := hK9.sp
   refine ⟨_, rfl, _, hcs, rsSetRoot_c hS fun HA hSA hfA => ⟨_, rfl, ?_⟩⟩
   obtain ⟨FA, hKA, huA⟩ := hup9 HA Fs _ hSA ⟨hfA, fun _ h => .inl h⟩
   have := fin _ HA FA eR hKA ((hu8.trans hu9).trans huA)
   rw [h6]; exact this
 · rw [if_pos h6] at eR
   have := fin _ H9 F9 eR hK9 (hu8.trans hu9)
   exact this
end
def planV : List (Int × Int) → List Value
 | [] => []
 | (c, n) :: l => .int .i64 c :: .int .i64 n :: planV l
theorem planV_append (l m : List (Int × Int)) : planV (l ++ m) = planV l ++ planV m := by
 induction l with
 | nil => rfl
 | cons x l ih => obtain ⟨c, n⟩ := x; simp [planV, ih]
theorem planV_len (l : List (Int × Int)) : (planV l).length = 2 * l.length := by
 induction l with
 | nil => rfl
 | cons x l ih => obtain ⟨c, n⟩ := x; simp only [planV, List.length_cons, ih]; omega
theorem planV_one (l : List (Int × Int)) : ∀ v ∈ planV l, oneC v = true := by
 induction l with
 | nil => intro v hv; cases hv
 | cons x l ih =>
   obtain ⟨c, n⟩ := x
   intro v hv
   simp only [planV, List.mem_cons] at hv
   rcases hv with rfl | rfl | hv
   · rfl
   · rfl
   · exact ih v hv
theorem planV_get {l : List (Int × Int)} {i : Nat} (h : i < l.length) : (planV l)[i * 2]? = some (.int .i64 l[i].1) ∧ (planV l)[i * 2 + 1]? = some (.int .i64 l[i].2) := by
 induction l generalizing i with
 | nil => simp at h
 | cons x l ih =>
   obtain ⟨c, n⟩ := x
   cases i with
   | zero => simp [planV]
   | succ i =>
     have := ih (i := i) (by simpa using h)
     have e : (i + 1) * 2 = i * 2 + 2 := by omega
     rw [e]
     simpa [planV] using this
theorem allocAll_cons (r : RH) (x : Int × Int) (l : List (Int × Int)) : r.allocAll (x :: l) = if (r.alloc (4 * x.1) x.2 0).1.2 ≠ 0 then ((r.alloc (4 * x.1) x.2 0).1.2, (r.alloc (4 * x.1) x.2 0).2) else RH.allocAll (r.alloc (4 * x.1) x.2 0).2 l := by
 obtain ⟨c, n⟩ := x; rfl
theorem bootRH_eq (words oops : Int) : bootH (((bootR0 words oops).allocAll bootPlan).2) = bootRH words oops := rfl
theorem boot_objs {words oops : Int} (hz : ((bootR0 words oops).allocAll bootPlan).1 = 0) : ((bootR0 words oops).allocAll bootPlan).2.objs = bootL := by
 rw [allocAll_grow bootPlan (r := bootR0 words oops) rfl hz]; rfl
theorem boot_root {words oops : Int} (hw : WFH (bootRH words oops)) (hz : ((bootR0 words oops).allocAll bootPlan).1 = 0) : ((bootRH words oops).clsAt 19).2 = 0 := by
 obtain ⟨x, hx, _⟩ := bootArr hw hz (p := (19, [80, 72, 72, 72, 4, 8, 12, 4])) (by decide)
 unfold RH.clsAt
 simp only at hx
 rw [hx]
attribute [local irreducible] bootRH bootH bootL
section
variable {H : Heap} {Q : QT}
theorem bootPlan_b : ∀ i (hi : i < bootPlan.length), 1 ≤ (bootPlan[i]).1 ∧ (bootPlan[i]).1 ≤ 65536 := by decide
theorem kboot_k {words oops : Int} (hk : Kinds H) (hbad : ¬ (0 ≤ words ∧ words ≤ 1048576 ∧ 0 ≤ oops ∧ oops ≤ 65536) → Q (.tuple #[.pointer none, .int .i64 1]) H)
   (h1 : (0 ≤ words ∧ words ≤ 1048576 ∧ 0 ≤ oops ∧ oops ≤ 65536) → ((bootR0 words oops).allocAll bootPlan).1 ≠ 0 → ∀ H', Fr [] H H' → Q (.tuple #[.pointer none, .int .i64 ((bootR0 words oops).allocAll bootPlan).1]) H')
   (h2 : (0 ≤ words ∧ words ≤ 1048576 ∧ 0 ≤ oops ∧ oops ≤ 65536) → ((bootR0 words oops).allocAll bootPlan).1 = 0 → ∀ b F H', PK H' b F (bootS words oops) bootT → Fr [] H H' → (∀ x ∈ F, H.size ≤ x) → Q (.tuple #[.pointer (some ⟨b, 0, none⟩), .int .i64 0]) H') :
   callS PP n_k10 #[.int .i64 words, .int .i64 oops] Q H := by
 have hs1 : sliceInfo PP 92 = some (2, 16, some (.agg #[.int .i64 0, .int .i64 0])) := by kernel_rfl
 apply k10_ok
 unfold k10 A0 iV wW; dsimp only [shH]
 refine psNew_c hk (fun hb => ⟨_, _, rfl, hbad hb⟩) fun hg sb F1 H1 hS1 hf1 hF1 => ⟨_, _, rfl, ?_⟩
 simp only [show ((0 : Int) != 0) = false from rfl, cond_false]
 have h1 := h1 hg
 have h2 := h2 hg
 refine ptNew_c (fun hb => absurd ⟨by decide, by decide⟩ hb) fun _ tb F2 H2 hT2 hf2 hF2 => ⟨_, _, rfl, ?_⟩
 simp only [show ((0 : Int) != 0) = false from rfl, cond_false]
 have hf12 := hf1.trans hf2
 have hS2 := hS1.nilfr hf2
 have hgl := hk.lt
 have hK3 : PK (H2.push (.cells #[.pointer (some ⟨sb, 0, none⟩), .pointer (some ⟨tb, 0, none⟩)] 90)) H2.size (H2.size :: (F1 ++ F2)) ⟨bootR0 words oops, 0, [], false, 0, 0, 0⟩ ⟨4096, []⟩ := by
   have fp := Fr.push [] H2 (.cells #[.pointer (some ⟨sb, 0, none⟩), .pointer (some ⟨tb, 0, none⟩)] 90)
   have l1 := hS2.lt
   have l1' := hS1.lt
   have l2 := hT2.lt
   refine ⟨sb, tb, F1, F2, rfl, fun hm => absurd (l1 _ hm) (Nat.lt_irrefl _), fun hm => absurd (l2 _ hm) (Nat.lt_irrefl _), fun x hx hx2 => ?_, ?_, fun hm => ?_, Blk.new _ _ _, hS2.nilfr fp, hT2.fr fp (Disj.nil_right _)⟩
   · have := hF2 x hx2; have := l1' x hx; omega
   · have := hf12.1; omega
   · have := hF2 _ hm; have := hf1.1; omega
 have hf3 : Fr [] H (H2.push (.cells #[.pointer (some ⟨sb, 0, none⟩), .pointer (some ⟨tb, 0, none⟩)] 90)) := hf12.more
 have hF3 : ∀ x ∈ H2.size :: (F1 ++ F2), H.size ≤ x := fun x hx => by
   rcases List.mem_cons.1 hx with rfl | hx
   · exact hf12.1
   · rcases List.mem_append.1 hx with hx | hx
     · exact hF1 x hx
     · exact Nat.le_trans hf1.1 (hF2 x hx)
 generalize hH3 : (H2.push (.cells #[.pointer (some ⟨sb, 0, none⟩), .pointer (some ⟨tb, 0, none⟩)] 90)) = H3 at hK3 hf3 ⊢
 generalize (H2.size :: (F1 ++ F2)) = F3 at hK3 hF3
 apply k48_ok
 unfold k48 A0
 refine ⟨_, _, _, rfl, ?_⟩
 have hlt3 := hK3.lt
 have hO0 : Own 2 (H3.push (.cells (planV [(5, 0), (6, 0), (7, 0)]).toArray 91)) (some ⟨H3.size, 0, none⟩) 3 3 (planV [(5, 0), (6, 0), (7, 0)]) [H3.size] := ⟨rfl, Nat.le_refl _, .inr ⟨H3.size, _, rfl, rfl, Blk.new _ _ _, rfl, rfl⟩⟩
 have fq : Fr [] H3 (H3.push (.cells (planV [(5, 0), (6, 0), (7, 0)]).toArray 91)) := Fr.push _ _ _
 generalize hH4 : (H3.push (.cells (planV [(5, 0), (6, 0), (7, 0)]).toArray 91)) = H4 at hO0 fq
 have hO1 : Own 2 (H4.push (.cells (strsV kNames).toArray 9)) (some ⟨H3.size, 0, none⟩) 3 3 (planV [(5, 0), (6, 0), (7, 0)]) [H3.size] := hO0.fr (Fr.push [] _ _) (by simp)
 have fr1 : Fr [] H3 (H4.push (.cells (strsV kNames).toArray 9)) := fq.more
 show ∃ (I11 : List Value → Heap → Prop) (μ11 : List Value → Heap → Nat), I11 [.slice (some ⟨H3.size, 0, none⟩) 3 3, .int .i64 0] ((H3.push (.cells (planV [(5, 0), (6, 0), (7, 0)]).toArray 91)).push (.cells (strsV kNames).toArray 9)) ∧ _
 rw [hH4]
 generalize (H4.push (.cells (strsV kNames).toArray 9)) = H5 at hO1 fr1 ⊢
 refine ⟨fun w H' => ∃ (i : Nat) (a : Option Addr) (l c : Nat) (G : Foot), w = [.slice a l c, .int .i64 i] ∧ i ≤ 14 ∧ Own 2 H' a l c (planV ([(5, 0), (6, 0), (7, 0)] ++ List.replicate i (12, 7))) G ∧ Fr [] H3 H' ∧ (∀ x ∈ G, H3.size ≤ x), fun w _ => match w with
   | [_, .int _ i] => (14 - i).toNat
   | _ => 0, ⟨0, _, _, _, _, rfl, by decide, hO1, fr1, by simp⟩, ?_⟩
 rintro w H6 ⟨i, a, l, c, G, rfl, hi, ho, hf6, hG⟩ _
 have hl : l = 3 + i := by have := ho.len; rw [planV_len] at this; simp at this; omega
 refine ⟨_, _, _, _, rfl, ?_⟩
 rw [cond_dec]
 refine ite_i (fun hlt => ?_) fun hlt => ?_
 · have e1 : IntKind.wrap .i64 ((i : Int) + 1) = ((i + 1 : Nat) : Int) := by rw [wrap64_id (by omega) (by omega)]; omega
   refine evS_append1 hs1 rfl (by kernel_rfl) ho rfl (by simp [oneC]) (by omega) (by decide) (by decide) fun a' c' G2 H7 g1 g2 g3 => ⟨_, _, _, rfl, ?_⟩
   obtain ⟨f7, hG7⟩ := Up.fresh hf6 g2 hG
   rw [e1]
   refine ⟨⟨i + 1, a', l + 1, c', G2, rfl, by omega, ?_, f7, hG7⟩, by simp; omega⟩
   rw [List.replicate_succ', ← List.append_assoc, planV_append]
   exact g1
 have hi14 : i = 14 := by omega
 subst hi14
 have fl : Fr [] H6 (H6.push (.cells (planV [(11, 0), (11, 8), (11, 14)]).toArray 91)) := Fr.push _ _ _
 refine evS_append (l2 := 3) (ys := planV [(11, 0), (11, 8), (11, 14)]) hs1 rfl (by kernel_rfl) (ho.fr fl (by simp)) ⟨rfl, (fun h => by cases h), fun p hp k hk' => ?_⟩ (planV_one _) (by omega) (by decide) (by decide) fun a' c' G2 H7 g1 g2 g3 => ⟨_, _, _, rfl, ?_⟩
 · cases hp
   rw [add_none, Nat.zero_add]
   exact ((Blk.new H6 (planV [(11, 0), (11, 8), (11, 14)]).toArray 91).cell k).trans (by simp)
 obtain ⟨f7, hG7⟩ := Up.fresh (hf6.trans fl) g2 hG
 rw [← planV_append] at g1
 have ep : [(5, 0), (6, 0), (7, 0)] ++ List.replicate 14 (12, 7) ++ [(11, 0), (11, 8), (11, 14)] = bootPlan := rfl
 rw [ep] at g1
 subst hl
 have hr7 : Rd 2 H7 a' 20 (planV bootPlan) := g1.rd
 have ho7 : Out H7 a' F3 := fun p hp => by
   have hlt := g1.lt
   rcases g1.2.2 with ⟨h3, _⟩ | ⟨b', cs, h3, h4, _⟩
   · rw [h3] at hp; cases hp
   · rw [h3] at hp; cases hp
     have hb' : b' ∈ G2 := by rw [h4]; simp
     exact ⟨hlt _ hb', fun hm => by have h5 := hG7 _ hb'; have h6 := hlt3 _ hm; simp only at h6; omega⟩
 have hK7 := hK3.nil f7
 have hc3 : cellH H3 ⟨H2.size, 0, none⟩ = some (.pointer (some ⟨sb, 0, none⟩)) := by rw [← hH3]; exact (Blk.new H2 _ _).cell 0
 have hc7 : cellH H7 ⟨H2.size, 0, none⟩ = some (.pointer (some ⟨sb, 0, none⟩)) := by rw [cell_fr f7 (by simp) (cell_lt hc3)]; exact hc3
 have hf7 := hf3.trans f7
 have h20 : bootPlan.length = 20 := rfl
 refine ⟨fun w H' => ∃ (k : Nat) (r : RH) (st : List Int) (F' : Foot), w = [.int .i64 k] ∧ k ≤ 20 ∧ PK H' H2.size F' ⟨r, 0, st, false, 0, 0, 0⟩ ⟨4096, []⟩ ∧ Up F3 H7 F' H' ∧ st.length = k ∧ cellH H' ⟨H2.size, 0, none⟩ = some (.pointer (some ⟨sb, 0, none⟩)) ∧ r.allocAll (bootPlan.drop k) = (bootR0 words oops).allocAll bootPlan, fun w _ => match w with
   | [.int _ k] => (20 - k).toNat
   | _ => 0, ⟨0, _, _, _, rfl, by decide, hK7, Up.refl _ _, rfl, hc7, rfl⟩, ?_⟩
 rintro w H8 ⟨k, r, st, F8, rfl, hk20, hK8, hu8, hst, hcb, hall⟩ _
 refine ⟨_, rfl, ?_⟩
 rw [cond_dec]
 refine ite_i (fun hlt => ?_) fun hlt => ?_
 · have hkl : k < bootPlan.length := by omega
   have e1 : IntKind.wrap .i64 ((k : Int) + 1) = ((k + 1 : Nat) : Int) := by rw [wrap64_id (by omega) (by omega)]; omega
   have hr8 : Rd 2 H8 a' 20 (planV bootPlan) := hr7.fr' hu8.1 fun p hp => (ho7 p hp).2
   have hpb := bootPlan_b k hkl
   obtain ⟨q0, q1⟩ := planV_get hkl
   have ed : bootPlan.drop k = bootPlan[k] :: bootPlan.drop (k + 1) := List.drop_eq_getElem_cons hkl
   rw [ed] at hall
   have hex : ∃ q, a' = some q := by
     cases ha : a' with
     | none => have := hr8.2.1 ha; omega
     | some q => exact ⟨q, rfl⟩
   obtain ⟨q, rfl⟩ := hex
   have c0 := hr8.2.2 q rfl (k * 2) (by omega)
   have c1 := hr8.2.2 q rfl (k * 2 + 1) (by omega)
   rw [q0] at c0
   rw [q1] at c1
   have eadd : (q.add (k * 2)).add 1 = q.add (k * 2 + 1) := Addr.add_add _ _ _
   refine ⟨⟨by omega, by omega⟩, _, rfl, _, by rw [Int.toNat_natCast]; exact c0, _, by rw [Int.toNat_natCast, eadd]; exact c1, ?_⟩
   have fpx : Fr [] H8 (H8.push (.cells #[.int .i64 0, .int .i64 0] 91)) := Fr.push _ _ _
   have hBx := Blk.new H8 #[.int .i64 0, .int .i64 0] 91
   generalize (H8.push (.cells #[.int .i64 0, .int .i64 0] 91)) = H9 at fpx hBx ⊢
   have hB9 := (hBx.set 0 (.int .i64 (bootPlan[k]).1)).set 1 (.int .i64 (bootPlan[k]).2)
   have f9 : Fr [] H8 (setH (setH H9 ⟨H8.size, 0, none⟩ (.int .i64 (bootPlan[k]).1)) ⟨H8.size, 1, none⟩ (.int .i64 (bootPlan[k]).2)) := Fr.late (Fr.late fpx (Nat.le_refl _)) (Nat.le_refl _)
   refine ⟨hBx.wr (o := 0) (by simp), (hBx.set 0 _).wr (o := 1) (by simp), ?_⟩
   show ∃ n25 : Int, cellH (setH (setH H9 ⟨H8.size, 0, none⟩ (.int .i64 (bootPlan[k]).1)) ⟨H8.size, 1, none⟩ (.int .i64 (bootPlan[k]).2)) ⟨H8.size, 0, none⟩ = some (.int .i64 n25) ∧ ∃ n26 : Int, cellH (setH (setH H9 ⟨H8.size, 0, none⟩ (.int .i64 (bootPlan[k]).1)) ⟨H8.size, 1, none⟩ (.int .i64 (bootPlan[k]).2)) ⟨H8.size, 1, none⟩ = some (.int .i64 n26) ∧ callS PP n_k20 _ _ (setH (setH H9 ⟨H8.size, 0, none⟩ (.int .i64 (bootPlan[k]).1)) ⟨H8.size, 1, none⟩ (.int .i64 (bootPlan[k]).2))
   generalize (setH (setH H9 ⟨H8.size, 0, none⟩ (.int .i64 (bootPlan[k]).1)) ⟨H8.size, 1, none⟩ (.int .i64 (bootPlan[k]).2)) = HA at hB9 f9 ⊢
   have hKA := hK8.nil f9
   obtain ⟨sbA, FA, hcA, hSA, hsubA, hbA, hupA, hupA2⟩ := hKA.sp
   have esb : sbA = sb := by rw [cell_fr f9 (by simp) (cell_lt hcb), hcb] at hcA; simpa using hcA.symm
   subst esb
   refine ⟨_, hB9.cell 0, _, hB9.cell 1, psHeap_c hSA fun hb FB hRB hsubB hupB => ⟨_, rfl, ⟨⟨hB9.cell 1, trivial⟩, ⟨hB9.cell 0, trivial⟩, trivial⟩, object_c hpb ⟨_, rfl, ⟨⟨hB9.cell 1, trivial⟩, trivial⟩, alloc_c hRB fun HB' hRB' hfB => ⟨_, _, rfl, trivial, ?_⟩⟩⟩⟩
   have hSB := hupB HB' _ hRB' hfB
   have hKB := hupA2 HB' _ hSB (hfB.mono hsubB)
   have huB : Up F8 HA F8 HB' := ⟨(hfB.mono hsubB).mono hsubA, fun _ h => .inl h⟩
   have hu8B : Up F3 H7 F8 HB' := hu8.trans ((Up.of_nil f9).trans huB)
   rw [allocAll_cons] at hall
   rw [bneI, cond_dec]
   refine ite_i (fun he => ?_) fun he => ?_
   · rw [if_pos he] at hall
     have e0 : ((bootR0 words oops).allocAll bootPlan).1 = (r.alloc (4 * (bootPlan[k]).1) (bootPlan[k]).2 0).1.2 := by rw [← hall]
     have := h1 (by rw [e0]; exact he) HB' ?_
     · rw [e0] at this; exact this
     · exact (Up.fresh hf7 hu8B hF3).1
   rw [if_neg he] at hall
   have hz : (r.alloc (4 * (bootPlan[k]).1) (bootPlan[k]).2 0).1.2 = 0 := Classical.byContradiction he
   have hob := alloc_ok hK8.wfs.h hz
   refine object_c ⟨hob.2.1, hob.2.2.1⟩ ⟨_, rfl, ?_⟩
   have fpy : Fr [] HB' (HB'.push (.cells #[.int .i64 (4 * (r.alloc (4 * (bootPlan[k]).1) (bootPlan[k]).2 0).1.1)] 36)) := Fr.push _ _ _
   have hKC := hKB.nil fpy
   obtain ⟨sbC, FC, hcC, hSC, hsubC, hbC, hupC, _⟩ := hKC.sp
   have hcB' : cellH HB' ⟨H2.size, 0, none⟩ = some (.pointer (some ⟨sbA, 0, none⟩)) := by rw [cell_fr hfB (fun hm => hbA (hsubB _ hm)) (cell_lt hcA)]; exact hcA
   have hcP := cell_fr fpy (b := H2.size) (o := 0) (by simp) (cell_lt hcB')
   rw [hcB'] at hcP
   have esb : sbC = sbA := by rw [hcP] at hcC; simpa using hcC.symm
   subst esb
   have hkw := keepW_one (s := ⟨(r.alloc (4 * (bootPlan[k]).1) (bootPlan[k]).2 0).2, 0, st, false, 0, 0, 0⟩) (isW_obj hob.2.1 hob.2.2.1) (by show st.length < 65536; omega)
   refine psKeep_c hSC (rd_new (cs := [4 * (r.alloc (4 * (bootPlan[k]).1) (bootPlan[k]).2 0).1.1])) (by decide) fun HD FD hSD huD => ⟨_, rfl, ?_⟩
   rw [hkw] at hSD ⊢
   simp only [show ((0 : Int) != 0) = false from rfl, cond_false]
   obtain ⟨FE, hKE, huE⟩ := hupC HD FD _ hSD huD
   rw [e1]
   exact ⟨⟨k + 1, _, _, FE, rfl, by omega, hKE, hu8B.trans ((Up.of_nil fpy).trans huE), by simp [hst], by rw [cell_fr huD.1 hbC (cell_lt hcC)]; exact hcC, hall⟩, by simp; omega⟩
 · have hk20' : k = 20 := by omega
   subst hk20'
   have ez : bootPlan.drop 20 = [] := rfl
   rw [ez] at hall
   have hall' : (0, r) = (bootR0 words oops).allocAll bootPlan := hall
   have hz : ((bootR0 words oops).allocAll bootPlan).1 = 0 := by rw [← hall']
   have hrr : r = ((bootR0 words oops).allocAll bootPlan).2 := by rw [← hall']
   have hbH : bootH r = bootRH words oops := by rw [hrr]; exact bootRH_eq _ _
   have hro : r.objs = bootL := by rw [hrr]; exact boot_objs hz
   obtain ⟨sb8, F9, hc8, hS8, _⟩ := hK8.sp
   obtain ⟨hb8, _, _, hcx, _⟩ := hS8.upd
   have esb8 : sb8 = sb := by rw [hcb] at hc8; simpa using hc8.symm
   subst esb8
   refine fill_k hK8 ⟨hc8, hcx⟩ (fun j x hx => ?_) fun H9 FA hKA hBA huA => ⟨rfl, ?_⟩
   · rw [hro] at hx
     exact of_decide_eq_true (List.all_eq_true.1 bootL_fmt x (objAt_some hx).1)
   have hKA' : PK H9 H2.size FA ⟨bootRH words oops, 0, st, false, 0, 0, 0⟩ bootT := by rw [← hbH]; exact hKA
   obtain ⟨sbA, F10, hcA, hSA, hsubA, hbA, _, hupA⟩ := hKA'.sp
   have esb : sbA = sb8 := by have := hBA.1; rw [hcA] at this; simpa using this
   subst esb
   have hwf : WFH (bootRH words oops) := hKA'.wfs.h
   have hcl : ((bootRH words oops).clsAt 19).2 = 0 := boot_root hwf hz
   refine psCrown_c hSA fun HB hSB hfB => ⟨_, rfl, ?_⟩
   have ecr : (SP.crown ⟨bootRH words oops, 0, st, false, 0, 0, 0⟩ 19) = (0, ⟨bootRH words oops, 19, st, false, 0, 0, 0⟩) := by
     unfold SP.crown
     rw [if_neg (by simpa using hcl)]
   rw [ecr] at hSB
   have hKB := hupA HB _ hSB hfB
   obtain ⟨sbB, F11, hcB, hSB', hsubB, _, _, hupB⟩ := hKB.sp
   have esb : sbB = sbA := by rw [cell_fr hfB hbA (cell_lt hcA), hcA] at hcB; simpa using hcB.symm
   subst esb
   refine psDrop_c hSB' ⟨by decide, by decide⟩ fun HC hSC hfC => ⟨_, rfl, ?_⟩
   have edr : (SP.drop ⟨bootRH words oops, 19, st, false, 0, 0, 0⟩ ((20 : Nat) : Int)) = (0, bootS words oops) := by
     unfold SP.drop
     rw [if_neg (by simp only [hst]; decide)]
     simp [hst, bootS]
   have e20 : ((3 + 14 + 3 : Nat) : Int) = ((20 : Nat) : Int) := rfl
   rw [edr] at hSC
   have hKC := hupB HC _ hSC hfC
   have huC : Up F3 H7 FA HC := (hu8.trans huA).trans ⟨(hfB.mono hsubA).trans (hfC.mono hsubB), fun _ h => .inl h⟩
   have := Up.fresh hf7 huC hF3
   exact h2 hz H2.size FA HC hKC this.1 this.2
end
end Go.Proofs.YtmkdkplipbocjaaGreatDoor
namespace Go.Proofs.YtmkdkplipbocjaaGreatDoor
open Kw
def NamesAt (H : Heap) : Prop := ∀ i (hi : i < kNames.length), cellH H ⟨g_kilnref13_Names, i, none⟩ = some (.string kNames[i])
theorem NamesAt.fr {H H' : Heap} {F : Foot} (h : NamesAt H) (hf : Fr F H H') (hn : g_kilnref13_Names ∉ F) : NamesAt H' := fun i hi => by
 rw [cell_fr hf hn (cell_lt (h i hi))]; exact h i hi
theorem NamesAt.lt {H : Heap} (h : NamesAt H) : g_kilnref13_Names < H.size := cell_lt (h 0 (by decide))
theorem lay8 (x : RH) : x.lay 19 0 [80, 72, 72, 72, 4, 8, 12, 4] = ((x.lay 19 0 fillR).put 19 7 4).2 := rfl
theorem boot_put7 (w o m b t : Int) : ((bootH ⟨w, o, m, b, t, bootL⟩).put 19 7 4).2 = bootH ⟨w, o, m, b, t, bootL⟩ := by kernel_rfl
theorem boot_lay8 {words oops : Int} (hz : ((bootR0 words oops).allocAll bootPlan).1 = 0) : (fillN ((bootR0 words oops).allocAll bootPlan).2 14).lay 19 0 [80, 72, 72, 72, 4, 8, 12, 4] = bootRH words oops := by
 have e : ((bootR0 words oops).allocAll bootPlan).2 = ⟨words, oops, 0, 20, 0, bootL⟩ := by
   rw [allocAll_grow bootPlan (r := bootR0 words oops) rfl hz]
   kernel_rfl
 have e2 : bootRH words oops = bootH ⟨words, oops, 0, 20, 0, bootL⟩ := by unfold bootRH; rw [e]
 rw [lay8, e2, e]
 exact boot_put7 words oops 0 20 0
attribute [local irreducible] bootRH bootH bootL
section
variable {H : Heap} {Q : QT}
theorem row_r {k : Nat} (hk : k < bootPlan.length) (h : Q (.tuple #[.int .i64 (bootPlan[k]).1, .int .i64 (bootPlan[k]).2]) H) : callS PP n_k57 #[.int .i64 ((k : Int) + 1)] Q H := by
 apply k57_ok
 unfold k57 iV wW
 have h20 : k < 20 := hk
 rcases k with _ | _ | _ | _ | _ | _ | _ | _ | _ | _ | _ | _ | _ | _ | _ | _ | _ | _ | _ | _ | k
 all_goals first | exact h | omega
theorem boot_r {words oops : Int} (hN : NamesAt H) (hbad : ¬ (0 ≤ words ∧ words ≤ 1048576 ∧ 0 ≤ oops ∧ oops ≤ 65536) → Q (.tuple #[.pointer none, .int .i64 1]) H)
   (h1 : (0 ≤ words ∧ words ≤ 1048576 ∧ 0 ≤ oops ∧ oops ≤ 65536) → ((bootR0 words oops).allocAll bootPlan).1 ≠ 0 → ∀ H', Fr [] H H' → Q (.tuple #[.pointer none, .int .i64 ((bootR0 words oops).allocAll bootPlan).1]) H')
   (h2 : (0 ≤ words ∧ words ≤ 1048576 ∧ 0 ≤ oops ∧ oops ≤ 65536) → ((bootR0 words oops).allocAll bootPlan).1 = 0 → ∀ b F H', RK H' b F (bootS words oops) bootT → Fr [] H H' → (∀ x ∈ F, H.size ≤ x) → Q (.tuple #[.pointer (some ⟨b, 0, none⟩), .int .i64 0]) H') :
   callS PP n_k11 #[.int .i64 words, .int .i64 oops] Q H := by
 have h14 : kNames.length = 14 := rfl
 apply k11_ok
 unfold k11 A0 iV wW
 refine rsNew_c (fun hb => ⟨_, _, rfl, hbad hb⟩) fun hg sb F1 H1 hS1 hf1 hF1 => ⟨_, _, rfl, ?_⟩
 simp only [show ((0 : Int) != 0) = false from rfl, cond_false]
 have h1 := h1 hg
 have h2 := h2 hg
 refine rtNew_c (fun hb => absurd ⟨by decide, by decide⟩ hb) fun _ H2 hT2 hf2 => ⟨_, _, rfl, ?_⟩
 have hf12 := hf1.trans hf2
 have hS2 := hS1.fr hf2 (Disj.nil_right _)
 have hK3 : RK (H2.push (.cells #[.pointer (some ⟨sb, 0, none⟩), .pointer (some ⟨H1.size, 0, none⟩)] 104)) H2.size (H2.size :: (F1 ++ [H1.size])) ⟨bootR0 words oops, 0, [], false, 0, 0, 0⟩ ⟨4096, []⟩ := by
   have fp := Fr.push [] H2 (.cells #[.pointer (some ⟨sb, 0, none⟩), .pointer (some ⟨H1.size, 0, none⟩)] 104)
   have l1 := hS2.lt
   have l1' := hS1.lt
   have l2 := hT2.lt
   exact ⟨sb, H1.size, F1, [H1.size], rfl, fun hm => absurd (l1 _ hm) (Nat.lt_irrefl _), fun hm => absurd (l2 _ hm) (Nat.lt_irrefl _), fun x hx hx2 => by simp only [List.mem_singleton] at hx2; have := l1' x hx; omega, Blk.new _ _ _, hS2.fr fp (Disj.nil_right _), hT2.fr fp (Disj.nil_right _)⟩
 have hf3 : Fr [] H (H2.push (.cells #[.pointer (some ⟨sb, 0, none⟩), .pointer (some ⟨H1.size, 0, none⟩)] 104)) := hf12.more
 have hF3 : ∀ x ∈ H2.size :: (F1 ++ [H1.size]), H.size ≤ x := fun x hx => by
   rcases List.mem_cons.1 hx with rfl | hx
   · exact hf12.1
   · rcases List.mem_append.1 hx with hx | hx
     · exact hF1 x hx
     · simp only [List.mem_singleton] at hx; rw [hx]; exact hf1.1
 have hc0 : cellH (H2.push (.cells #[.pointer (some ⟨sb, 0, none⟩), .pointer (some ⟨H1.size, 0, none⟩)] 104)) ⟨H2.size, 0, none⟩ = some (.pointer (some ⟨sb, 0, none⟩)) := (Blk.new H2 _ _).cell 0
 have hc1 : cellH (H2.push (.cells #[.pointer (some ⟨sb, 0, none⟩), .pointer (some ⟨H1.size, 0, none⟩)] 104)) ⟨H2.size, 1, none⟩ = some (.pointer (some ⟨H1.size, 0, none⟩)) := (Blk.new H2 _ _).cell 1
 generalize (H2.push (.cells #[.pointer (some ⟨sb, 0, none⟩), .pointer (some ⟨H1.size, 0, none⟩)] 104)) = H3 at hK3 hf3 hc0 hc1 ⊢
 generalize (H2.size :: (F1 ++ [H1.size])) = F3 at hK3 hF3
 have h20 : bootPlan.length = 20 := rfl
 have hgF : ∀ {H' : Heap} {F' : Foot}, Up F3 H3 F' H' → g_kilnref13_Names ∉ F' := fun {H' F'} hu hm => by
   have hlt := hN.lt
   rcases hu.2 _ hm with h5 | h5
   · have := hF3 _ h5; omega
   · have := hf3.1; omega
 refine ⟨fun w H' => ∃ (k : Nat) (r : RH) (F' : Foot), w = [.int .i64 ((k : Int) + 1)] ∧ k ≤ 20 ∧ RK H' H2.size F' ⟨r, 0, [], false, 0, 0, 0⟩ ⟨4096, []⟩ ∧ Up F3 H3 F' H' ∧ cellH H' ⟨H2.size, 0, none⟩ = some (.pointer (some ⟨sb, 0, none⟩)) ∧ cellH H' ⟨H2.size, 1, none⟩ = some (.pointer (some ⟨H1.size, 0, none⟩)) ∧ r.allocAll (bootPlan.drop k) = (bootR0 words oops).allocAll bootPlan, fun w _ => match w with
   | [.int _ k] => (21 - k).toNat
   | _ => 0, ⟨0, _, _, rfl, by decide, hK3, Up.refl _ _, hc0, hc1, rfl⟩, ?_⟩
 rintro w H8 ⟨k, r, F8, rfl, hk20, hK8, hu8, hd0, hd1, hall⟩ _
 refine ⟨_, rfl, ?_⟩
 rw [cond_dec]
 refine ite_i (fun hlt => ?_) fun hlt => ?_
 · have hkl : k < bootPlan.length := by omega
   have e1 : IntKind.wrap .i64 ((k : Int) + 1 + 1) = ((k + 1 : Nat) : Int) + 1 := by rw [wrap64_id (by omega) (by omega)]; omega
   have hpb := bootPlan_b k hkl
   have ed : bootPlan.drop k = bootPlan[k] :: bootPlan.drop (k + 1) := List.drop_eq_getElem_cons hkl
   rw [ed, allocAll_cons] at hall
   obtain ⟨sb', hb, FB, hcs, c0, hRB, hsub, hbn, hup⟩ := hK8.hp
   have esb : sb' = sb := by rw [hd0] at hcs; simpa using hcs.symm
   subst esb
   refine row_r hkl ⟨_, _, rfl, _, rfl, _, c0, refObj_c ⟨by omega, by omega⟩ ⟨_, rfl, ⟨⟨c0, trivial⟩, trivial⟩, ralloc_c hRB fun H9 FB' hR9 hu9 => ⟨_, _, rfl, trivial, ?_⟩⟩⟩
   obtain ⟨F9, hK9, hu9'⟩ := hup H9 FB' _ hR9 hu9
   have hbl := hK8.lt _ hK8.bmem
   rw [bneI, cond_dec]
   refine ite_i (fun he => ?_) fun he => ?_
   · rw [if_pos he] at hall
     have e0 : ((bootR0 words oops).allocAll bootPlan).1 = (r.alloc (4 * (bootPlan[k]).1) (bootPlan[k]).2 0).1.2 := by rw [← hall]
     have := h1 (by rw [e0]; exact he) H9 (Up.fresh hf3 (hu8.trans hu9') hF3).1
     rw [e0] at this; exact this
   rw [if_neg he] at hall
   rw [e1]
   exact ⟨⟨k + 1, _, F9, rfl, by omega, hK9, hu8.trans hu9', by rw [cell_fr hu9.1 hbn hbl]; exact hd0, by rw [cell_fr hu9.1 hbn hbl]; exact hd1, hall⟩, by simp; omega⟩
 have hk20' : k = 20 := by omega
 subst hk20'
 have ez : bootPlan.drop 20 = [] := rfl
 rw [ez] at hall
 have hall' : (0, r) = (bootR0 words oops).allocAll bootPlan := hall
 have hz : ((bootR0 words oops).allocAll bootPlan).1 = 0 := by rw [← hall']
 have hrr : r = ((bootR0 words oops).allocAll bootPlan).2 := by rw [← hall']
 have hbH : bootH r = bootRH words oops := by rw [hrr]; exact bootRH_eq _ _
 have hNm : ∀ {H' : Heap} {F' : Foot}, Up F3 H3 F' H' → NamesAt H' := fun {H' F'} hu => by
   have hN3 := hN.fr hf3 (by simp)
   exact hN3.fr hu.1 (fun hm => by have := hF3 _ hm; have := hN.lt; omega)
 refine ⟨fun w H' => ∃ (i : Nat) (F' : Foot), w = [.int .i64 i] ∧ i ≤ 14 ∧ RK H' H2.size F' ⟨fillN r i, 0, [], false, 0, 0, 0⟩ ⟨4096, kNames.take i⟩ ∧ Up F3 H3 F' H' ∧ cellH H' ⟨H2.size, 0, none⟩ = some (.pointer (some ⟨sb, 0, none⟩)) ∧ cellH H' ⟨H2.size, 1, none⟩ = some (.pointer (some ⟨H1.size, 0, none⟩)), fun w _ => match w with
   | [.int _ i] => (14 - i).toNat
   | _ => 0, ⟨0, F8, rfl, by decide, hK8, hu8, hd0, hd1⟩, ?_⟩
 rintro w H9 ⟨i, F9, rfl, hi, hK9, hu9, hx0, hx1⟩ _
 refine ⟨_, rfl, ?_⟩
 rw [cond_dec]
 refine ite_i (fun hlt2 => ?_) fun hlt2 => ?_
 · have hlt' : i < kNames.length := by omega
   have hN9 := hNm hu9 i hlt'
   have e1 : IntKind.wrap .i64 ((i : Int) + 1) = ((i + 1 : Nat) : Int) := by rw [wrap64_id (by omega) (by omega)]; omega
   have e1' : IntKind.wrap .i64 ((i : Int) + 1) = (i : Int) + 1 := wrap64_id (by omega) (by omega)
   have e4 : IntKind.wrap .i64 (4 + (i : Int)) = 4 + (i : Int) := wrap64_id (by omega) (by omega)
   obtain ⟨tb, FT, hct, hT, hsubT, hbT, hupT⟩ := hK9.tb
   have etb : tb = H1.size := by rw [hx1] at hct; simpa using hct.symm
   subst etb
   refine ⟨⟨by omega, hlt2⟩, _, by rw [add_none, Int.toNat_natCast, Nat.mul_one, Nat.zero_add]; exact hN9, tadd_c hT fun HA FT' hTA huA => ⟨_, _, rfl, ?_⟩⟩
   rw [bootAdd hlt'] at hTA
   obtain ⟨FA, hKA, huA'⟩ := hupT HA FT' _ hTA huA
   have hbl9 := hK9.lt _ hK9.bmem
   have hy0 : cellH HA ⟨H2.size, 0, none⟩ = some (.pointer (some ⟨sb, 0, none⟩)) := by rw [cell_fr huA.1 hbT hbl9]; exact hx0
   have hy1 : cellH HA ⟨H2.size, 1, none⟩ = some (.pointer (some ⟨H1.size, 0, none⟩)) := by rw [cell_fr huA.1 hbT hbl9]; exact hx1
   refine refObj_c (by decide) ⟨_, rfl, ?_⟩
   refine ⟨fun w H' => w = [.int .i64 (if i = 0 then 4 else 16)] ∧ H' = HA, ?_, ?_⟩
   · rw [beqI, cond_dec]
     refine ite_i (fun h0 => refObj_c (by decide) ⟨_, rfl, ?_, rfl⟩) fun h0 => ⟨?_, rfl⟩
     · rw [if_pos (by omega)]; rfl
     · rw [if_neg (by omega)]; rfl
   rintro w HA' ⟨rfl, rfl⟩ _
   refine ⟨_, rfl, refSym_c ⟨by omega, by omega⟩ ⟨_, rfl, refObj_c (by decide) ⟨_, rfl, refObj_c (by decide) ⟨_, rfl, refObj_c (by decide) ⟨_, rfl, refInt_c (by decide) ⟨_, rfl, ?_⟩⟩⟩⟩⟩⟩
   rw [e1', e4]
   refine refInt_c ⟨by omega, by omega⟩ ⟨_, rfl, ?_⟩
   have fq := (Fr.push [] HA' (.cells (intsV (fillW i)).toArray 36))
   have hlA := hKA.lt
   refine layB_r (hKA.nil fq) (ws := fillW i) rd_new (fun p hp => by cases hp; exact ⟨by simp, fun hm => absurd (hlA _ hm) (Nat.lt_irrefl _)⟩) (by decide) fun HB FB hKB huB hce => ⟨rfl, ?_⟩
   have hz0 : cellH HB ⟨H2.size, 0, none⟩ = some (.pointer (some ⟨sb, 0, none⟩)) := by rw [hce, cell_fr fq (by simp) (cell_lt hy0)]; exact hy0
   have hz1 : cellH HB ⟨H2.size, 1, none⟩ = some (.pointer (some ⟨H1.size, 0, none⟩)) := by rw [hce, cell_fr fq (by simp) (cell_lt hy1)]; exact hy1
   obtain ⟨sb', hb, FC, hcs, c0, hRC, hsub, hbn, hupC⟩ := hKB.hp
   have esb : sb' = sb := by rw [hz0] at hcs; simpa using hcs.symm
   subst esb
   refine ⟨_, rfl, _, c0, refObj_c ⟨by omega, by omega⟩ ⟨_, rfl, ⟨⟨c0, trivial⟩, trivial⟩, rput_c hRC fun HD hRD hfD => ⟨_, rfl, trivial, ?_⟩⟩⟩
   obtain ⟨FD, hKD, huD⟩ := hupC HD FC _ hRD ⟨hfD, fun _ h => .inl h⟩
   rw [show (i : Int) + 1 = ((i + 1 : Nat) : Int) by omega]
   have hbl := hKB.lt _ hKB.bmem
   refine ⟨⟨i + 1, FD, rfl, by omega, hKD, ?_, by rw [cell_fr hfD hbn hbl]; exact hz0, by rw [cell_fr hfD hbn hbl]; exact hz1⟩, by simp; omega⟩
   exact ((hu9.trans huA').trans ((Up.of_nil fq).trans huB)).trans huD
 · have hi14 : i = 14 := by omega
   subst hi14
   refine refObj_c (by decide) ⟨_, rfl, refObj_c (by decide) ⟨_, rfl, refObj_c (by decide) ⟨_, rfl, refObj_c (by decide) ⟨_, rfl, refObj_c (by decide) ⟨_, rfl, refObj_c (by decide) ⟨_, rfl, refObj_c (by decide) ⟨_, rfl, refObj_c (by decide) ⟨_, rfl, ?_⟩⟩⟩⟩⟩⟩⟩⟩
   have fq := (Fr.push [] H9 (.cells (intsV [80, 72, 72, 72, 4, 8, 12, 4]).toArray 36))
   have hl9 := hK9.lt
   have hrd : Rd 1 (H9.push (.cells (intsV [80, 72, 72, 72, 4, 8, 12, 4]).toArray 36)) (some ⟨H9.size, 0, none⟩) 8 (intsV [80, 72, 72, 72, 4, 8, 12, 4]) := rd_new (cs := [80, 72, 72, 72, 4, 8, 12, 4])
   have hRW : (fillN r 14).lay 19 0 [80, 72, 72, 72, 4, 8, 12, 4] = bootRH words oops := by rw [hrr]; exact boot_lay8 hz
   show callS PP n_k61 _ _ (H9.push (.cells (intsV [80, 72, 72, 72, 4, 8, 12, 4]).toArray 36))
   generalize (H9.push (.cells (intsV [80, 72, 72, 72, 4, 8, 12, 4]).toArray 36)) = H9' at fq hrd ⊢
   have hKq := hK9.nil fq
   have hlq : Out H9' (some ⟨H9.size, 0, none⟩) F9 := fun p hp => by
     cases hp
     have h6 := hrd.2.2 _ rfl 0 (by decide)
     rw [add_none] at h6
     exact ⟨cell_lt (h6.trans (by rfl)), fun hm => absurd (hl9 _ hm) (Nat.lt_irrefl _)⟩
   generalize ([80, 72, 72, 72, 4, 8, 12, 4] : List Int) = W8 at hrd hRW
   generalize fillN r 14 = R8 at hKq hRW
   have eT : (⟨4096, kNames.take 14⟩ : TB) = bootT := rfl
   rw [eT] at hKq
   refine layB_r hKq (ws := W8) hrd hlq (by decide) fun HB FB hKB huB hce => ⟨rfl, ?_⟩
   have hKB : RK HB H2.size FB ⟨R8.lay 19 0 W8, 0, [], false, 0, 0, 0⟩ bootT := hKB
   rw [hRW] at hKB
   have hz0 : cellH HB ⟨H2.size, 0, none⟩ = some (.pointer (some ⟨sb, 0, none⟩)) := by rw [hce, cell_fr fq (by simp) (cell_lt hx0)]; exact hx0
   obtain ⟨sb', FS, hcs, hS, hsubS, _, hupS⟩ := hKB.sp
   have esb : sb' = sb := by rw [hz0] at hcs; simpa using hcs.symm
   subst esb
   refine rsCrown_c hS fun HC hSC hfC => ⟨_, rfl, ?_⟩
   have hwf : WFH (bootRH words oops) := hKB.wfs.h
   have hcl : ((bootRH words oops).clsAt 19).2 = 0 := boot_root hwf hz
   have ecr : (SP.crown ⟨bootRH words oops, 0, [], false, 0, 0, 0⟩ 19) = (0, bootS words oops) := by
     unfold SP.crown
     rw [if_neg (by simpa using hcl)]
     rfl
   rw [ecr] at hSC
   obtain ⟨FC, hKC, huC⟩ := hupS HC FS _ hSC ⟨hfC, fun _ h => .inl h⟩
   have hall2 := Up.fresh hf3 ((hu9.trans ((Up.of_nil fq).trans huB)).trans huC) hF3
   exact h2 hz H2.size FC HC hKC hall2.1 hall2.2
end
end Go.Proofs.YtmkdkplipbocjaaGreatDoor
namespace Go.Proofs.YtmkdkplipbocjaaGreatDoor
open Kw
variable {Q : QT} {H : Heap}
abbrev n_k3 : Nat := 3
def k3 (n1 : Int) (n2 : Int) (Q : QT) (H : Heap) : Prop :=
 callS PP 10 #[iV n1, iV n2] (fun v3 H1 => ∃ p4 n5, v3 = .tuple #[.pointer p4, iV n5] ∧ callS PP 11 #[iV n1, iV n2] (fun v6 H2 => ∃ p7 n8, v6 = .tuple #[.pointer p7, iV n8] ∧ callS PP 12 #[iV n5] (fun v9 H3 => ∃ n10, v9 = iV n10 ∧ cond (n10 != n8) (Q (.bool false) H3) (cond (!((Option.isNone p4) == (Option.isNone p7))) (Q (.bool false) H3) (cond (Option.isNone p4) (callS PP 10 #[iV 160, iV 20] (fun v11 H4 => ∃ p12 n13, v11 = .tuple #[.pointer p12, iV n13] ∧ cond (!(Option.isNone p12)) (callS PP 12 #[iV n13] (fun v14 H5 => ∃ n15, v14 = iV n15 ∧ cond (n15 == 0) (callS PP 13 #[] (fun v16 H6 => ∃ b17, v16 = .bool b17 ∧ Q (.bool b17) H6) H5) (Q (.bool false) H5)) H4) (Q (.bool false) H4)) H3) (callS PP 14 #[.pointer p4, iV 14] (fun v18 H7 => ∃ n19 n20, v18 = .tuple #[iV n19, iV n20] ∧ callS PP 15 #[.pointer p4, .pointer p7] (fun v21 H8 => ∃ b22, v21 = .bool b22 ∧ cond b22 (cond (n19 == 17) (callS PP 12 #[iV n20] (fun v23 H9 => ∃ n24, v23 = iV n24 ∧ cond (n24 == 0) (callS PP 13 #[] (fun v25 H10 => ∃ b26, v25 = .bool b26 ∧ Q (.bool b26) H10) H9) (Q (.bool false) H9)) H8) (Q (.bool false) H8)) (Q (.bool false) H8)) H7) H3)))) H2) H1) H
theorem k3_ok {n1 : Int} {n2 : Int} (h : k3 n1 n2 Q H) : callS PP 3 #[.int .i64 n1, .int .i64 n2] Q H :=
 okF Tryz.func3 rfl h
abbrev n_k6 : Nat := 6
def k6 (n1 : Int) (n2 : Int) (a3 : Option Addr) (l3 : Nat) (_c3 : Nat) (n4 : Int) (Q : QT) (H : Heap) : Prop :=
 callS PP 10 #[iV n1, iV n2] (fun v5 H1 => ∃ p6 n7, v5 = .tuple #[.pointer p6, iV n7] ∧ callS PP 11 #[iV n1, iV n2] (fun v8 H2 => ∃ p9 n10, v8 = .tuple #[.pointer p9, iV n10] ∧ callS PP 12 #[iV n7] (fun v11 H3 => ∃ n12, v11 = iV n12 ∧ cond (n12 != n10) (Q (.bool false) H3) (cond (!((Option.isNone p6) == (Option.isNone p9))) (Q (.bool false) H3) (cond (Option.isNone p6) (callS PP 3 #[iV 160, iV 20] (fun v13 H4 => ∃ b14, v13 = .bool b14 ∧ Q (.bool b14) H4) H3) (∃ (I15 : IT) (μ15 : MT), I15 [.pointer p6, iV 0] H3 ∧ ∀ w16 H5, I15 w16 H5 → ∀ _g : Nat → Value, ∃ p17 n18, w16 = [.pointer p17, iV n18] ∧ cond (decide (n18 < (l3 : Int))) (cond (decide (n18 < 1099511627776)) (cond (n18 == n4) (callS PP 19 #[.pointer p17] (fun v19 H6 => ∃ p20, v19 = .pointer p20 ∧ callS PP 26 #[.pointer p17] (fun v21 H7 => ∃ p22, v21 = .pointer p22 ∧ callS PP 25 #[.pointer p20, .pointer p22] (fun v23 H8 => ∃ p24 n25, v23 = .tuple #[.pointer p24, iV n25] ∧ cond (Option.isNone p24) (Q (.bool false) H8) (callS PP 12 #[iV n25] (fun v26 H9 => ∃ n27, v26 = iV n27 ∧ cond (n27 != 0) (Q (.bool false) H9) (((0 : Int) ≤ n18 ∧ n18 < (l3 : Int)) ∧ ∃ q28, a3 = some q28 ∧ ∃ n29, cellH H9 (q28.add (Int.toNat n18 * 6)) = some (iV n29) ∧ ∃ n30, cellH H9 ((q28.add (Int.toNat n18 * 6)).add 1) = some (iV n30) ∧ ∃ n31, cellH H9 ((q28.add (Int.toNat n18 * 6)).add 2) = some (iV n31) ∧ ∃ s32, cellH H9 ((q28.add (Int.toNat n18 * 6)).add 3) = some (.string s32) ∧ ∃ s33, cellH H9 ((q28.add (Int.toNat n18 * 6)).add 4) = some (.string s33) ∧ ∃ a34 l34 c34, cellH H9 ((q28.add (Int.toNat n18 * 6)).add 5) = some (.slice a34 l34 c34) ∧ callS PP 24 #[.pointer p24, .pointer p9, .agg #[iV n29, iV n30, iV n31, .string s32, .string s33, .slice a34 l34 c34]] (fun v35 H10 => ∃ b36, v35 = .bool b36 ∧ cond (!b36) (Q (.bool false) H10) (I15 [.pointer p24, iV (wW (n18 + 1))] H10 ∧ μ15 [.pointer p24, iV (wW (n18 + 1))] H10 < μ15 w16 H5)) H9)) H8)) H7) H6) H5) (((0 : Int) ≤ n18 ∧ n18 < (l3 : Int)) ∧ ∃ q37, a3 = some q37 ∧ ∃ n38, cellH H5 (q37.add (Int.toNat n18 * 6)) = some (iV n38) ∧ ∃ n39, cellH H5 ((q37.add (Int.toNat n18 * 6)).add 1) = some (iV n39) ∧ ∃ n40, cellH H5 ((q37.add (Int.toNat n18 * 6)).add 2) = some (iV n40) ∧ ∃ s41, cellH H5 ((q37.add (Int.toNat n18 * 6)).add 3) = some (.string s41) ∧ ∃ s42, cellH H5 ((q37.add (Int.toNat n18 * 6)).add 4) = some (.string s42) ∧ ∃ a43 l43 c43, cellH H5 ((q37.add (Int.toNat n18 * 6)).add 5) = some (.slice a43 l43 c43) ∧ callS PP 24 #[.pointer p17, .pointer p9, .agg #[iV n38, iV n39, iV n40, .string s41, .string s42, .slice a43 l43 c43]] (fun v44 H11 => ∃ b45, v44 = .bool b45 ∧ cond (!b45) (Q (.bool false) H11) (I15 [.pointer p17, iV (wW (n18 + 1))] H11 ∧ μ15 [.pointer p17, iV (wW (n18 + 1))] H11 < μ15 w16 H5)) H5)) (callS PP 15 #[.pointer p17, .pointer p9] (fun v46 H12 => ∃ b47, v46 = .bool b47 ∧ cond b47 (callS PP 13 #[] (fun v48 H13 => ∃ b49, v48 = .bool b49 ∧ Q (.bool b49) H13) H12) (Q (.bool false) H12)) H5)) (callS PP 15 #[.pointer p17, .pointer p9] (fun v50 H14 => ∃ b51, v50 = .bool b51 ∧ cond b51 (callS PP 13 #[] (fun v52 H15 => ∃ b53, v52 = .bool b53 ∧ Q (.bool b53) H15) H14) (Q (.bool false) H14)) H5))))) H2) H1) H
theorem k6_ok {n1 : Int} {n2 : Int} {a3 : Option Addr} {l3 : Nat} {c3 : Nat} {n4 : Int} (h : k6 n1 n2 a3 l3 c3 n4 Q H) : callS PP 6 #[.int .i64 n1, .int .i64 n2, .slice a3 l3 c3, .int .i64 n4] Q H :=
 callS_of good Tryz.func6 rfl (Ls := fun | 8 => some [(9, 22), (13, 3)] | _ => none) (by kernel_rfl) h
abbrev n_k12 : Nat := 12
def k12 (n1 : Int) (Q : QT) (H : Heap) : Prop :=
 Q (iV n1) H
theorem k12_ok {n1 : Int} (h : k12 n1 Q H) : callS PP 12 #[.int .i64 n1] Q H :=
 okF Tryz.func12 rfl h
abbrev n_k13 : Nat := 13
def k13  (Q : QT) (H : Heap) : Prop :=
 callS PP 66 #[.pointer none, .string (⟨#[79, 98, 106, 101, 99, 116]⟩ : ByteArray)] (fun v1 H1 => ∃ n2 n3, v1 = .tuple #[iV n2, iV n3] ∧ callS PP 17 #[.pointer none, .string (⟨#[65]⟩ : ByteArray), .string (⟨#[79, 98, 106, 101, 99, 116]⟩ : ByteArray), .slice none 0 0] (fun v4 H2 => ∃ n5 n6, v4 = .tuple #[iV n5, iV n6] ∧ callS PP 67 #[.pointer none, iV 4] (fun v7 H3 => shH (H3.push (.cells #[.string (⟨#[]⟩ : ByteArray), .string (⟨#[]⟩ : ByteArray), .slice none 0 0, iV 0] 121)) fun C3 => ∃ s8 : ByteArray, shH (setH C3 (A0 H3.size) (.string s8)) fun C1 => ∃ s9 : ByteArray, ∃ a10 : Option Addr, ∃ l10 : Nat, ∃ c10 : Nat, shH (setH (setH C1 ((A0 H3.size).add 1) (.string s9)) ((A0 H3.size).add 2) (.slice a10 l10 c10)) fun C2 => ∃ n11 n12, v7 = .tuple #[.agg #[.string s8, .string s9, .slice a10 l10 c10, iV n11], iV n12] ∧ Wr C3 (A0 H3.size) ∧ Wr C1 ((A0 H3.size).add 1) ∧ Wr (setH C1 ((A0 H3.size).add 1) (.string s9)) ((A0 H3.size).add 2) ∧ Wr C2 ((A0 H3.size).add 3) ∧ callS PP 68 #[.pointer none, iV 0] (fun v13 H4 => ∃ n14 n15, v13 = .tuple #[iV n14, iV n15] ∧ callS PP 25 #[.pointer none, .pointer none] (fun v16 H5 => ∃ p17 n18, v16 = .tuple #[.pointer p17, iV n18] ∧ callS PP 18 #[.pointer none, .string (⟨#[71]⟩ : ByteArray)] (fun v19 H6 => ∃ n20, v19 = iV n20 ∧ callS PP 69 #[.pointer none, iV 0, iV 3] (fun v21 H7 => ∃ n22, v21 = iV n22 ∧ ∃ (I23 : IT) (μ23 : MT), I23 [iV 0] (H7.push (.cells #[iV n3, iV n6, iV n12, iV n15, iV n18, iV n20, iV n22] 23)) ∧ ∀ w24 H8, I23 w24 H8 → ∀ _g : Nat → Value, ∃ n25, w24 = [iV n25] ∧ cond (decide (n25 < (7 : Int))) (((0 : Int) ≤ n25 ∧ n25 < (7 : Int)) ∧ ∃ q26, (some (A0 H7.size)) = some q26 ∧ ∃ n27, cellH H8 (q26.add (Int.toNat n25 * 1)) = some (iV n27) ∧ callS PP 12 #[iV n27] (fun v28 H9 => ∃ n29, v28 = iV n29 ∧ cond (n29 != 2) (Q (.bool false) H9) (I23 [iV (wW (n25 + 1))] H9 ∧ μ23 [iV (wW (n25 + 1))] H9 < μ23 w24 H8)) H8) (cond (n2 == 0) (cond (n5 == 0) (∃ s30, cellH H8 (A0 H3.size) = some (.string s30) ∧ cond (strEq s30 (⟨#[]⟩ : ByteArray)) (cond (n14 == 0) (cond (Option.isNone p17) (callS PP 70 #[.pointer none] (fun v31 H10 => ∃ n32, v31 = iV n32 ∧ cond (n32 == 0) (callS PP 71 #[.pointer none] (fun v33 H11 => ∃ a34 l34 c34, v33 = .slice a34 l34 c34 ∧ cond ((l34 : Int) == 0) (callS PP 72 #[.pointer none, iV 4] (fun v35 H12 => ∃ a36 l36 c36, v35 = .slice a36 l36 c36 ∧ cond ((l36 : Int) == 0) (callS PP 19 #[.pointer none] (fun v37 H13 => ∃ p38, v37 = .pointer p38 ∧ cond (Option.isNone p38) (callS PP 26 #[.pointer none] (fun v39 H14 => ∃ p40, v39 = .pointer p40 ∧ Q (.bool (Option.isNone p40)) H14) H13) (Q (.bool false) H13)) H12) (Q (.bool false) H12)) H11) (Q (.bool false) H11)) H10) (Q (.bool false) H10)) H8) (Q (.bool false) H8)) (Q (.bool false) H8)) (Q (.bool false) H8)) (Q (.bool false) H8)) (Q (.bool false) H8))) H6) H5) H4) (setH C2 ((A0 H3.size).add 3) (iV n11))) H2) H1) H
theorem k13_ok  (h : k13  Q H) : callS PP 13 #[] Q H :=
 callS_of good Tryz.func13 rfl (Ls := fun | 9 => some [(13, 3)] | _ => none) (by kernel_rfl) h
abbrev n_k15 : Nat := 15
def k15 (p1 : Option Addr) (p2 : Option Addr) (Q : QT) (H : Heap) : Prop :=
 callS PP 40 #[.pointer p2] (fun v3 H1 => ∃ a4 l4 c4, v3 = .slice a4 l4 c4 ∧ callS PP 70 #[.pointer p1] (fun v5 H2 => ∃ n6, v5 = iV n6 ∧ True ∧ cond (n6 != (l4 : Int)) (Q (.bool false) H2) (callS PP 71 #[.pointer p1] (fun v7 H3 => ∃ a8 l8 c8, v7 = .slice a8 l8 c8 ∧ True ∧ callS PP 78 #[.pointer p2] (fun v9 H4 => ∃ a10 l10 c10, v9 = .slice a10 l10 c10 ∧ True ∧ callS PP 77 #[.slice a8 l8 c8, .slice a10 l10 c10] (fun v11 H5 => ∃ b12, v11 = .bool b12 ∧ True ∧ cond (!b12) (Q (.bool false) H5) (∃ q13, p2 = some q13 ∧ ∃ p14, cellH H5 (q13.add 1) = some (.pointer p14) ∧ callS PP 26 #[.pointer p1] (fun v15 H6 => ∃ p16, v15 = .pointer p16 ∧ ((cellH H6 (q13.add 1) = some (.pointer p14) ∧ True) ∧ True) ∧ callS PP 79 #[.pointer p16] (fun v17 H7 => ∃ a18 l18 c18, v17 = .slice a18 l18 c18 ∧ ((cellH H7 (q13.add 1) = some (.pointer p14) ∧ True) ∧ True) ∧ callS PP 80 #[.pointer p14] (fun v19 H8 => ∃ a20 l20 c20, v19 = .slice a20 l20 c20 ∧ True ∧ callS PP 77 #[.slice a18 l18 c18, .slice a20 l20 c20] (fun v21 H9 => ∃ b22, v21 = .bool b22 ∧ True ∧ cond (!b22) (Q (.bool false) H9) (∃ q23, p2 = some q23 ∧ ∃ p24, cellH H9 q23 = some (.pointer p24) ∧ ∃ q25, p24 = some q25 ∧ ∃ p26, cellH H9 q25 = some (.pointer p26) ∧ callS PP 19 #[.pointer p1] (fun v27 H10 => ∃ p28, v27 = .pointer p28 ∧ ((cellH H10 q25 = some (.pointer p26) ∧ True) ∧ ((cellH H10 q23 = some (.pointer p24) ∧ True) ∧ True)) ∧ callS PP 20 #[.pointer p28] (fun v29 H11 => ∃ p30, v29 = .pointer p30 ∧ ((cellH H11 q25 = some (.pointer p26) ∧ True) ∧ ((cellH H11 q23 = some (.pointer p24) ∧ True) ∧ True)) ∧ callS PP 81 #[.pointer p30] (fun v31 H12 => ∃ n32, v31 = iV n32 ∧ ((cellH H12 q25 = some (.pointer p26) ∧ True) ∧ ((cellH H12 q23 = some (.pointer p24) ∧ True) ∧ True)) ∧ callS PP 82 #[.pointer p26] (fun v33 H13 => ∃ n34, v33 = iV n34 ∧ True ∧ cond (n32 != n34) (Q (.bool false) H13) (callS PP 19 #[.pointer p1] (fun v35 H14 => ∃ p36, v35 = .pointer p36 ∧ True ∧ callS PP 83 #[.pointer p36] (fun v37 H15 => ∃ a38 l38 c38, v37 = .slice a38 l38 c38 ∧ True ∧ cond ((l38 : Int) != 0) (Q (.bool false) H15) (∃ (I39 : IT) (μ39 : MT), I39 [iV 0] H15 ∧ ∀ w40 H16, I39 w40 H16 → ∀ _g : Nat → Value, ∃ n41, w40 = [iV n41] ∧ cond (decide (n41 < (l4 : Int))) (((0 : Int) ≤ n41 ∧ n41 < (l4 : Int)) ∧ ∃ q42, a4 = some q42 ∧ ∃ n43, cellH H16 (q42.add (Int.toNat n41 * 1)) = some (iV n43) ∧ callS PP 84 #[.pointer p1, .pointer p2, iV n43] (fun v44 H17 => ∃ b45, v44 = .bool b45 ∧ cond (!b45) (Q (.bool false) H17) (I39 [iV (wW (n41 + 1))] H17 ∧ μ39 [iV (wW (n41 + 1))] H17 < μ39 w40 H16)) H16) (callS PP 19 #[.pointer p1] (fun v46 H18 => ∃ p47, v46 = .pointer p47 ∧ callS PP 85 #[.pointer p47] (fun v48 H19 => ∃ n49 n50, v48 = .tuple #[iV n49, iV n50] ∧ ∃ q51, p2 = some q51 ∧ ∃ p52, cellH H19 q51 = some (.pointer p52) ∧ callS PP 86 #[.pointer p52] (fun v53 H20 => ∃ n54 n55, v53 = .tuple #[iV n54, iV n55] ∧ cond (n49 == n54) (Q (.bool (n50 == n55)) H20) (Q (.bool false) H20)) H19) H18) H16))) H14) H13)) H12) H11) H10) H9)) H8) H7) H6) H5)) H4) H3) H2)) H1) H
theorem k15_ok {p1 : Option Addr} {p2 : Option Addr} (h : k15 p1 p2 Q H) : callS PP 15 #[.pointer p1, .pointer p2] Q H :=
 callS_of good Tryz.func15 rfl (Ls := fun | 5 => some [(6, 3)] | _ => none) (by kernel_rfl) h
abbrev n_k24 : Nat := 24
def k24 (p1 : Option Addr) (p2 : Option Addr) (n3 : Int) (n4 : Int) (n5 : Int) (s6 : ByteArray) (s7 : ByteArray) (a8 : Option Addr) (l8 : Nat) (c8 : Nat) (Q : QT) (H : Heap) : Prop :=
 shH (H.push (.cells #[iV n3, iV n4, iV n5, .string s6, .string s7, .slice a8 l8 c8] 39)) fun C1 => ∃ n9, cellH C1 (A0 H.size) = some (iV n9) ∧ cond (n9 == 1) (∃ a10 l10 c10, cellH C1 ((A0 H.size).add 5) = some (.slice a10 l10 c10) ∧ callS PP 102 #[.slice a10 l10 c10] (fun v11 H1 => ∃ a12 l12 c12, v11 = .slice a12 l12 c12 ∧ ∃ s13, cellH H1 ((A0 H.size).add 3) = some (.string s13) ∧ ∃ s14, cellH H1 ((A0 H.size).add 4) = some (.string s14) ∧ ∃ a15 l15 c15, cellH H1 ((A0 H.size).add 5) = some (.slice a15 l15 c15) ∧ ((0 : Int) ≤ (l15 : Int) ∧ (l15 : Int) ≤ (c12 : Int)) ∧ callS PP 17 #[.pointer p1, .string s13, .string s14, .slice a12 (Int.toNat (l15 : Int)) c12] (fun v16 H2 => ∃ n17 n18, v16 = .tuple #[iV n17, iV n18] ∧ True ∧ ∃ s19, cellH H2 ((A0 H.size).add 3) = some (.string s19) ∧ ∃ s20, cellH H2 ((A0 H.size).add 4) = some (.string s20) ∧ ∃ a21 l21 c21, cellH H2 ((A0 H.size).add 5) = some (.slice a21 l21 c21) ∧ callS PP 103 #[.pointer p2, .string s19, .string s20, .slice a21 l21 c21] (fun v22 H3 => ∃ n23 n24, v22 = .tuple #[iV n23, iV n24] ∧ ∃ a25 l25 c25, cellH H3 ((A0 H.size).add 5) = some (.slice a25 l25 c25) ∧ callS PP 102 #[.slice a25 l25 c25] (fun v26 H4 => ∃ a27 l27 c27, v26 = .slice a27 l27 c27 ∧ callS PP 77 #[.slice a12 l12 c12, .slice a27 l27 c27] (fun v28 H5 => ∃ b29, v28 = .bool b29 ∧ callS PP 104 #[.slice a12 l12 c12] (fun v30 H6 => v30 = .tuple #[] ∧ cond (n17 == n23) (callS PP 12 #[iV n18] (fun v31 H7 => ∃ n32, v31 = iV n32 ∧ cond (n32 == n24) (Q (.bool b29) H7) (Q (.bool false) H7)) H6) (Q (.bool false) H6)) H5) H4) H3) H2) H1) C1) (cond (n9 == 2) (∃ s33, cellH C1 ((A0 H.size).add 3) = some (.string s33) ∧ ∃ s34, cellH C1 ((A0 H.size).add 3) = some (.string s34) ∧ callS PP 18 #[.pointer p1, .string s33] (fun v35 H8 => ∃ n36, v35 = iV n36 ∧ ((cellH H8 ((A0 H.size).add 3) = some (.string s34) ∧ True) ∧ True) ∧ callS PP 12 #[iV n36] (fun v37 H9 => ∃ n38, v37 = iV n38 ∧ ((cellH H9 ((A0 H.size).add 3) = some (.string s34) ∧ True) ∧ True) ∧ callS PP 27 #[.pointer p2, .string s34] (fun v39 H10 => ∃ n40, v39 = iV n40 ∧ True ∧ Q (.bool (n38 == n40)) H10) H9) H8) C1) (cond (n9 == 3) (∃ n41, cellH C1 ((A0 H.size).add 1) = some (iV n41) ∧ ∃ n42, cellH C1 ((A0 H.size).add 2) = some (iV n42) ∧ ∃ n43, cellH C1 ((A0 H.size).add 1) = some (iV n43) ∧ ∃ n44, cellH C1 ((A0 H.size).add 2) = some (iV n44) ∧ callS PP 69 #[.pointer p1, iV n41, iV n42] (fun v45 H11 => ∃ n46, v45 = iV n46 ∧ ((cellH H11 ((A0 H.size).add 2) = some (iV n44) ∧ True) ∧ ((cellH H11 ((A0 H.size).add 1) = some (iV n43) ∧ True) ∧ True)) ∧ callS PP 12 #[iV n46] (fun v47 H12 => ∃ n48, v47 = iV n48 ∧ ((cellH H12 ((A0 H.size).add 2) = some (iV n44) ∧ True) ∧ ((cellH H12 ((A0 H.size).add 1) = some (iV n43) ∧ True) ∧ True)) ∧ callS PP 105 #[.pointer p2, iV n43, iV n44] (fun v49 H13 => ∃ n50, v49 = iV n50 ∧ True ∧ Q (.bool (n48 == n50)) H13) H12) H11) C1) (cond (n9 == 4) (∃ n51, cellH C1 ((A0 H.size).add 1) = some (iV n51) ∧ callS PP 68 #[.pointer p1, iV n51] (fun v52 H14 => ∃ n53 n54, v52 = .tuple #[iV n53, iV n54] ∧ ∃ n55, cellH H14 ((A0 H.size).add 1) = some (iV n55) ∧ callS PP 106 #[.pointer p2, iV n55] (fun v56 H15 => ∃ n57 n58, v56 = .tuple #[iV n57, iV n58] ∧ cond (n53 == n57) (callS PP 12 #[iV n54] (fun v59 H16 => ∃ n60, v59 = iV n60 ∧ Q (.bool (n60 == n58)) H16) H15) (Q (.bool false) H15)) H14) C1) (cond (n9 == 5) (∃ n61, cellH C1 ((A0 H.size).add 1) = some (iV n61) ∧ ∃ q62, p2 = some q62 ∧ ∃ p63, cellH C1 q62 = some (.pointer p63) ∧ ∃ q64, p63 = some q64 ∧ ∃ p65, cellH C1 q64 = some (.pointer p65) ∧ ∃ n66, cellH C1 ((A0 H.size).add 1) = some (iV n66) ∧ callS PP 19 #[.pointer p1] (fun v67 H17 => ∃ p68, v67 = .pointer p68 ∧ ((cellH H17 ((A0 H.size).add 1) = some (iV n66) ∧ True) ∧ ((cellH H17 q64 = some (.pointer p65) ∧ True) ∧ ((cellH H17 q62 = some (.pointer p63) ∧ True) ∧ ((cellH H17 ((A0 H.size).add 1) = some (iV n61) ∧ True) ∧ True)))) ∧ callS PP 20 #[.pointer p68] (fun v69 H18 => ∃ p70, v69 = .pointer p70 ∧ ((cellH H18 ((A0 H.size).add 1) = some (iV n66) ∧ True) ∧ ((cellH H18 q64 = some (.pointer p65) ∧ True) ∧ ((cellH H18 q62 = some (.pointer p63) ∧ True) ∧ ((cellH H18 ((A0 H.size).add 1) = some (iV n61) ∧ True) ∧ True)))) ∧ callS PP 21 #[.pointer p70, iV n61] (fun v71 H19 => ∃ n72, v71 = iV n72 ∧ ((cellH H19 ((A0 H.size).add 1) = some (iV n66) ∧ True) ∧ ((cellH H19 q64 = some (.pointer p65) ∧ True) ∧ ((cellH H19 q62 = some (.pointer p63) ∧ True) ∧ True))) ∧ callS PP 12 #[iV n72] (fun v73 H20 => ∃ n74, v73 = iV n74 ∧ ((cellH H20 ((A0 H.size).add 1) = some (iV n66) ∧ True) ∧ ((cellH H20 q64 = some (.pointer p65) ∧ True) ∧ ((cellH H20 q62 = some (.pointer p63) ∧ True) ∧ True))) ∧ callS PP 107 #[.pointer p65, iV n66] (fun v75 H21 => ∃ n76, v75 = iV n76 ∧ True ∧ Q (.bool (n74 == n76)) H21) H20) H19) H18) H17) C1) (cond (n9 == 6) (callS PP 19 #[.pointer p1] (fun v77 H22 => ∃ p78, v77 = .pointer p78 ∧ callS PP 108 #[.pointer p78] (fun v79 H23 => ∃ n80 n81 n82, v79 = .tuple #[iV n80, iV n81, iV n82] ∧ ∃ q83, p2 = some q83 ∧ ∃ p84, cellH H23 q83 = some (.pointer p84) ∧ callS PP 109 #[.pointer p84] (fun v85 H24 => ∃ n86 n87 n88, v85 = .tuple #[iV n86, iV n87, iV n88] ∧ Q (.bool true) H24) H23) H22) C1) (cond (n9 == 7) (∃ n89, cellH C1 ((A0 H.size).add 1) = some (iV n89) ∧ callS PP 84 #[.pointer p1, .pointer p2, iV n89] (fun v90 H25 => ∃ b91, v90 = .bool b91 ∧ Q (.bool b91) H25) C1) (cond (n9 == 8) (∃ s92, cellH C1 ((A0 H.size).add 3) = some (.string s92) ∧ callS PP 66 #[.pointer p1, .string s92] (fun v93 H26 => ∃ n94 n95, v93 = .tuple #[iV n94, iV n95] ∧ ∃ s96, cellH H26 ((A0 H.size).add 3) = some (.string s96) ∧ callS PP 110 #[.pointer p2, .string s96] (fun v97 H27 => ∃ n98 n99, v97 = .tuple #[iV n98, iV n99] ∧ cond (n94 == n98) (callS PP 12 #[iV n95] (fun v100 H28 => ∃ n101, v100 = iV n101 ∧ Q (.bool (n101 == n99)) H28) H27) (Q (.bool false) H27)) H26) C1) (cond (n9 == 9) (∃ n102, cellH C1 ((A0 H.size).add 1) = some (iV n102) ∧ callS PP 14 #[.pointer p1, iV n102] (fun v103 H29 => ∃ n104 n105, v103 = .tuple #[iV n104, iV n105] ∧ ∃ n106, cellH H29 ((A0 H.size).add 1) = some (iV n106) ∧ callS PP 111 #[.pointer p2, iV n106] (fun v107 H30 => ∃ n108 n109, v107 = .tuple #[iV n108, iV n109] ∧ cond (n104 == n108) (callS PP 12 #[iV n105] (fun v110 H31 => ∃ n111, v110 = iV n111 ∧ Q (.bool (n111 == n109)) H31) H30) (Q (.bool false) H30)) H29) C1) (cond (n9 == 10) (∃ n112, cellH C1 ((A0 H.size).add 2) = some (iV n112) ∧ callS PP 112 #[.pointer p1, iV n112] (fun v113 H32 => ∃ n114 n115, v113 = .tuple #[iV n114, iV n115] ∧ ∃ n116, cellH H32 ((A0 H.size).add 2) = some (iV n116) ∧ callS PP 113 #[.pointer p2, iV n116] (fun v117 H33 => ∃ n118 n119, v117 = .tuple #[iV n118, iV n119] ∧ cond (n114 == n118) (callS PP 12 #[iV n115] (fun v120 H34 => ∃ n121, v120 = iV n121 ∧ Q (.bool (n121 == n119)) H34) H33) (Q (.bool false) H33)) H32) C1) (cond (n9 == 11) (callS PP 15 #[.pointer p1, .pointer p2] (fun v122 H35 => ∃ b123, v122 = .bool b123 ∧ Q (.bool b123) H35) C1) (Q (.bool true) C1)))))))))))
theorem k24_ok {p1 : Option Addr} {p2 : Option Addr} {n3 : Int} {n4 : Int} {n5 : Int} {s6 : ByteArray} {s7 : ByteArray} {a8 : Option Addr} {l8 : Nat} {c8 : Nat} (h : k24 p1 p2 n3 n4 n5 s6 s7 a8 l8 c8 Q H) : callS PP 24 #[.pointer p1, .pointer p2, .agg #[.int .i64 n3, .int .i64 n4, .int .i64 n5, .string s6, .string s7, .slice a8 l8 c8]] Q H :=
 okF Tryz.func24 rfl h
abbrev n_k77 : Nat := 77
def k77 (a1 : Option Addr) (l1 : Nat) (_c1 : Nat) (a2 : Option Addr) (l2 : Nat) (_c2 : Nat) (Q : QT) (H : Heap) : Prop :=
 cond ((l1 : Int) != (l2 : Int)) (Q (.bool false) H) (∃ (I3 : IT) (μ3 : MT), I3 [iV 0] H ∧ ∀ w4 H1, I3 w4 H1 → ∀ _g : Nat → Value, ∃ n5, w4 = [iV n5] ∧ cond (decide (n5 < (l1 : Int))) (((0 : Int) ≤ n5 ∧ n5 < (l1 : Int)) ∧ ∃ q6, a1 = some q6 ∧ ∃ s7, cellH H1 (q6.add (Int.toNat n5 * 1)) = some (.string s7) ∧ ((0 : Int) ≤ n5 ∧ n5 < (l2 : Int)) ∧ ∃ q8, a2 = some q8 ∧ ∃ s9, cellH H1 (q8.add (Int.toNat n5 * 1)) = some (.string s9) ∧ cond (!(strEq s7 s9)) (Q (.bool false) H1) (I3 [iV (wW (n5 + 1))] H1 ∧ μ3 [iV (wW (n5 + 1))] H1 < μ3 w4 H1)) (Q (.bool true) H1))
theorem k77_ok {a1 : Option Addr} {l1 : Nat} {c1 : Nat} {a2 : Option Addr} {l2 : Nat} {c2 : Nat} (h : k77 a1 l1 c1 a2 l2 c2 Q H) : callS PP 77 #[.slice a1 l1 c1, .slice a2 l2 c2] Q H :=
 callS_of good Tryz.func77 rfl (Ls := fun | 4 => some [(5, 3)] | _ => none) (by kernel_rfl) h
abbrev n_k84 : Nat := 84
def k84 (p1 : Option Addr) (p2 : Option Addr) (n3 : Int) (Q : QT) (H : Heap) : Prop :=
 callS PP 67 #[.pointer p1, iV n3] (fun v4 H1 => shH (H1.push (.cells #[.string (⟨#[]⟩ : ByteArray), .string (⟨#[]⟩ : ByteArray), .slice none 0 0, iV 0] 121)) fun C5 => ∃ s5 : ByteArray, shH (setH C5 (A0 H1.size) (.string s5)) fun C2 => ∃ s6 : ByteArray, ∃ a7 : Option Addr, ∃ l7 : Nat, ∃ c7 : Nat, shH (setH (setH C2 ((A0 H1.size).add 1) (.string s6)) ((A0 H1.size).add 2) (.slice a7 l7 c7)) fun C4 => ∃ n8 n9, v4 = .tuple #[.agg #[.string s5, .string s6, .slice a7 l7 c7, iV n8], iV n9] ∧ Wr C5 (A0 H1.size) ∧ Wr C2 ((A0 H1.size).add 1) ∧ Wr (setH C2 ((A0 H1.size).add 1) (.string s6)) ((A0 H1.size).add 2) ∧ Wr C4 ((A0 H1.size).add 3) ∧ callS PP 124 #[.pointer p2, iV n3] (fun v10 H2 => shH (H2.push (.cells #[.string (⟨#[]⟩ : ByteArray), .string (⟨#[]⟩ : ByteArray), .slice none 0 0, iV 0] 121)) fun C6 => ∃ s11 : ByteArray, shH (setH C6 (A0 H2.size) (.string s11)) fun C1 => ∃ s12 : ByteArray, ∃ a13 : Option Addr, ∃ l13 : Nat, ∃ c13 : Nat, shH (setH (setH C1 ((A0 H2.size).add 1) (.string s12)) ((A0 H2.size).add 2) (.slice a13 l13 c13)) fun C3 => ∃ n14 n15, v10 = .tuple #[.agg #[.string s11, .string s12, .slice a13 l13 c13, iV n14], iV n15] ∧ Wr C6 (A0 H2.size) ∧ Wr C1 ((A0 H2.size).add 1) ∧ Wr (setH C1 ((A0 H2.size).add 1) (.string s12)) ((A0 H2.size).add 2) ∧ Wr C3 ((A0 H2.size).add 3) ∧ callS PP 12 #[iV n9] (fun v16 H3 => ∃ n17, v16 = iV n17 ∧ cond (n17 != n15) (Q (.bool false) H3) (∃ s18, cellH H3 (A0 H1.size) = some (.string s18) ∧ ∃ s19, cellH H3 ((A0 H1.size).add 1) = some (.string s19) ∧ ∃ a20 l20 c20, cellH H3 ((A0 H1.size).add 2) = some (.slice a20 l20 c20) ∧ ∃ n21, cellH H3 ((A0 H1.size).add 3) = some (iV n21) ∧ ∃ s22, cellH H3 (A0 H2.size) = some (.string s22) ∧ ∃ s23, cellH H3 ((A0 H2.size).add 1) = some (.string s23) ∧ ∃ a24 l24 c24, cellH H3 ((A0 H2.size).add 2) = some (.slice a24 l24 c24) ∧ ∃ n25, cellH H3 ((A0 H2.size).add 3) = some (iV n25) ∧ callS PP 100 #[.agg #[.string s18, .string s19, .slice a20 l20 c20, iV n21], .agg #[.string s22, .string s23, .slice a24 l24 c24, iV n25]] (fun v26 H4 => ∃ b27, v26 = .bool b27 ∧ cond (!b27) (Q (.bool false) H4) (callS PP 188 #[.pointer p1, iV n3] (fun v28 H5 => ∃ n29 n30, v28 = .tuple #[iV n29, iV n30] ∧ callS PP 189 #[.pointer p2, iV n3] (fun v31 H6 => ∃ n32 n33, v31 = .tuple #[iV n32, iV n33] ∧ cond (n29 != n32) (Q (.bool false) H6) (callS PP 12 #[iV n30] (fun v34 H7 => ∃ n35, v34 = iV n35 ∧ cond (n35 != n33) (Q (.bool false) H7) (callS PP 190 #[.pointer p1, iV n3] (fun v36 H8 => ∃ n37 n38, v36 = .tuple #[iV n37, iV n38] ∧ callS PP 191 #[.pointer p2, iV n3] (fun v39 H9 => ∃ n40 n41, v39 = .tuple #[iV n40, iV n41] ∧ cond (n37 != n40) (Q (.bool false) H9) (callS PP 12 #[iV n38] (fun v42 H10 => ∃ n43, v42 = iV n43 ∧ cond (n43 != n41) (Q (.bool false) H10) (callS PP 192 #[.pointer p1, iV n3] (fun v44 H11 => ∃ n45 n46, v44 = .tuple #[iV n45, iV n46] ∧ callS PP 193 #[.pointer p2, iV n3] (fun v47 H12 => ∃ n48 n49, v47 = .tuple #[iV n48, iV n49] ∧ cond (n45 != n48) (Q (.bool false) H12) (callS PP 12 #[iV n46] (fun v50 H13 => ∃ n51, v50 = iV n51 ∧ cond (n51 != n49) (Q (.bool false) H13) (callS PP 101 #[.pointer p1, iV n3] (fun v52 H14 => ∃ a53 l53, ∃ c53 n54, v52 = .tuple #[.slice a53 l53 c53, iV n54] ∧ callS PP 125 #[.pointer p2, iV n3] (fun v55 H15 => ∃ a56 l56, ∃ c56 n57, v55 = .tuple #[.slice a56 l56 c56, iV n57] ∧ callS PP 12 #[iV n54] (fun v58 H16 => ∃ n59, v58 = iV n59 ∧ cond (n59 == n57) (callS PP 77 #[.slice a53 l53 c53, .slice a56 l56 c56] (fun v60 H17 => ∃ b61, v60 = .bool b61 ∧ cond b61 (callS PP 72 #[.pointer p1, iV n3] (fun v62 H18 => ∃ a63 l63 c63, v62 = .slice a63 l63 c63 ∧ callS PP 126 #[.pointer p2, iV n3] (fun v64 H19 => ∃ a65 l65 c65, v64 = .slice a65 l65 c65 ∧ callS PP 127 #[.slice a63 l63 c63, .slice a65 l65 c65] (fun v66 H20 => ∃ b67, v66 = .bool b67 ∧ Q (.bool b67) H20) H19) H18) H17) (Q (.bool false) H17)) H16) (Q (.bool false) H16)) H15) H14) H13)) H12)) H11) H10)) H9)) H8) H7)) H6)) H5) H4)) H3)) (setH C3 ((A0 H2.size).add 3) (iV n14))) (setH C4 ((A0 H1.size).add 3) (iV n8))) H
theorem k84_ok {p1 : Option Addr} {p2 : Option Addr} {n3 : Int} (h : k84 p1 p2 n3 Q H) : callS PP 84 #[.pointer p1, .pointer p2, .int .i64 n3] Q H :=
 okF Tryz.func84 rfl h
abbrev n_k100 : Nat := 100
def k100 (s1 : ByteArray) (s2 : ByteArray) (a3 : Option Addr) (l3 : Nat) (c3 : Nat) (n4 : Int) (s5 : ByteArray) (s6 : ByteArray) (a7 : Option Addr) (l7 : Nat) (c7 : Nat) (n8 : Int) (Q : QT) (H : Heap) : Prop :=
 shH (H.push (.cells #[.string s1, .string s2, .slice a3 l3 c3, iV n4] 121)) fun C2 => shH (C2.push (.cells #[.string s5, .string s6, .slice a7 l7 c7, iV n8] 121)) fun C1 => ∃ s9, cellH C1 (A0 H.size) = some (.string s9) ∧ ∃ s10, cellH C1 (A0 C2.size) = some (.string s10) ∧ cond (strEq s9 s10) (∃ s11, cellH C1 ((A0 H.size).add 1) = some (.string s11) ∧ ∃ s12, cellH C1 ((A0 C2.size).add 1) = some (.string s12) ∧ cond (strEq s11 s12) (∃ n13, cellH C1 ((A0 H.size).add 3) = some (iV n13) ∧ ∃ n14, cellH C1 ((A0 C2.size).add 3) = some (iV n14) ∧ cond (n13 == n14) (∃ a15 l15 c15, cellH C1 ((A0 H.size).add 2) = some (.slice a15 l15 c15) ∧ ∃ a16 l16 c16, cellH C1 ((A0 C2.size).add 2) = some (.slice a16 l16 c16) ∧ callS PP 77 #[.slice a15 l15 c15, .slice a16 l16 c16] (fun v17 H1 => ∃ b18, v17 = .bool b18 ∧ Q (.bool b18) H1) C1) (Q (.bool false) C1)) (Q (.bool false) C1)) (Q (.bool false) C1)
theorem k100_ok {s1 : ByteArray} {s2 : ByteArray} {a3 : Option Addr} {l3 : Nat} {c3 : Nat} {n4 : Int} {s5 : ByteArray} {s6 : ByteArray} {a7 : Option Addr} {l7 : Nat} {c7 : Nat} {n8 : Int} (h : k100 s1 s2 a3 l3 c3 n4 s5 s6 a7 l7 c7 n8 Q H) : callS PP 100 #[.agg #[.string s1, .string s2, .slice a3 l3 c3, .int .i64 n4], .agg #[.string s5, .string s6, .slice a7 l7 c7, .int .i64 n8]] Q H :=
 okF Tryz.func100 rfl h
abbrev n_k102 : Nat := 102
def k102 (a1 : Option Addr) (l1 : Nat) (_c1 : Nat) (Q : QT) (H : Heap) : Prop :=
 ∃ (I2 : IT) (μ2 : MT), I2 [.slice none 0 0, iV 0] H ∧ ∀ w3 H1, I2 w3 H1 → ∀ _g : Nat → Value, ∃ a4 l4, ∃ c4 n5, w3 = [.slice a4 l4 c4, iV n5] ∧ cond (decide (n5 < (l1 : Int))) (((0 : Int) ≤ n5 ∧ n5 < (l1 : Int)) ∧ ∃ q6, a1 = some q6 ∧ ∃ s7, cellH H1 (q6.add (Int.toNat n5 * 1)) = some (.string s7) ∧ evS PP (Builtin.append_ #[37, 37] 37 #[.slice a4 l4 c4, .slice (some (A0 H1.size)) 1 1]) (fun v8 H2 => ∃ a9 l9 c9, v8 = .slice a9 l9 c9 ∧ I2 [.slice a9 l9 c9, iV (wW (n5 + 1))] H2 ∧ μ2 [.slice a9 l9 c9, iV (wW (n5 + 1))] H2 < μ2 w3 H1) (H1.push (.cells #[.string s7] 9))) (∃ (I10 : IT) (μ10 : MT), I10 [.slice a4 l4 c4, iV 0] H1 ∧ ∀ w11 H3, I10 w11 H3 → ∀ _g : Nat → Value, ∃ a12 l12, ∃ c12 n13, w11 = [.slice a12 l12 c12, iV n13] ∧ cond (decide (n13 < 8)) (evS PP (Builtin.append_ #[37, 37] 37 #[.slice a12 l12 c12, .slice (some (A0 H3.size)) 1 1]) (fun v14 H4 => ∃ a15 l15 c15, v14 = .slice a15 l15 c15 ∧ I10 [.slice a15 l15 c15, iV (wW (n13 + 1))] H4 ∧ μ10 [.slice a15 l15 c15, iV (wW (n13 + 1))] H4 < μ10 w11 H3) (H3.push (.cells #[.string (⟨#[109, 97, 114, 107]⟩ : ByteArray)] 9))) (Q (.slice a12 l12 c12) H3))
theorem k102_ok {a1 : Option Addr} {l1 : Nat} {c1 : Nat} (h : k102 a1 l1 c1 Q H) : callS PP 102 #[.slice a1 l1 c1] Q H :=
 callS_of good Tryz.func102 rfl (Ls := fun | 3 => some [(3, 37), (4, 3)] | 7 => some [(3, 37), (5, 3)] | _ => none) (by kernel_rfl) h
abbrev n_k104 : Nat := 104
def k104 (a1 : Option Addr) (l1 : Nat) (_c1 : Nat) (Q : QT) (H : Heap) : Prop :=
 ∃ (I2 : IT) (μ2 : MT), I2 [iV 0] H ∧ ∀ w3 H1, I2 w3 H1 → ∀ _g : Nat → Value, ∃ n4, w3 = [iV n4] ∧ cond (decide (n4 < (l1 : Int))) (((0 : Int) ≤ n4 ∧ n4 < (l1 : Int)) ∧ ∃ q5, shH (setH H1 (q5.add (Int.toNat n4 * 1)) (.string (⟨#[111, 118, 101, 114]⟩ : ByteArray))) fun C1 => a1 = some q5 ∧ Wr H1 (q5.add (Int.toNat n4 * 1)) ∧ I2 [iV (wW (n4 + 1))] C1 ∧ μ2 [iV (wW (n4 + 1))] C1 < μ2 w3 H1) (Q (.tuple #[]) H1)
theorem k104_ok {a1 : Option Addr} {l1 : Nat} {c1 : Nat} (h : k104 a1 l1 c1 Q H) : callS PP 104 #[.slice a1 l1 c1] Q H :=
 callS_of good Tryz.func104 rfl (Ls := fun | 1 => some [(2, 3)] | _ => none) (by kernel_rfl) h
abbrev n_k127 : Nat := 127
def k127 (a1 : Option Addr) (l1 : Nat) (_c1 : Nat) (a2 : Option Addr) (l2 : Nat) (_c2 : Nat) (Q : QT) (H : Heap) : Prop :=
 cond ((l1 : Int) != (l2 : Int)) (Q (.bool false) H) (∃ (I3 : IT) (μ3 : MT), I3 [iV 0] H ∧ ∀ w4 H1, I3 w4 H1 → ∀ _g : Nat → Value, ∃ n5, w4 = [iV n5] ∧ cond (decide (n5 < (l1 : Int))) (((0 : Int) ≤ n5 ∧ n5 < (l1 : Int)) ∧ ∃ q6, a1 = some q6 ∧ ∃ n7, cellH H1 (q6.add (Int.toNat n5 * 1)) = some (iV n7) ∧ ((0 : Int) ≤ n5 ∧ n5 < (l2 : Int)) ∧ ∃ q8, a2 = some q8 ∧ ∃ n9, cellH H1 (q8.add (Int.toNat n5 * 1)) = some (iV n9) ∧ cond (n7 != n9) (Q (.bool false) H1) (I3 [iV (wW (n5 + 1))] H1 ∧ μ3 [iV (wW (n5 + 1))] H1 < μ3 w4 H1)) (Q (.bool true) H1))
theorem k127_ok {a1 : Option Addr} {l1 : Nat} {c1 : Nat} {a2 : Option Addr} {l2 : Nat} {c2 : Nat} (h : k127 a1 l1 c1 a2 l2 c2 Q H) : callS PP 127 #[.slice a1 l1 c1, .slice a2 l2 c2] Q H :=
 callS_of good Tryz.func127 rfl (Ls := fun | 4 => some [(5, 3)] | _ => none) (by kernel_rfl) h
end Go.Proofs.YtmkdkplipbocjaaGreatDoor
namespace Go.Proofs.YtmkdkplipbocjaaGreatDoor
open Kw
section
variable {H : Heap} {Q : QT}
theorem num1_c {n : Int} (h : Q (.int .i64 n) H) : callS PP n_k12 #[.int .i64 n] Q H := by
 apply k12_ok
 unfold k12 iV
 exact h
theorem same_c {a1 a2 : Option Addr} {l1 l2 c1 c2 : Nat} {xs ys : List ByteArray} (h1 : Rd 1 H a1 l1 (strsV xs)) (h2 : Rd 1 H a2 l2 (strsV ys)) (hb : l1 ≤ 1000000000000000) (h : Q (.bool (decide (xs = ys))) H) : callS PP n_k77 #[.slice a1 l1 c1, .slice a2 l2 c2] Q H := by
 have e1 : l1 = xs.length := by have := h1.1; simpa [strsV] using this.symm
 have e2 : l2 = ys.length := by have := h2.1; simpa [strsV] using this.symm
 apply k77_ok
 unfold k77 iV wW
 have no : xs ≠ ys → Q (.bool false) H := fun hn => by rw [decide_eq_false hn] at h; exact h
 rw [bneI, cond_dec]
 refine ite_i (fun hne => no fun e => hne (by rw [e1, e2, e])) fun hne => ?_
 have hlen : l1 = l2 := by omega
 refine ⟨fun w H' => H' = H ∧ ∃ i : Nat, w = [.int .i64 i] ∧ i ≤ l1 ∧ xs.take i = ys.take i, fun w _ => match w with
   | [.int _ i] => (l1 - i).toNat
   | _ => 0, ⟨rfl, 0, rfl, Nat.zero_le _, rfl⟩, ?_⟩
 rintro w H1 ⟨rfl, i, rfl, hi, hall⟩ _
 refine ⟨_, rfl, ?_⟩
 rw [cond_dec]
 refine ite_i (fun hlt => ?_) fun hlt => ?_
 · obtain ⟨p, hp2, rfl, hc1⟩ := h1.str (i := (i : Int)) (by omega) (by omega)
   obtain ⟨q, hq2, rfl, hc2⟩ := h2.str (i := (i : Int)) (by omega) (by omega)
   simp only [Int.toNat_natCast] at hc1 hp2 hc2 hq2
   have e : IntKind.wrap .i64 ((i : Int) + 1) = ((i + 1 : Nat) : Int) := by rw [wrap64_id (by omega) (by omega)]; omega
   refine ⟨⟨by omega, by omega⟩, _, rfl, _, by rw [Int.toNat_natCast, Nat.mul_one]; exact hc1, ⟨by omega, by omega⟩, _, rfl, _, by rw [Int.toNat_natCast, Nat.mul_one]; exact hc2, ?_⟩
   rw [strEq_dec, ← decide_not, cond_dec]
   refine ite_i (fun he => no fun e => he (by subst e; rfl)) fun he => ?_
   rw [e]
   have he' : xs[i] = ys[i] := Classical.byContradiction he
   refine ⟨⟨rfl, i + 1, rfl, by omega, ?_⟩, by simp; omega⟩
   rw [List.take_add_one, List.take_add_one, List.getElem?_eq_getElem hp2, List.getElem?_eq_getElem hq2, hall, he']
 · have hil : i = l1 := by omega
   subst hil
   rw [List.take_of_length_le (by omega), List.take_of_length_le (by omega)] at hall
   rw [decide_eq_true hall] at h
   exact h
theorem sameInts_c {a1 a2 : Option Addr} {l1 l2 c1 c2 : Nat} {xs ys : List Int} (h1 : Rd 1 H a1 l1 (intsV xs)) (h2 : Rd 1 H a2 l2 (intsV ys)) (hb : l1 ≤ 1000000000000000) (h : Q (.bool (decide (xs = ys))) H) : callS PP n_k127 #[.slice a1 l1 c1, .slice a2 l2 c2] Q H := by
 have e1 : l1 = xs.length := by have := h1.1; simpa [intsV] using this.symm
 have e2 : l2 = ys.length := by have := h2.1; simpa [intsV] using this.symm
 apply k127_ok
 unfold k127 iV wW
 have no : xs ≠ ys → Q (.bool false) H := fun hn => by rw [decide_eq_false hn] at h; exact h
 rw [bneI, cond_dec]
 refine ite_i (fun hne => no fun e => hne (by rw [e1, e2, e])) fun hne => ?_
 have hlen : l1 = l2 := by omega
 refine ⟨fun w H' => H' = H ∧ ∃ i : Nat, w = [.int .i64 i] ∧ i ≤ l1 ∧ xs.take i = ys.take i, fun w _ => match w with
   | [.int _ i] => (l1 - i).toNat
   | _ => 0, ⟨rfl, 0, rfl, Nat.zero_le _, rfl⟩, ?_⟩
 rintro w H1 ⟨rfl, i, rfl, hi, hall⟩ _
 refine ⟨_, rfl, ?_⟩
 rw [cond_dec]
 refine ite_i (fun hlt => ?_) fun hlt => ?_
 · obtain ⟨p, rfl, hc1, hp2⟩ := h1.int (i := (i : Int)) (by omega) (by omega)
   obtain ⟨q, rfl, hc2, hq2⟩ := h2.int (i := (i : Int)) (by omega) (by omega)
   simp only [Int.toNat_natCast] at hc1 hp2 hc2 hq2
   have hx : xs.getD i 0 = xs[i] := by simp [hp2]
   have hy : ys.getD i 0 = ys[i] := by simp [hq2]
   rw [hx] at hc1
   rw [hy] at hc2
   have e : IntKind.wrap .i64 ((i : Int) + 1) = ((i + 1 : Nat) : Int) := by rw [wrap64_id (by omega) (by omega)]; omega
   refine ⟨⟨by omega, by omega⟩, _, rfl, _, by rw [Int.toNat_natCast, Nat.mul_one]; exact hc1, ⟨by omega, by omega⟩, _, rfl, _, by rw [Int.toNat_natCast, Nat.mul_one]; exact hc2, ?_⟩
   rw [bneI, cond_dec]
   refine ite_i (fun he => no fun e => he (by subst e; rfl)) fun he => ?_
   rw [e]
   have he' : xs[i] = ys[i] := Classical.byContradiction he
   refine ⟨⟨rfl, i + 1, rfl, by omega, ?_⟩, by simp; omega⟩
   rw [List.take_add_one, List.take_add_one, List.getElem?_eq_getElem hp2, List.getElem?_eq_getElem hq2, hall, he']
 · have hil : i = l1 := by omega
   subst hil
   rw [List.take_of_length_le (by omega), List.take_of_length_le (by omega)] at hall
   rw [decide_eq_true hall] at h
   exact h
theorem sameInfo_c {x : CI} {a1 a2 : Option Addr} {l1 l2 c1 c2 : Nat} (h1 : Rd 1 H a1 l1 (strsV x.own)) (h2 : Rd 1 H a2 l2 (strsV x.own)) (hb : l1 ≤ 1000000000000000) (h : ∀ H', Fr [] H H' → Q (.bool true) H') :
   callS PP n_k100 #[.agg #[.string x.name, .string x.sup, .slice a1 l1 c1, .int .i64 x.lay], .agg #[.string x.name, .string x.sup, .slice a2 l2 c2, .int .i64 x.lay]] Q H := by
 apply k100_ok
 unfold k100 A0 iV; dsimp only [shH]
 have f1 := Fr.push [] H (.cells #[.string x.name, .string x.sup, .slice a1 l1 c1, .int .i64 x.lay] 121)
 have hB1 := Blk.new H #[.string x.name, .string x.sup, .slice a1 l1 c1, .int .i64 x.lay] 121
 generalize (H.push (.cells #[.string x.name, .string x.sup, .slice a1 l1 c1, .int .i64 x.lay] 121)) = G1 at f1 hB1 ⊢
 have f2 := Fr.push [] G1 (.cells #[.string x.name, .string x.sup, .slice a2 l2 c2, .int .i64 x.lay] 121)
 have hB2 := Blk.new G1 #[.string x.name, .string x.sup, .slice a2 l2 c2, .int .i64 x.lay] 121
 have hB1' := hB1.fr f2 (by simp)
 generalize (G1.push (.cells #[.string x.name, .string x.sup, .slice a2 l2 c2, .int .i64 x.lay] 121)) = G2 at f2 hB2 hB1' ⊢
 have f12 := f1.trans f2
 refine ⟨_, hB1'.cell 0, _, hB2.cell 0, ?_⟩
 rw [strEq_dec, cond_dec, if_pos rfl]
 refine ⟨_, hB1'.cell 1, _, hB2.cell 1, ?_⟩
 rw [strEq_dec, cond_dec, if_pos rfl]
 refine ⟨_, hB1'.cell 3, _, hB2.cell 3, ?_⟩
 rw [beqI, cond_dec, if_pos rfl]
 refine ⟨_, _, _, hB1'.cell 2, _, _, _, hB2.cell 2, same_c (h1.fr' f12 (by simp)) (h2.fr' f12 (by simp)) hb ⟨_, rfl, ?_⟩⟩
 rw [decide_eq_true rfl]
 exact h _ f12
end
section
variable {H : Heap} {bp br : Nat} {Fp Fq : Foot} {s : SP} {t : TB} {v : KV} {Q : QT}
theorem infoK_len (hv : KAll s t v) {i : Nat} (hi : i < v.cls.length) : (infoK v t i).own.length ≤ 8192 := by
 have := ((hv.ks.view.own hi).bnd hv.ks.wf.h).2.2.1
 rw [(infoK_name hi).2]; simpa using this
theorem asked2 (hP : PK H bp Fp s t) (hR : RK H br Fq s t) (hv : KAll s t v) {o : Int} (h : ∀ H', Fr [] H H' → Q (.bool true) H') :
   callS PP 188 #[.pointer (some ⟨bp, 0, none⟩ : Option Addr), .int .i64 o] (fun v28 H5 => ∃ n29 : Int, ∃ o0 : Int, v28 = .tuple #[.int .i64 n29, .int .i64 o0] ∧ callS PP 189 #[.pointer (some ⟨br, 0, none⟩ : Option Addr), .int .i64 o] (fun v31 H6 => ∃ o2 : Int, ∃ o3 : Int, v31 = .tuple #[.int .i64 o2, .int .i64 o3] ∧ cond (n29 != o2) (Q (.bool false) H6) (callS PP 12 #[.int .i64 o0] (fun v34 H7 => ∃ o5 : Int, v34 = .int .i64 o5 ∧ cond (o5 != o3) (Q (.bool false) H7) (callS PP 190 #[.pointer (some ⟨bp, 0, none⟩ : Option Addr), .int .i64 o] (fun v36 H8 => ∃ o7 : Int, ∃ o8 : Int, v36 = .tuple #[.int .i64 o7, .int .i64 o8] ∧ callS PP 191 #[.pointer (some ⟨br, 0, none⟩ : Option Addr), .int .i64 o] (fun v39 H9 => ∃ n40 : Int, ∃ n41 : Int, v39 = .tuple #[.int .i64 n40, .int .i64 n41] ∧ cond (o7 != n40) (Q (.bool false) H9) (callS PP 12 #[.int .i64 o8] (fun v42 H10 => ∃ n43 : Int, v42 = .int .i64 n43 ∧ cond (n43 != n41) (Q (.bool false) H10) (callS PP 192 #[.pointer (some ⟨bp, 0, none⟩ : Option Addr), .int .i64 o] (fun v44 H11 => ∃ n45 : Int, ∃ n46 : Int, v44 = .tuple #[.int .i64 n45, .int .i64 n46] ∧ callS PP 193 #[.pointer (some ⟨br, 0, none⟩ : Option Addr), .int .i64 o] (fun v47 H12 => ∃ n48 : Int, ∃ n49 : Int, v47 = .tuple #[.int .i64 n48, .int .i64 n49] ∧ cond (n45 != n48) (Q (.bool false) H12) (callS PP 12 #[.int .i64 n46] (fun v50 H13 => ∃ n51 : Int, v50 = .int .i64 n51 ∧ cond (n51 != n49) (Q (.bool false) H13) (callS PP 101 #[.pointer (some ⟨bp, 0, none⟩ : Option Addr), .int .i64 o] (fun v52 H14 => ∃ a53 : Option Addr, ∃ l53 : Nat, ∃ c53 : Nat, ∃ n54 : Int, v52 = .tuple #[.slice a53 l53 c53, .int .i64 n54] ∧ callS PP 125 #[.pointer (some ⟨br, 0, none⟩ : Option Addr), .int .i64 o] (fun v55 H15 => ∃ a56 : Option Addr, ∃ l56 : Nat, ∃ c56 : Nat, ∃ n57 : Int, v55 = .tuple #[.slice a56 l56 c56, .int .i64 n57] ∧ callS PP 12 #[.int .i64 n54] (fun v58 H16 => ∃ n59 : Int, v58 = .int .i64 n59 ∧ cond (n59 == n57) (callS PP 77 #[.slice a53 l53 c53, .slice a56 l56 c56] (fun v60 H17 => ∃ b61 : Bool, v60 = .bool b61 ∧ cond b61 (callS PP 72 #[.pointer (some ⟨bp, 0, none⟩ : Option Addr), .int .i64 o] (fun v62 H18 => ∃ a63 : Option Addr, ∃ l63 : Nat, ∃ c63 : Nat, v62 = .slice a63 l63 c63 ∧ callS PP 126 #[.pointer (some ⟨br, 0, none⟩ : Option Addr), .int .i64 o] (fun v64 H19 => ∃ a65 : Option Addr, ∃ l65 : Nat, ∃ c65 : Nat, v64 = .slice a65 l65 c65 ∧ callS PP 127 #[.slice a63 l63 c63, .slice a65 l65 c65] (fun v66 H20 => ∃ b67 : Bool, v66 = .bool b67 ∧ Q (.bool b67) H20) H19) H18) H17) (Q (.bool false) H17)) H16) (Q (.bool false) H16)) H15) H14) H13)) H12)) H11) H10)) H9)) H8) H7)) H6)) H5) H := by
 have hm1 := hv.ks.shape.many1
 refine number_k hP hv fun H1 f1 => ?_
 have F1 := f1
 obtain ⟨nn, ne, e1⟩ : ∃ nn ne : Int, (match plK v o with | some i => Value.tuple #[.int .i64 ((i : Int) + 1), .int .i64 0] | none => .tuple #[.int .i64 0, .int .i64 130]) = .tuple #[.int .i64 nn, .int .i64 ne] := by
   cases plK v o with
   | none => exact ⟨_, _, rfl⟩
   | some i => exact ⟨_, _, rfl⟩
 refine ⟨nn, ne, e1, number_r (hR.nil F1) hv fun H2 f2 => ?_⟩
 have F2 := F1.trans f2
 refine ⟨nn, ne, e1, ?_⟩
 rw [bneI, cond_dec, if_neg (fun hn => hn rfl)]
 refine num1_c ⟨_, rfl, ?_⟩
 rw [bneI, cond_dec, if_neg (fun hn => hn rfl)]
 refine ksuper_k (hP.nil F2) hv fun H3 f3 => ?_
 have F3 := F2.trans f3
 obtain ⟨sn, se, e2⟩ : ∃ nn ne : Int, (match plK v o with | some i => Value.tuple #[.int .i64 (superK v i), .int .i64 0] | none => .tuple #[.int .i64 0, .int .i64 130]) = .tuple #[.int .i64 nn, .int .i64 ne] := by
   cases plK v o with
   | none => exact ⟨_, _, rfl⟩
   | some i => exact ⟨_, _, rfl⟩
 refine ⟨sn, se, e2, super_r (hR.nil F3) hv fun H4 f4 => ?_⟩
 have F4 := F3.trans f4
 refine ⟨sn, se, e2, ?_⟩
 rw [bneI, cond_dec, if_neg (fun hn => hn rfl)]
 refine num1_c ⟨_, rfl, ?_⟩
 rw [bneI, cond_dec, if_neg (fun hn => hn rfl)]
 refine layout_k (hP.nil F4) hv fun H5 f5 => ?_
 have F5 := F4.trans f5
 obtain ⟨ln, le, e3⟩ : ∃ nn ne : Int, (match plK v o with | some i => Value.tuple #[.int .i64 (infoK v t i).lay, .int .i64 0] | none => .tuple #[.int .i64 0, .int .i64 130]) = .tuple #[.int .i64 nn, .int .i64 ne] := by
   cases plK v o with
   | none => exact ⟨_, _, rfl⟩
   | some i => exact ⟨_, _, rfl⟩
 refine ⟨ln, le, e3, layout_r (hR.nil F5) hv fun H6 f6 => ?_⟩
 have F6 := F5.trans f6
 refine ⟨ln, le, e3, ?_⟩
 rw [bneI, cond_dec, if_neg (fun hn => hn rfl)]
 refine num1_c ⟨_, rfl, ?_⟩
 rw [bneI, cond_dec, if_neg (fun hn => hn rfl)]
 have fin : ∀ (H9 : Heap), Fr [] H H9 → callS PP n_k72 #[.pointer (some ⟨bp, 0, none⟩), .int .i64 o] (fun v62 H18 => ∃ a63 : Option Addr, ∃ l63 : Nat, ∃ c63 : Nat, v62 = .slice a63 l63 c63 ∧ callS PP n_k126 #[.pointer (some ⟨br, 0, none⟩), .int .i64 o] (fun v64 H19 => ∃ a65 : Option Addr, ∃ l65 : Nat, ∃ c65 : Nat, v64 = .slice a65 l65 c65 ∧ callS PP n_k127 #[.slice a63 l63 c63, .slice a65 l65 c65] (fun v66 H20 => ∃ b67 : Bool, v66 = .bool b67 ∧ Q (.bool b67) H20) H19) H18) H9 := by
   intro H9 F9
   have rdnil : ∀ {H' : Heap}, Rd 1 H' none 0 (intsV []) := fun {H'} => (Own.nil 1 H').rd
   cases hp : plK v o with
   | none =>
     refine under_k (hP.nil F9) hv (fun i hp' => by rw [hp] at hp'; cases hp') fun _ H10 f10 => ⟨_, _, _, rfl, ?_⟩
     refine under_r (hR.nil (F9.trans f10)) hv (fun i hp' => by rw [hp] at hp'; cases hp') fun _ H11 f11 => ⟨_, _, _, rfl, ?_⟩
     refine sameInts_c rdnil rdnil (by decide) ⟨_, rfl, ?_⟩
     rw [decide_eq_true rfl]; exact h _ ((F9.trans f10).trans f11)
   | some i =>
     have hul : (underK v o).length ≤ v.cls.length := by
       unfold underK
       rw [List.length_map]
       exact Nat.le_trans (List.length_filter_le _ _) (by simp)
     refine under_k (hP.nil F9) hv (fun i _ a l c G H10 ho f10 hG => ⟨_, _, _, rfl, ?_⟩) fun hp' => by rw [hp] at hp'; cases hp'
     have hl : l = (underK v o).length := by have := ho.len; simpa [intsV] using this.symm
     refine under_r (hR.nil (F9.trans f10)) hv (fun i _ a2 l2 c2 G2 H11 ho2 f11 hG2 => ⟨_, _, _, rfl, ?_⟩) fun hp' => by rw [hp] at hp'; cases hp'
     refine sameInts_c (ho.fr f11 (by simp)).rd ho2.rd (by omega) ⟨_, rfl, ?_⟩
     rw [decide_eq_true rfl]; exact h _ ((F9.trans f10).trans f11)
 cases hp : plK v o with
 | none =>
   refine kfields_k (hP.nil F6) hv (fun i hp' => by rw [hp] at hp'; cases hp') fun _ H7 f7 => ⟨_, _, _, _, rfl, ?_⟩
   have F7 := F6.trans f7
   refine fields_r (hR.nil F7) hv (fun i hp' => by rw [hp] at hp'; cases hp') fun _ H8 f8 => ⟨_, _, _, _, rfl, num1_c ⟨_, rfl, ?_⟩⟩
   rw [beqI, cond_dec, if_pos rfl]
   have rdnil : Rd 1 H8 none 0 (strsV []) := (Own.nil 1 H8).rd
   refine same_c rdnil rdnil (by decide) ⟨_, rfl, ?_⟩
   rw [decide_eq_true rfl]
   exact fin H8 (F7.trans f8)
 | some i =>
   obtain ⟨hi, _⟩ := plK_some hp
   have hfl := fields_len hv.ks i hi
   refine kfields_k (hP.nil F6) hv (fun i' hp' a l c G H7 ho f7 hG => ?_) fun hp' => by rw [hp] at hp'; cases hp'
   rw [hp] at hp'; cases hp'
   refine ⟨_, _, _, _, rfl, ?_⟩
   have F7 := F6.trans f7
   have hl : l = (fieldsK v i).length := by have := ho.len; simpa [strsV] using this.symm
   refine fields_r (hR.nil F7) hv (fun i' hp' a2 l2 c2 G2 H8 ho2 f8 hG2 => ?_) fun hp' => by rw [hp] at hp'; cases hp'
   rw [hp] at hp'; cases hp'
   refine ⟨_, _, _, _, rfl, num1_c ⟨_, rfl, ?_⟩⟩
   rw [beqI, cond_dec, if_pos rfl]
   refine same_c (ho.fr f8 (by simp)).rd ho2.rd (by omega) ⟨_, rfl, ?_⟩
   rw [decide_eq_true rfl]
   exact fin H8 (F7.trans f8)
end
section
variable {H : Heap} {bp br : Nat} {Fp Fq : Foot} {s : SP} {t : TB} {v : KV} {Q : QT}
theorem asked_c (hP : PK H bp Fp s t) (hR : RK H br Fq s t) (hv : KAll s t v) {o : Int} (h : ∀ H', Fr [] H H' → Q (.bool true) H') : callS PP n_k84 #[.pointer (some ⟨bp, 0, none⟩), .pointer (some ⟨br, 0, none⟩), .int .i64 o] Q H := by
 apply k84_ok
 unfold k84 A0 iV; dsimp only [shH]
 have go : ∀ (x : CI) (e : Int) (a1 : Option Addr) (l1 c1 : Nat) (H1 : Heap), Fr [] H H1 → Rd 1 H1 a1 l1 (strsV x.own) → l1 ≤ 8192 →
     (∀ {H2 : Heap}, Fr [] H H2 → ∀ {Q' : Value → Heap → Prop}, (∀ a2 l2 c2 H3, Fr [] H2 H3 → Rd 1 H3 a2 l2 (strsV x.own) → Q' (.tuple #[.agg #[.string x.name, .string x.sup, .slice a2 l2 c2, .int .i64 x.lay], .int .i64 e]) H3) → callS PP n_k124 #[.pointer (some ⟨br, 0, none⟩), .int .i64 o] Q' H2) →
     ∃ s5 : ByteArray, ∃ s6 : ByteArray, ∃ a7 : Option Addr, ∃ l7 : Nat, ∃ c7 : Nat, ∃ n8 : Int, ∃ n9 : Int, (Value.tuple #[.agg #[.string x.name, .string x.sup, .slice a1 l1 c1, .int .i64 x.lay], .int .i64 e]) = .tuple #[.agg #[.string s5, .string s6, .slice a7 l7 c7, .int .i64 n8], .int .i64 n9] ∧ Wr (H1.push (.cells #[.string (⟨#[]⟩ : ByteArray), .string (⟨#[]⟩ : ByteArray), .slice none 0 0, .int .i64 0] 121)) (⟨H1.size, 0, none⟩ : Addr) ∧ Wr (setH (H1.push (.cells #[.string (⟨#[]⟩ : ByteArray), .string (⟨#[]⟩ : ByteArray), .slice none 0 0, .int .i64 0] 121)) (⟨H1.size, 0, none⟩ : Addr) (.string s5)) ((⟨H1.size, 0, none⟩ : Addr).add 1) ∧ Wr (setH (setH (H1.push (.cells #[.string (⟨#[]⟩ : ByteArray), .string (⟨#[]⟩ : ByteArray), .slice none 0 0, .int .i64 0] 121)) (⟨H1.size, 0, none⟩ : Addr) (.string s5)) ((⟨H1.size, 0, none⟩ : Addr).add 1) (.string s6)) ((⟨H1.size, 0, none⟩ : Addr).add 2) ∧ Wr (setH (setH (setH (H1.push (.cells #[.string (⟨#[]⟩ : ByteArray), .string (⟨#[]⟩ : ByteArray), .slice none 0 0, .int .i64 0] 121)) (⟨H1.size, 0, none⟩ : Addr) (.string s5)) ((⟨H1.size, 0, none⟩ : Addr).add 1) (.string s6)) ((⟨H1.size, 0, none⟩ : Addr).add 2) (.slice a7 l7 c7)) ((⟨H1.size, 0, none⟩ : Addr).add 3) ∧ callS PP 124 #[.pointer (some ⟨br, 0, none⟩ : Option Addr), .int .i64 o] (fun v10 H2 => ∃ s11 : ByteArray, ∃ s12 : ByteArray, ∃ a13 : Option Addr, ∃ l13 : Nat, ∃ c13 : Nat, ∃ n14 : Int, ∃ n15 : Int, v10 = .tuple #[.agg #[.string s11, .string s12, .slice a13 l13 c13, .int .i64 n14], .int .i64 n15] ∧ Wr (H2.push (.cells #[.string (⟨#[]⟩ : ByteArray), .string (⟨#[]⟩ : ByteArray), .slice none 0 0, .int .i64 0] 121)) (⟨H2.size, 0, none⟩ : Addr) ∧ Wr (setH (H2.push (.cells #[.string (⟨#[]⟩ : ByteArray), .string (⟨#[]⟩ : ByteArray), .slice none 0 0, .int .i64 0] 121)) (⟨H2.size, 0, none⟩ : Addr) (.string s11)) ((⟨H2.size, 0, none⟩ : Addr).add 1) ∧ Wr (setH (setH (H2.push (.cells #[.string (⟨#[]⟩ : ByteArray), .string (⟨#[]⟩ : ByteArray), .slice none 0 0, .int .i64 0] 121)) (⟨H2.size, 0, none⟩ : Addr) (.string s11)) ((⟨H2.size, 0, none⟩ : Addr).add 1) (.string s12)) ((⟨H2.size, 0, none⟩ : Addr).add 2) ∧ Wr (setH (setH (setH (H2.push (.cells #[.string (⟨#[]⟩ : ByteArray), .string (⟨#[]⟩ : ByteArray), .slice none 0 0, .int .i64 0] 121)) (⟨H2.size, 0, none⟩ : Addr) (.string s11)) ((⟨H2.size, 0, none⟩ : Addr).add 1) (.string s12)) ((⟨H2.size, 0, none⟩ : Addr).add 2) (.slice a13 l13 c13)) ((⟨H2.size, 0, none⟩ : Addr).add 3) ∧ callS PP 12 #[.int .i64 n9] (fun v16 H3 => ∃ n17 : Int, v16 = .int .i64 n17 ∧ cond (n17 != n15) (Q (.bool false) H3) (∃ s18 : ByteArray, cellH H3 (⟨H1.size, 0, none⟩ : Addr) = some (.string s18) ∧ ∃ s19 : ByteArray, cellH H3 ((⟨H1.size, 0, none⟩ : Addr).add 1) = some (.string s19) ∧ ∃ a20 : Option Addr, ∃ l20 : Nat, ∃ c20 : Nat, cellH H3 ((⟨H1.size, 0, none⟩ : Addr).add 2) = some (.slice a20 l20 c20) ∧ ∃ n21 : Int, cellH H3 ((⟨H1.size, 0, none⟩ : Addr).add 3) = some (.int .i64 n21) ∧ ∃ s22 : ByteArray, cellH H3 (⟨H2.size, 0, none⟩ : Addr) = some (.string s22) ∧ ∃ s23 : ByteArray, cellH H3 ((⟨H2.size, 0, none⟩ : Addr).add 1) = some (.string s23) ∧ ∃ a24 : Option Addr, ∃ l24 : Nat, ∃ c24 : Nat, cellH H3 ((⟨H2.size, 0, none⟩ : Addr).add 2) = some (.slice a24 l24 c24) ∧ ∃ n25 : Int, cellH H3 ((⟨H2.size, 0, none⟩ : Addr).add 3) = some (.int .i64 n25) ∧ callS PP 100 #[.agg #[.string s18, .string s19, .slice a20 l20 c20, .int .i64 n21], .agg #[.string s22, .string s23, .slice a24 l24 c24, .int .i64 n25]] (fun v26 H4 => ∃ b27 : Bool, v26 = .bool b27 ∧ cond (!b27) (Q (.bool false) H4) (callS PP 188 #[.pointer (some ⟨bp, 0, none⟩ : Option Addr), .int .i64 o] (fun v28 H5 => ∃ n29 : Int, ∃ o0 : Int, v28 = .tuple #[.int .i64 n29, .int .i64 o0] ∧ callS PP 189 #[.pointer (some ⟨br, 0, none⟩ : Option Addr), .int .i64 o] (fun v31 H6 => ∃ o2 : Int, ∃ o3 : Int, v31 = .tuple #[.int .i64 o2, .int .i64 o3] ∧ cond (n29 != o2) (Q (.bool false) H6) (callS PP 12 #[.int .i64 o0] (fun v34 H7 => ∃ o5 : Int, v34 = .int .i64 o5 ∧ cond (o5 != o3) (Q (.bool false) H7) (callS PP 190 #[.pointer (some ⟨bp, 0, none⟩ : Option Addr), .int .i64 o] (fun v36 H8 => ∃ o7 : Int, ∃ o8 : Int, v36 = .tuple #[.int .i64 o7, .int .i64 o8] ∧ callS PP 191 #[.pointer (some ⟨br, 0, none⟩ : Option Addr), .int .i64 o] (fun v39 H9 => ∃ n40 : Int, ∃ n41 : Int, v39 = .tuple #[.int .i64 n40, .int .i64 n41] ∧ cond (o7 != n40) (Q (.bool false) H9) (callS PP 12 #[.int .i64 o8] (fun v42 H10 => ∃ n43 : Int, v42 = .int .i64 n43 ∧ cond (n43 != n41) (Q (.bool false) H10) (callS PP 192 #[.pointer (some ⟨bp, 0, none⟩ : Option Addr), .int .i64 o] (fun v44 H11 => ∃ n45 : Int, ∃ n46 : Int, v44 = .tuple #[.int .i64 n45, .int .i64 n46] ∧ callS PP 193 #[.pointer (some ⟨br, 0, none⟩ : Option Addr), .int .i64 o] (fun v47 H12 => ∃ n48 : Int, ∃ n49 : Int, v47 = .tuple #[.int .i64 n48, .int .i64 n49] ∧ cond (n45 != n48) (Q (.bool false) H12) (callS PP 12 #[.int .i64 n46] (fun v50 H13 => ∃ n51 : Int, v50 = .int .i64 n51 ∧ cond (n51 != n49) (Q (.bool false) H13) (callS PP 101 #[.pointer (some ⟨bp, 0, none⟩ : Option Addr), .int .i64 o] (fun v52 H14 => ∃ a53 : Option Addr, ∃ l53 : Nat, ∃ c53 : Nat, ∃ n54 : Int, v52 = .tuple #[.slice a53 l53 c53, .int .i64 n54] ∧ callS PP 125 #[.pointer (some ⟨br, 0, none⟩ : Option Addr), .int .i64 o] (fun v55 H15 => ∃ a56 : Option Addr, ∃ l56 : Nat, ∃ c56 : Nat, ∃ n57 : Int, v55 = .tuple #[.slice a56 l56 c56, .int .i64 n57] ∧ callS PP 12 #[.int .i64 n54] (fun v58 H16 => ∃ n59 : Int, v58 = .int .i64 n59 ∧ cond (n59 == n57) (callS PP 77 #[.slice a53 l53 c53, .slice a56 l56 c56] (fun v60 H17 => ∃ b61 : Bool, v60 = .bool b61 ∧ cond b61 (callS PP 72 #[.pointer (some ⟨bp, 0, none⟩ : Option Addr), .int .i64 o] (fun v62 H18 => ∃ a63 : Option Addr, ∃ l63 : Nat, ∃ c63 : Nat, v62 = .slice a63 l63 c63 ∧ callS PP 126 #[.pointer (some ⟨br, 0, none⟩ : Option Addr), .int .i64 o] (fun v64 H19 => ∃ a65 : Option Addr, ∃ l65 : Nat, ∃ c65 : Nat, v64 = .slice a65 l65 c65 ∧ callS PP 127 #[.slice a63 l63 c63, .slice a65 l65 c65] (fun v66 H20 => ∃ b67 : Bool, v66 = .bool b67 ∧ Q (.bool b67) H20) H19) H18) H17) (Q (.bool false) H17)) H16) (Q (.bool false) H16)) H15) H14) H13)) H12)) H11) H10)) H9)) H8) H7)) H6)) H5) H4)) H3)) (setH (setH (setH (setH (H2.push (.cells #[.string (⟨#[]⟩ : ByteArray), .string (⟨#[]⟩ : ByteArray), .slice none 0 0, .int .i64 0] 121)) (⟨H2.size, 0, none⟩ : Addr) (.string s11)) ((⟨H2.size, 0, none⟩ : Addr).add 1) (.string s12)) ((⟨H2.size, 0, none⟩ : Addr).add 2) (.slice a13 l13 c13)) ((⟨H2.size, 0, none⟩ : Addr).add 3) (.int .i64 n14))) (setH (setH (setH (setH (H1.push (.cells #[.string (⟨#[]⟩ : ByteArray), .string (⟨#[]⟩ : ByteArray), .slice none 0 0, .int .i64 0] 121)) (⟨H1.size, 0, none⟩ : Addr) (.string s5)) ((⟨H1.size, 0, none⟩ : Addr).add 1) (.string s6)) ((⟨H1.size, 0, none⟩ : Addr).add 2) (.slice a7 l7 c7)) ((⟨H1.size, 0, none⟩ : Addr).add 3) (.int .i64 n8)) := by
   intro x e a1 l1 c1 H1 f1 h1 hl1 hInfo
   have fp := Fr.push [] H1 (.cells #[.string (⟨#[]⟩ : ByteArray), .string (⟨#[]⟩ : ByteArray), .slice none 0 0, .int .i64 0] 121)
   have hB := Blk.new H1 #[.string (⟨#[]⟩ : ByteArray), .string (⟨#[]⟩ : ByteArray), .slice none 0 0, .int .i64 0] 121
   refine ⟨_, _, _, _, _, _, _, rfl, ?_⟩
   generalize (H1.push (.cells #[.string (⟨#[]⟩ : ByteArray), .string (⟨#[]⟩ : ByteArray), .slice none 0 0, .int .i64 0] 121)) = G1 at fp hB ⊢
   obtain ⟨w0, w1, w2, w3, hB1, hf1⟩ := st4 hB (o := 0) (by simp) (.string x.name) (.string x.sup) (.slice a1 l1 c1) (.int .i64 x.lay)
   have F1 := (Up.fresh (f1.trans fp) (F := [H1.size]) (F' := [H1.size]) ⟨hf1, fun _ h => .inl h⟩ (by have := f1.1; simpa using this)).1
   have h1' := (h1.fr' fp (by simp))
   refine ⟨w0, w1, w2, w3, hInfo F1 fun a2 l2 c2 H2 f2 h2 => ?_⟩
   have hL1 : Blk _ H1.size #[.string x.name, .string x.sup, .slice a1 l1 c1, .int .i64 x.lay] := hB1
   have h1b := h1.fr' (Up.fresh fp (F := [H1.size]) (F' := [H1.size]) ⟨hf1, fun _ h => .inl h⟩ (by simp)).1 (by simp)
   have h1c := h1b.fr' f2 (by simp)
   have hL1' := hL1.fr f2 (by simp)
   have F2 := F1.trans f2
   have hs12 : H1.size < H2.size := hL1'.lt
   refine ⟨_, _, _, _, _, _, _, rfl, ?_⟩
   have fp2 := Fr.push [] H2 (.cells #[.string (⟨#[]⟩ : ByteArray), .string (⟨#[]⟩ : ByteArray), .slice none 0 0, .int .i64 0] 121)
   have hB2 := Blk.new H2 #[.string (⟨#[]⟩ : ByteArray), .string (⟨#[]⟩ : ByteArray), .slice none 0 0, .int .i64 0] 121
   generalize (H2.push (.cells #[.string (⟨#[]⟩ : ByteArray), .string (⟨#[]⟩ : ByteArray), .slice none 0 0, .int .i64 0] 121)) = G2 at fp2 hB2 ⊢
   obtain ⟨u0, u1, u2, u3, hB3, hf3⟩ := st4 hB2 (o := 0) (by simp) (.string x.name) (.string x.sup) (.slice a2 l2 c2) (.int .i64 x.lay)
   have F3 := (Up.fresh (F2.trans fp2) (F := [H2.size]) (F' := [H2.size]) ⟨hf3, fun _ h => .inl h⟩ (by have := F2.1; simpa using this)).1
   have hL2 : Blk _ H2.size #[.string x.name, .string x.sup, .slice a2 l2 c2, .int .i64 x.lay] := hB3
   have hL1'' := (hL1'.fr fp2 (by simp)).fr hf3 (by simp; omega)
   have lim : ∀ {a : Option Addr} {l : Nat} {ys : List ByteArray}, Rd 1 H2 a l (strsV ys) → Rd 1 (setH (setH (setH (setH G2 ⟨H2.size, 0, none⟩ (.string x.name)) ⟨H2.size, 0 + 1, none⟩ (.string x.sup)) ⟨H2.size, 0 + 2, none⟩ (.slice a2 l2 c2)) ⟨H2.size, 0 + 3, none⟩ (.int .i64 x.lay)) a l (strsV ys) := by
     intro a l ys hr
     exact hr.fr' (Up.fresh fp2 (F := [H2.size]) (F' := [H2.size]) ⟨hf3, fun _ h => .inl h⟩ (by simp)).1 (by simp)
   refine ⟨u0, u1, u2, u3, num1_c ⟨_, rfl, ?_⟩⟩
   rw [bneI, cond_dec, if_neg (fun hn => hn rfl)]
   refine ⟨_, hL1''.cell 0, _, hL1''.cell 1, _, _, _, hL1''.cell 2, _, hL1''.cell 3, _, hL2.cell 0, _, hL2.cell 1, _, _, _, hL2.cell 2, _, hL2.cell 3, sameInfo_c (lim h1c) (lim h2) (by omega) fun H4 f4 => ⟨_, rfl, ?_⟩⟩
   simp only [Bool.not_true, cond_false]
   have F4 := F3.trans f4
   exact asked2 (hP.nil F4) (hR.nil F4) hv fun H' f' => h H' (F4.trans f')
 cases hp : plK v o with
 | none =>
   refine kinfo_k hP hv (fun i hp' => by rw [hp] at hp'; cases hp') fun _ H1 f1 => ?_
   exact go ⟨⟨#[]⟩, ⟨#[]⟩, [], 0⟩ 130 none 0 0 H1 f1 (Own.nil 1 H1).rd (by decide) fun {H2} F2 {Q'} hq => info_r (hR.nil F2) hv (fun i hp' => by rw [hp] at hp'; cases hp') fun _ H3 f3 => hq none 0 0 H3 f3 (Own.nil 1 H3).rd
 | some i =>
   obtain ⟨hi, _⟩ := plK_some hp
   have hol := infoK_len hv (t := t) hi
   refine kinfo_k hP hv (fun i' hp' a l c G H1 ho f1 hG => ?_) fun hp' => by rw [hp] at hp'; cases hp'
   rw [hp] at hp'; cases hp'
   have hl : l = (infoK v t i).own.length := by have := ho.len; simpa [strsV] using this.symm
   refine go (infoK v t i) 0 a l c H1 f1 ho.rd (by omega) fun {H2} F2 {Q'} hq => info_r (hR.nil F2) hv (fun i' hp' a2 l2 c2 G2 H3 ho2 f3 hG2 => ?_) fun hp' => by rw [hp] at hp'; cases hp'
   rw [hp] at hp'; cases hp'
   exact hq a2 l2 c2 H3 f3 ho2.rd
end
end Go.Proofs.YtmkdkplipbocjaaGreatDoor
