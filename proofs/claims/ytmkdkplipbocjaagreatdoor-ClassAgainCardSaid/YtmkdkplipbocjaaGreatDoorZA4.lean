/- Lemmas for RAgain: functions of the program as predicate transformers, and their contracts. -/
import Derived.Test.YtmkdkplipbocjaaGreatDoorZA3
set_option linter.all false
set_option maxRecDepth 100000
set_option maxHeartbeats 4000000
namespace Go.Proofs.YtmkdkplipbocjaaGreatDoor
open Kw
noncomputable instance memDec (s : ByteArray) (l : List ByteArray) : Decidable (s ∈ l) := Classical.propDecidable _
theorem getK_none_iff {es : List (Key × Value)} {k : Key} : getK es k = none ↔ k ∉ es.map (·.1) := by
 induction es with
 | nil => simp [getK]
 | cons p l ih =>
   unfold getK
   by_cases h : k = p.1
   · simp [h]
   · rw [if_neg h, ih]
     simp [h]
theorem getK_delK {es : List (Key × Value)} (hnd : (es.map (·.1)).Nodup) (k k' : Key) : getK (delK es k) k' = if k' = k then none else getK es k' := by
 induction es with
 | nil => simp [delK, getK]
 | cons p l ih =>
   rw [List.map_cons, List.nodup_cons] at hnd
   unfold delK
   by_cases h : k = p.1
   · rw [if_pos h]
     by_cases h2 : k' = k
     · rw [if_pos h2]
       rw [getK_none_iff, h2, h]; exact hnd.1
     · rw [if_neg h2]
       have : k' ≠ p.1 := fun e => h2 (e.trans h.symm)
       conv => rhs; unfold getK
       rw [if_neg this]
   · rw [if_neg h]
     unfold getK
     by_cases h3 : k' = p.1
     · rw [if_pos h3, if_pos h3, if_neg (fun e => h (e.symm.trans h3))]
     · rw [if_neg h3, if_neg h3]; exact ih hnd.2
theorem delK_sub (es : List (Key × Value)) (k : Key) : (delK es k).Sublist es := by
 induction es with
 | nil => exact List.Sublist.refl _
 | cons p l ih =>
   unfold delK
   split
   · exact List.sublist_cons_self _ _
   · exact ih.cons_cons _
def PTb (H : Heap) (b : Nat) (F : Foot) (t : TB) : Prop := ∃ a l c F' m es, F = b :: m :: F' ∧ b ∉ F' ∧ b ≠ m ∧ m ∉ F' ∧ Blk H b #[.int .i64 t.most, .slice a l c, .map (some m)] ∧ Own 1 H a l c (strsV t.texts) F' ∧ MapAt H m es ∧
 (∀ p ∈ es, p.1.of .string) ∧ (∀ s, getK es (.str s) = (numOf t.texts s).map fun n : Nat => .int .i64 n) ∧ WFT t ∧ (es.map (·.1)).Nodup
section
variable {H : Heap} {b : Nat} {F F' : Foot} {t : TB} {Q : QT}
theorem PTb.wf (h : PTb H b F t) : WFT t := by obtain ⟨_, _, _, _, _, _, _, _, _, _, _, _, _, _, _, h, _⟩ := h; exact h
theorem PTb.lt (h : PTb H b F t) : ∀ x ∈ F, x < H.size := by
 obtain ⟨a, l, c, F', m, es, rfl, h1, h2, h3, hB, hO, hM, _⟩ := h
 intro x hx
 rcases List.mem_cons.1 hx with rfl | hx
 · exact hB.lt
 · rcases List.mem_cons.1 hx with rfl | hx
   · exact hM.lt
   · exact hO.lt x hx
theorem PTb.fr {H' : Heap} {G : Foot} (h : PTb H b F t) (hf : Fr G H H') (hd : Disj F G) : PTb H' b F t := by
 obtain ⟨a, l, c, F', m, es, rfl, h1, h2, h3, hB, hO, hM, h4⟩ := h
 exact ⟨a, l, c, F', m, es, rfl, h1, h2, h3, hB.fr hf (hd b (by simp)), hO.fr hf fun x hx => hd x (by simp [hx]), hM.fr hf (hd m (by simp)), h4⟩
theorem tnone_c (hT : PTb H b F t) (h : Q (.bool false) H) : callS PP n_k184 #[.pointer (some ⟨b, 0, none⟩)] Q H := by
 obtain ⟨a, l, c, F', m, es, rfl, h1, h2, h3, hB, _⟩ := hT
 have hc2 : cellH H ⟨b, 2, none⟩ = some (.map (some m)) := hB.cell 2
 apply k184_ok
 unfold k184
 simp only [Option.isNone_some, cond_false]
 exact ⟨_, rfl, _, hc2, h⟩
theorem ptNew_c {n : Int} (hbad : ¬ (0 ≤ n ∧ n ≤ 4096) → Q (.tuple #[.pointer none, .int .i64 1]) H) (h : (0 ≤ n ∧ n ≤ 4096) → ∀ b F H', PTb H' b F ⟨n, []⟩ → Fr [] H H' → (∀ x ∈ F, H.size ≤ x) → Q (.tuple #[.pointer (some ⟨b, 0, none⟩), .int .i64 0]) H') : callS PP n_k47 #[.int .i64 n] Q H := by
 apply k47_ok
 unfold k47 iV
 simp only [cond_dec]
 refine ite_intro' (fun h1 => hbad (by omega)) fun h1 => ite_intro' (fun h2 => hbad (by omega)) fun h2 => ?_
 refine h (by omega) _ _ _ ⟨none, 0, 0, [], H.size, [], rfl, by simp, by simp, by simp, Blk.new _ _ _, Own.nil 1 _, MapAt.fr (H := H.push (.map #[] 0)) (G := []) (MapAt.new H) (Fr.push [] _ _) (by simp), by simp, fun s => by simp [getK, numOf], ?_, by simp⟩ ((Fr.push [] H _).more) (by simp)
 exact ⟨by simp; omega, by simp; omega, by simp; omega, by simp, by simp⟩
theorem ptCell_c (hT : PTb H b F t) : ∃ a l c m es, cellH H ⟨b, 0, none⟩ = some (.int .i64 t.most) ∧ cellH H ⟨b, 1, none⟩ = some (.slice a l c) ∧ cellH H ⟨b, 2, none⟩ = some (.map (some m)) ∧ MapAt H m es ∧ (∀ p ∈ es, p.1.of .string) ∧ (∀ s, getK es (.str s) = (numOf t.texts s).map fun n : Nat => .int .i64 n) ∧ Rd 1 H a l (strsV t.texts) ∧ l = t.texts.length := by
 obtain ⟨a, l, c, F', m, es, rfl, h1, h2, h3, hB, hO, hM, h4, h5, h6⟩ := hT
 exact ⟨a, l, c, m, es, hB.cell 0, hB.cell 1, hB.cell 2, hM, h4, h5, hO.rd, by have := hO.len; simpa [strsV] using this.symm⟩
theorem ptCount_c (hT : PTb H b F t) (h : Q (.int .i64 (t.texts.length : Int)) H) : callS PP n_k205 #[.pointer (some ⟨b, 0, none⟩)] Q H := by
 obtain ⟨a, l, c, m, es, hc0, hc1, hc2, hM, ho, hg, _, hl⟩ := ptCell_c hT
 apply k205_ok
 unfold k205 iV
 refine tnone_c hT ⟨_, rfl, ?_⟩
 simp only [cond_false]
 refine ⟨_, rfl, _, _, _, hc1, ?_⟩
 rw [hl]; exact h
theorem ptText_c (hT : PTb H b F t) {n : Int} (h : Q (textV t n) H) : callS PP n_k240 #[.pointer (some ⟨b, 0, none⟩), .int .i64 n] Q H := by
 obtain ⟨a, l, c, m, es, hc0, hc1, hc2, hM, ho, hg, hrd, hl⟩ := ptCell_c hT
 apply k240_ok
 unfold k240 iV
 unfold textV at h
 refine tnone_c hT ⟨_, rfl, ?_⟩
 simp only [cond_false, cond_dec]
 refine ite_intro' (fun h2 => ?_) fun h2 => ?_
 · rw [dif_neg (by omega)] at h; exact h
 refine ⟨_, rfl, _, _, _, hc1, ite_intro' (fun h3 => ?_) fun h3 => ?_⟩
 · rw [dif_neg (by omega)] at h; exact h
 · rw [dif_pos (by omega)] at h
   obtain ⟨p, hlt2, rfl, hcell⟩ := hrd.str (i := n) (by omega) (by omega)
   exact ⟨_, rfl, _, _, _, hc1, ⟨by omega, by omega⟩, _, rfl, _, by rw [Nat.mul_one]; exact hcell, h⟩
theorem ptAdd_c (hT : PTb H b F t) {s : ByteArray} (h : ∀ H' F', PTb H' b F' (t.add s).2 → Up F H F' H' → Q (.tuple #[.int .i64 (t.add s).1.1, .int .i64 (t.add s).1.2]) H') : callS PP n_k131 #[.pointer (some ⟨b, 0, none⟩), .string s] Q H := by
 have hT0 := hT
 have hlt0 := hT.lt
 have hwf := add_wft hT.wf s
 have hmi : mapInfo PP 217 = some (.string, some (.int .i64 0)) := by kernel_rfl
 have hs1 : sliceInfo PP 37 = some (1, 16, some (.string (⟨#[]⟩ : ByteArray))) := by kernel_rfl
 obtain ⟨a, l, c, F', m, es, rfl, h1, h2, h3, hB, hO, hM, ho, hg, hw, hnd⟩ := hT
 have hc0 : cellH H ⟨b, 0, none⟩ = some (.int .i64 t.most) := hB.cell 0
 have hc1 : cellH H ⟨b, 1, none⟩ = some (.slice a l c) := hB.cell 1
 have hc2 : cellH H ⟨b, 2, none⟩ = some (.map (some m)) := hB.cell 2
 have hl : l = t.texts.length := by have := hO.len; simpa [strsV] using this.symm
 have hm1 := hw.m1
 have hlen := hw.len
 apply k131_ok
 unfold k131 A0 iV
 refine tnone_c hT0 ⟨_, rfl, ?_⟩
 simp only [cond_false, cond_dec]
 unfold TB.add at h hwf
 refine ite_intro' (fun g1 => ?_) fun g1 => ite_intro' (fun g2 => ?_) fun g2 => ?_
 · rw [if_pos (by unfold goodText; omega)] at h; exact h H _ hT0 (Up.refl _ _)
 · rw [if_pos (by unfold goodText; omega)] at h; exact h H _ hT0 (Up.refl _ _)
 have hgd : ¬ ¬ goodText s := by unfold goodText; omega
 rw [if_neg hgd] at h hwf
 refine ⟨_, rfl, _, hc2, ?_⟩
 refine evS_lookup (k := .str s) hmi trivial ho hM ?_
 rw [hg s]
 cases hn : numOf t.texts s with
 | some n =>
   rw [hn] at h
   refine ⟨_, _, rfl, ?_⟩
   exact h H _ hT0 (Up.refl _ _)
 | none =>
   rw [hn] at h hwf
   simp only at h hwf
   refine ⟨_, _, rfl, ?_⟩
   simp only [Option.map_none, Option.isSome_none, cond_false]
   refine ⟨_, rfl, _, _, _, hc1, _, rfl, _, hc0, ite_intro' (fun g3 => ?_) fun g3 => ?_⟩
   · rw [if_pos (by omega)] at h; exact h H _ hT0 (Up.refl _ _)
   · rw [if_neg (by omega)] at h hwf
     refine ⟨_, rfl, _, _, _, hc1, ?_⟩
     refine evS_append1 hs1 rfl (by kernel_rfl) hO rfl (by simp [oneC]) (by omega) (by decide) (by decide) fun a' c' F3 H2 k1 k2 k3 => ⟨_, _, _, rfl, ?_⟩
     have hbF3 : b ∉ F3 := fun hx => by
       rcases k2.2 b hx with h4 | h4
       · exact h1 h4
       · have := hlt0 b (by simp); omega
     have hmF3 : m ∉ F3 := fun hx => by
       rcases k2.2 m hx with h4 | h4
       · exact h3 h4
       · have := hlt0 m (by simp); omega
     have hB2 := hB.fr k2.1 h1
     have hBs := hB2.set 1 (.slice a' (l + 1) c')
     have hMs := (hM.fr k2.1 h3).of_eq (H' := setH H2 ⟨b, 1, none⟩ (.slice a' (l + 1) c')) (setH_ne (Ne.symm h2))
     refine ⟨_, rfl, hB2.wr (by simp), _, rfl, _, hBs.cell 2, ?_⟩
     refine evS_mapUpdate (k := .str s) hmi trivial ho hMs fun H4 hM4 hf4 => ?_
     rw [hl]
     have hfb : Fr [b] H2 (setH H2 ⟨b, 1, none⟩ (.slice a' (l + 1) c')) := Fr.set (by simp)
     refine h H4 (b :: m :: F3) ⟨a', l + 1, c', F3, m, _, rfl, hbF3, h2, hmF3, hBs.fr hf4 (by simpa using h2), ?_, hM4, ?_, fun x => ?_, hwf, ?_⟩ ⟨?_, fun x hx => ?_⟩
     · have h5 := (k1.fr hfb (fun x hx hn => hbF3 (by simp only [List.mem_singleton] at hn; rw [← hn]; exact hx))).fr hf4 (fun x hx hn => hmF3 (by simp only [List.mem_singleton] at hn; rw [← hn]; exact hx))
       simp only
       rw [strsV_append]; exact h5
     · intro p hp
       have : ∀ (es : List (Key × Value)), (∀ p ∈ es, p.1.of .string) → ∀ p ∈ setK es (.str s) (.int .i64 (t.texts.length : Int)), p.1.of .string := by
         intro es
         induction es with
         | nil => intro _ p hp; simp [setK] at hp; subst hp; trivial
         | cons q es ih =>
           intro hes p hp
           unfold setK at hp
           split at hp
           · rcases List.mem_cons.1 hp with rfl | hp
             · trivial
             · exact hes p (by simp [hp])
           · rcases List.mem_cons.1 hp with rfl | hp
             · exact hes _ (by simp)
             · exact ih (fun p hp => hes p (by simp [hp])) p hp
       rw [hl] at hp
       exact this es ho p hp
     · rw [getK_setK, hg x, numOf_append]
       by_cases hx : x = s
       · subst hx
         rw [hn]; simp [hl]
       · rw [if_neg (by simpa using hx)]
         cases numOf t.texts x with
         | some n => rfl
         | none => simp only; rw [if_neg (fun e : s = x => hx e.symm)]
     · have hgn : getK es (.str s) = none := by rw [hg s, hn]; rfl
       rw [setK_none (idxK_none.2 hgn), List.map_append, List.nodup_append]
       refine ⟨hnd, by simp, fun x hx y hy hxy => ?_⟩
       simp only [List.map_cons, List.map_nil, List.mem_singleton] at hy
       subst hy
       subst hxy
       exact (getK_none_iff.1 hgn) hx
     · exact ((k2.1.mono fun x hx => by simp [hx]).step (by simp)).trans (hf4.mono fun x hx => by simp only [List.mem_singleton] at hx; simp [hx])
     · rcases List.mem_cons.1 hx with rfl | hx
       · exact .inl (by simp)
       · rcases List.mem_cons.1 hx with rfl | hx
         · exact .inl (by simp)
         · exact (k2.2 x hx).imp (fun h4 => by simp [h4]) id
theorem cloneS_c {a : Option Addr} {l c : Nat} {ws : List ByteArray} (hk : Rd 1 H a l (strsV ws)) (hlk : l ≤ 1000000000) (h : ∀ a' c' F H', Own 1 H' a' l c' (strsV ws) F → Fr [] H H' → (∀ x ∈ F, H.size ≤ x) → Q (.slice a' l c') H') : callS PP n_k185 #[.slice a l c] Q H := by
 have hs1 : sliceInfo PP 37 = some (1, 16, some (.string (⟨#[]⟩ : ByteArray))) := by kernel_rfl
 apply k185_ok
 unfold k185 A0
 cases a with
 | none =>
   have h0 := hk.2.1 rfl
   subst h0
   have : ws = [] := List.eq_nil_of_length_eq_zero (by have := hk.1; simpa [strsV] using this)
   subst this
   exact h none 0 [] H (Own.nil 1 H) (Fr.refl _ _) (by simp)
 | some p =>
   simp only [Option.isNone_some, cond_false]
   have hown : Own 1 (H.push (.cells #[] 9)) (some ⟨H.size, 0, none⟩) 0 0 (strsV []) [H.size] := ⟨by simp [strsV], Nat.le_refl _, .inr ⟨H.size, _, rfl, rfl, Blk.new _ _ _, by simp, by simp [strsV]⟩⟩
   refine evS_append hs1 rfl (by kernel_rfl) hown (hk.fr' (Fr.push [] _ _) (by simp)) strsV_one (by omega) (by decide) (by decide) fun a' c' F' H' g1 g2 g3 => ⟨_, _, _, rfl, ?_⟩
   have hfr := Up.fresh (H := H) (Fr.push [] H _) g2 (by simp)
   have := h a' c' F' H' (by simpa [strsV] using g1) hfr.1 hfr.2
   simpa using this
theorem ptAll_c (hT : PTb H b F t) (h : ∀ a l c G H', Own 1 H' a l c (strsV t.texts) G → Fr [] H H' → (∀ x ∈ G, H.size ≤ x) → Q (.slice a l c) H') : callS PP n_k79 #[.pointer (some ⟨b, 0, none⟩)] Q H := by
 have hw := hT.wf
 obtain ⟨a, l, c, m, es, hc0, hc1, hc2, hM, ho, hg, hrd, hl⟩ := ptCell_c hT
 have hm1 := hw.m1
 have hlen := hw.len
 apply k79_ok
 unfold k79
 refine tnone_c hT ⟨_, rfl, ?_⟩
 simp only [cond_false]
 refine ⟨_, rfl, _, _, _, by rw [add_none]; exact hc1, ?_⟩
 exact cloneS_c hrd (by omega) fun a' c' G H' h1 h2 h3 => ⟨_, _, _, rfl, h _ _ _ G H' h1 h2 h3⟩
theorem numOf_take {l : List ByteArray} (hnd : l.Nodup) (n : Nat) (s : ByteArray) : numOf (l.take n) s = if s ∈ l.drop n then none else numOf l s := by
 induction l generalizing n with
 | nil => simp [numOf]
 | cons x l ih =>
   rw [List.nodup_cons] at hnd
   cases n with
   | zero =>
     simp only [List.take_zero, List.drop_zero, numOf]
     by_cases h : s ∈ x :: l
     · rw [if_pos h]
     · rw [if_neg h]
       have h1 : x ≠ s := fun e => h (by simp [e])
       have h2 : numOf l s = none := numOf_none.2 fun hm => h (by simp [hm])
       rw [if_neg h1, h2]; rfl
   | succ n =>
     simp only [List.take_succ_cons, List.drop_succ_cons, numOf]
     by_cases h1 : x = s
     · subst h1
       have : x ∉ l.drop n := fun hm => hnd.1 (List.mem_of_mem_drop hm)
       simp [this]
     · rw [if_neg h1, if_neg h1, ih hnd.2]
       split <;> rfl
theorem ptBack_c (hT : PTb H b F t) {n : Int} (h : ∀ H', PTb H' b F (TB.back t n).2 → Fr F H H' → Q (.int .i64 (TB.back t n).1) H') : callS PP n_k207 #[.pointer (some ⟨b, 0, none⟩), .int .i64 n] Q H := by
 have hT0 := hT
 have hlt0 := hT.lt
 have hmi : mapInfo PP 217 = some (.string, some (.int .i64 0)) := by kernel_rfl
 obtain ⟨a, l, c, F', m, es, rfl, h1, h2, h3, hB, hO, hM, ho, hg, hw, hnd⟩ := hT
 have hc1 : cellH H ⟨b, 1, none⟩ = some (.slice a l c) := hB.cell 1
 have hl : l = t.texts.length := by have := hO.len; simpa [strsV] using this.symm
 have hm1 := hw.m1
 have hlen := hw.len
 have hlc := hO.2.1
 apply k207_ok
 unfold k207 iV wW
 unfold TB.back at h
 refine tnone_c hT0 ⟨_, rfl, ?_⟩
 simp only [cond_false, cond_dec]
 refine ite_i (fun g1 => ?_) fun g1 => ?_
 · rw [if_pos (.inl g1)] at h; exact h H hT0 (Fr.refl _ _)
 refine ⟨_, rfl, _, _, _, by rw [add_none]; exact hc1, ite_i (fun g2 => ?_) fun g2 => ?_⟩
 · rw [if_pos (by omega)] at h; exact h H hT0 (Fr.refl _ _)
 rw [if_neg (by omega)] at h
 have e1 : IntKind.wrap .i64 ((l : Int) - n) = (l : Int) - n := wrap64_id (by omega) (by omega)
 refine ⟨_, rfl, _, _, _, by rw [add_none]; exact hc1, ?_⟩
 rw [e1]
 refine ⟨fun w H' => ∃ (i : Nat) (es' : List (Key × Value)), w = [.int .i64 i] ∧ (i : Int) ≤ (l : Int) - n ∧ Fr [m] H H' ∧ MapAt H' m es' ∧ es'.Sublist es ∧ ∀ s, getK es' (.str s) = if s ∈ (t.texts.drop n.toNat).take i then none else getK es (.str s), fun w _ => match w with
   | [.int _ i] => ((l : Int) - n - i).toNat
   | _ => 0, ⟨0, es, rfl, by omega, Fr.refl _ _, hM, List.Sublist.refl _, by simp⟩, ?_⟩
 rintro w H1 ⟨i, es', rfl, hi, hf, hM1, hsub, hg1⟩ _
 have hB1 := hB.fr hf (by simpa using h2)
 have hO1 := hO.fr hf (fun x hx hm => h3 (by simp only [List.mem_singleton] at hm; rw [← hm]; exact hx))
 refine ⟨_, rfl, ite_i (fun g3 => ?_) fun g3 => ?_⟩
 · have e2 : IntKind.wrap .i64 (n + (i : Int)) = n + i := wrap64_id (by omega) (by omega)
   have e3 : IntKind.wrap .i64 ((i : Int) + 1) = ((i + 1 : Nat) : Int) := by rw [wrap64_id (by omega) (by omega)]; omega
   rw [e2, e3]
   obtain ⟨p, hlt2, rfl, hcell⟩ := hO1.rd.str (i := n + (i : Int)) (by omega) (by omega)
   refine ⟨_, rfl, _, by rw [add_none]; exact hB1.cell 2, _, rfl, _, _, _, by rw [add_none]; exact hB1.cell 1, ⟨by omega, by omega⟩, _, rfl, _, by rw [Nat.mul_one]; exact hcell, ?_⟩
   have hnd1 : (es'.map (·.1)).Nodup := hnd.sublist (hsub.map _)
   refine evS_delete (k := .str t.texts[(n + (i : Int)).toNat]) hmi trivial (fun p hp => ho p (hsub.subset hp)) hM1 fun H2 hM2 hf2 => ⟨trivial, ⟨i + 1, _, rfl, by omega, hf.trans hf2, hM2, (delK_sub _ _).trans hsub, fun s => ?_⟩, by simp; omega⟩
   have hdl : i < (t.texts.drop n.toNat).length := by rw [List.length_drop]; omega
   have htk : (t.texts.drop n.toNat).take (i + 1) = (t.texts.drop n.toNat).take i ++ [t.texts[(n + (i : Int)).toNat]] := by
     rw [List.take_succ_eq_append_getElem hdl, List.getElem_drop]
     congr 3; omega
   rw [getK_delK hnd1, hg1, htk]
   by_cases hs : s = t.texts[(n + (i : Int)).toNat]
   · rw [if_pos (by rw [hs]), if_pos (by rw [hs]; simp)]
   · rw [if_neg (by simpa using hs)]
     simp only [List.mem_append, List.mem_singleton, hs, or_false]
 · have hin : (i : Int) = (l : Int) - n := by omega
   have htk : (t.texts.drop n.toNat).take i = t.texts.drop n.toNat := List.take_of_length_le (by rw [List.length_drop]; omega)
   rw [htk] at hg1
   refine ⟨_, rfl, _, _, _, by rw [add_none]; exact hB1.cell 1, ⟨by omega, by omega⟩, _, rfl, by rw [add_none]; exact hB1.wr (by simp), ?_⟩
   rw [add_none]
   have hfb : Fr [b] H1 (setH H1 ⟨b, 1, none⟩ (.slice a n.toNat c)) := Fr.set (by simp)
   refine h _ ⟨a, n.toNat, c, F', m, es', rfl, h1, h2, h3, hB1.set 1 _, ?_, hM1.fr hfb (by simpa using Ne.symm h2), fun p hp => ho p (hsub.subset hp), fun s => ?_, ?_, hnd.sublist (hsub.map _)⟩ ((hf.mono fun x hx => by simp only [List.mem_singleton] at hx; simp [hx]).trans (hfb.mono fun x hx => by simp only [List.mem_singleton] at hx; simp [hx]))
   · have h4 := hO1.fr hfb (fun x hx hm => h1 (by simp only [List.mem_singleton] at hm; rw [← hm]; exact hx))
     refine ⟨by simp [strsV]; omega, by omega, ?_⟩
     rcases h4.2.2 with ⟨h6, h7, h8⟩ | ⟨b', cs, h6, h7, h8, h9, h10⟩
     · exact .inl ⟨h6, h7, h8⟩
     · refine .inr ⟨b', cs, h6, h7, h8, h9, ?_⟩
       have h11 : (cs.toList.take (l * 1)).take (n.toNat * 1) = (strsV t.texts).take (n.toNat * 1) := by rw [h10]
       rw [List.take_take] at h11
       have h12 : min (n.toNat * 1) (l * 1) = n.toNat * 1 := by omega
       rw [h12] at h11
       rw [h11]
       simp [strsV, List.map_take]
   · rw [hg1 s, numOf_take hw.nodup, hg s]
     split <;> rfl
   · exact { hw with len := by simp; omega, nodup := hw.nodup.sublist (List.take_sublist _ _), good := fun s hs => hw.good s (List.mem_of_mem_take hs) }
end
variable {Q : QT} {H : Heap}
abbrev n_k10 : Nat := 10
def k10 (n1 : Int) (n2 : Int) (Q : QT) (H : Heap) : Prop :=
 callS PP 46 #[iV n1, iV n2] (fun v3 H1 => ∃ p4 n5, v3 = .tuple #[.pointer p4, iV n5] ∧ cond (n5 != 0) (Q (.tuple #[.pointer none, iV n5]) H1) (callS PP 47 #[iV 4096] (fun v6 H2 => ∃ p7 n8, v6 = .tuple #[.pointer p7, iV n8] ∧ cond (n8 != 0) (Q (.tuple #[.pointer none, iV n8]) H2) (callS PP 48 #[] (fun v9 H3 => ∃ a10 l10 c10, v9 = .slice a10 l10 c10 ∧ ∃ (I11 : IT) (μ11 : MT), I11 [.slice (some (⟨(H2.push (.cells #[.pointer p4, .pointer p7] 90)).size, 0, none⟩ : Addr)) 3 3, iV 0] H3 ∧ ∀ w12 H4, I11 w12 H4 → ∀ _g : Nat → Value, ∃ a13 l13, ∃ c13 n14, w12 = [.slice a13 l13 c13, iV n14] ∧ cond (decide (n14 < (l10 : Int))) (evS PP (Builtin.append_ #[92, 92] 92 #[.slice a13 l13 c13, .slice (some (A0 H4.size)) 1 1]) (fun v15 H5 => ∃ a16 l16 c16, v15 = .slice a16 l16 c16 ∧ I11 [.slice a16 l16 c16, iV (wW (n14 + 1))] H5 ∧ μ11 [.slice a16 l16 c16, iV (wW (n14 + 1))] H5 < μ11 w12 H4) (H4.push (.cells #[iV 12, iV 7] 91))) (evS PP (Builtin.append_ #[92, 92] 92 #[.slice a13 l13 c13, .slice (some (A0 H4.size)) 3 3]) (fun v17 H6 => ∃ a18 l18 c18, v17 = .slice a18 l18 c18 ∧ ∃ (I19 : IT) (μ19 : MT), I19 [iV 0] H6 ∧ ∀ w20 H7, I19 w20 H7 → ∀ _g : Nat → Value, ∃ n21, w20 = [iV n21] ∧ cond (decide (n21 < (l18 : Int))) (((0 : Int) ≤ n21 ∧ n21 < (l18 : Int)) ∧ ∃ q22, a18 = some q22 ∧ ∃ n23 : Int, shH (setH (H7.push (.cells #[iV 0, iV 0] 91)) (A0 H7.size) (iV n23)) fun C2 => cellH H7 (q22.add (Int.toNat n21 * 2)) = some (iV n23) ∧ ∃ n24 : Int, shH (setH C2 ((A0 H7.size).add 1) (iV n24)) fun C1 => cellH H7 ((q22.add (Int.toNat n21 * 2)).add 1) = some (iV n24) ∧ Wr (H7.push (.cells #[iV 0, iV 0] 91)) (A0 H7.size) ∧ Wr C2 ((A0 H7.size).add 1) ∧ ∃ n25, cellH C1 (A0 H7.size) = some (iV n25) ∧ ∃ n26, cellH C1 ((A0 H7.size).add 1) = some (iV n26) ∧ callS PP 20 #[.pointer p4] (fun v27 H8 => ∃ p28, v27 = .pointer p28 ∧ ((cellH H8 ((A0 H7.size).add 1) = some (iV n26) ∧ True) ∧ ((cellH H8 (A0 H7.size) = some (iV n25) ∧ True) ∧ True)) ∧ callS PP 50 #[iV n25] (fun v29 H9 => ∃ n30, v29 = iV n30 ∧ ((cellH H9 ((A0 H7.size).add 1) = some (iV n26) ∧ True) ∧ True) ∧ callS PP 49 #[.pointer p28, iV n30, iV n26, iV 0] (fun v31 H10 => ∃ n32 n33, v31 = .tuple #[iV n32, iV n33] ∧ True ∧ cond (n33 != 0) (Q (.tuple #[.pointer none, iV n33]) H10) (callS PP 50 #[iV n32] (fun v34 H11 => ∃ n35, v34 = iV n35 ∧ callS PP 51 #[.pointer p4, .slice (some (A0 H11.size)) 1 1] (fun v36 H12 => ∃ n37, v36 = iV n37 ∧ cond (n37 != 0) (Q (.tuple #[.pointer none, iV n37]) H12) (I19 [iV (wW (n21 + 1))] H12 ∧ μ19 [iV (wW (n21 + 1))] H12 < μ19 w20 H7)) (H11.push (.cells #[iV n35] 36))) H10)) H9) H8) C1) (callS PP 52 #[.pointer (some (A0 H2.size))] (fun v38 H13 => v38 = .tuple #[] ∧ callS PP 53 #[.pointer p4, iV 19] (fun v39 H14 => ∃ n40, v39 = iV n40 ∧ callS PP 54 #[.pointer p4, iV (l18 : Int)] (fun v41 H15 => ∃ n42, v41 = iV n42 ∧ Q (.tuple #[.pointer (some (A0 H2.size)), iV 0]) H15) H14) H13) H7)) (H4.push (.cells #[iV 11, iV 0, iV 11, iV 8, iV 11, iV 14] 91)))) ((H2.push (.cells #[.pointer p4, .pointer p7] 90)).push (.cells #[iV 5, iV 0, iV 6, iV 0, iV 7, iV 0] 91)))) H1)) H
theorem k10_ok {n1 : Int} {n2 : Int} (h : k10 n1 n2 Q H) : callS PP 10 #[.int .i64 n1, .int .i64 n2] Q H :=
 callS_of good Tryz.func10 rfl (Ls := fun | 10 => some [(10, 92), (41, 3)] | 15 => some [(56, 3)] | _ => none) (by kernel_rfl) h
abbrev n_k14 : Nat := 14
def k14 (p1 : Option Addr) (n2 : Int) (Q : QT) (H : Heap) : Prop :=
 callS PP 73 #[.pointer p1] (fun v3 H1 => shH (setH (H1.push (.cells #[.pointer none] 131)) (A0 H1.size) (.pointer p1)) fun C1 => ∃ b4, v3 = .bool b4 ∧ cond (!b4) (Q (.tuple #[iV 0, iV 2]) H1) (Wr (H1.push (.cells #[.pointer none] 131)) (A0 H1.size) ∧ ∃ p5, cellH C1 (A0 H1.size) = some (.pointer p5) ∧ callS PP 74 #[.agg #[.pointer p5], iV 0] (fun v6 H2 => ∃ n7, v6 = iV n7 ∧ cond (decide (n2 < 1)) (Q (.tuple #[iV 0, iV 130]) H2) (∃ p8, cellH H2 (A0 H1.size) = some (.pointer p8) ∧ callS PP 75 #[.agg #[.pointer p8], iV n7] (fun v9 H3 => ∃ n10, v9 = iV n10 ∧ cond (decide (n2 > n10)) (Q (.tuple #[iV 0, iV 130]) H3) (∃ p11, cellH H3 (A0 H1.size) = some (.pointer p11) ∧ callS PP 76 #[.agg #[.pointer p11], iV n7, iV (wW (n2 - 1))] (fun v12 H4 => ∃ n13, v12 = iV n13 ∧ Q (.tuple #[iV n13, iV 0]) H4) H3)) H2)) C1)) H
theorem k14_ok {p1 : Option Addr} {n2 : Int} (h : k14 p1 n2 Q H) : callS PP 14 #[.pointer p1, .int .i64 n2] Q H :=
 okF Tryz.func14 rfl h
abbrev n_k17 : Nat := 17
def k17 (p1 : Option Addr) (s2 : ByteArray) (s3 : ByteArray) (a4 : Option Addr) (l4 : Nat) (c4 : Nat) (Q : QT) (H : Heap) : Prop :=
 callS PP 73 #[.pointer p1] (fun v5 H1 => ∃ b6, v5 = .bool b6 ∧ cond (!b6) (Q (.tuple #[iV 0, iV 2]) H1) (callS PP 87 #[.pointer p1, .string s2, .string s3, .slice a4 l4 c4] (fun v7 H2 => ∃ n8 n9, v7 = .tuple #[iV n8, iV n9] ∧ cond (n9 != 0) (Q (.tuple #[iV 0, iV n9]) H2) (callS PP 88 #[.pointer p1] (fun v10 H3 => ∃ p11, v10 = .pointer p11 ∧ callS PP 89 #[.pointer p11, .string s2, iV n8, .slice a4 l4 c4] (fun v12 H4 => ∃ n13 n14, v12 = .tuple #[iV n13, iV n14] ∧ callS PP 90 #[.pointer p11, iV n14] (fun v15 H5 => ∃ n16, v15 = iV n16 ∧ cond (n16 != 0) (Q (.tuple #[iV 0, iV n16]) H5) (Q (.tuple #[iV n13, iV 0]) H5)) H4) H3) H2)) H1)) H
theorem k17_ok {p1 : Option Addr} {s2 : ByteArray} {s3 : ByteArray} {a4 : Option Addr} {l4 : Nat} {c4 : Nat} (h : k17 p1 s2 s3 a4 l4 c4 Q H) : callS PP 17 #[.pointer p1, .string s2, .string s3, .slice a4 l4 c4] Q H :=
 okF Tryz.func17 rfl h
abbrev n_k18 : Nat := 18
def k18 (p1 : Option Addr) (s2 : ByteArray) (Q : QT) (H : Heap) : Prop :=
 callS PP 73 #[.pointer p1] (fun v3 H1 => ∃ b4, v3 = .bool b4 ∧ cond (!b4) (Q (iV 2) H1) (callS PP 91 #[.string s2, .int .u8 65, .int .u8 90] (fun v5 H2 => ∃ b6, v5 = .bool b6 ∧ cond (!b6) (Q (iV 133) H2) (callS PP 92 #[.pointer p1, .string s2] (fun v7 H3 => ∃ b8, v7 = .bool b8 ∧ cond b8 (Q (iV 131) H3) (callS PP 71 #[.pointer p1] (fun v9 H4 => ∃ a10 l10 c10, v9 = .slice a10 l10 c10 ∧ cond (decide ((l10 : Int) ≥ 256)) (Q (iV 138) H4) (callS PP 88 #[.pointer p1] (fun v11 H5 => ∃ p12, v11 = .pointer p12 ∧ callS PP 93 #[.pointer p12, .string s2] (fun v13 H6 => ∃ n14 n15, v13 = .tuple #[iV n14, iV n15] ∧ cond (n15 == 0) (∃ q16, p12 = some q16 ∧ ∃ p17, cellH H6 q16 = some (.pointer p17) ∧ ∃ q18, p12 = some q18 ∧ ∃ p19, cellH H6 q18 = some (.pointer p19) ∧ callS PP 74 #[.agg #[.pointer p19], iV 1] (fun v20 H7 => ∃ n21, v20 = iV n21 ∧ ((cellH H7 q16 = some (.pointer p17) ∧ True) ∧ True) ∧ callS PP 95 #[.agg #[.pointer p17], iV n21] (fun v22 H8 => ∃ a23 l23 c23, v22 = .slice a23 l23 c23 ∧ True ∧ callS PP 50 #[iV 1] (fun v24 H9 => ∃ n25, v24 = iV n25 ∧ True ∧ True ∧ evS PP (Builtin.append_ #[108, 108] 108 #[.slice a23 l23 c23, .slice (some (A0 H9.size)) 2 2]) (fun v26 H10 => ∃ a27 l27 c27, v26 = .slice a27 l27 c27 ∧ True ∧ callS PP 94 #[.pointer p12, .slice a27 l27 c27] (fun v28 H11 => ∃ n29 n30, v28 = .tuple #[iV n29, iV n30] ∧ True ∧ cond (n30 == 0) (∃ q31, p12 = some q31 ∧ ∃ p32, cellH H11 q31 = some (.pointer p32) ∧ ∃ q33, p32 = some q33 ∧ ∃ p34, cellH H11 q33 = some (.pointer p34) ∧ callS PP 96 #[.pointer p34, iV 1, iV n29] (fun v35 H12 => ∃ n36, v35 = iV n36 ∧ callS PP 90 #[.pointer p12, iV n30] (fun v37 H13 => ∃ n38, v37 = iV n38 ∧ Q (iV n38) H13) H12) H11) (callS PP 90 #[.pointer p12, iV n30] (fun v39 H14 => ∃ n40, v39 = iV n40 ∧ Q (iV n40) H14) H11)) H10) (H9.push (.cells #[iV n14, iV n25] 36))) H8) H7) H6) (callS PP 90 #[.pointer p12, iV n15] (fun v41 H15 => ∃ n42, v41 = iV n42 ∧ Q (iV n42) H15) H6)) H5) H4)) H3)) H2)) H1)) H
theorem k18_ok {p1 : Option Addr} {s2 : ByteArray} (h : k18 p1 s2 Q H) : callS PP 18 #[.pointer p1, .string s2] Q H :=
 okF Tryz.func18 rfl h
abbrev n_k19 : Nat := 19
def k19 (p1 : Option Addr) (Q : QT) (H : Heap) : Prop :=
 cond (Option.isNone p1) (Q (.pointer none) H) (∃ q2, p1 = some q2 ∧ ∃ p3, cellH H q2 = some (.pointer p3) ∧ Q (.pointer p3) H)
theorem k19_ok {p1 : Option Addr} (h : k19 p1 Q H) : callS PP 19 #[.pointer p1] Q H :=
 okF Tryz.func19 rfl h
abbrev n_k25 : Nat := 25
def k25 (p1 : Option Addr) (p2 : Option Addr) (Q : QT) (H : Heap) : Prop :=
 cond (Option.isNone p1) (Q (.tuple #[.pointer none, iV 2]) H) (cond (Option.isNone p2) (Q (.tuple #[.pointer none, iV 2]) H) (Q (.tuple #[.pointer (some (A0 H.size)), iV 0]) (H.push (.cells #[.pointer p1, .pointer p2] 90))))
theorem k25_ok {p1 : Option Addr} {p2 : Option Addr} (h : k25 p1 p2 Q H) : callS PP 25 #[.pointer p1, .pointer p2] Q H :=
 okF Tryz.func25 rfl h
abbrev n_k26 : Nat := 26
def k26 (p1 : Option Addr) (Q : QT) (H : Heap) : Prop :=
 cond (Option.isNone p1) (Q (.pointer none) H) (∃ q2, p1 = some q2 ∧ ∃ p3, cellH H (q2.add 1) = some (.pointer p3) ∧ Q (.pointer p3) H)
theorem k26_ok {p1 : Option Addr} (h : k26 p1 Q H) : callS PP 26 #[.pointer p1] Q H :=
 okF Tryz.func26 rfl h
abbrev n_k52 : Nat := 52
def k52 (p1 : Option Addr) (Q : QT) (H : Heap) : Prop :=
 ∃ q2, p1 = some q2 ∧ ∃ p3, cellH H q2 = some (.pointer p3) ∧ callS PP 20 #[.pointer p3] (fun v4 H1 => ∃ p5, v4 = .pointer p5 ∧ callS PP 48 #[] (fun v6 H2 => ∃ a7 l7 c7, v6 = .slice a7 l7 c7 ∧ ∃ (I8 : IT) (μ8 : MT), I8 [iV 0] H2 ∧ ∀ w9 H3, I8 w9 H3 → ∀ _g : Nat → Value, ∃ n10, w9 = [iV n10] ∧ cond (decide (n10 < (l7 : Int))) (((0 : Int) ≤ n10 ∧ n10 < (l7 : Int)) ∧ ∃ q11, a7 = some q11 ∧ ∃ s12, cellH H3 (q11.add (Int.toNat n10 * 1)) = some (.string s12) ∧ ∃ q13, p1 = some q13 ∧ ∃ p14, cellH H3 (q13.add 1) = some (.pointer p14) ∧ callS PP 131 #[.pointer p14, .string s12] (fun v15 H4 => ∃ n16 n17, v15 = .tuple #[iV n16, iV n17] ∧ callS PP 143 #[iV n16] (fun v18 H5 => ∃ n19 n20, v18 = .tuple #[iV n19, iV n20] ∧ callS PP 50 #[iV 4] (fun v21 H6 => ∃ n22, v21 = iV n22 ∧ ∃ J23 : IT, (cond (n10 == 0) (callS PP 50 #[iV 1] (fun v24 H7 => ∃ n25, v24 = iV n25 ∧ J23 [iV n25] H7) H6) (J23 [iV n22] H6)) ∧ ∀ w26 H8, J23 w26 H8 → ∀ _g : Nat → Value, ∃ n27, w26 = [iV n27] ∧ callS PP 50 #[iV 18] (fun v28 H9 => ∃ n29, v28 = iV n29 ∧ callS PP 50 #[iV 18] (fun v30 H10 => ∃ n31, v30 = iV n31 ∧ callS PP 50 #[iV 18] (fun v32 H11 => ∃ n33, v32 = iV n33 ∧ callS PP 166 #[iV 0] (fun v34 H12 => ∃ n35, v34 = iV n35 ∧ callS PP 166 #[iV (wW (n10 + 1))] (fun v36 H13 => ∃ n37, v36 = iV n37 ∧ ∃ (I38 : IT) (μ38 : MT), I38 [iV 0] (H13.push (.cells #[iV n19, iV n27, iV n29, iV n31, iV n33, iV n35, iV n37] 36)) ∧ ∀ w39 H14, I38 w39 H14 → ∀ _g : Nat → Value, ∃ n40, w39 = [iV n40] ∧ cond (decide (n40 < (7 : Int))) (((0 : Int) ≤ n40 ∧ n40 < (7 : Int)) ∧ ∃ q41, (some (A0 H13.size)) = some q41 ∧ ∃ n42, cellH H14 (q41.add (Int.toNat n40 * 1)) = some (iV n42) ∧ callS PP 140 #[.pointer p5, iV (wW (4 + n10)), iV n40, iV n42] (fun v43 H15 => ∃ n44, v43 = iV n44 ∧ I38 [iV (wW (n40 + 1))] H15 ∧ μ38 [iV (wW (n40 + 1))] H15 < μ38 w39 H14) H14) (callS PP 50 #[iV (wW (4 + n10))] (fun v45 H16 => ∃ n46, v45 = iV n46 ∧ callS PP 140 #[.pointer p5, iV 20, iV n10, iV n46] (fun v47 H17 => ∃ n48, v47 = iV n48 ∧ I8 [iV (wW (n10 + 1))] H17 ∧ μ8 [iV (wW (n10 + 1))] H17 < μ8 w9 H3) H16) H14)) H12) H11) H10) H9) H8) H5) H4) H3) (∃ (I49 : IT) (μ49 : MT), I49 [iV 0] (H3.push (.cells #[iV 20, iV 18, iV 18, iV 18, iV 1, iV 2, iV 3] 3)) ∧ ∀ w50 H18, I49 w50 H18 → ∀ _g : Nat → Value, ∃ n51, w50 = [iV n51] ∧ cond (decide (n51 < (7 : Int))) (((0 : Int) ≤ n51 ∧ n51 < (7 : Int)) ∧ ∃ q52, (some (A0 H3.size)) = some q52 ∧ ∃ n53, cellH H18 (q52.add (Int.toNat n51 * 1)) = some (iV n53) ∧ callS PP 50 #[iV n53] (fun v54 H19 => ∃ n55, v54 = iV n55 ∧ callS PP 140 #[.pointer p5, iV 19, iV n51, iV n55] (fun v56 H20 => ∃ n57, v56 = iV n57 ∧ I49 [iV (wW (n51 + 1))] H20 ∧ μ49 [iV (wW (n51 + 1))] H20 < μ49 w50 H18) H19) H18) (Q (.tuple #[]) H18))) H1) H
theorem k52_ok {p1 : Option Addr} (h : k52 p1 Q H) : callS PP 52 #[.pointer p1] Q H :=
 callS_of good Tryz.func52 rfl (Ls := fun | 2 => some [(21, 3)] | 1009 => some [(9, 36)] | 10 => some [(55, 3)] | 17 => some [(76, 3)] | _ => none) (by kernel_rfl) h
abbrev n_k66 : Nat := 66
def k66 (p1 : Option Addr) (s2 : ByteArray) (Q : QT) (H : Heap) : Prop :=
 callS PP 73 #[.pointer p1] (fun v3 H1 => shH (setH (H1.push (.cells #[.pointer none] 131)) (A0 H1.size) (.pointer p1)) fun C1 => ∃ b4, v3 = .bool b4 ∧ cond (!b4) (Q (.tuple #[iV 0, iV 2]) H1) (Wr (H1.push (.cells #[.pointer none] 131)) (A0 H1.size) ∧ ∃ p5, cellH C1 (A0 H1.size) = some (.pointer p5) ∧ callS PP 74 #[.agg #[.pointer p5], iV 0] (fun v6 H2 => ∃ n7, v6 = iV n7 ∧ ∃ p8, cellH H2 (A0 H1.size) = some (.pointer p8) ∧ callS PP 75 #[.agg #[.pointer p8], iV n7] (fun v9 H3 => ∃ n10, v9 = iV n10 ∧ ∃ (I11 : IT) (μ11 : MT), I11 [iV 0] H3 ∧ ∀ w12 H4, I11 w12 H4 → ∀ _g : Nat → Value, ∃ n13, w12 = [iV n13] ∧ cond (decide (n13 < n10)) (∃ p14, cellH H4 (A0 H1.size) = some (.pointer p14) ∧ callS PP 76 #[.agg #[.pointer p14], iV n7, iV n13] (fun v15 H5 => ∃ n16, v15 = iV n16 ∧ ∃ p17, cellH H5 (A0 H1.size) = some (.pointer p17) ∧ callS PP 176 #[.agg #[.pointer p17], iV n16, iV 0] (fun v18 H6 => ∃ s19, v18 = .string s19 ∧ cond (strEq s19 s2) (Q (.tuple #[iV n16, iV 0]) H6) (I11 [iV (wW (n13 + 1))] H6 ∧ μ11 [iV (wW (n13 + 1))] H6 < μ11 w12 H4)) H5) H4) (Q (.tuple #[iV 0, iV 130]) H4)) H2) C1)) H
theorem k66_ok {p1 : Option Addr} {s2 : ByteArray} (h : k66 p1 s2 Q H) : callS PP 66 #[.pointer p1, .string s2] Q H :=
 callS_of good Tryz.func66 rfl (Ls := fun | 6 => some [(20, 3)] | _ => none) (by kernel_rfl) h
abbrev n_k67 : Nat := 67
def k67 (p1 : Option Addr) (n2 : Int) (Q : QT) (H : Heap) : Prop :=
 callS PP 177 #[.pointer p1, iV n2] (fun v3 H1 => ∃ p4 : Option Addr, shH (setH (H1.push (.cells #[.pointer none] 131)) (A0 H1.size) (.pointer p4)) fun C1 => shH (setH C1 (A0 H.size) (.string (⟨#[]⟩ : ByteArray))) fun C44 => shH (setH C44 ((A0 H.size).add 1) (.string (⟨#[]⟩ : ByteArray))) fun C25 => shH (C1.push (.cells #[.string (⟨#[]⟩ : ByteArray), .string (⟨#[]⟩ : ByteArray), .slice none 0 0, iV 0] 121)) fun C19 => shH (setH (setH C25 ((A0 H.size).add 2) (.slice none 0 0)) ((A0 H.size).add 3) (iV 0)) fun C7 => ∃ n5, v3 = .tuple #[.agg #[.pointer p4], iV n5] ∧ Wr (H1.push (.cells #[.pointer none] 131)) (A0 H1.size) ∧ cond (n5 != 0) (Wr C1 (A0 H.size) ∧ Wr C44 ((A0 H.size).add 1) ∧ Wr C25 ((A0 H.size).add 2) ∧ Wr (setH C25 ((A0 H.size).add 2) (.slice none 0 0)) ((A0 H.size).add 3) ∧ ∃ s6, cellH C7 (A0 H.size) = some (.string s6) ∧ ∃ s7, cellH C7 ((A0 H.size).add 1) = some (.string s7) ∧ ∃ a8 l8 c8, cellH C7 ((A0 H.size).add 2) = some (.slice a8 l8 c8) ∧ ∃ n9, cellH C7 ((A0 H.size).add 3) = some (iV n9) ∧ Q (.tuple #[.agg #[.string s6, .string s7, .slice a8 l8 c8, iV n9], iV n5]) C7) (∃ p10, cellH C1 (A0 H1.size) = some (.pointer p10) ∧ ∃ p11, cellH C1 (A0 H1.size) = some (.pointer p11) ∧ ∃ p12, cellH C1 (A0 H1.size) = some (.pointer p12) ∧ ∃ p13, cellH C1 (A0 H1.size) = some (.pointer p13) ∧ (callS PP 176 #[.agg #[.pointer p10], iV n2, iV 0] (fun v14 H2 => shH (H2.push (.cells #[.string (⟨#[]⟩ : ByteArray), .string (⟨#[]⟩ : ByteArray), .slice none 0 0, iV 0] 121)) fun C24 => ∃ s15, v14 = .string s15 ∧ ((cellH H2 (A0 H1.size) = some (.pointer p13) ∧ True) ∧ ((cellH H2 (A0 H1.size) = some (.pointer p12) ∧ True) ∧ ((cellH H2 (A0 H1.size) = some (.pointer p11) ∧ True) ∧ True))) ∧ (callS PP 76 #[.agg #[.pointer p12], iV n2, iV 2] (fun v16 H3 => shH (H3.push (.cells #[.string (⟨#[]⟩ : ByteArray), .string (⟨#[]⟩ : ByteArray), .slice none 0 0, iV 0] 121)) fun C27 => ∃ n17, v16 = iV n17 ∧ ((cellH H3 (A0 H1.size) = some (.pointer p13) ∧ True) ∧ ((cellH H3 (A0 H1.size) = some (.pointer p11) ∧ True) ∧ True)) ∧ (callS PP 178 #[.agg #[.pointer p11], iV n17] (fun v18 H4 => shH (H4.push (.cells #[.string (⟨#[]⟩ : ByteArray), .string (⟨#[]⟩ : ByteArray), .slice none 0 0, iV 0] 121)) fun C43 => ∃ a19 l19 c19, v18 = .slice a19 l19 c19 ∧ ((cellH H4 (A0 H1.size) = some (.pointer p13) ∧ True) ∧ True) ∧ (callS PP 179 #[.agg #[.pointer p13], iV n2, iV 5] (fun v20 H5 => shH (H5.push (.cells #[.string (⟨#[]⟩ : ByteArray), .string (⟨#[]⟩ : ByteArray), .slice none 0 0, iV 0] 121)) fun C26 => shH (setH (setH C26 (A0 H5.size) (.string s15)) ((A0 H5.size).add 1) (.string (⟨#[]⟩ : ByteArray))) fun C13 => shH (setH C13 ((A0 H5.size).add 2) (.slice a19 l19 c19)) fun C38 => ∃ n21, v20 = iV n21 ∧ True ∧ True ∧ Wr C26 (A0 H5.size) ∧ Wr (setH C26 (A0 H5.size) (.string s15)) ((A0 H5.size).add 1) ∧ Wr C13 ((A0 H5.size).add 2) ∧ Wr C38 ((A0 H5.size).add 3) ∧ True ∧ ∃ p22, cellH (setH C38 ((A0 H5.size).add 3) (iV n21)) (A0 H1.size) = some (.pointer p22) ∧ callS PP 180 #[.agg #[.pointer p22], iV n2] (fun v23 H6 => ∃ n24, v23 = iV n24 ∧ cond (decide (n24 > 0)) (∃ p25, cellH H6 (A0 H1.size) = some (.pointer p25) ∧ callS PP 176 #[.agg #[.pointer p25], iV n24, iV 0] (fun v26 H7 => ∃ s27 : ByteArray, shH (setH H7 ((A0 H5.size).add 1) (.string s27)) fun C18 => v26 = .string s27 ∧ Wr H7 ((A0 H5.size).add 1) ∧ ∃ s28, cellH C18 (A0 H5.size) = some (.string s28) ∧ ∃ s29 : ByteArray, shH (setH (setH C18 (A0 H.size) (.string s28)) ((A0 H.size).add 1) (.string s29)) fun C32 => cellH C18 ((A0 H5.size).add 1) = some (.string s29) ∧ ∃ a30 l30 c30, cellH C18 ((A0 H5.size).add 2) = some (.slice a30 l30 c30) ∧ ∃ n31 : Int, shH (setH (setH C32 ((A0 H.size).add 2) (.slice a30 l30 c30)) ((A0 H.size).add 3) (iV n31)) fun C6 => cellH C18 ((A0 H5.size).add 3) = some (iV n31) ∧ Wr C18 (A0 H.size) ∧ Wr (setH C18 (A0 H.size) (.string s28)) ((A0 H.size).add 1) ∧ Wr C32 ((A0 H.size).add 2) ∧ Wr (setH C32 ((A0 H.size).add 2) (.slice a30 l30 c30)) ((A0 H.size).add 3) ∧ ∃ s32, cellH C6 (A0 H.size) = some (.string s32) ∧ ∃ s33, cellH C6 ((A0 H.size).add 1) = some (.string s33) ∧ ∃ a34 l34 c34, cellH C6 ((A0 H.size).add 2) = some (.slice a34 l34 c34) ∧ ∃ n35, cellH C6 ((A0 H.size).add 3) = some (iV n35) ∧ Q (.tuple #[.agg #[.string s32, .string s33, .slice a34 l34 c34, iV n35], iV 0]) C6) H6) (∃ s36, cellH H6 (A0 H5.size) = some (.string s36) ∧ ∃ s37 : ByteArray, shH (setH (setH H6 (A0 H.size) (.string s36)) ((A0 H.size).add 1) (.string s37)) fun C36 => cellH H6 ((A0 H5.size).add 1) = some (.string s37) ∧ ∃ a38 l38 c38, cellH H6 ((A0 H5.size).add 2) = some (.slice a38 l38 c38) ∧ ∃ n39 : Int, shH (setH (setH C36 ((A0 H.size).add 2) (.slice a38 l38 c38)) ((A0 H.size).add 3) (iV n39)) fun C11 => cellH H6 ((A0 H5.size).add 3) = some (iV n39) ∧ Wr H6 (A0 H.size) ∧ Wr (setH H6 (A0 H.size) (.string s36)) ((A0 H.size).add 1) ∧ Wr C36 ((A0 H.size).add 2) ∧ Wr (setH C36 ((A0 H.size).add 2) (.slice a38 l38 c38)) ((A0 H.size).add 3) ∧ ∃ s40, cellH C11 (A0 H.size) = some (.string s40) ∧ ∃ s41, cellH C11 ((A0 H.size).add 1) = some (.string s41) ∧ ∃ a42 l42 c42, cellH C11 ((A0 H.size).add 2) = some (.slice a42 l42 c42) ∧ ∃ n43, cellH C11 ((A0 H.size).add 3) = some (iV n43) ∧ Q (.tuple #[.agg #[.string s40, .string s41, .slice a42 l42 c42, iV n43], iV 0]) C11)) (setH C38 ((A0 H5.size).add 3) (iV n21))) H4) ∧ (((cellH C43 (A0 H1.size) = some (.pointer p13) ∧ True) ∧ True) ∧ callS PP 179 #[.agg #[.pointer p13], iV n2, iV 5] (fun v44 H8 => shH (setH (setH H8 (A0 H4.size) (.string s15)) ((A0 H4.size).add 1) (.string (⟨#[]⟩ : ByteArray))) fun C42 => shH (setH C42 ((A0 H4.size).add 2) (.slice a19 l19 c19)) fun C23 => ∃ n45, v44 = iV n45 ∧ True ∧ Wr H8 (A0 H4.size) ∧ Wr (setH H8 (A0 H4.size) (.string s15)) ((A0 H4.size).add 1) ∧ Wr C42 ((A0 H4.size).add 2) ∧ Wr C23 ((A0 H4.size).add 3) ∧ True ∧ ∃ p46, cellH (setH C23 ((A0 H4.size).add 3) (iV n45)) (A0 H1.size) = some (.pointer p46) ∧ callS PP 180 #[.agg #[.pointer p46], iV n2] (fun v47 H9 => ∃ n48, v47 = iV n48 ∧ cond (decide (n48 > 0)) (∃ p49, cellH H9 (A0 H1.size) = some (.pointer p49) ∧ callS PP 176 #[.agg #[.pointer p49], iV n48, iV 0] (fun v50 H10 => ∃ s51 : ByteArray, shH (setH H10 ((A0 H4.size).add 1) (.string s51)) fun C16 => v50 = .string s51 ∧ Wr H10 ((A0 H4.size).add 1) ∧ ∃ s52, cellH C16 (A0 H4.size) = some (.string s52) ∧ ∃ s53 : ByteArray, shH (setH (setH C16 (A0 H.size) (.string s52)) ((A0 H.size).add 1) (.string s53)) fun C33 => cellH C16 ((A0 H4.size).add 1) = some (.string s53) ∧ ∃ a54 l54 c54, cellH C16 ((A0 H4.size).add 2) = some (.slice a54 l54 c54) ∧ ∃ n55 : Int, shH (setH (setH C33 ((A0 H.size).add 2) (.slice a54 l54 c54)) ((A0 H.size).add 3) (iV n55)) fun C4 => cellH C16 ((A0 H4.size).add 3) = some (iV n55) ∧ Wr C16 (A0 H.size) ∧ Wr (setH C16 (A0 H.size) (.string s52)) ((A0 H.size).add 1) ∧ Wr C33 ((A0 H.size).add 2) ∧ Wr (setH C33 ((A0 H.size).add 2) (.slice a54 l54 c54)) ((A0 H.size).add 3) ∧ ∃ s56, cellH C4 (A0 H.size) = some (.string s56) ∧ ∃ s57, cellH C4 ((A0 H.size).add 1) = some (.string s57) ∧ ∃ a58 l58 c58, cellH C4 ((A0 H.size).add 2) = some (.slice a58 l58 c58) ∧ ∃ n59, cellH C4 ((A0 H.size).add 3) = some (iV n59) ∧ Q (.tuple #[.agg #[.string s56, .string s57, .slice a58 l58 c58, iV n59], iV 0]) C4) H9) (∃ s60, cellH H9 (A0 H4.size) = some (.string s60) ∧ ∃ s61 : ByteArray, shH (setH (setH H9 (A0 H.size) (.string s60)) ((A0 H.size).add 1) (.string s61)) fun C37 => cellH H9 ((A0 H4.size).add 1) = some (.string s61) ∧ ∃ a62 l62 c62, cellH H9 ((A0 H4.size).add 2) = some (.slice a62 l62 c62) ∧ ∃ n63 : Int, shH (setH (setH C37 ((A0 H.size).add 2) (.slice a62 l62 c62)) ((A0 H.size).add 3) (iV n63)) fun C12 => cellH H9 ((A0 H4.size).add 3) = some (iV n63) ∧ Wr H9 (A0 H.size) ∧ Wr (setH H9 (A0 H.size) (.string s60)) ((A0 H.size).add 1) ∧ Wr C37 ((A0 H.size).add 2) ∧ Wr (setH C37 ((A0 H.size).add 2) (.slice a62 l62 c62)) ((A0 H.size).add 3) ∧ ∃ s64, cellH C12 (A0 H.size) = some (.string s64) ∧ ∃ s65, cellH C12 ((A0 H.size).add 1) = some (.string s65) ∧ ∃ a66 l66 c66, cellH C12 ((A0 H.size).add 2) = some (.slice a66 l66 c66) ∧ ∃ n67, cellH C12 ((A0 H.size).add 3) = some (iV n67) ∧ Q (.tuple #[.agg #[.string s64, .string s65, .slice a66 l66 c66, iV n67], iV 0]) C12)) (setH C23 ((A0 H4.size).add 3) (iV n45))) C43)) H3) ∧ (((cellH C27 (A0 H1.size) = some (.pointer p13) ∧ True) ∧ ((cellH C27 (A0 H1.size) = some (.pointer p11) ∧ True) ∧ True)) ∧ callS PP 178 #[.agg #[.pointer p11], iV n17] (fun v68 H11 => ∃ a69 l69 c69, v68 = .slice a69 l69 c69 ∧ ((cellH H11 (A0 H1.size) = some (.pointer p13) ∧ True) ∧ True) ∧ callS PP 179 #[.agg #[.pointer p13], iV n2, iV 5] (fun v70 H12 => shH (setH (setH H12 (A0 H3.size) (.string s15)) ((A0 H3.size).add 1) (.string (⟨#[]⟩ : ByteArray))) fun C40 => shH (setH C40 ((A0 H3.size).add 2) (.slice a69 l69 c69)) fun C21 => ∃ n71, v70 = iV n71 ∧ True ∧ Wr H12 (A0 H3.size) ∧ Wr (setH H12 (A0 H3.size) (.string s15)) ((A0 H3.size).add 1) ∧ Wr C40 ((A0 H3.size).add 2) ∧ Wr C21 ((A0 H3.size).add 3) ∧ True ∧ ∃ p72, cellH (setH C21 ((A0 H3.size).add 3) (iV n71)) (A0 H1.size) = some (.pointer p72) ∧ callS PP 180 #[.agg #[.pointer p72], iV n2] (fun v73 H13 => ∃ n74, v73 = iV n74 ∧ cond (decide (n74 > 0)) (∃ p75, cellH H13 (A0 H1.size) = some (.pointer p75) ∧ callS PP 176 #[.agg #[.pointer p75], iV n74, iV 0] (fun v76 H14 => ∃ s77 : ByteArray, shH (setH H14 ((A0 H3.size).add 1) (.string s77)) fun C17 => v76 = .string s77 ∧ Wr H14 ((A0 H3.size).add 1) ∧ ∃ s78, cellH C17 (A0 H3.size) = some (.string s78) ∧ ∃ s79 : ByteArray, shH (setH (setH C17 (A0 H.size) (.string s78)) ((A0 H.size).add 1) (.string s79)) fun C34 => cellH C17 ((A0 H3.size).add 1) = some (.string s79) ∧ ∃ a80 l80 c80, cellH C17 ((A0 H3.size).add 2) = some (.slice a80 l80 c80) ∧ ∃ n81 : Int, shH (setH (setH C34 ((A0 H.size).add 2) (.slice a80 l80 c80)) ((A0 H.size).add 3) (iV n81)) fun C5 => cellH C17 ((A0 H3.size).add 3) = some (iV n81) ∧ Wr C17 (A0 H.size) ∧ Wr (setH C17 (A0 H.size) (.string s78)) ((A0 H.size).add 1) ∧ Wr C34 ((A0 H.size).add 2) ∧ Wr (setH C34 ((A0 H.size).add 2) (.slice a80 l80 c80)) ((A0 H.size).add 3) ∧ ∃ s82, cellH C5 (A0 H.size) = some (.string s82) ∧ ∃ s83, cellH C5 ((A0 H.size).add 1) = some (.string s83) ∧ ∃ a84 l84 c84, cellH C5 ((A0 H.size).add 2) = some (.slice a84 l84 c84) ∧ ∃ n85, cellH C5 ((A0 H.size).add 3) = some (iV n85) ∧ Q (.tuple #[.agg #[.string s82, .string s83, .slice a84 l84 c84, iV n85], iV 0]) C5) H13) (∃ s86, cellH H13 (A0 H3.size) = some (.string s86) ∧ ∃ s87 : ByteArray, shH (setH (setH H13 (A0 H.size) (.string s86)) ((A0 H.size).add 1) (.string s87)) fun C35 => cellH H13 ((A0 H3.size).add 1) = some (.string s87) ∧ ∃ a88 l88 c88, cellH H13 ((A0 H3.size).add 2) = some (.slice a88 l88 c88) ∧ ∃ n89 : Int, shH (setH (setH C35 ((A0 H.size).add 2) (.slice a88 l88 c88)) ((A0 H.size).add 3) (iV n89)) fun C10 => cellH H13 ((A0 H3.size).add 3) = some (iV n89) ∧ Wr H13 (A0 H.size) ∧ Wr (setH H13 (A0 H.size) (.string s86)) ((A0 H.size).add 1) ∧ Wr C35 ((A0 H.size).add 2) ∧ Wr (setH C35 ((A0 H.size).add 2) (.slice a88 l88 c88)) ((A0 H.size).add 3) ∧ ∃ s90, cellH C10 (A0 H.size) = some (.string s90) ∧ ∃ s91, cellH C10 ((A0 H.size).add 1) = some (.string s91) ∧ ∃ a92 l92 c92, cellH C10 ((A0 H.size).add 2) = some (.slice a92 l92 c92) ∧ ∃ n93, cellH C10 ((A0 H.size).add 3) = some (iV n93) ∧ Q (.tuple #[.agg #[.string s90, .string s91, .slice a92 l92 c92, iV n93], iV 0]) C10)) (setH C21 ((A0 H3.size).add 3) (iV n71))) H11) C27)) H2) ∧ (((cellH C24 (A0 H1.size) = some (.pointer p13) ∧ True) ∧ ((cellH C24 (A0 H1.size) = some (.pointer p12) ∧ True) ∧ ((cellH C24 (A0 H1.size) = some (.pointer p11) ∧ True) ∧ True))) ∧ callS PP 76 #[.agg #[.pointer p12], iV n2, iV 2] (fun v94 H15 => ∃ n95, v94 = iV n95 ∧ ((cellH H15 (A0 H1.size) = some (.pointer p13) ∧ True) ∧ ((cellH H15 (A0 H1.size) = some (.pointer p11) ∧ True) ∧ True)) ∧ callS PP 178 #[.agg #[.pointer p11], iV n95] (fun v96 H16 => ∃ a97 l97 c97, v96 = .slice a97 l97 c97 ∧ ((cellH H16 (A0 H1.size) = some (.pointer p13) ∧ True) ∧ True) ∧ callS PP 179 #[.agg #[.pointer p13], iV n2, iV 5] (fun v98 H17 => shH (setH (setH H17 (A0 H2.size) (.string s15)) ((A0 H2.size).add 1) (.string (⟨#[]⟩ : ByteArray))) fun C41 => shH (setH C41 ((A0 H2.size).add 2) (.slice a97 l97 c97)) fun C22 => ∃ n99, v98 = iV n99 ∧ True ∧ Wr H17 (A0 H2.size) ∧ Wr (setH H17 (A0 H2.size) (.string s15)) ((A0 H2.size).add 1) ∧ Wr C41 ((A0 H2.size).add 2) ∧ Wr C22 ((A0 H2.size).add 3) ∧ True ∧ ∃ p100, cellH (setH C22 ((A0 H2.size).add 3) (iV n99)) (A0 H1.size) = some (.pointer p100) ∧ callS PP 180 #[.agg #[.pointer p100], iV n2] (fun v101 H18 => ∃ n102, v101 = iV n102 ∧ cond (decide (n102 > 0)) (∃ p103, cellH H18 (A0 H1.size) = some (.pointer p103) ∧ callS PP 176 #[.agg #[.pointer p103], iV n102, iV 0] (fun v104 H19 => ∃ s105 : ByteArray, shH (setH H19 ((A0 H2.size).add 1) (.string s105)) fun C14 => v104 = .string s105 ∧ Wr H19 ((A0 H2.size).add 1) ∧ ∃ s106, cellH C14 (A0 H2.size) = some (.string s106) ∧ ∃ s107 : ByteArray, shH (setH (setH C14 (A0 H.size) (.string s106)) ((A0 H.size).add 1) (.string s107)) fun C28 => cellH C14 ((A0 H2.size).add 1) = some (.string s107) ∧ ∃ a108 : Option Addr, ∃ l108 : Nat, ∃ c108 : Nat, shH (setH C28 ((A0 H.size).add 2) (.slice a108 l108 c108)) fun C45 => cellH C14 ((A0 H2.size).add 2) = some (.slice a108 l108 c108) ∧ ∃ n109 : Int, shH (setH C45 ((A0 H.size).add 3) (iV n109)) fun C2 => cellH C14 ((A0 H2.size).add 3) = some (iV n109) ∧ Wr C14 (A0 H.size) ∧ Wr (setH C14 (A0 H.size) (.string s106)) ((A0 H.size).add 1) ∧ Wr C28 ((A0 H.size).add 2) ∧ Wr C45 ((A0 H.size).add 3) ∧ ∃ s110, cellH C2 (A0 H.size) = some (.string s110) ∧ ∃ s111, cellH C2 ((A0 H.size).add 1) = some (.string s111) ∧ ∃ a112 l112 c112, cellH C2 ((A0 H.size).add 2) = some (.slice a112 l112 c112) ∧ ∃ n113, cellH C2 ((A0 H.size).add 3) = some (iV n113) ∧ Q (.tuple #[.agg #[.string s110, .string s111, .slice a112 l112 c112, iV n113], iV 0]) C2) H18) (∃ s114, cellH H18 (A0 H2.size) = some (.string s114) ∧ ∃ s115 : ByteArray, shH (setH (setH H18 (A0 H.size) (.string s114)) ((A0 H.size).add 1) (.string s115)) fun C29 => cellH H18 ((A0 H2.size).add 1) = some (.string s115) ∧ ∃ a116 : Option Addr, ∃ l116 : Nat, ∃ c116 : Nat, shH (setH C29 ((A0 H.size).add 2) (.slice a116 l116 c116)) fun C46 => cellH H18 ((A0 H2.size).add 2) = some (.slice a116 l116 c116) ∧ ∃ n117 : Int, shH (setH C46 ((A0 H.size).add 3) (iV n117)) fun C8 => cellH H18 ((A0 H2.size).add 3) = some (iV n117) ∧ Wr H18 (A0 H.size) ∧ Wr (setH H18 (A0 H.size) (.string s114)) ((A0 H.size).add 1) ∧ Wr C29 ((A0 H.size).add 2) ∧ Wr C46 ((A0 H.size).add 3) ∧ ∃ s118, cellH C8 (A0 H.size) = some (.string s118) ∧ ∃ s119, cellH C8 ((A0 H.size).add 1) = some (.string s119) ∧ ∃ a120 l120 c120, cellH C8 ((A0 H.size).add 2) = some (.slice a120 l120 c120) ∧ ∃ n121, cellH C8 ((A0 H.size).add 3) = some (iV n121) ∧ Q (.tuple #[.agg #[.string s118, .string s119, .slice a120 l120 c120, iV n121], iV 0]) C8)) (setH C22 ((A0 H2.size).add 3) (iV n99))) H16) H15) C24)) C1) ∧ (((cellH C19 (A0 H1.size) = some (.pointer p13) ∧ True) ∧ ((cellH C19 (A0 H1.size) = some (.pointer p12) ∧ True) ∧ ((cellH C19 (A0 H1.size) = some (.pointer p11) ∧ True) ∧ ((cellH C19 (A0 H1.size) = some (.pointer p10) ∧ True) ∧ True)))) ∧ callS PP 176 #[.agg #[.pointer p10], iV n2, iV 0] (fun v122 H20 => ∃ s123, v122 = .string s123 ∧ ((cellH H20 (A0 H1.size) = some (.pointer p13) ∧ True) ∧ ((cellH H20 (A0 H1.size) = some (.pointer p12) ∧ True) ∧ ((cellH H20 (A0 H1.size) = some (.pointer p11) ∧ True) ∧ True))) ∧ callS PP 76 #[.agg #[.pointer p12], iV n2, iV 2] (fun v124 H21 => ∃ n125, v124 = iV n125 ∧ ((cellH H21 (A0 H1.size) = some (.pointer p13) ∧ True) ∧ ((cellH H21 (A0 H1.size) = some (.pointer p11) ∧ True) ∧ True)) ∧ callS PP 178 #[.agg #[.pointer p11], iV n125] (fun v126 H22 => ∃ a127 l127 c127, v126 = .slice a127 l127 c127 ∧ ((cellH H22 (A0 H1.size) = some (.pointer p13) ∧ True) ∧ True) ∧ callS PP 179 #[.agg #[.pointer p13], iV n2, iV 5] (fun v128 H23 => shH (setH (setH H23 (A0 C1.size) (.string s123)) ((A0 C1.size).add 1) (.string (⟨#[]⟩ : ByteArray))) fun C39 => shH (setH C39 ((A0 C1.size).add 2) (.slice a127 l127 c127)) fun C20 => ∃ n129, v128 = iV n129 ∧ True ∧ Wr H23 (A0 C1.size) ∧ Wr (setH H23 (A0 C1.size) (.string s123)) ((A0 C1.size).add 1) ∧ Wr C39 ((A0 C1.size).add 2) ∧ Wr C20 ((A0 C1.size).add 3) ∧ True ∧ ∃ p130, cellH (setH C20 ((A0 C1.size).add 3) (iV n129)) (A0 H1.size) = some (.pointer p130) ∧ callS PP 180 #[.agg #[.pointer p130], iV n2] (fun v131 H24 => ∃ n132, v131 = iV n132 ∧ cond (decide (n132 > 0)) (∃ p133, cellH H24 (A0 H1.size) = some (.pointer p133) ∧ callS PP 176 #[.agg #[.pointer p133], iV n132, iV 0] (fun v134 H25 => ∃ s135 : ByteArray, shH (setH H25 ((A0 C1.size).add 1) (.string s135)) fun C15 => v134 = .string s135 ∧ Wr H25 ((A0 C1.size).add 1) ∧ ∃ s136, cellH C15 (A0 C1.size) = some (.string s136) ∧ ∃ s137 : ByteArray, shH (setH (setH C15 (A0 H.size) (.string s136)) ((A0 H.size).add 1) (.string s137)) fun C30 => cellH C15 ((A0 C1.size).add 1) = some (.string s137) ∧ ∃ a138 : Option Addr, ∃ l138 : Nat, ∃ c138 : Nat, shH (setH C30 ((A0 H.size).add 2) (.slice a138 l138 c138)) fun C47 => cellH C15 ((A0 C1.size).add 2) = some (.slice a138 l138 c138) ∧ ∃ n139 : Int, shH (setH C47 ((A0 H.size).add 3) (iV n139)) fun C3 => cellH C15 ((A0 C1.size).add 3) = some (iV n139) ∧ Wr C15 (A0 H.size) ∧ Wr (setH C15 (A0 H.size) (.string s136)) ((A0 H.size).add 1) ∧ Wr C30 ((A0 H.size).add 2) ∧ Wr C47 ((A0 H.size).add 3) ∧ ∃ s140, cellH C3 (A0 H.size) = some (.string s140) ∧ ∃ s141, cellH C3 ((A0 H.size).add 1) = some (.string s141) ∧ ∃ a142 l142 c142, cellH C3 ((A0 H.size).add 2) = some (.slice a142 l142 c142) ∧ ∃ n143, cellH C3 ((A0 H.size).add 3) = some (iV n143) ∧ Q (.tuple #[.agg #[.string s140, .string s141, .slice a142 l142 c142, iV n143], iV 0]) C3) H24) (∃ s144, cellH H24 (A0 C1.size) = some (.string s144) ∧ ∃ s145 : ByteArray, shH (setH (setH H24 (A0 H.size) (.string s144)) ((A0 H.size).add 1) (.string s145)) fun C31 => cellH H24 ((A0 C1.size).add 1) = some (.string s145) ∧ ∃ a146 : Option Addr, ∃ l146 : Nat, ∃ c146 : Nat, shH (setH C31 ((A0 H.size).add 2) (.slice a146 l146 c146)) fun C48 => cellH H24 ((A0 C1.size).add 2) = some (.slice a146 l146 c146) ∧ ∃ n147 : Int, shH (setH C48 ((A0 H.size).add 3) (iV n147)) fun C9 => cellH H24 ((A0 C1.size).add 3) = some (iV n147) ∧ Wr H24 (A0 H.size) ∧ Wr (setH H24 (A0 H.size) (.string s144)) ((A0 H.size).add 1) ∧ Wr C31 ((A0 H.size).add 2) ∧ Wr C48 ((A0 H.size).add 3) ∧ ∃ s148, cellH C9 (A0 H.size) = some (.string s148) ∧ ∃ s149, cellH C9 ((A0 H.size).add 1) = some (.string s149) ∧ ∃ a150 l150 c150, cellH C9 ((A0 H.size).add 2) = some (.slice a150 l150 c150) ∧ ∃ n151, cellH C9 ((A0 H.size).add 3) = some (iV n151) ∧ Q (.tuple #[.agg #[.string s148, .string s149, .slice a150 l150 c150, iV n151], iV 0]) C9)) (setH C20 ((A0 C1.size).add 3) (iV n129))) H22) H21) H20) C19))) (H.push (.cells #[.string (⟨#[]⟩ : ByteArray), .string (⟨#[]⟩ : ByteArray), .slice none 0 0, iV 0] 121))
theorem k67_ok {p1 : Option Addr} {n2 : Int} (h : k67 p1 n2 Q H) : callS PP 67 #[.pointer p1, .int .i64 n2] Q H :=
 okF Tryz.func67 rfl h
abbrev n_k68 : Nat := 68
def k68 (p1 : Option Addr) (n2 : Int) (Q : QT) (H : Heap) : Prop :=
 callS PP 73 #[.pointer p1] (fun v3 H1 => shH (setH (H1.push (.cells #[.pointer none] 131)) (A0 H1.size) (.pointer p1)) fun C1 => ∃ b4, v3 = .bool b4 ∧ cond (!b4) (Q (.tuple #[iV 0, iV 2]) H1) (Wr (H1.push (.cells #[.pointer none] 131)) (A0 H1.size) ∧ ∃ p5, cellH C1 (A0 H1.size) = some (.pointer p5) ∧ callS PP 74 #[.agg #[.pointer p5], iV 1] (fun v6 H2 => ∃ n7, v6 = iV n7 ∧ cond (decide (n2 < 0)) (Q (.tuple #[iV 0, iV 1]) H2) (∃ p8, cellH H2 (A0 H1.size) = some (.pointer p8) ∧ callS PP 75 #[.agg #[.pointer p8], iV n7] (fun v9 H3 => ∃ n10, v9 = iV n10 ∧ cond (decide (n2 ≥ (wW (Int.tdiv n10 2)))) (Q (.tuple #[iV 0, iV 1]) H3) (∃ p11, cellH H3 (A0 H1.size) = some (.pointer p11) ∧ callS PP 181 #[.agg #[.pointer p11], iV n7, iV (wW ((wW (2 * n2)) + 1))] (fun v12 H4 => ∃ n13, v12 = iV n13 ∧ Q (.tuple #[iV n13, iV 0]) H4) H3)) H2)) C1)) H
theorem k68_ok {p1 : Option Addr} {n2 : Int} (h : k68 p1 n2 Q H) : callS PP 68 #[.pointer p1, .int .i64 n2] Q H :=
 okF Tryz.func68 rfl h
abbrev n_k69 : Nat := 69
def k69 (p1 : Option Addr) (n2 : Int) (n3 : Int) (Q : QT) (H : Heap) : Prop :=
 callS PP 68 #[.pointer p1, iV n2] (fun v4 H1 => ∃ n5 n6, v4 = .tuple #[iV n5, iV n6] ∧ cond (n6 != 0) (Q (iV n6) H1) (callS PP 165 #[iV n3] (fun v7 H2 => ∃ n8, v7 = iV n8 ∧ cond (n8 == 0) (Q (iV 10) H2) (∃ q9, p1 = some q9 ∧ ∃ p10, cellH H2 q9 = some (.pointer p10) ∧ callS PP 20 #[.pointer p10] (fun v11 H3 => ∃ p12, v11 = .pointer p12 ∧ callS PP 74 #[.agg #[.pointer p1], iV 1] (fun v13 H4 => ∃ n14, v13 = iV n14 ∧ callS PP 140 #[.pointer p12, iV n14, iV (wW ((wW (2 * n2)) + 1)), iV n3] (fun v15 H5 => ∃ n16, v15 = iV n16 ∧ Q (iV n16) H5) H4) H3) H2)) H1)) H
theorem k69_ok {p1 : Option Addr} {n2 : Int} {n3 : Int} (h : k69 p1 n2 n3 Q H) : callS PP 69 #[.pointer p1, .int .i64 n2, .int .i64 n3] Q H :=
 okF Tryz.func69 rfl h
abbrev n_k70 : Nat := 70
def k70 (p1 : Option Addr) (Q : QT) (H : Heap) : Prop :=
 callS PP 73 #[.pointer p1] (fun v2 H1 => shH (setH (H1.push (.cells #[.pointer none] 131)) (A0 H1.size) (.pointer p1)) fun C1 => ∃ b3, v2 = .bool b3 ∧ cond (!b3) (Q (iV 0) H1) (Wr (H1.push (.cells #[.pointer none] 131)) (A0 H1.size) ∧ ∃ p4, cellH C1 (A0 H1.size) = some (.pointer p4) ∧ ∃ p5, cellH C1 (A0 H1.size) = some (.pointer p5) ∧ callS PP 74 #[.agg #[.pointer p5], iV 0] (fun v6 H2 => ∃ n7, v6 = iV n7 ∧ ((cellH H2 (A0 H1.size) = some (.pointer p4) ∧ True) ∧ True) ∧ callS PP 75 #[.agg #[.pointer p4], iV n7] (fun v8 H3 => ∃ n9, v8 = iV n9 ∧ True ∧ Q (iV n9) H3) H2) C1)) H
theorem k70_ok {p1 : Option Addr} (h : k70 p1 Q H) : callS PP 70 #[.pointer p1] Q H :=
 okF Tryz.func70 rfl h
abbrev n_k71 : Nat := 71
def k71 (p1 : Option Addr) (Q : QT) (H : Heap) : Prop :=
 callS PP 73 #[.pointer p1] (fun v2 H1 => shH (setH (H1.push (.cells #[.pointer none] 131)) (A0 H1.size) (.pointer p1)) fun C1 => ∃ b3, v2 = .bool b3 ∧ cond (!b3) (Q (.slice none 0 0) H1) (Wr (H1.push (.cells #[.pointer none] 131)) (A0 H1.size) ∧ ∃ p4, cellH C1 (A0 H1.size) = some (.pointer p4) ∧ callS PP 74 #[.agg #[.pointer p4], iV 1] (fun v5 H2 => ∃ n6, v5 = iV n6 ∧ ∃ p7, cellH H2 (A0 H1.size) = some (.pointer p7) ∧ callS PP 75 #[.agg #[.pointer p7], iV n6] (fun v8 H3 => ∃ n9, v8 = iV n9 ∧ ∃ (I10 : IT) (μ10 : MT), I10 [.slice none 0 0, iV 0] H3 ∧ ∀ w11 H4, I10 w11 H4 → ∀ _g : Nat → Value, ∃ a12 l12, ∃ c12 n13, w11 = [.slice a12 l12 c12, iV n13] ∧ cond (decide (n13 < (wW (Int.tdiv n9 2)))) (∃ p14, cellH H4 (A0 H1.size) = some (.pointer p14) ∧ callS PP 176 #[.agg #[.pointer p14], iV n6, iV (wW (2 * n13))] (fun v15 H5 => ∃ s16, v15 = .string s16 ∧ evS PP (Builtin.append_ #[37, 37] 37 #[.slice a12 l12 c12, .slice (some (A0 H5.size)) 1 1]) (fun v17 H6 => ∃ a18 l18 c18, v17 = .slice a18 l18 c18 ∧ I10 [.slice a18 l18 c18, iV (wW (n13 + 1))] H6 ∧ μ10 [.slice a18 l18 c18, iV (wW (n13 + 1))] H6 < μ10 w11 H4) (H5.push (.cells #[.string s16] 9))) H4) (Q (.slice a12 l12 c12) H4)) H2) C1)) H
theorem k71_ok {p1 : Option Addr} (h : k71 p1 Q H) : callS PP 71 #[.pointer p1] Q H :=
 callS_of good Tryz.func71 rfl (Ls := fun | 7 => some [(5, 37), (18, 3)] | _ => none) (by kernel_rfl) h
abbrev n_k72 : Nat := 72
def k72 (p1 : Option Addr) (n2 : Int) (Q : QT) (H : Heap) : Prop :=
 callS PP 177 #[.pointer p1, iV n2] (fun v3 H1 => ∃ p4 : Option Addr, shH (setH (H1.push (.cells #[.pointer none] 131)) (A0 H1.size) (.pointer p4)) fun C1 => ∃ n5, v3 = .tuple #[.agg #[.pointer p4], iV n5] ∧ Wr (H1.push (.cells #[.pointer none] 131)) (A0 H1.size) ∧ cond (n5 != 0) (Q (.slice none 0 0) C1) (∃ p6, cellH C1 (A0 H1.size) = some (.pointer p6) ∧ callS PP 74 #[.agg #[.pointer p6], iV 0] (fun v7 H2 => ∃ n8, v7 = iV n8 ∧ evS PP (Instr.mapUpdate 236 (.map (some H2.size)) (iV n2) (.bool true)) (fun _ H3 => ∃ p9, cellH H3 (A0 H1.size) = some (.pointer p9) ∧ callS PP 75 #[.agg #[.pointer p9], iV n8] (fun v10 H4 => ∃ n11, v10 = iV n11 ∧ ∃ (I12 : IT) (μ12 : MT), I12 [.slice none 0 0, iV 0] H4 ∧ ∀ w13 H5, I12 w13 H5 → ∀ _g : Nat → Value, ∃ a14 l14, ∃ c14 n15, w13 = [.slice a14 l14 c14, iV n15] ∧ cond (decide (n15 < n11)) (∃ p16, cellH H5 (A0 H1.size) = some (.pointer p16) ∧ callS PP 76 #[.agg #[.pointer p16], iV n8, iV n15] (fun v17 H6 => ∃ n18, v17 = iV n18 ∧ evS PP (Instr.lookup 236 (.map (some H2.size)) (iV n18) false) (fun v19 H7 => ∃ b20, v19 = .bool b20 ∧ cond b20 (evS PP (Instr.mapUpdate 236 (.map (some H2.size)) (iV n18) (.bool true)) (fun _ H8 => evS PP (Builtin.append_ #[66, 66] 66 #[.slice a14 l14 c14, .slice (some (A0 H8.size)) 1 1]) (fun v21 H9 => ∃ a22 l22 c22, v21 = .slice a22 l22 c22 ∧ I12 [.slice a22 l22 c22, iV (wW (n15 + 1))] H9 ∧ μ12 [.slice a22 l22 c22, iV (wW (n15 + 1))] H9 < μ12 w13 H5) (H8.push (.cells #[iV (wW (n15 + 1))] 3))) H7) (∃ p23, cellH H7 (A0 H1.size) = some (.pointer p23) ∧ callS PP 180 #[.agg #[.pointer p23], iV n18] (fun v24 H10 => ∃ n25, v24 = iV n25 ∧ evS PP (Instr.lookup 236 (.map (some H2.size)) (iV n25) false) (fun v26 H11 => ∃ b27, v26 = .bool b27 ∧ cond b27 (evS PP (Instr.mapUpdate 236 (.map (some H2.size)) (iV n18) (.bool true)) (fun _ H12 => evS PP (Builtin.append_ #[66, 66] 66 #[.slice a14 l14 c14, .slice (some (A0 H12.size)) 1 1]) (fun v28 H13 => ∃ a29 l29 c29, v28 = .slice a29 l29 c29 ∧ I12 [.slice a29 l29 c29, iV (wW (n15 + 1))] H13 ∧ μ12 [.slice a29 l29 c29, iV (wW (n15 + 1))] H13 < μ12 w13 H5) (H12.push (.cells #[iV (wW (n15 + 1))] 3))) H11) (I12 [.slice a14 l14 c14, iV (wW (n15 + 1))] H11 ∧ μ12 [.slice a14 l14 c14, iV (wW (n15 + 1))] H11 < μ12 w13 H5)) H10) H7)) H6) H5) (Q (.slice a14 l14 c14) H5)) H3) (H2.push (.map #[] 0))) C1)) H
theorem k72_ok {p1 : Option Addr} {n2 : Int} (h : k72 p1 n2 Q H) : callS PP 72 #[.pointer p1, .int .i64 n2] Q H :=
 callS_of good Tryz.func72 rfl (Ls := fun | 8 => some [(9, 66), (28, 3)] | _ => none) (by kernel_rfl) h
abbrev n_k73 : Nat := 73
def k73 (p1 : Option Addr) (Q : QT) (H : Heap) : Prop :=
 cond (!(Option.isNone p1)) (∃ q2, p1 = some q2 ∧ ∃ p3, cellH H q2 = some (.pointer p3) ∧ Q (.bool (!(Option.isNone p3))) H) (Q (.bool false) H)
theorem k73_ok {p1 : Option Addr} (h : k73 p1 Q H) : callS PP 73 #[.pointer p1] Q H :=
 okF Tryz.func73 rfl h
abbrev n_k74 : Nat := 74
def k74 (p1 : Option Addr) (n2 : Int) (Q : QT) (H : Heap) : Prop :=
 ∃ p3, cellH (H.push (.cells #[.pointer p1] 131)) (A0 H.size) = some (.pointer p3) ∧ callS PP 76 #[.agg #[.pointer p3], iV 19, iV n2] (fun v4 H1 => ∃ n5, v4 = iV n5 ∧ Q (iV n5) H1) (H.push (.cells #[.pointer p1] 131))
theorem k74_ok {p1 : Option Addr} {n2 : Int} (h : k74 p1 n2 Q H) : callS PP 74 #[.agg #[.pointer p1], .int .i64 n2] Q H :=
 okF Tryz.func74 rfl h
abbrev n_k75 : Nat := 75
def k75 (p1 : Option Addr) (n2 : Int) (Q : QT) (H : Heap) : Prop :=
 ∃ p3, cellH (H.push (.cells #[.pointer p1] 131)) (A0 H.size) = some (.pointer p3) ∧ ∃ q4, p3 = some q4 ∧ ∃ p5, cellH (H.push (.cells #[.pointer p1] 131)) q4 = some (.pointer p5) ∧ callS PP 20 #[.pointer p5] (fun v6 H1 => ∃ p7, v6 = .pointer p7 ∧ callS PP 182 #[.pointer p7, iV n2] (fun v8 H2 => ∃ n9 n10 n11, v8 = .tuple #[iV n9, iV n10, iV n11] ∧ Q (iV n9) H2) H1) (H.push (.cells #[.pointer p1] 131))
theorem k75_ok {p1 : Option Addr} {n2 : Int} (h : k75 p1 n2 Q H) : callS PP 75 #[.agg #[.pointer p1], .int .i64 n2] Q H :=
 okF Tryz.func75 rfl h
abbrev n_k76 : Nat := 76
def k76 (p1 : Option Addr) (n2 : Int) (n3 : Int) (Q : QT) (H : Heap) : Prop :=
 ∃ p4, cellH (H.push (.cells #[.pointer p1] 131)) (A0 H.size) = some (.pointer p4) ∧ callS PP 181 #[.agg #[.pointer p4], iV n2, iV n3] (fun v5 H1 => ∃ n6, v5 = iV n6 ∧ callS PP 183 #[iV n6] (fun v7 H2 => ∃ n8 n9, v7 = .tuple #[iV n8, iV n9] ∧ Q (iV n8) H2) H1) (H.push (.cells #[.pointer p1] 131))
theorem k76_ok {p1 : Option Addr} {n2 : Int} {n3 : Int} (h : k76 p1 n2 n3 Q H) : callS PP 76 #[.agg #[.pointer p1], .int .i64 n2, .int .i64 n3] Q H :=
 okF Tryz.func76 rfl h
abbrev n_k87 : Nat := 87
def k87 (p1 : Option Addr) (s2 : ByteArray) (s3 : ByteArray) (a4 : Option Addr) (l4 : Nat) (c4 : Nat) (Q : QT) (H : Heap) : Prop :=
 callS PP 91 #[.string s2, .int .u8 65, .int .u8 90] (fun v5 H1 => ∃ b6, v5 = .bool b6 ∧ cond (!b6) (Q (.tuple #[iV 0, iV 133]) H1) (callS PP 92 #[.pointer p1, .string s2] (fun v7 H2 => ∃ b8, v7 = .bool b8 ∧ cond b8 (Q (.tuple #[iV 0, iV 131]) H2) (callS PP 66 #[.pointer p1, .string s3] (fun v9 H3 => shH (setH (H3.push (.cells #[.pointer none] 131)) (A0 H3.size) (.pointer p1)) fun C1 => ∃ n10 n11, v9 = .tuple #[iV n10, iV n11] ∧ cond (n11 != 0) (Q (.tuple #[iV 0, iV n11]) H3) (Wr (H3.push (.cells #[.pointer none] 131)) (A0 H3.size) ∧ ∃ J12 : IT, (∃ p13, cellH C1 (A0 H3.size) = some (.pointer p13) ∧ callS PP 179 #[.agg #[.pointer p13], iV n10, iV 6] (fun v14 H4 => ∃ n15, v14 = iV n15 ∧ cond (decide (n15 > 1)) (cond (decide (n15 ≤ 14)) (Q (.tuple #[iV 0, iV 132]) H4) (J12 [] H4)) (J12 [] H4)) C1) ∧ ∀ w16 H5, J12 w16 H5 → ∀ _g : Nat → Value, w16 = [] ∧ ∃ p17, cellH H5 (A0 H3.size) = some (.pointer p17) ∧ callS PP 202 #[.agg #[.pointer p17], iV n10] (fun v18 H6 => ∃ a19 l19 c19, v18 = .slice a19 l19 c19 ∧ ∃ (I20 : IT) (μ20 : MT), I20 [iV 0] H6 ∧ ∀ w21 H7, I20 w21 H7 → ∀ _g : Nat → Value, ∃ n22, w21 = [iV n22] ∧ cond (decide (n22 < (l4 : Int))) (((0 : Int) ≤ n22 ∧ n22 < (l4 : Int)) ∧ ∃ q23, a4 = some q23 ∧ ∃ s24, cellH H7 (q23.add (Int.toNat n22 * 1)) = some (.string s24) ∧ callS PP 203 #[.string s24] (fun v25 H8 => ∃ b26, v25 = .bool b26 ∧ cond (!b26) (Q (.tuple #[iV 0, iV 133]) H8) (((0 : Int) ≤ n22 ∧ n22 ≤ (c4 : Int)) ∧ callS PP 204 #[.slice a4 (Int.toNat n22) c4, .string s24] (fun v27 H9 => ∃ b28, v27 = .bool b28 ∧ cond b28 (Q (.tuple #[iV 0, iV 134]) H9) (callS PP 204 #[.slice a19 l19 c19, .string s24] (fun v29 H10 => ∃ b30, v29 = .bool b30 ∧ cond b30 (Q (.tuple #[iV 0, iV 135]) H10) (I20 [iV (wW (n22 + 1))] H10 ∧ μ20 [iV (wW (n22 + 1))] H10 < μ20 w21 H7)) H9)) H8)) H7) (cond (decide ((wW ((l19 : Int) + (l4 : Int))) > 32)) (Q (.tuple #[iV 0, iV 137]) H7) (callS PP 70 #[.pointer p1] (fun v31 H11 => ∃ n32, v31 = iV n32 ∧ cond (decide (n32 ≥ 256)) (Q (.tuple #[iV 0, iV 138]) H11) (Q (.tuple #[iV n10, iV 0]) H11)) H7))) H5)) H2)) H1)) H
theorem k87_ok {p1 : Option Addr} {s2 : ByteArray} {s3 : ByteArray} {a4 : Option Addr} {l4 : Nat} {c4 : Nat} (h : k87 p1 s2 s3 a4 l4 c4 Q H) : callS PP 87 #[.pointer p1, .string s2, .string s3, .slice a4 l4 c4] Q H :=
 callS_of good Tryz.func87 rfl (Ls := fun | 1012 => some [] | 14 => some [(48, 3)] | _ => none) (by kernel_rfl) h
abbrev n_k88 : Nat := 88
def k88 (p1 : Option Addr) (Q : QT) (H : Heap) : Prop :=
 ∃ q2, p1 = some q2 ∧ ∃ p3, cellH H (q2.add 1) = some (.pointer p3) ∧ ∃ q4, p1 = some q4 ∧ ∃ p5, cellH H q4 = some (.pointer p5) ∧ ∃ q6, p1 = some q6 ∧ ∃ p7, cellH H q6 = some (.pointer p7) ∧ callS PP 205 #[.pointer p3] (fun v8 H1 => ∃ n9, v8 = iV n9 ∧ ((cellH H1 q6 = some (.pointer p7) ∧ True) ∧ ((cellH H1 q4 = some (.pointer p5) ∧ True) ∧ True)) ∧ callS PP 20 #[.pointer p5] (fun v10 H2 => ∃ p11, v10 = .pointer p11 ∧ ((cellH H2 q6 = some (.pointer p7) ∧ True) ∧ True) ∧ callS PP 81 #[.pointer p11] (fun v12 H3 => ∃ n13, v12 = iV n13 ∧ ((cellH H3 q6 = some (.pointer p7) ∧ True) ∧ True) ∧ callS PP 83 #[.pointer p7] (fun v14 H4 => ∃ a15 l15 c15, v14 = .slice a15 l15 c15 ∧ True ∧ True ∧ Q (.pointer (some (A0 H4.size))) (H4.push (.cells #[.pointer p1, iV n9, iV n13, iV (l15 : Int)] 146))) H3) H2) H1) H
theorem k88_ok {p1 : Option Addr} (h : k88 p1 Q H) : callS PP 88 #[.pointer p1] Q H :=
 okF Tryz.func88 rfl h
abbrev n_k89 : Nat := 89
def k89 (p1 : Option Addr) (s2 : ByteArray) (n3 : Int) (a4 : Option Addr) (l4 : Nat) (_c4 : Nat) (Q : QT) (H : Heap) : Prop :=
 callS PP 93 #[.pointer p1, .string s2] (fun v5 H1 => ∃ n6 n7, v5 = .tuple #[iV n6, iV n7] ∧ cond (n7 != 0) (Q (.tuple #[iV 0, iV n7]) H1) (∃ (I8 : IT) (μ8 : MT), I8 [.slice none 0 0, iV 0] H1 ∧ ∀ w9 H2, I8 w9 H2 → ∀ _g : Nat → Value, ∃ a10 l10, ∃ c10 n11, w9 = [.slice a10 l10 c10, iV n11] ∧ cond (decide (n11 < (l4 : Int))) (((0 : Int) ≤ n11 ∧ n11 < (l4 : Int)) ∧ ∃ q12, a4 = some q12 ∧ ∃ s13, cellH H2 (q12.add (Int.toNat n11 * 1)) = some (.string s13) ∧ callS PP 93 #[.pointer p1, .string s13] (fun v14 H3 => ∃ n15 n16, v14 = .tuple #[iV n15, iV n16] ∧ cond (n16 != 0) (Q (.tuple #[iV 0, iV n16]) H3) (evS PP (Builtin.append_ #[108, 108] 108 #[.slice a10 l10 c10, .slice (some (A0 H3.size)) 1 1]) (fun v17 H4 => ∃ a18 l18 c18, v17 = .slice a18 l18 c18 ∧ I8 [.slice a18 l18 c18, iV (wW (n11 + 1))] H4 ∧ μ8 [.slice a18 l18 c18, iV (wW (n11 + 1))] H4 < μ8 w9 H2) (H3.push (.cells #[iV n15] 36)))) H2) (callS PP 94 #[.pointer p1, .slice a10 l10 c10] (fun v19 H5 => ∃ n20 n21, v19 = .tuple #[iV n20, iV n21] ∧ cond (n21 != 0) (Q (.tuple #[iV 0, iV n21]) H5) (∃ q22, p1 = some q22 ∧ ∃ p23, cellH H5 q22 = some (.pointer p23) ∧ callS PP 70 #[.pointer p23] (fun v24 H6 => ∃ n25, v24 = iV n25 ∧ callS PP 50 #[iV 18] (fun v26 H7 => ∃ n27, v26 = iV n27 ∧ callS PP 50 #[iV n3] (fun v28 H8 => ∃ n29, v28 = iV n29 ∧ callS PP 166 #[iV 0] (fun v30 H9 => ∃ n31, v30 = iV n31 ∧ callS PP 166 #[iV (wW (n25 + 1))] (fun v32 H10 => ∃ n33, v32 = iV n33 ∧ callS PP 206 #[.pointer p1, iV 12, .slice (some (A0 H10.size)) 7 7] (fun v34 H11 => ∃ n35 n36, v34 = .tuple #[iV n35, iV n36] ∧ cond (n36 != 0) (Q (.tuple #[iV 0, iV n36]) H11) (∃ J37 : IT, (∃ q38, p1 = some q38 ∧ ∃ p39, cellH H11 q38 = some (.pointer p39) ∧ ∃ q40, p1 = some q40 ∧ ∃ p41, cellH H11 q40 = some (.pointer p41) ∧ (callS PP 74 #[.agg #[.pointer p41], iV 0] (fun v42 H12 => ∃ n43, v42 = iV n43 ∧ ((cellH H12 q38 = some (.pointer p39) ∧ True) ∧ True) ∧ (callS PP 95 #[.agg #[.pointer p39], iV n43] (fun v44 H13 => ∃ a45 l45 c45, v44 = .slice a45 l45 c45 ∧ True ∧ True ∧ evS PP (Builtin.append_ #[108, 108] 108 #[.slice a45 l45 c45, .slice (some (A0 H13.size)) 1 1]) (fun v46 H14 => ∃ a47 l47 c47, v46 = .slice a47 l47 c47 ∧ True ∧ callS PP 94 #[.pointer p1, .slice a47 l47 c47] (fun v48 H15 => ∃ n49 n50, v48 = .tuple #[iV n49, iV n50] ∧ True ∧ J37 [iV n50, iV n49] H15) H14) (H13.push (.cells #[iV n35] 36))) H12) ∧ (((cellH (H12.push (.cells #[iV n35] 36)) q38 = some (.pointer p39) ∧ True) ∧ True) ∧ callS PP 95 #[.agg #[.pointer p39], iV n43] (fun v51 H16 => ∃ a52 l52 c52, v51 = .slice a52 l52 c52 ∧ True ∧ evS PP (Builtin.append_ #[108, 108] 108 #[.slice a52 l52 c52, .slice (some (A0 H12.size)) 1 1]) (fun v53 H17 => ∃ a54 l54 c54, v53 = .slice a54 l54 c54 ∧ True ∧ callS PP 94 #[.pointer p1, .slice a54 l54 c54] (fun v55 H18 => ∃ n56 n57, v55 = .tuple #[iV n56, iV n57] ∧ True ∧ J37 [iV n57, iV n56] H18) H17) H16) (H12.push (.cells #[iV n35] 36)))) H11) ∧ (((cellH (H11.push (.cells #[iV n35] 36)) q40 = some (.pointer p41) ∧ True) ∧ ((cellH (H11.push (.cells #[iV n35] 36)) q38 = some (.pointer p39) ∧ True) ∧ True)) ∧ callS PP 74 #[.agg #[.pointer p41], iV 0] (fun v58 H19 => ∃ n59, v58 = iV n59 ∧ ((cellH H19 q38 = some (.pointer p39) ∧ True) ∧ True) ∧ callS PP 95 #[.agg #[.pointer p39], iV n59] (fun v60 H20 => ∃ a61 l61 c61, v60 = .slice a61 l61 c61 ∧ True ∧ evS PP (Builtin.append_ #[108, 108] 108 #[.slice a61 l61 c61, .slice (some (A0 H11.size)) 1 1]) (fun v62 H21 => ∃ a63 l63 c63, v62 = .slice a63 l63 c63 ∧ True ∧ callS PP 94 #[.pointer p1, .slice a63 l63 c63] (fun v64 H22 => ∃ n65 n66, v64 = .tuple #[iV n65, iV n66] ∧ True ∧ J37 [iV n66, iV n65] H22) H21) H20) H19) (H11.push (.cells #[iV n35] 36)))) ∧ ∀ w67 H23, J37 w67 H23 → ∀ _g : Nat → Value, ∃ n68 n69, w67 = [iV n68, iV n69] ∧ cond (n68 != 0) (Q (.tuple #[iV 0, iV n68]) H23) (∃ q70, p1 = some q70 ∧ ∃ p71, cellH H23 q70 = some (.pointer p71) ∧ ∃ q72, p71 = some q72 ∧ ∃ p73, cellH H23 q72 = some (.pointer p73) ∧ callS PP 96 #[.pointer p73, iV 0, iV n69] (fun v74 H24 => ∃ n75, v74 = iV n75 ∧ callS PP 183 #[iV n35] (fun v76 H25 => ∃ n77 n78, v76 = .tuple #[iV n77, iV n78] ∧ Q (.tuple #[iV n77, iV n78]) H25) H24) H23))) (H10.push (.cells #[iV n6, iV n29, iV n20, iV n27, iV n27, iV n31, iV n33] 36))) H9) H8) H7) H6) H5)) H2))) H
theorem k89_ok {p1 : Option Addr} {s2 : ByteArray} {n3 : Int} {a4 : Option Addr} {l4 : Nat} {c4 : Nat} (h : k89 p1 s2 n3 a4 l4 c4 Q H) : callS PP 89 #[.pointer p1, .string s2, .int .i64 n3, .slice a4 l4 c4] Q H :=
 callS_of good Tryz.func89 rfl (Ls := fun | 6 => some [(12, 108), (33, 3)] | 1022 => some [(11, 23), (21, 36)] | _ => none) (by kernel_rfl) h
abbrev n_k90 : Nat := 90
def k90 (p1 : Option Addr) (n2 : Int) (Q : QT) (H : Heap) : Prop :=
 ∃ q3, p1 = some q3 ∧ ∃ p4, cellH H q3 = some (.pointer p4) ∧ ∃ q5, p4 = some q5 ∧ ∃ p6, cellH H q5 = some (.pointer p6) ∧ ∃ q7, p1 = some q7 ∧ ∃ n8, cellH H (q7.add 3) = some (iV n8) ∧ callS PP 83 #[.pointer p6] (fun v9 H1 => ∃ a10 l10 c10, v9 = .slice a10 l10 c10 ∧ ((cellH H1 (q7.add 3) = some (iV n8) ∧ True) ∧ True) ∧ callS PP 54 #[.pointer p6, iV (wW ((l10 : Int) - n8))] (fun v11 H2 => ∃ n12, v11 = iV n12 ∧ True ∧ cond (n2 == 0) (Q (iV n2) H2) (∃ q13, p1 = some q13 ∧ ∃ p14, cellH H2 q13 = some (.pointer p14) ∧ ∃ q15, p14 = some q15 ∧ ∃ p16, cellH H2 (q15.add 1) = some (.pointer p16) ∧ ∃ q17, p1 = some q17 ∧ ∃ n18, cellH H2 (q17.add 1) = some (iV n18) ∧ callS PP 207 #[.pointer p16, iV n18] (fun v19 H3 => ∃ n20, v19 = iV n20 ∧ True ∧ cond (n2 != 24) (∃ q21, p1 = some q21 ∧ ∃ n22, cellH H3 (q21.add 2) = some (iV n22) ∧ callS PP 20 #[.pointer p6] (fun v23 H4 => ∃ p24, v23 = .pointer p24 ∧ ((cellH H4 (q21.add 2) = some (iV n22) ∧ True) ∧ True) ∧ callS PP 21 #[.pointer p24, iV n22] (fun v25 H5 => ∃ n26, v25 = iV n26 ∧ True ∧ Q (iV n2) H5) H4) H3) (Q (iV n2) H3)) H2)) H1) H
theorem k90_ok {p1 : Option Addr} {n2 : Int} (h : k90 p1 n2 Q H) : callS PP 90 #[.pointer p1, .int .i64 n2] Q H :=
 okF Tryz.func90 rfl h
abbrev n_k92 : Nat := 92
def k92 (p1 : Option Addr) (s2 : ByteArray) (Q : QT) (H : Heap) : Prop :=
 callS PP 66 #[.pointer p1, .string s2] (fun v3 H1 => ∃ n4 n5, v3 = .tuple #[iV n4, iV n5] ∧ cond (n5 == 0) (Q (.bool true) H1) (callS PP 71 #[.pointer p1] (fun v6 H2 => ∃ a7 l7 c7, v6 = .slice a7 l7 c7 ∧ callS PP 204 #[.slice a7 l7 c7, .string s2] (fun v8 H3 => ∃ b9, v8 = .bool b9 ∧ Q (.bool b9) H3) H2) H1)) H
theorem k92_ok {p1 : Option Addr} {s2 : ByteArray} (h : k92 p1 s2 Q H) : callS PP 92 #[.pointer p1, .string s2] Q H :=
 okF Tryz.func92 rfl h
abbrev n_k93 : Nat := 93
def k93 (p1 : Option Addr) (s2 : ByteArray) (Q : QT) (H : Heap) : Prop :=
 ∃ q3, p1 = some q3 ∧ ∃ p4, cellH H q3 = some (.pointer p4) ∧ ∃ q5, p4 = some q5 ∧ ∃ p6, cellH H (q5.add 1) = some (.pointer p6) ∧ callS PP 131 #[.pointer p6, .string s2] (fun v7 H1 => ∃ n8 n9, v7 = .tuple #[iV n8, iV n9] ∧ cond (n9 != 0) (Q (.tuple #[iV 0, iV n9]) H1) (callS PP 143 #[iV n8] (fun v10 H2 => ∃ n11 n12, v10 = .tuple #[iV n11, iV n12] ∧ Q (.tuple #[iV n11, iV n12]) H2) H1)) H
theorem k93_ok {p1 : Option Addr} {s2 : ByteArray} (h : k93 p1 s2 Q H) : callS PP 93 #[.pointer p1, .string s2] Q H :=
 okF Tryz.func93 rfl h
abbrev n_k94 : Nat := 94
def k94 (p1 : Option Addr) (a2 : Option Addr) (l2 : Nat) (c2 : Nat) (Q : QT) (H : Heap) : Prop :=
 cond ((l2 : Int) == 0) (callS PP 50 #[iV 18] (fun v3 H1 => ∃ n4, v3 = iV n4 ∧ Q (.tuple #[iV n4, iV 0]) H1) H) (callS PP 206 #[.pointer p1, iV 11, .slice a2 l2 c2] (fun v5 H2 => ∃ n6 n7, v5 = .tuple #[iV n6, iV n7] ∧ Q (.tuple #[iV n6, iV n7]) H2) H)
theorem k94_ok {p1 : Option Addr} {a2 : Option Addr} {l2 : Nat} {c2 : Nat} (h : k94 p1 a2 l2 c2 Q H) : callS PP 94 #[.pointer p1, .slice a2 l2 c2] Q H :=
 okF Tryz.func94 rfl h
abbrev n_k95 : Nat := 95
def k95 (p1 : Option Addr) (n2 : Int) (Q : QT) (H : Heap) : Prop :=
 ∃ p3, cellH (H.push (.cells #[.pointer p1] 131)) (A0 H.size) = some (.pointer p3) ∧ callS PP 75 #[.agg #[.pointer p3], iV n2] (fun v4 H1 => ∃ n5, v4 = iV n5 ∧ ∃ (I6 : IT) (μ6 : MT), I6 [.slice none 0 0, iV 0] H1 ∧ ∀ w7 H2, I6 w7 H2 → ∀ _g : Nat → Value, ∃ a8 l8, ∃ c8 n9, w7 = [.slice a8 l8 c8, iV n9] ∧ cond (decide (n9 < n5)) (∃ p10, cellH H2 (A0 H.size) = some (.pointer p10) ∧ callS PP 181 #[.agg #[.pointer p10], iV n2, iV n9] (fun v11 H3 => ∃ n12, v11 = iV n12 ∧ evS PP (Builtin.append_ #[108, 108] 108 #[.slice a8 l8 c8, .slice (some (A0 H3.size)) 1 1]) (fun v13 H4 => ∃ a14 l14 c14, v13 = .slice a14 l14 c14 ∧ I6 [.slice a14 l14 c14, iV (wW (n9 + 1))] H4 ∧ μ6 [.slice a14 l14 c14, iV (wW (n9 + 1))] H4 < μ6 w7 H2) (H3.push (.cells #[iV n12] 36))) H2) (Q (.slice a8 l8 c8) H2)) (H.push (.cells #[.pointer p1] 131))
theorem k95_ok {p1 : Option Addr} {n2 : Int} (h : k95 p1 n2 Q H) : callS PP 95 #[.agg #[.pointer p1], .int .i64 n2] Q H :=
 callS_of good Tryz.func95 rfl (Ls := fun | 3 => some [(5, 108), (10, 3)] | _ => none) (by kernel_rfl) h
abbrev n_k101 : Nat := 101
def k101 (p1 : Option Addr) (n2 : Int) (Q : QT) (H : Heap) : Prop :=
 callS PP 177 #[.pointer p1, iV n2] (fun v3 H1 => ∃ p4 : Option Addr, shH (setH (H1.push (.cells #[.pointer none] 131)) (A0 H1.size) (.pointer p4)) fun C1 => ∃ n5, v3 = .tuple #[.agg #[.pointer p4], iV n5] ∧ Wr (H1.push (.cells #[.pointer none] 131)) (A0 H1.size) ∧ cond (n5 != 0) (Q (.tuple #[.slice none 0 0, iV n5]) C1) (∃ p6, cellH C1 (A0 H1.size) = some (.pointer p6) ∧ callS PP 202 #[.agg #[.pointer p6], iV n2] (fun v7 H2 => ∃ a8 l8 c8, v7 = .slice a8 l8 c8 ∧ Q (.tuple #[.slice a8 l8 c8, iV 0]) H2) C1)) H
theorem k101_ok {p1 : Option Addr} {n2 : Int} (h : k101 p1 n2 Q H) : callS PP 101 #[.pointer p1, .int .i64 n2] Q H :=
 okF Tryz.func101 rfl h
abbrev n_k112 : Nat := 112
def k112 (p1 : Option Addr) (n2 : Int) (Q : QT) (H : Heap) : Prop :=
 callS PP 73 #[.pointer p1] (fun v3 H1 => ∃ b4, v3 = .bool b4 ∧ cond (!b4) (Q (.tuple #[iV 0, iV 2]) H1) (callS PP 165 #[iV n2] (fun v5 H2 => ∃ n6, v5 = iV n6 ∧ cond (n6 == 1) (Q (.tuple #[iV 8, iV 0]) H2) (cond (n6 == 2) (Q (.tuple #[iV 9, iV 0]) H2) (cond (n6 == 3) (callS PP 183 #[iV n2] (fun v7 H3 => ∃ n8 n9, v7 = .tuple #[iV n8, iV n9] ∧ ∃ q10, p1 = some q10 ∧ ∃ p11, cellH H3 q10 = some (.pointer p11) ∧ callS PP 20 #[.pointer p11] (fun v12 H4 => ∃ p13, v12 = .pointer p13 ∧ callS PP 137 #[.pointer p13, iV n8] (fun v14 H5 => ∃ n15 n16, v14 = .tuple #[iV n15, iV n16] ∧ cond (n16 != 0) (Q (.tuple #[iV 0, iV n16]) H5) (callS PP 183 #[iV n15] (fun v17 H6 => ∃ n18 n19, v17 = .tuple #[iV n18, iV n19] ∧ Q (.tuple #[iV n18, iV n19]) H6) H5)) H4) H3) H2) (Q (.tuple #[iV 0, iV 10]) H2)))) H1)) H
theorem k112_ok {p1 : Option Addr} {n2 : Int} (h : k112 p1 n2 Q H) : callS PP 112 #[.pointer p1, .int .i64 n2] Q H :=
 okF Tryz.func112 rfl h
abbrev n_k176 : Nat := 176
def k176 (p1 : Option Addr) (n2 : Int) (n3 : Int) (Q : QT) (H : Heap) : Prop :=
 ∃ p4, cellH (H.push (.cells #[.pointer p1] 131)) (A0 H.size) = some (.pointer p4) ∧ callS PP 181 #[.agg #[.pointer p4], iV n2, iV n3] (fun v5 H1 => ∃ n6, v5 = iV n6 ∧ callS PP 239 #[iV n6] (fun v7 H2 => ∃ n8 n9, v7 = .tuple #[iV n8, iV n9] ∧ cond (n9 != 0) (Q (.string (⟨#[]⟩ : ByteArray)) H2) (∃ p10, cellH H2 (A0 H.size) = some (.pointer p10) ∧ ∃ q11, p10 = some q11 ∧ ∃ p12, cellH H2 (q11.add 1) = some (.pointer p12) ∧ callS PP 240 #[.pointer p12, iV n8] (fun v13 H3 => ∃ s14 n15, v13 = .tuple #[.string s14, iV n15] ∧ Q (.string s14) H3) H2)) H1) (H.push (.cells #[.pointer p1] 131))
theorem k176_ok {p1 : Option Addr} {n2 : Int} {n3 : Int} (h : k176 p1 n2 n3 Q H) : callS PP 176 #[.agg #[.pointer p1], .int .i64 n2, .int .i64 n3] Q H :=
 okF Tryz.func176 rfl h
abbrev n_k177 : Nat := 177
def k177 (p1 : Option Addr) (n2 : Int) (Q : QT) (H : Heap) : Prop :=
 callS PP 73 #[.pointer p1] (fun v3 H1 => shH (setH (H1.push (.cells #[.pointer none] 131)) (A0 H1.size) (.pointer p1)) fun C1 => ∃ b4, v3 = .bool b4 ∧ cond (!b4) (Wr H1 (A0 H.size) ∧ ∃ p5, cellH (setH H1 (A0 H.size) (.pointer none)) (A0 H.size) = some (.pointer p5) ∧ Q (.tuple #[.agg #[.pointer p5], iV 2]) (setH H1 (A0 H.size) (.pointer none))) (Wr (H1.push (.cells #[.pointer none] 131)) (A0 H1.size) ∧ ∃ p6, cellH C1 (A0 H1.size) = some (.pointer p6) ∧ callS PP 245 #[.agg #[.pointer p6], iV n2] (fun v7 H2 => ∃ b8, v7 = .bool b8 ∧ cond (!b8) (Wr H2 (A0 H.size) ∧ ∃ p9, cellH (setH H2 (A0 H.size) (.pointer none)) (A0 H.size) = some (.pointer p9) ∧ Q (.tuple #[.agg #[.pointer p9], iV 130]) (setH H2 (A0 H.size) (.pointer none))) (∃ p10, cellH H2 (A0 H1.size) = some (.pointer p10) ∧ Wr H2 (A0 H.size) ∧ ∃ p11, cellH (setH H2 (A0 H.size) (.pointer p10)) (A0 H.size) = some (.pointer p11) ∧ Q (.tuple #[.agg #[.pointer p11], iV 0]) (setH H2 (A0 H.size) (.pointer p10)))) C1)) (H.push (.cells #[.pointer none] 131))
theorem k177_ok {p1 : Option Addr} {n2 : Int} (h : k177 p1 n2 Q H) : callS PP 177 #[.pointer p1, .int .i64 n2] Q H :=
 okF Tryz.func177 rfl h
abbrev n_k178 : Nat := 178
def k178 (p1 : Option Addr) (n2 : Int) (Q : QT) (H : Heap) : Prop :=
 ∃ p3, cellH (H.push (.cells #[.pointer p1] 131)) (A0 H.size) = some (.pointer p3) ∧ callS PP 75 #[.agg #[.pointer p3], iV n2] (fun v4 H1 => ∃ n5, v4 = iV n5 ∧ ∃ (I6 : IT) (μ6 : MT), I6 [.slice none 0 0, iV 0] H1 ∧ ∀ w7 H2, I6 w7 H2 → ∀ _g : Nat → Value, ∃ a8 l8, ∃ c8 n9, w7 = [.slice a8 l8 c8, iV n9] ∧ cond (decide (n9 < n5)) (∃ p10, cellH H2 (A0 H.size) = some (.pointer p10) ∧ callS PP 176 #[.agg #[.pointer p10], iV n2, iV n9] (fun v11 H3 => ∃ s12, v11 = .string s12 ∧ evS PP (Builtin.append_ #[37, 37] 37 #[.slice a8 l8 c8, .slice (some (A0 H3.size)) 1 1]) (fun v13 H4 => ∃ a14 l14 c14, v13 = .slice a14 l14 c14 ∧ I6 [.slice a14 l14 c14, iV (wW (n9 + 1))] H4 ∧ μ6 [.slice a14 l14 c14, iV (wW (n9 + 1))] H4 < μ6 w7 H2) (H3.push (.cells #[.string s12] 9))) H2) (Q (.slice a8 l8 c8) H2)) (H.push (.cells #[.pointer p1] 131))
theorem k178_ok {p1 : Option Addr} {n2 : Int} (h : k178 p1 n2 Q H) : callS PP 178 #[.agg #[.pointer p1], .int .i64 n2] Q H :=
 callS_of good Tryz.func178 rfl (Ls := fun | 3 => some [(5, 37), (10, 3)] | _ => none) (by kernel_rfl) h
abbrev n_k179 : Nat := 179
def k179 (p1 : Option Addr) (n2 : Int) (n3 : Int) (Q : QT) (H : Heap) : Prop :=
 ∃ p4, cellH (H.push (.cells #[.pointer p1] 131)) (A0 H.size) = some (.pointer p4) ∧ callS PP 181 #[.agg #[.pointer p4], iV n2, iV n3] (fun v5 H1 => ∃ n6, v5 = iV n6 ∧ callS PP 246 #[iV n6] (fun v7 H2 => ∃ n8 n9, v7 = .tuple #[iV n8, iV n9] ∧ Q (iV n8) H2) H1) (H.push (.cells #[.pointer p1] 131))
theorem k179_ok {p1 : Option Addr} {n2 : Int} {n3 : Int} (h : k179 p1 n2 n3 Q H) : callS PP 179 #[.agg #[.pointer p1], .int .i64 n2, .int .i64 n3] Q H :=
 okF Tryz.func179 rfl h
abbrev n_k180 : Nat := 180
def k180 (p1 : Option Addr) (n2 : Int) (Q : QT) (H : Heap) : Prop :=
 ∃ p3, cellH (H.push (.cells #[.pointer p1] 131)) (A0 H.size) = some (.pointer p3) ∧ callS PP 76 #[.agg #[.pointer p3], iV n2, iV 1] (fun v4 H1 => ∃ n5, v4 = iV n5 ∧ cond (n5 != 1) (Q (iV n5) H1) (Q (iV 0) H1)) (H.push (.cells #[.pointer p1] 131))
theorem k180_ok {p1 : Option Addr} {n2 : Int} (h : k180 p1 n2 Q H) : callS PP 180 #[.agg #[.pointer p1], .int .i64 n2] Q H :=
 okF Tryz.func180 rfl h
abbrev n_k181 : Nat := 181
def k181 (p1 : Option Addr) (n2 : Int) (n3 : Int) (Q : QT) (H : Heap) : Prop :=
 ∃ p4, cellH (H.push (.cells #[.pointer p1] 131)) (A0 H.size) = some (.pointer p4) ∧ ∃ q5, p4 = some q5 ∧ ∃ p6, cellH (H.push (.cells #[.pointer p1] 131)) q5 = some (.pointer p6) ∧ callS PP 20 #[.pointer p6] (fun v7 H1 => ∃ p8, v7 = .pointer p8 ∧ callS PP 233 #[.pointer p8, iV n2, iV n3] (fun v9 H2 => ∃ n10 n11, v9 = .tuple #[iV n10, iV n11] ∧ Q (iV n10) H2) H1) (H.push (.cells #[.pointer p1] 131))
theorem k181_ok {p1 : Option Addr} {n2 : Int} {n3 : Int} (h : k181 p1 n2 n3 Q H) : callS PP 181 #[.agg #[.pointer p1], .int .i64 n2, .int .i64 n3] Q H :=
 okF Tryz.func181 rfl h
abbrev n_k188 : Nat := 188
def k188 (p1 : Option Addr) (n2 : Int) (Q : QT) (H : Heap) : Prop :=
 callS PP 177 #[.pointer p1, iV n2] (fun v3 H1 => ∃ p4 : Option Addr, shH (setH (H1.push (.cells #[.pointer none] 131)) (A0 H1.size) (.pointer p4)) fun C1 => ∃ n5, v3 = .tuple #[.agg #[.pointer p4], iV n5] ∧ Wr (H1.push (.cells #[.pointer none] 131)) (A0 H1.size) ∧ cond (n5 != 0) (Q (.tuple #[iV 0, iV n5]) C1) (∃ p6, cellH C1 (A0 H1.size) = some (.pointer p6) ∧ callS PP 179 #[.agg #[.pointer p6], iV n2, iV 6] (fun v7 H2 => ∃ n8, v7 = iV n8 ∧ Q (.tuple #[iV n8, iV 0]) H2) C1)) H
theorem k188_ok {p1 : Option Addr} {n2 : Int} (h : k188 p1 n2 Q H) : callS PP 188 #[.pointer p1, .int .i64 n2] Q H :=
 okF Tryz.func188 rfl h
abbrev n_k190 : Nat := 190
def k190 (p1 : Option Addr) (n2 : Int) (Q : QT) (H : Heap) : Prop :=
 callS PP 177 #[.pointer p1, iV n2] (fun v3 H1 => ∃ p4 : Option Addr, shH (setH (H1.push (.cells #[.pointer none] 131)) (A0 H1.size) (.pointer p4)) fun C1 => ∃ n5, v3 = .tuple #[.agg #[.pointer p4], iV n5] ∧ Wr (H1.push (.cells #[.pointer none] 131)) (A0 H1.size) ∧ cond (n5 != 0) (Q (.tuple #[iV 0, iV n5]) C1) (∃ p6, cellH C1 (A0 H1.size) = some (.pointer p6) ∧ callS PP 180 #[.agg #[.pointer p6], iV n2] (fun v7 H2 => ∃ n8, v7 = iV n8 ∧ Q (.tuple #[iV n8, iV 0]) H2) C1)) H
theorem k190_ok {p1 : Option Addr} {n2 : Int} (h : k190 p1 n2 Q H) : callS PP 190 #[.pointer p1, .int .i64 n2] Q H :=
 okF Tryz.func190 rfl h
abbrev n_k192 : Nat := 192
def k192 (p1 : Option Addr) (n2 : Int) (Q : QT) (H : Heap) : Prop :=
 callS PP 177 #[.pointer p1, iV n2] (fun v3 H1 => ∃ p4 : Option Addr, shH (setH (H1.push (.cells #[.pointer none] 131)) (A0 H1.size) (.pointer p4)) fun C1 => ∃ n5, v3 = .tuple #[.agg #[.pointer p4], iV n5] ∧ Wr (H1.push (.cells #[.pointer none] 131)) (A0 H1.size) ∧ cond (n5 != 0) (Q (.tuple #[iV 0, iV n5]) C1) (∃ p6, cellH C1 (A0 H1.size) = some (.pointer p6) ∧ callS PP 179 #[.agg #[.pointer p6], iV n2, iV 5] (fun v7 H2 => ∃ n8, v7 = iV n8 ∧ Q (.tuple #[iV n8, iV 0]) H2) C1)) H
theorem k192_ok {p1 : Option Addr} {n2 : Int} (h : k192 p1 n2 Q H) : callS PP 192 #[.pointer p1, .int .i64 n2] Q H :=
 okF Tryz.func192 rfl h
abbrev n_k202 : Nat := 202
def k202 (p1 : Option Addr) (n2 : Int) (Q : QT) (H : Heap) : Prop :=
 cond (n2 == 0) (Q (.slice none 0 0) (H.push (.cells #[.pointer p1] 131))) (∃ p3, cellH (H.push (.cells #[.pointer p1] 131)) (A0 H.size) = some (.pointer p3) ∧ ∃ p4, cellH (H.push (.cells #[.pointer p1] 131)) (A0 H.size) = some (.pointer p4) ∧ ∃ p5, cellH (H.push (.cells #[.pointer p1] 131)) (A0 H.size) = some (.pointer p5) ∧ ∃ p6, cellH (H.push (.cells #[.pointer p1] 131)) (A0 H.size) = some (.pointer p6) ∧ callS PP 180 #[.agg #[.pointer p4], iV n2] (fun v7 H1 => ∃ n8, v7 = iV n8 ∧ ((cellH H1 (A0 H.size) = some (.pointer p6) ∧ True) ∧ ((cellH H1 (A0 H.size) = some (.pointer p5) ∧ True) ∧ ((cellH H1 (A0 H.size) = some (.pointer p3) ∧ True) ∧ True))) ∧ callS PP 202 #[.agg #[.pointer p3], iV n8] (fun v9 H2 => ∃ a10 l10 c10, v9 = .slice a10 l10 c10 ∧ ((cellH H2 (A0 H.size) = some (.pointer p6) ∧ True) ∧ ((cellH H2 (A0 H.size) = some (.pointer p5) ∧ True) ∧ True)) ∧ callS PP 76 #[.agg #[.pointer p6], iV n2, iV 2] (fun v11 H3 => ∃ n12, v11 = iV n12 ∧ ((cellH H3 (A0 H.size) = some (.pointer p5) ∧ True) ∧ True) ∧ callS PP 178 #[.agg #[.pointer p5], iV n12] (fun v13 H4 => ∃ a14 l14 c14, v13 = .slice a14 l14 c14 ∧ True ∧ evS PP (Builtin.append_ #[37, 37] 37 #[.slice a10 l10 c10, .slice a14 l14 c14]) (fun v15 H5 => ∃ a16 l16 c16, v15 = .slice a16 l16 c16 ∧ True ∧ Q (.slice a16 l16 c16) H5) H4) H3) H2) H1) (H.push (.cells #[.pointer p1] 131)))
theorem k202_ok {p1 : Option Addr} {n2 : Int} (h : k202 p1 n2 Q H) : callS PP 202 #[.agg #[.pointer p1], .int .i64 n2] Q H :=
 okF Tryz.func202 rfl h
abbrev n_k206 : Nat := 206
def k206 (p1 : Option Addr) (n2 : Int) (a3 : Option Addr) (l3 : Nat) (_c3 : Nat) (Q : QT) (H : Heap) : Prop :=
 ∃ q4, p1 = some q4 ∧ ∃ p5, cellH H q4 = some (.pointer p5) ∧ ∃ q6, p5 = some q6 ∧ ∃ p7, cellH H q6 = some (.pointer p7) ∧ callS PP 50 #[iV n2] (fun v8 H1 => ∃ n9, v8 = iV n9 ∧ ((cellH H1 q6 = some (.pointer p7) ∧ True) ∧ ((cellH H1 q4 = some (.pointer p5) ∧ True) ∧ True)) ∧ callS PP 238 #[.pointer p7, iV n9, iV (l3 : Int), iV 0] (fun v10 H2 => ∃ n11 n12, v10 = .tuple #[iV n11, iV n12] ∧ True ∧ cond (n12 != 0) (Q (.tuple #[iV 0, iV n12]) H2) (callS PP 183 #[iV n11] (fun v13 H3 => ∃ n14 n15, v13 = .tuple #[iV n14, iV n15] ∧ ∃ (I16 : IT) (μ16 : MT), I16 [iV 0] H3 ∧ ∀ w17 H4, I16 w17 H4 → ∀ _g : Nat → Value, ∃ n18, w17 = [iV n18] ∧ cond (decide (n18 < (l3 : Int))) (((0 : Int) ≤ n18 ∧ n18 < (l3 : Int)) ∧ ∃ q19, a3 = some q19 ∧ ∃ n20, cellH H4 (q19.add (Int.toNat n18 * 1)) = some (iV n20) ∧ ∃ q21, p1 = some q21 ∧ ∃ p22, cellH H4 q21 = some (.pointer p22) ∧ ∃ q23, p22 = some q23 ∧ ∃ p24, cellH H4 q23 = some (.pointer p24) ∧ callS PP 20 #[.pointer p24] (fun v25 H5 => ∃ p26, v25 = .pointer p26 ∧ callS PP 140 #[.pointer p26, iV n14, iV n18, iV n20] (fun v27 H6 => ∃ n28, v27 = iV n28 ∧ I16 [iV (wW (n18 + 1))] H6 ∧ μ16 [iV (wW (n18 + 1))] H6 < μ16 w17 H4) H5) H4) (∃ q29, p1 = some q29 ∧ ∃ p30, cellH H4 q29 = some (.pointer p30) ∧ ∃ q31, p30 = some q31 ∧ ∃ p32, cellH H4 q31 = some (.pointer p32) ∧ callS PP 51 #[.pointer p32, .slice (some (A0 H4.size)) 1 1] (fun v33 H7 => ∃ n34, v33 = iV n34 ∧ Q (.tuple #[iV n11, iV n34]) H7) (H4.push (.cells #[iV n11] 36)))) H2)) H1) H
theorem k206_ok {p1 : Option Addr} {n2 : Int} {a3 : Option Addr} {l3 : Nat} {c3 : Nat} (h : k206 p1 n2 a3 l3 c3 Q H) : callS PP 206 #[.pointer p1, .int .i64 n2, .slice a3 l3 c3] Q H :=
 callS_of good Tryz.func206 rfl (Ls := fun | 6 => some [(40, 3)] | _ => none) (by kernel_rfl) h
abbrev n_k245 : Nat := 245
def k245 (p1 : Option Addr) (n2 : Int) (Q : QT) (H : Heap) : Prop :=
 ∃ p3, cellH (H.push (.cells #[.pointer p1] 131)) (A0 H.size) = some (.pointer p3) ∧ callS PP 179 #[.agg #[.pointer p3], iV n2, iV 6] (fun v4 H1 => ∃ n5, v4 = iV n5 ∧ ∃ p6, cellH H1 (A0 H.size) = some (.pointer p6) ∧ callS PP 74 #[.agg #[.pointer p6], iV 0] (fun v7 H2 => ∃ n8, v7 = iV n8 ∧ cond (decide (n2 > 0)) (cond (decide (n5 ≥ 1)) (∃ p9, cellH H2 (A0 H.size) = some (.pointer p9) ∧ callS PP 75 #[.agg #[.pointer p9], iV n8] (fun v10 H3 => ∃ n11, v10 = iV n11 ∧ cond (decide (n5 ≤ n11)) (∃ p12, cellH H3 (A0 H.size) = some (.pointer p12) ∧ callS PP 76 #[.agg #[.pointer p12], iV n8, iV (wW (n5 - 1))] (fun v13 H4 => ∃ n14, v13 = iV n14 ∧ Q (.bool (n14 == n2)) H4) H3) (Q (.bool false) H3)) H2) (Q (.bool false) H2)) (Q (.bool false) H2)) H1) (H.push (.cells #[.pointer p1] 131))
theorem k245_ok {p1 : Option Addr} {n2 : Int} (h : k245 p1 n2 Q H) : callS PP 245 #[.agg #[.pointer p1], .int .i64 n2] Q H :=
 okF Tryz.func245 rfl h
end Go.Proofs.YtmkdkplipbocjaaGreatDoor
namespace Kw
open Go
def KV.addC (v : KV) (c : CV) (d : Int) : KV := { v with cls := v.cls ++ [c], clsA := d }
def KV.addG (v : KV) (n : Nat) (d : Int) : KV := { v with glob := v.glob ++ [(n, 4)], globA := d }
theorem KS.fresh {s : SP} {v : KV} (h : KS s v) {o : Int} (hn : ¬ Reaches s.h s.roots o) : ∀ p ∈ v.roles, p.1 ≠ o := fun p hp he => hn (he ▸ h.reach p hp)
theorem keeps_roots {s s' : SP} {v : KV} (h : KS s v) (h' : KS s' v) {l : List Int} (e : s'.stack = s.stack ++ l) : ∀ w ∈ s.roots, w ∈ s'.roots := by
 intro w hw
 rw [h.roots] at hw
 rw [h'.roots, e]
 simp only [List.mem_cons, List.mem_append] at hw ⊢
 rcases hw with h | h
 · exact .inl h
 · exact .inr (.inl h)
theorem up_arr {s : SP} {v : KV} (h : KS s v) {j : Nat} (hj : j < v.cls.length) : 1 ≤ (v.cls[j]).oop ∧ (v.cls[j]).oop ≤ 65536 := by
 have := (h.view.cls hj).bnd h.wf.h
 exact ⟨this.1, this.2.1⟩
theorem clsSlots_words {n up l : Int} {k : Nat} (hn : isW n) (hu : isW (4 * up)) (hl : isW l) (hk : k ≤ 1000) : ∀ w ∈ clsSlots n up l k, isW w := by
 intro w hw
 simp only [clsSlots, List.mem_cons, List.not_mem_nil, or_false] at hw
 rcases hw with rfl | rfl | rfl | rfl | rfl | rfl | rfl
 · exact hn
 · exact hu
 · exact hl
 · decide
 · decide
 · decide
 · unfold isW; have := kind_cases (2 * ((k : Int) + 1) + 1); omega
theorem clsW_words {s : SP} {v : KV} (h : KS s v) : ∀ w ∈ v.clsW, isW w := fun w hw => (h.view.all.bnd h.wf.h).2.2.2 w hw
theorem globW_words {s : SP} {v : KV} (h : KS s v) : ∀ w ∈ globW v.glob, isW w := fun w hw => (h.view.globs.bnd h.wf.h).2.2.2 w hw
theorem kDef3_ok {s : SP} {v : KV} {t : TB} (hk : KS s v) (hst : s.stack.length < 65000) {c l : Int} {n : Nat} {ns : List Nat} {j : Nat} (hj : j < v.cls.length) (hlt : v.cls.length < 256)
   (hc1 : 1 ≤ c) (hc2 : c ≤ 65536) (hcr : Reaches s.h s.roots c) (hlr : Reaches s.h s.roots l) (hca : Arr s.h c (clsSlots (symW n) (v.cls[j]).oop (4 * l) v.cls.length)) (hla : Arr s.h l (ns.map symW))
   (hcf : ∀ p ∈ v.roles, p.1 ≠ c) (hlf : ns = [] ∧ l = 18 ∨ ∀ p ∈ v.roles, p.1 ≠ l) (hcl : c ≠ l) :
   KeepsB s.h (kDef3 s t v.clsW (4 * c)).2.1.h (fun k => Reaches s.h s.roots k ∧ k ≠ 19) ∧ (kDef3 s t v.clsW (4 * c)).2.2 = t ∧ (∃ m, (kDef3 s t v.clsW (4 * c)).2.1.stack = s.stack ++ m ∧ m.length ≤ 1) ∧
   ((kDef3 s t v.clsW (4 * c)).1.2 ≠ 0 → KS (kDef3 s t v.clsW (4 * c)).2.1 v ∧ KeepsB s.h (kDef3 s t v.clsW (4 * c)).2.1.h (Reaches s.h s.roots)) ∧
   ((kDef3 s t v.clsW (4 * c)).1.2 = 0 → (kDef3 s t v.clsW (4 * c)).1.1 = c ∧ ∃ d, KS (kDef3 s t v.clsW (4 * c)).2.1 (v.addC ⟨c, n, (v.cls[j]).oop, ns, l, 18, 18, [], [], 0⟩ d)) := by
 have hws : ∀ w ∈ v.clsW ++ [4 * c], isW w := fun w hw => by
   rcases List.mem_append.1 hw with hw | hw
   · exact clsW_words hk w hw
   · simp only [List.mem_singleton] at hw; rw [hw]; exact isW_obj hc1 hc2
 obtain ⟨h1, h2, ⟨m, h3, h3'⟩, h4⟩ := array_ok hk (by omega) hws
 unfold kDef3
 by_cases he : (s.array (v.clsW ++ [4 * c])).1.2 = 0
 · rw [if_neg (by simpa using he)]
   obtain ⟨d, e1, d1, d2, hda, hdr, hdn⟩ := h4 he
   have hdn : ¬ Reaches s.h s.roots d := by
     rcases hdn with h | h
     · simp at h
     · exact h
   rw [e1]
   generalize (s.array (v.clsW ++ [4 * c])).2 = s1 at *
   obtain ⟨g1, g2, g3, g4, g5, g6, g7⟩ := setRoot_keeps h1 (i := 0) (w := 4 * d) (by decide) (by decide) (isW_obj d1 d2)
   generalize (s1.setRoot 0 (4 * d)).2 = s2 at *
   have hdf : ∀ p ∈ v.roles, p.1 ≠ d := hk.fresh hdn
   have r19 : ((19, v.rootW) : Role) ∈ v.roles := by simp [KV.roles]
   have r18 : ((18, []) : Role) ∈ v.roles := by simp [KV.roles]
   have hc19 : c ≠ 19 := fun e => hcf _ r19 e.symm
   have hd19 : d ≠ 19 := fun e => hdf _ r19 e.symm
   have hl19 : l ≠ 19 := by
     rcases hlf with ⟨_, h⟩ | h
     · omega
     · exact fun e => h _ r19 e.symm
   have hc18 : c ≠ 18 := fun e => hcf _ r18 e.symm
   have hdc : d ≠ c := fun e => hdn (e ▸ hcr)
   have hdl : d ≠ l := fun e => hdn (e ▸ hlr)
   have h2k : KeepsB s.h s2.h fun k => Reaches s.h s.roots k ∧ k ≠ 19 := (h2.mono fun k hk => hk.1).trans (g2.mono fun k hk => hk.2)
   have hne := sep_head hk.view hk.sep
   refine ⟨h2k, rfl, ⟨m, by rw [g6, h3], h3'⟩, fun h => absurd rfl h, fun _ => ⟨by show 4 * c / 4 = c; omega, d, g3, g7, g5, g4, ?_, ?_, ?_⟩⟩
   · -- the view
     refine View.of ?_ ?_ ?_ ?_ ?_ ?_
     · simpa [KV.rootW, KV.addC] using g1
     · have := hda.keep g2 hd19
       simpa [KV.addC, KV.clsW] using this
     · exact (h1.view.globs).keep g2 (hne (v.globA, globW v.glob) (by simp))
     · exact (h1.view.nil).keep g2 (by decide)
     · exact (h1.view.empty).keep g2 (by decide)
     · intro p hp
       simp only [KV.addC, croles_append, List.mem_append, Nat.zero_add, croles, List.append_nil] at hp
       rcases hp with hp | hp
       · exact (h1.view p (by simp [KV.roles, hp])).keep g2 (hne p (by simp [hp]))
       · simp only [crole, List.mem_cons, List.not_mem_nil, or_false] at hp
         rcases hp with rfl | rfl | rfl | rfl
         · have := hca.keep h2k ⟨hcr, hc19⟩
           simpa [CV.slots, clsSlots] using this
         · exact hla.keep h2k ⟨hlr, hl19⟩
         · exact (h1.view.empty).keep g2 (by decide)
         · exact (h1.view.empty).keep g2 (by decide)
   · -- apart
     have hs := hk.sep
     unfold Sep at hs ⊢
     simp only [KV.roles, KV.addC, croles_append, croles, List.append_nil, Nat.zero_add] at hs ⊢
     rw [List.pairwise_cons, List.pairwise_cons] at hs
     obtain ⟨hs1, hs2, hs3⟩ := hs
     have new : ∀ q ∈ crole ⟨c, n, (v.cls[j]).oop, ns, l, 18, 18, [], [], 0⟩ v.cls.length, q.1 = c ∨ q.1 = l ∨ q.1 = 18 := by
       intro q hq
       simp only [crole, List.mem_cons, List.not_mem_nil, or_false] at hq
       rcases hq with rfl | rfl | rfl | rfl <;> simp
     refine List.pairwise_cons.2 ⟨fun q hq he => ?_, List.pairwise_cons.2 ⟨fun q hq he => ?_, ?_⟩⟩
     · -- 19
       exfalso
       simp only [List.mem_cons, List.mem_append] at hq
       rcases hq with rfl | rfl | rfl | rfl | hq | hq
       · exact hd19 he.symm
       · exact hne (v.globA, globW v.glob) (by simp) he.symm
       · simp at he
       · simp at he
       · exact hne q (by simp [hq]) he.symm
       · rcases new q hq with h | h | h
         · exact hc19 (by rw [← h]; exact he.symm)
         · exact hl19 (by rw [← h]; exact he.symm)
         · rw [h] at he; simp at he
     · exfalso
       simp only [List.mem_cons, List.mem_append] at hq
       rcases hq with rfl | rfl | rfl | hq | hq
       · exact hdf (v.globA, globW v.glob) (by simp [KV.roles]) he.symm
       · exact hdf (1, []) (by simp [KV.roles]) he.symm
       · exact hdf (18, []) (by simp [KV.roles]) he.symm
       · exact hdf q (by simp [KV.roles, hq]) he.symm
       · rcases new q hq with h | h | h
         · exact hdc (by rw [← h]; exact he)
         · exact hdl (by rw [← h]; exact he)
         · exact hdf (18, []) r18 (by rw [← h]; exact he.symm)
     · show ((v.globA, globW v.glob) :: (1, []) :: (18, []) :: (croles v.cls 0 ++ _)).Pairwise _
       rw [← List.cons_append, ← List.cons_append, ← List.cons_append]
       refine List.pairwise_append.2 ⟨hs3, ?_, fun p hp q hq he => ?_⟩
       · simp only [crole]
         refine List.pairwise_cons.2 ⟨fun q hq he => ?_, List.pairwise_cons.2 ⟨fun q hq he => ?_, List.pairwise_cons.2 ⟨fun q hq he => rfl, List.pairwise_cons.2 ⟨fun q hq he => rfl, List.Pairwise.nil⟩⟩⟩⟩
         · exfalso
           simp only [List.mem_cons, List.not_mem_nil, or_false] at hq
           rcases hq with rfl | rfl | rfl
           · exact hcl he
           · exact hc18 he
           · exact hc18 he
         · rcases hlf with ⟨h, _⟩ | h
           · simp [h]
           · exfalso
             simp only [List.mem_cons, List.not_mem_nil, or_false] at hq
             rcases hq with rfl | rfl
             · exact h _ r18 he.symm
             · exact h _ r18 he.symm
       · have hpr : p ∈ v.roles := by
           simp only [KV.roles]
           exact List.mem_cons_of_mem _ (List.mem_cons_of_mem _ hp)
         have em : p.1 = 18 → p.2 = [] := fun h => by
           have := hk.view p hpr
           rw [h] at this
           exact this.uniq hk.view.empty
         rcases new q hq with h | h | h
         · exact absurd (he.trans h) (hcf p hpr)
         · rcases hlf with ⟨_, h'⟩ | h'
           · exact em (by rw [he, h, h'])
           · exact absurd (he.trans h) (h' p hpr)
         · exact em (he.trans h)
   · -- the shape
     have hsh := hk.shape
     have hm0 := hsh.many0
     constructor
     · exact hsh.rest
     · simp only [KV.addC, List.length_append]; omega
     · simp only [KV.addC, List.length_append, List.length_cons, List.length_nil]; omega
     · exact hsh.globs
     · intro h0
       have h0' : 0 < v.cls.length := by omega
       simp only [KV.addC, List.getElem_append_left h0']
       exact hsh.up0 h0'
     · intro i hi hpos
       simp only [KV.addC, List.length_append, List.length_cons, List.length_nil] at hi
       by_cases hlt' : i < v.cls.length
       · obtain ⟨j', hj', h5, h6⟩ := hsh.ups i hlt' hpos
         refine ⟨j', by simp only [KV.addC, List.length_append]; omega, h5, ?_⟩
         simp only [KV.addC, List.getElem_append_left hlt', List.getElem_append_left hj']
         exact h6
       · have hie : i = v.cls.length := by omega
         subst hie
         refine ⟨j, by simp only [KV.addC, List.length_append]; omega, hj, ?_⟩
         simp only [KV.addC, List.getElem_append_left hj]
         rw [List.getElem_append_right (Nat.le_refl _)]
         simp
     · intro i hi h14
       have hlt' : i < v.cls.length := by omega
       simp only [KV.addC, List.getElem_append_left hlt']
       exact hsh.kern i hlt' h14
     · intro x hx
       simp only [KV.addC, List.mem_append, List.mem_singleton] at hx
       rcases hx with hx | rfl
       · exact hsh.lay x hx
       · simp
 · rw [if_pos (by simpa using he)]
   exact ⟨h2.mono fun k hk => hk.1, rfl, ⟨m, h3, h3'⟩, fun _ => ⟨h1, h2⟩, fun h => absurd h he⟩
structure DefR (s : SP) (v : KV) (t : TB) (j : Nat) (name : ByteArray) (own : List ByteArray) (R : (Int × Int) × SP × TB) : Prop where
 wft : WFT R.2.2
 most : R.2.2.most = t.most
 pre : ∃ l, R.2.2.texts = t.texts ++ l
 stack : ∃ m, R.2.1.stack = s.stack ++ m ∧ m.length ≤ 3
 bad : R.1.2 ≠ 0 → KS R.2.1 v ∧ KeepsB s.h R.2.1.h (Reaches s.h s.roots)
 good : R.1.2 = 0 → ∃ c n ns l d, ∃ hj : j < v.cls.length, R.1.1 = c ∧ KS R.2.1 (v.addC ⟨c, n, (v.cls[j]).oop, ns, l, 18, 18, [], [], 0⟩ d) ∧ R.2.2.texts[n]? = some name ∧ ns.map (fun n => R.2.2.texts[n]?) = own.map some
 keep : KeepsB s.h R.2.1.h (fun k => Reaches s.h s.roots k ∧ k ≠ 19)
theorem kDef1_ok {s : SP} {v : KV} {t : TB} (hk : KS s v) (hst : s.stack.length < 60000) {n : Nat} {ns : List Nat} {j : Nat} (hj : j < v.cls.length) (hlt : v.cls.length < 256) (hwt : WFT t) (hn : n < t.texts.length) (hns : ∀ n ∈ ns, n < t.texts.length)
   {name : ByteArray} {own : List ByteArray} (e1 : t.texts[n]? = some name) (e2 : ns.map (fun n => t.texts[n]?) = own.map some) :
   DefR s v t j name own (kDef1 s t v.clsW (symW n) (v.cls[j]).oop (ns.map symW)) := by
 have hws : ∀ w ∈ ns.map symW, isW w := fun w hw => by
   obtain ⟨x, hx, rfl⟩ := List.mem_map.1 hw
   exact isW_sym hwt (hns x hx)
 obtain ⟨a1, a2, ⟨m1, a3, a3'⟩, a4⟩ := array_ok hk (by omega) hws
 unfold kDef1
 by_cases he : (s.array (ns.map symW)).1.2 = 0
 · rw [if_neg (by simpa using he)]
   obtain ⟨l, el, l1, l2, hla, hlr, hlf⟩ := a4 he
   rw [el]
   generalize (s.array (ns.map symW)).2 = s1 at *
   have hl1 : s1.stack.length < 64000 := by rw [a3, List.length_append]; omega
   have hup := up_arr hk hj
   have hcw : v.clsW.length = v.cls.length := by simp [KV.clsW]
   obtain ⟨b1, b2, b3, b4⟩ := make_ok a1 (by omega) (cls := 12) (by decide) (ws := clsSlots (symW n) (v.cls[j]).oop (4 * l) v.clsW.length) (clsSlots_words (isW_sym hwt hn) (isW_obj hup.1 hup.2) (isW_obj l1 l2) (by omega))
   have hrs : ∀ k, Reaches s.h s.roots k → Reaches s1.h s1.roots k := fun k hk' => Reaches.mono hk.wf.h a2 (keeps_roots hk a1 a3) hk'
   unfold kDef2
   by_cases hf : (s1.make 12 (clsSlots (symW n) (v.cls[j]).oop (4 * l) v.clsW.length)).1.2 = 0
   · rw [if_neg (by simpa using hf)]
     obtain ⟨c, ec, est, c1, c2, hca, hcn⟩ := b4 hf
     rw [ec]
     generalize (s1.make 12 (clsSlots (symW n) (v.cls[j]).oop (4 * l) v.clsW.length)).2 = s2 at *
     have hrs2 : ∀ k, Reaches s1.h s1.roots k → Reaches s2.h s2.roots k := fun k hk' => Reaches.mono a1.wf.h b2 (keeps_roots a1 b1 est) hk'
     have hcr : Reaches s2.h s2.roots c := Reaches.of_root c1 c2 hca.there (by rw [b1.roots, est]; simp)
     have hlf' : ns = [] ∧ l = 18 ∨ ∀ p ∈ v.roles, p.1 ≠ l := by
       rcases hlf with h | h
       · have hnil : ns = [] := by simpa using h
         subst hnil
         left
         refine ⟨rfl, ?_⟩
         have : (s.array (([] : List Nat).map symW)).1.1 = 72 := by simp [SP.array]
         omega
       · exact .inr (hk.fresh h)
     obtain ⟨d1, d2, ⟨m, d3, d3'⟩, d4, d5⟩ := kDef3_ok (t := t) b1 (by rw [est, List.length_append]; simp; omega) (c := c) (l := l) (n := n) (ns := ns) hj hlt c1 c2 hcr (hrs2 l hlr) (by rw [hcw] at hca; exact hca) (hla.keep b2 hlr) (a1.fresh hcn) hlf' (fun e => hcn (e ▸ hlr))
     generalize kDef3 s2 t v.clsW (4 * c) = R at *
     refine ⟨by rw [d2]; exact hwt, by rw [d2], ⟨[], by rw [d2]; simp⟩, ⟨m1 ++ [4 * c] ++ m, by rw [d3, est, a3]; simp, by simp; omega⟩, fun h => ?_, fun h => ?_, ((a2.trans (b2.mono hrs)).mono fun k hk' => hk'.1).trans (d1.mono fun k hk' => ⟨hrs2 k (hrs k hk'.1), hk'.2⟩)⟩
     · exact ⟨(d4 h).1, (a2.trans (b2.mono hrs)).trans ((d4 h).2.mono fun k hk' => hrs2 k (hrs k hk'))⟩
     · obtain ⟨e3, d, e4⟩ := d5 h
       rw [d2]
       exact ⟨c, n, ns, l, d, hj, e3, e4, e1, e2⟩
   · rw [if_pos (by simpa using hf)]
     exact ⟨hwt, rfl, ⟨[], by simp⟩, ⟨m1, by rw [(b3 hf).1, a3], by omega⟩, fun _ => ⟨b1, a2.trans (b2.mono hrs)⟩, fun h => absurd h hf, (a2.trans (b2.mono hrs)).mono fun k hk' => hk'.1⟩
 · rw [if_pos (by simpa using he)]
   exact ⟨hwt, rfl, ⟨[], by simp⟩, ⟨m1, a3, by omega⟩, fun _ => ⟨a1, a2⟩, fun h => absurd h he, a2.mono fun k hk' => hk'.1⟩
theorem kDef_ok {s : SP} {v : KV} {t : TB} (hk : KS s v) (hst : s.stack.length < 60000) {j : Nat} (hj : j < v.cls.length) (hlt : v.cls.length < 256) (hwt : WFT t) (name : ByteArray) (own : List ByteArray) :
   DefR s v t j name own (kDef s t v.clsW name (v.cls[j]).oop own) := by
 unfold kDef
 have p1 := add_pre t name
 have w1 := add_wft hwt name
 by_cases h1 : (t.add name).1.2 = 0
 · rw [if_neg (by simpa using h1)]
   obtain ⟨n, e1, e2, _⟩ := add_ok name h1
   generalize (t.add name).2 = t1 at *
   have p2 := addAll_pre t1 [] own
   have w2 := addAll_wft w1 [] own
   have pre : ∃ l, (t1.addAll [] own).2.texts = t.texts ++ l := by
     obtain ⟨l, e⟩ := p1.2
     obtain ⟨l', e'⟩ := p2.2
     exact ⟨l ++ l', by rw [e', e]; simp⟩
   by_cases h2 : (t1.addAll [] own).1.2 = 0
   · rw [if_neg (by simpa using h2)]
     obtain ⟨ns, e3, e4⟩ := addAll_ok [] own h2
     rw [e3, e1]
     generalize (t1.addAll [] own).2 = t2 at *
     have e5 : t2.texts[n]? = some name := by
       obtain ⟨l', e'⟩ := p2.2
       rw [e', List.getElem?_append_left (tx_some e2).2, e2]
     have hns : ∀ n ∈ ns, n < t2.texts.length := fun n hn => by
       have : t2.texts[n]? ∈ own.map some := by rw [← e4]; exact List.mem_map.2 ⟨n, hn, rfl⟩
       obtain ⟨s, _, hs⟩ := List.mem_map.1 this
       exact (tx_some hs.symm).2
     have := kDef1_ok hk hst hj hlt w2 (tx_some e5).2 hns e5 e4
     have hpre : ∃ l, (kDef1 s t2 v.clsW (symW n) (v.cls[j]).oop (ns.map symW)).2.2.texts = t.texts ++ l := by
       obtain ⟨l, e⟩ := pre
       obtain ⟨l', e'⟩ := this.pre
       exact ⟨l ++ l', e'.trans (by rw [e]; simp)⟩
     exact { this with most := this.most.trans (p2.1.trans p1.1), pre := hpre }
   · rw [if_pos (by simpa using h2)]
     exact ⟨w2, p2.1.trans p1.1, pre, ⟨[], by simp, by simp⟩, fun _ => ⟨hk, KeepsB.refl _ _⟩, fun h => absurd h h2, KeepsB.refl _ _⟩
 · rw [if_pos (by simpa using h1)]
   exact ⟨w1, p1.1, p1.2, ⟨[], by simp, by simp⟩, fun _ => ⟨hk, KeepsB.refl _ _⟩, fun h => absurd h h1, KeepsB.refl _ _⟩
end Kw
namespace Kw
open Go
structure GlobR (s : SP) (v : KV) (t : TB) (name : ByteArray) (R : Int × SP × TB) : Prop where
 wft : WFT R.2.2
 most : R.2.2.most = t.most
 pre : ∃ l, R.2.2.texts = t.texts ++ l
 stack : ∃ m, R.2.1.stack = s.stack ++ m ∧ m.length ≤ 3
 bad : R.1 ≠ 0 → KS R.2.1 v ∧ KeepsB s.h R.2.1.h (Reaches s.h s.roots)
 good : R.1 = 0 → ∃ n d, KS R.2.1 (v.addG n d) ∧ R.2.2.texts[n]? = some name
 keep : KeepsB s.h R.2.1.h (fun k => Reaches s.h s.roots k ∧ k ≠ 19)
theorem kGlob1_ok {s : SP} {v : KV} {t : TB} (hk : KS s v) (hst : s.stack.length < 60000) {n : Nat} (hlt : v.glob.length < 256) (hwt : WFT t) (hn : n < t.texts.length) {name : ByteArray} (e1 : t.texts[n]? = some name) :
   GlobR s v t name (kGlob1 s t (globW v.glob) (symW n)) := by
 have hws : ∀ w ∈ globW v.glob ++ [symW n, 4], isW w := fun w hw => by
   rcases List.mem_append.1 hw with hw | hw
   · exact globW_words hk w hw
   · simp only [List.mem_cons, List.not_mem_nil, or_false] at hw
     rcases hw with rfl | rfl
     · exact isW_sym hwt hn
     · decide
 obtain ⟨h1, h2, ⟨m, h3, h3'⟩, h4⟩ := array_ok hk (by omega) hws
 unfold kGlob1
 by_cases he : (s.array (globW v.glob ++ [symW n, 4])).1.2 = 0
 · rw [if_neg (by simpa using he)]
   obtain ⟨d, ed, d1, d2, hda, hdr, hdn⟩ := h4 he
   have hdn : ¬ Reaches s.h s.roots d := by
     rcases hdn with h | h
     · simp at h
     · exact h
   rw [ed]
   generalize (s.array (globW v.glob ++ [symW n, 4])).2 = s1 at *
   obtain ⟨g1, g2, g3, g4, g5, g6, g7⟩ := setRoot_keeps h1 (i := 1) (w := 4 * d) (by decide) (by decide) (isW_obj d1 d2)
   generalize (s1.setRoot 1 (4 * d)).2 = s2 at *
   have hdf : ∀ p ∈ v.roles, p.1 ≠ d := hk.fresh hdn
   have hd19 : d ≠ 19 := fun e => hdf (19, v.rootW) (by simp [KV.roles]) e.symm
   have hne := sep_head hk.view hk.sep
   refine ⟨hwt, rfl, ⟨[], by simp⟩, ⟨m, by rw [g6, h3], by omega⟩, fun h => absurd rfl h, fun _ => ⟨n, d, ⟨g3, g7, g5, g4, ?_, ?_, ?_⟩, e1⟩, (h2.mono fun k hk' => hk'.1).trans (g2.mono fun k hk' => hk'.2)⟩
   · refine View.of ?_ ?_ ?_ ?_ ?_ ?_
     · simpa [KV.rootW, KV.addG] using g1
     · exact (h1.view.all).keep g2 (hne (v.clsA, v.clsW) (by simp))
     · have := hda.keep g2 hd19
       simpa [KV.addG, globW_append, globW] using this
     · exact (h1.view.nil).keep g2 (by decide)
     · exact (h1.view.empty).keep g2 (by decide)
     · intro p hp
       exact (h1.view p (by simp only [KV.addG] at hp; simp [KV.roles, hp])).keep g2 (hne p (by simp only [KV.addG] at hp; simp [hp]))
   · have hs := hk.sep
     unfold Sep at hs ⊢
     simp only [KV.roles, KV.addG] at hs ⊢
     rw [List.pairwise_cons, List.pairwise_cons, List.pairwise_cons] at hs
     obtain ⟨hs1, hs2, hs3, hs4⟩ := hs
     refine List.pairwise_cons.2 ⟨fun q hq he => ?_, List.pairwise_cons.2 ⟨fun q hq he => ?_, List.pairwise_cons.2 ⟨fun q hq he => ?_, hs4⟩⟩⟩
     · exfalso
       simp only [List.mem_cons] at hq
       rcases hq with rfl | rfl | hq
       · exact hne (v.clsA, v.clsW) (by simp) he.symm
       · exact hd19 he.symm
       · exact hne q (by simp only [List.mem_cons]; exact .inr (.inr hq)) he.symm
     · rcases List.mem_cons.1 hq with rfl | hq
       · exact absurd he (hdf (v.clsA, v.clsW) (by simp [KV.roles]))
       · exact hs2 q (List.mem_cons_of_mem _ hq) he
     · exact absurd he.symm (hdf q (by simp only [KV.roles]; exact List.mem_cons_of_mem _ (List.mem_cons_of_mem _ (List.mem_cons_of_mem _ hq))))
   · exact { hk.shape with globs := by simp only [KV.addG, List.length_append, List.length_cons, List.length_nil]; omega }
 · rw [if_pos (by simpa using he)]
   exact ⟨hwt, rfl, ⟨[], by simp⟩, ⟨m, h3, by omega⟩, fun _ => ⟨h1, h2⟩, fun h => absurd h he, h2.mono fun k hk' => hk'.1⟩
theorem kGlob_ok {s : SP} {v : KV} {t : TB} (hk : KS s v) (hst : s.stack.length < 60000) (hlt : v.glob.length < 256) (hwt : WFT t) (name : ByteArray) :
   GlobR s v t name (kGlob s t (globW v.glob) name) := by
 unfold kGlob
 have p1 := add_pre t name
 have w1 := add_wft hwt name
 by_cases h1 : (t.add name).1.2 = 0
 · rw [if_neg (by simpa using h1)]
   obtain ⟨n, e1, e2, _⟩ := add_ok name h1
   rw [e1]
   generalize (t.add name).2 = t1 at *
   have := kGlob1_ok hk hst hlt w1 (tx_some e2).2 e2
   have hpre : ∃ l, (kGlob1 s t1 (globW v.glob) (symW n)).2.2.texts = t.texts ++ l := by
     obtain ⟨l, e⟩ := p1.2
     obtain ⟨l', e'⟩ := this.pre
     exact ⟨l ++ l', e'.trans (by rw [e]; simp)⟩
   exact { this with most := this.most.trans p1.1, pre := hpre }
 · rw [if_pos (by simpa using h1)]
   exact ⟨w1, p1.1, p1.2, ⟨[], by simp, by simp⟩, fun _ => ⟨hk, KeepsB.refl _ _⟩, fun h => absurd h h1, KeepsB.refl _ _⟩
structure KAll (s : SP) (t : TB) (v : KV) : Prop where
 ks : KS s v
 names : KNames v t
 stack : s.stack = []
theorem drop_all {s : SP} {m : List Int} (h : s.stack = m) : (s.drop ((s.stack.length : Int) - 0)).2 = { s with stack := [] } := by
 unfold SP.drop
 rw [if_neg (by omega)]
 simp
theorem KS.nostack {s : SP} {v : KV} (h : KS s v) : KS { s with stack := [] } v := ⟨{ h.wf with many := by simp, words := by simp }, h.gc, h.op, h.king, h.view, h.sep, h.shape⟩
theorem KS.marks {s : SP} {v : KV} (h : KS s v) (k : Int) : KS { s with h := (s.h.marks k).2 } v :=
 ⟨{ h.wf with h := marks_wf h.wf.h k }, marks_gc h.gc k, h.op, h.king, h.view.keep (marks_keeps k) fun _ _ => trivial, h.sep, h.shape⟩
theorem kDefine_ok {s : SP} {v : KV} {t : TB} (h : KAll s t v) {j : Nat} (hj : j < v.cls.length) (hlt : v.cls.length < 256) {name : ByteArray} {own : List ByteArray} (hf : ∀ c ∈ v.cls, tx t c.name ≠ name) :
   ((kDefine s t v.clsW name (v.cls[j]).oop own).1.2 ≠ 0 → (kDefine s t v.clsW name (v.cls[j]).oop own).1.1 = 0 ∧ KAll (kDefine s t v.clsW name (v.cls[j]).oop own).2.1 (kDefine s t v.clsW name (v.cls[j]).oop own).2.2 v ∧ (kDefine s t v.clsW name (v.cls[j]).oop own).2.2 = t ∧
     KeepsB s.h (kDefine s t v.clsW name (v.cls[j]).oop own).2.1.h (Reaches s.h s.roots)) ∧
   ((kDefine s t v.clsW name (v.cls[j]).oop own).1.2 = 0 → ∃ n ns l d, KAll (kDefine s t v.clsW name (v.cls[j]).oop own).2.1 (kDefine s t v.clsW name (v.cls[j]).oop own).2.2 (v.addC ⟨(kDefine s t v.clsW name (v.cls[j]).oop own).1.1, n, (v.cls[j]).oop, ns, l, 18, 18, [], [], 0⟩ d) ∧
     (∃ m, (kDefine s t v.clsW name (v.cls[j]).oop own).2.2.texts = t.texts ++ m) ∧ tx (kDefine s t v.clsW name (v.cls[j]).oop own).2.2 n = name ∧ ns.map (tx (kDefine s t v.clsW name (v.cls[j]).oop own).2.2) = own) := by
 obtain ⟨hk, hn, hst⟩ := h
 have D := kDef_ok hk (by rw [hst]; simp) hj hlt hn.wf name own
 unfold kDefine
 generalize kDef s t v.clsW name (v.cls[j]).oop own = R at D ⊢
 obtain ⟨m, hm, hm'⟩ := D.stack
 have hd := drop_all (s := R.2.1) (m := R.2.1.stack) rfl
 simp only [hst, List.length_nil]
 by_cases he : R.1.2 = 0
 · refine ⟨fun h => absurd he h, fun _ => ?_⟩
   obtain ⟨c, n, ns, l, d, _, e1, e2, e3, e4⟩ := D.good he
   unfold kEnd
   rw [if_pos he, if_pos he]
   simp only [Int.natCast_zero, hd]
   have hg := hn.grow D.wft D.pre
   have t1 := tx_some e3
   have t2 : ns.map (tx R.2.2) = own := by
     have h2 : ∀ (ns : List Nat) (own : List ByteArray), ns.map (fun n => R.2.2.texts[n]?) = own.map some → ns.map (tx R.2.2) = own := by
       intro ns
       induction ns with
       | nil => intro own h; simp only [List.map_nil] at h; simpa using h.symm
       | cons a ns ih =>
         intro own h
         cases own with
         | nil => simp at h
         | cons b own =>
           simp only [List.map_cons, List.cons.injEq] at h
           rw [List.map_cons, (tx_some h.1).1, ih own h.2]
     exact h2 ns own e4
   have t3 : ∀ x ∈ ns, x < R.2.2.texts.length := fun x hx => by
     have : R.2.2.texts[x]? ∈ own.map some := by rw [← e4]; exact List.mem_map.2 ⟨x, hx, rfl⟩
     obtain ⟨_, _, hs⟩ := List.mem_map.1 this
     exact (tx_some hs.symm).2
   refine ⟨n, ns, l, d, ⟨by rw [e1]; exact e2.nostack, ?_, rfl⟩, D.pre, t1.1, t2⟩
   refine ⟨D.wft, fun x hx => ?_, fun x hx => ?_, hg.glob, ?_⟩
   · simp only [KV.addC, List.mem_append, List.mem_singleton] at hx
     rcases hx with hx | rfl
     · exact hg.name x hx
     · exact t1.2
   · simp only [KV.addC, List.mem_append, List.mem_singleton] at hx
     rcases hx with hx | rfl
     · exact hg.own x hx
     · exact t3
   · simp only [KV.addC, List.map_append, List.map_cons, List.map_nil]
     rw [List.nodup_append]
     refine ⟨hg.nodup, by simp, fun a ha b hb hab => ?_⟩
     simp only [List.mem_singleton] at hb
     subst hb
     subst hab
     obtain ⟨x, hx, hxn⟩ := List.mem_map.1 ha
     have := hf x hx
     rw [← tx_pre D.pre (hn.name x hx), hxn] at this
     exact this t1.1
 · refine ⟨fun _ => ?_, fun h => absurd h he⟩
   obtain ⟨b1, b2⟩ := D.bad he
   unfold kEnd
   rw [if_neg he, if_neg he]
   simp only [Int.natCast_zero, hd]
   have hb := back_pre D.most D.pre
   rw [hb]
   by_cases h24 : R.1.2 = 24
   · rw [if_pos h24]
     exact ⟨trivial, ⟨b1.nostack, hn, rfl⟩, rfl, b2⟩
   · rw [if_neg h24]
     exact ⟨trivial, ⟨b1.nostack.marks _, hn, rfl⟩, rfl, b2.trans ((marks_keeps _).mono fun _ _ => trivial)⟩
theorem kGlobal_ok {s : SP} {v : KV} {t : TB} (h : KAll s t v) (hlt : v.glob.length < 256) {name : ByteArray} :
   ((kGlobal s t (globW v.glob) name).1 ≠ 0 → KAll (kGlobal s t (globW v.glob) name).2.1 (kGlobal s t (globW v.glob) name).2.2 v ∧ (kGlobal s t (globW v.glob) name).2.2 = t ∧ KeepsB s.h (kGlobal s t (globW v.glob) name).2.1.h (Reaches s.h s.roots)) ∧
   ((kGlobal s t (globW v.glob) name).1 = 0 → ∃ n d, KAll (kGlobal s t (globW v.glob) name).2.1 (kGlobal s t (globW v.glob) name).2.2 (v.addG n d) ∧ (∃ m, (kGlobal s t (globW v.glob) name).2.2.texts = t.texts ++ m) ∧ tx (kGlobal s t (globW v.glob) name).2.2 n = name) := by
 obtain ⟨hk, hn, hst⟩ := h
 have D := kGlob_ok hk (by rw [hst]; simp) hlt hn.wf name
 unfold kGlobal
 generalize kGlob s t (globW v.glob) name = R at D ⊢
 have hd := drop_all (s := R.2.1) (m := R.2.1.stack) rfl
 simp only [hst, List.length_nil]
 by_cases he : R.1 = 0
 · refine ⟨fun h => absurd he h, fun _ => ?_⟩
   obtain ⟨n, d, e1, e2⟩ := D.good he
   unfold kEnd
   rw [if_pos he]
   simp only [Int.natCast_zero, hd]
   have hg := hn.grow D.wft D.pre
   have t1 := tx_some e2
   refine ⟨n, d, ⟨e1.nostack, { hg with glob := fun p hp => ?_ }, rfl⟩, D.pre, t1.1⟩
   simp only [KV.addG, List.mem_append, List.mem_singleton] at hp
   rcases hp with hp | rfl
   · exact hg.glob p hp
   · exact t1.2
 · refine ⟨fun _ => ?_, fun h => absurd h he⟩
   obtain ⟨b1, b2⟩ := D.bad he
   unfold kEnd
   rw [if_neg he]
   simp only [Int.natCast_zero, hd]
   have hb := back_pre D.most D.pre
   rw [hb]
   by_cases h24 : R.1 = 24
   · rw [if_pos h24]
     exact ⟨⟨b1.nostack, hn, rfl⟩, rfl, b2⟩
   · rw [if_neg h24]
     exact ⟨⟨b1.nostack.marks _, hn, rfl⟩, rfl, b2.trans ((marks_keeps _).mono fun _ _ => trivial)⟩
theorem KAll.marks {s : SP} {t : TB} {v : KV} (h : KAll s t v) (k : Int) : KAll { s with h := (s.h.marks k).2 } t v := ⟨h.ks.marks k, h.names, h.stack⟩
theorem KAll.collect {s : SP} {t : TB} {v : KV} (h : KAll s t v) : KAll s.collect.2 t v := by
 have hr := collect_rest s
 exact ⟨⟨collect_wf h.ks.wf, collect_gc h.ks.gc, hr.2.2.trans h.ks.op, hr.1.trans h.ks.king, h.ks.view.keep (collect_keeps h.ks.wf.h) h.ks.reach, h.ks.sep, h.ks.shape⟩, h.names, hr.2.1.trans h.stack⟩
def KV.setG (v : KV) (i : Nat) (w : Int) : KV := { v with glob := v.glob.set i ((v.glob.getD i (0, 0)).1, w) }
theorem KAll.setG {s : SP} {t : TB} {v : KV} (h : KAll s t v) {i : Nat} (hi : i < v.glob.length) {w : Int} (hw : isW w) :
   (s.h.put v.globA (2 * (i : Int) + 1) w).1 = 0 ∧ KAll { s with h := (s.h.put v.globA (2 * (i : Int) + 1) w).2 } t (v.setG i w) := by
 obtain ⟨hk, hn, hst⟩ := h
 have hga := hk.view.globs
 have hlen := globW_len v.glob
 obtain ⟨p1, p2⟩ := put_arr hga (i := 2 * (i : Int) + 1) (w := w) (by omega) (by omega) hw
 have pk := put_keeps (r := s.h) v.globA (2 * (i : Int) + 1) w
 have e0 : (2 * (i : Int) + 1).toNat = 2 * i + 1 := by omega
 rw [e0, globW_set hi] at p1
 have eg : v.glob.set i (v.glob[i].1, w) = (v.setG i w).glob := by simp [KV.setG, hi]
 rw [eg] at p1
 have hs := hk.sep
 have hne : (globW v.glob) ≠ [] := fun e => by rw [e] at hlen; simp at hlen; omega
 unfold Sep at hs
 simp only [KV.roles] at hs
 rw [List.pairwise_cons, List.pairwise_cons, List.pairwise_cons] at hs
 obtain ⟨hs1, hs2, hs3, hs4⟩ := hs
 have o1 : (19 : Int) ≠ v.globA := fun e => by
   have := hs1 (v.globA, globW v.glob) (by simp) e
   simp [KV.rootW] at this
 have o2 : v.clsA ≠ v.globA := fun e => by
   have := hs2 (v.globA, globW v.glob) (by simp) e
   have hm := hk.shape.many0
   simp only [KV.clsW, List.map_eq_nil_iff] at this
   rw [this] at hm; simp at hm
 have o3 : ∀ q ∈ (1, []) :: (18, []) :: croles v.cls 0, q.1 ≠ v.globA := fun q hq e => hne (hs3 q hq e.symm)
 refine ⟨p2, ⟨{ hk.wf with h := put_wf hk.wf.h _ _ _ }, put_gc hk.gc _ _ _, hk.op, hk.king, ?_, ?_, ?_⟩, ?_, hst⟩
 · refine View.of ?_ ?_ p1 ?_ ?_ ?_
   · exact (hk.view.root).keep pk o1
   · exact (hk.view.all).keep pk o2
   · exact (hk.view.nil).keep pk (o3 (1, []) (by simp))
   · exact (hk.view.empty).keep pk (o3 (18, []) (by simp))
   · intro p hp
     exact (hk.view p (by simp only [KV.setG] at hp; simp [KV.roles, hp])).keep pk (o3 p (by simp only [KV.setG] at hp; simp [hp]))
 · unfold Sep
   simp only [KV.roles, KV.setG]
   refine List.pairwise_cons.2 ⟨fun q hq he => ?_, List.pairwise_cons.2 ⟨fun q hq he => ?_, List.pairwise_cons.2 ⟨fun q hq he => ?_, hs4⟩⟩⟩
   · rcases List.mem_cons.1 hq with rfl | hq
     · exact hs1 (v.clsA, v.clsW) (by simp) he
     · rcases List.mem_cons.1 hq with rfl | hq
       · exact absurd he o1
       · exact hs1 q (by simp only [List.mem_cons]; exact .inr (.inr (by simpa using hq))) he
   · rcases List.mem_cons.1 hq with rfl | hq
     · exact absurd he o2
     · exact hs2 q (List.mem_cons_of_mem _ hq) he
   · exact absurd he.symm (o3 q hq)
 · exact { hk.shape with globs := by simp only [KV.setG, List.length_set]; exact hk.shape.globs }
 · refine { hn with glob := fun p hp => ?_ }
   simp only [KV.setG] at hp
   rcases List.mem_or_eq_of_mem_set hp with hp | rfl
   · exact hn.glob p hp
   · simp only [List.getD_eq_getElem?_getD, List.getElem?_eq_getElem hi, Option.getD_some]
     exact hn.glob _ (List.getElem_mem hi)
end Kw
namespace Kw
open Go
def oopW (w : Int) : Int := if kindW w = 3 then w / 4 else 0
def numW (w : Int) : Int := if kindW w = 1 then w / 2 else 0
def textW (t : TB) (w : Int) : ByteArray := if kindW w = 2 then tx t (w / 4).toNat else ⟨#[]⟩
def kslot (r : RH) (o i : Int) : Int := (r.at o i).1
def koop (r : RH) (o i : Int) : Int := oopW (kslot r o i)
def knum (r : RH) (o i : Int) : Int := numW (kslot r o i)
def ktext (r : RH) (t : TB) (o i : Int) : ByteArray := textW t (kslot r o i)
def ksize (r : RH) (o : Int) : Int := (r.size o).1
theorem oopW_obj {o : Int} (h0 : 1 ≤ o) (h1 : o ≤ 65536) : oopW (4 * o) = o := by
 unfold oopW
 have := kind_cases (4 * o)
 rw [if_pos (by omega)]; omega
theorem numW_int {n : Int} (h0 : -1073741824 ≤ n) (h1 : n ≤ 1073741823) : numW (2 * n + 1) = n := by
 unfold numW
 have := kind_cases (2 * n + 1)
 rw [if_pos (by omega)]; omega
theorem textW_sym {t : TB} (hw : WFT t) {n : Nat} (h : n < t.texts.length) : textW t (symW n) = tx t n := by
 unfold textW symW
 have h1 := hw.m1
 have h2 := hw.len
 have := kind_cases (4 * (n : Int) + 2)
 rw [if_pos (by omega)]
 congr 1; omega
theorem Arr.kslot {r : RH} {o : Int} {ws : List Int} (h : Arr r o ws) {i : Nat} (hi : i < ws.length) : kslot r o i = ws[i] := by
 unfold Kw.kslot
 rw [h.at (by omega) (by omega)]
 simp
theorem Arr.ksize {r : RH} {o : Int} {ws : List Int} (h : Arr r o ws) : ksize r o = ws.length := by unfold Kw.ksize; rw [h.size]
theorem size_nonneg {r : RH} (o : Int) : 0 ≤ ksize r o := by
 unfold ksize RH.size
 cases objAt r.objs o with
 | none => exact Int.le_refl 0
 | some x => exact Int.natCast_nonneg _
theorem size_le {r : RH} (hw : WFH r) (o : Int) : ksize r o ≤ 8192 := by
 unfold ksize RH.size
 cases ho : objAt r.objs o with
 | none => exact Int.le_of_lt (by decide)
 | some x => have := (hw.objs.good x (objAt_some ho).1).many; simp only; omega
def kwords (r : RH) (o : Int) : List Int := (List.range (ksize r o).toNat).map fun i : Nat => kslot r o i
theorem Arr.kwords {r : RH} {o : Int} {ws : List Int} (h : Arr r o ws) : kwords r o = ws := by
 unfold Kw.kwords
 rw [h.ksize, Int.toNat_natCast]
 apply List.ext_getElem (by simp)
 intro i h1 h2
 simp only [List.getElem_map, List.getElem_range]
 exact h.kslot h2
section
variable {s : SP} {v : KV} {t : TB}
theorem KS.root0 (h : KS s v) : koop s.h 19 0 = v.clsA := by
 have hb := h.view.all.bnd h.wf.h
 have hr := h.view.root
 unfold koop
 rw [show (0 : Int) = ((0 : Nat) : Int) from rfl, hr.kslot (by simp [KV.rootW])]
 exact oopW_obj hb.1 hb.2.1
theorem KS.root1 (h : KS s v) : koop s.h 19 1 = v.globA := by
 have hb := h.view.globs.bnd h.wf.h
 have hr := h.view.root
 unfold koop
 rw [show (1 : Int) = ((1 : Nat) : Int) from rfl, hr.kslot (by simp [KV.rootW])]
 exact oopW_obj hb.1 hb.2.1
theorem KS.size0 (h : KS s v) : ksize s.h v.clsA = v.cls.length := by rw [h.view.all.ksize]; simp [KV.clsW]
theorem KS.size1 (h : KS s v) : ksize s.h v.globA = 2 * v.glob.length := by rw [h.view.globs.ksize, globW_len]; simp
theorem KS.clsAt (h : KS s v) {i : Nat} (hi : i < v.cls.length) : kslot s.h v.clsA i = 4 * (v.cls[i]).oop ∧ koop s.h v.clsA i = (v.cls[i]).oop := by
 have hb := (h.view.cls hi).bnd h.wf.h
 have e : kslot s.h v.clsA i = 4 * (v.cls[i]).oop := by rw [h.view.all.kslot (by simpa [KV.clsW] using hi)]; simp [KV.clsW]
 exact ⟨e, by unfold koop; rw [e]; exact oopW_obj hb.1 hb.2.1⟩
theorem KS.globAt (h : KS s v) {i : Nat} (hi : i < v.glob.length) : kslot s.h v.globA (2 * i : Nat) = symW v.glob[i].1 ∧ kslot s.h v.globA (2 * i + 1 : Nat) = v.glob[i].2 := by
 have hg := globW_get hi
 have hl := globW_len v.glob
 refine ⟨?_, ?_⟩
 · rw [h.view.globs.kslot (by omega)]
   have := hg.1
   rw [List.getElem?_eq_getElem (by omega)] at this
   simpa using this
 · rw [h.view.globs.kslot (by omega)]
   have := hg.2
   rw [List.getElem?_eq_getElem (by omega)] at this
   simpa using this
theorem KS.c0 (h : KS s v) {i : Nat} (hi : i < v.cls.length) : kslot s.h (v.cls[i]).oop 0 = symW (v.cls[i]).name := (h.view.cls hi).kslot (i := 0) (by simp [CV.slots])
theorem KS.c1 (h : KS s v) {i : Nat} (hi : i < v.cls.length) : kslot s.h (v.cls[i]).oop 1 = 4 * (v.cls[i]).up := (h.view.cls hi).kslot (i := 1) (by simp [CV.slots])
theorem KS.c2 (h : KS s v) {i : Nat} (hi : i < v.cls.length) : kslot s.h (v.cls[i]).oop 2 = 4 * (v.cls[i]).ownA := (h.view.cls hi).kslot (i := 2) (by simp [CV.slots])
theorem KS.c5 (h : KS s v) {i : Nat} (hi : i < v.cls.length) : kslot s.h (v.cls[i]).oop 5 = 2 * (v.cls[i]).lay + 1 := (h.view.cls hi).kslot (i := 5) (by simp [CV.slots])
theorem KS.c6 (h : KS s v) {i : Nat} (hi : i < v.cls.length) : kslot s.h (v.cls[i]).oop 6 = 2 * ((i : Int) + 1) + 1 := (h.view.cls hi).kslot (i := 6) (by simp [CV.slots])
theorem KS.upB (h : KS s v) {i : Nat} (hi : i < v.cls.length) : 1 ≤ (v.cls[i]).up ∧ (v.cls[i]).up ≤ 65536 := by
 by_cases h0 : i = 0
 · subst h0; rw [(h.shape.up0 hi).1]; decide
 · obtain ⟨j, hj, _, e⟩ := h.shape.ups i hi (by omega)
   rw [← e]
   have := (h.view.cls hj).bnd h.wf.h
   exact ⟨this.1, this.2.1⟩
theorem KS.up (h : KS s v) {i : Nat} (hi : i < v.cls.length) : koop s.h (v.cls[i]).oop 1 = (v.cls[i]).up := by
 unfold koop; rw [h.c1 hi]; exact oopW_obj (h.upB hi).1 (h.upB hi).2
theorem KS.up1 (h : KS s v) {i : Nat} (hi : i < v.cls.length) : (v.cls[i]).up = 1 ↔ i = 0 := by
 constructor
 · intro e
   by_cases h0 : i = 0
   · exact h0
   · obtain ⟨j, hj, _, e'⟩ := h.shape.ups i hi (by omega)
     exact absurd (e'.trans e) (h.view.ne1 hj)
 · rintro rfl; exact (h.shape.up0 hi).1
theorem KS.ownO (h : KS s v) {i : Nat} (hi : i < v.cls.length) : koop s.h (v.cls[i]).oop 2 = (v.cls[i]).ownA := by
 have hb := (h.view.own hi).bnd h.wf.h
 unfold koop; rw [h.c2 hi]; exact oopW_obj hb.1 hb.2.1
theorem KS.layN (h : KS s v) {i : Nat} (hi : i < v.cls.length) : knum s.h (v.cls[i]).oop 5 = (v.cls[i]).lay := by
 have hb := h.shape.lay _ (List.getElem_mem hi)
 unfold knum; rw [h.c5 hi]; exact numW_int (by omega) (by omega)
theorem KS.num (h : KS s v) {i : Nat} (hi : i < v.cls.length) : knum s.h (v.cls[i]).oop 6 = (i : Int) + 1 := by
 have := h.shape.many1
 unfold knum; rw [h.c6 hi]; exact numW_int (by omega) (by omega)
theorem KAll.name (h : KAll s t v) {i : Nat} (hi : i < v.cls.length) : ktext s.h t (v.cls[i]).oop 0 = tx t (v.cls[i]).name := by
 unfold ktext; rw [h.ks.c0 hi]; exact textW_sym h.names.wf (h.names.name _ (List.getElem_mem hi))
theorem KAll.gname (h : KAll s t v) {i : Nat} (hi : i < v.glob.length) : ktext s.h t v.globA (2 * i : Nat) = tx t v.glob[i].1 := by
 unfold ktext; rw [(h.ks.globAt hi).1]; exact textW_sym h.names.wf (h.names.glob _ (List.getElem_mem hi))
theorem KAll.ownT (h : KAll s t v) {i : Nat} (hi : i < v.cls.length) {j : Nat} (hj : j < (v.cls[i]).own.length) : ktext s.h t (v.cls[i]).ownA j = tx t (v.cls[i]).own[j] := by
 unfold ktext
 rw [(h.ks.view.own hi).kslot (i := j) (by simpa using hj)]
 simp only [List.getElem_map]
 exact textW_sym h.names.wf (h.names.own _ (List.getElem_mem hi) _ (List.getElem_mem hj))
theorem KS.ownL (h : KS s v) {i : Nat} (hi : i < v.cls.length) : ksize s.h (v.cls[i]).ownA = (v.cls[i]).own.length := by rw [(h.view.own hi).ksize]; simp
end
def plK (v : KV) (o : Int) : Option Nat := v.cls.findIdx? fun c => decide (c.oop = o)
theorem plK_some {v : KV} {o : Int} {i : Nat} (h : plK v o = some i) : ∃ hi : i < v.cls.length, (v.cls[i]).oop = o := by
 unfold plK at h
 rw [List.findIdx?_eq_some_iff_getElem] at h
 obtain ⟨hi, h1, _⟩ := h
 exact ⟨hi, by simpa using h1⟩
theorem plK_none {v : KV} {o : Int} (h : plK v o = none) : ∀ i (hi : i < v.cls.length), (v.cls[i]).oop ≠ o := by
 unfold plK at h
 rw [List.findIdx?_eq_none_iff] at h
 intro i hi
 simpa using h _ (List.getElem_mem hi)
theorem KS.idx {s : SP} {v : KV} (h : KS s v) {i : Nat} (hi : i < v.cls.length) : plK v (v.cls[i]).oop = some i := by
 cases hx : plK v (v.cls[i]).oop with
 | none => exact absurd rfl (plK_none hx i hi)
 | some j =>
   obtain ⟨hj, e⟩ := plK_some hx
   rw [h.view.inj hj hi e]
def findK (v : KV) (t : TB) (name : ByteArray) : Int × Int := match v.cls.findIdx? (fun c => decide (tx t c.name = name)) with
 | some i => ((v.cls.getD i ⟨0, 0, 0, [], 0, 0, 0, [], [], 0⟩).oop, 0)
 | none => (0, 130)
def numberedK (v : KV) (n : Int) : Int × Int := if h : 1 ≤ n ∧ n ≤ v.cls.length then ((v.cls[(n - 1).toNat]'(by omega)).oop, 0) else (0, 130)
def superK (v : KV) (i : Nat) : Int := match v.cls[i]? with
 | some c => if c.up = 1 then 0 else c.up
 | none => 0
def upIdx (v : KV) (i : Nat) : Option Nat := plK v (superK v i)
def fieldsK (v : KV) (i : Nat) : List Nat := match v.cls[i]? with
 | none => []
 | some c => match upIdx v i with
   | some j => if j < i then fieldsK v j ++ c.own else c.own
   | none => c.own
termination_by i
theorem KS.upI {s : SP} {v : KV} (h : KS s v) {i : Nat} (hi : i < v.cls.length) : (i = 0 ∧ superK v i = 0 ∧ upIdx v i = none) ∨ (∃ j, ∃ hj : j < v.cls.length, j < i ∧ superK v i = (v.cls[j]).oop ∧ (v.cls[i]).up = (v.cls[j]).oop ∧ upIdx v i = some j) := by
 have e : superK v i = if (v.cls[i]).up = 1 then 0 else (v.cls[i]).up := by unfold superK; rw [List.getElem?_eq_getElem hi]
 by_cases h0 : i = 0
 · left
   have hu : (v.cls[i]).up = 1 := (h.up1 hi).2 h0
   rw [if_pos hu] at e
   refine ⟨h0, e, ?_⟩
   unfold Kw.upIdx
   rw [e]
   cases hx : plK v 0 with
   | none => rfl
   | some j =>
     obtain ⟨hj, e'⟩ := plK_some hx
     have := ((h.view.cls hj).bnd h.wf.h).1
     omega
 · right
   obtain ⟨j, hj, hlt, e'⟩ := h.shape.ups i hi (by omega)
   have hu : (v.cls[i]).up ≠ 1 := fun hx => h0 ((h.up1 hi).1 hx)
   rw [if_neg hu] at e
   refine ⟨j, hj, hlt, by rw [e, e'], e'.symm, ?_⟩
   unfold Kw.upIdx
   rw [e, ← e']
   exact h.idx hj
theorem KS.fields0 {s : SP} {v : KV} (h : KS s v) (h0 : 0 < v.cls.length) : fieldsK v 0 = (v.cls[0]).own := by
 rw [fieldsK, List.getElem?_eq_getElem h0]
 rcases h.upI h0 with ⟨_, _, e⟩ | ⟨j, _, hlt, _⟩
 · simp only [e]
 · omega
theorem KS.fieldsS {s : SP} {v : KV} (h : KS s v) {i j : Nat} (hi : i < v.cls.length) (hj : j < i) (e : Kw.upIdx v i = some j) : fieldsK v i = fieldsK v j ++ (v.cls[i]).own := by
 rw [fieldsK, List.getElem?_eq_getElem hi]
 simp only [e, if_pos hj]
inductive Und (v : KV) (o : Int) : Int → Prop
 | self : Und v o o
 | up {i : Nat} (hi : i < v.cls.length) (hu : (v.cls[i]).up ≠ 1) (h : Und v o (v.cls[i]).up) : Und v o (v.cls[i]).oop
theorem und_iff {s : SP} {v : KV} (h : KS s v) {o : Int} {i : Nat} (hi : i < v.cls.length) : Und v o (v.cls[i]).oop ↔ (v.cls[i]).oop = o ∨ (superK v i ≠ 0 ∧ Und v o (superK v i)) := by
 have e : superK v i = if (v.cls[i]).up = 1 then 0 else (v.cls[i]).up := by unfold superK; rw [List.getElem?_eq_getElem hi]
 constructor
 · intro hu
   generalize hx : (v.cls[i]).oop = x at hu
   cases hu with
   | self => exact .inl rfl
   | @up j hj h1 h2 =>
     right
     have : i = j := h.view.inj hi hj hx
     subst this
     rw [if_neg h1] at e
     rw [e]
     exact ⟨by have := (h.upB hi).1; omega, h2⟩
 · rintro (he | ⟨h1, h2⟩)
   · rw [he]; exact .self
   · have hu : (v.cls[i]).up ≠ 1 := fun hx => h1 (by rw [e, if_pos hx])
     rw [e, if_neg hu] at h2
     exact .up hi hu h2
noncomputable instance undDec (v : KV) (o x : Int) : Decidable (Und v o x) := Classical.propDecidable _
noncomputable def underK (v : KV) (o : Int) : List Int := ((List.range v.cls.length).filter fun i => decide (Und v o (v.cls.getD i ⟨0, 0, 0, [], 0, 0, 0, [], [], 0⟩).oop)).map fun i : Nat => (i : Int) + 1
structure CI where
 name : ByteArray
 sup : ByteArray
 own : List ByteArray
 lay : Int
def infoK (v : KV) (t : TB) (i : Nat) : CI := match v.cls[i]? with
 | some c => ⟨tx t c.name, match upIdx v i with
   | some j => match v.cls[j]? with
     | some d => tx t d.name
     | none => ⟨#[]⟩
   | none => ⟨#[]⟩, c.own.map (tx t), c.lay⟩
 | none => ⟨⟨#[]⟩, ⟨#[]⟩, [], 0⟩
def globsK (v : KV) (t : TB) : List ByteArray := v.glob.map fun p => tx t p.1
def valueK (v : KV) (i : Int) : Int × Int := if h : 0 ≤ i ∧ i < v.glob.length then ((v.glob[i.toNat]'(by omega)).2, 0) else (0, 1)
end Kw
namespace Kw
open Go
def setValueK (s : SP) (v : KV) (n w : Int) : Int × SP := if n < 0 ∨ (v.glob.length : Int) ≤ n then (1, s) else if ¬ isW w then (10, s) else ((s.h.put v.globA (2 * n + 1) w).1, { s with h := (s.h.put v.globA (2 * n + 1) w).2 })
def ofK (r : RH) (w : Int) : Int × Int :=
 if kindW w = 1 then (8, 0) else if kindW w = 2 then (9, 0) else if kindW w = 3 then
   match r.clsAt (w / 4) with
   | (c, e) => if e = 0 then (oopW c, 0) else (0, e)
 else (0, 10)
theorem fields_len {s : SP} {v : KV} (h : KS s v) : ∀ i : Nat, i < v.cls.length → (fieldsK v i).length ≤ 8192 * (i + 1) := by
 intro i
 induction i using Nat.strongRecOn with
 | ind i ih =>
   intro hi
   have hb : (v.cls[i]).own.length ≤ 8192 := by have := ((h.view.own hi).bnd h.wf.h).2.2.1; simpa using this
   rcases h.upI hi with ⟨h0, _, _⟩ | ⟨j, hj, hlt, _, _, e⟩
   · subst h0; rw [h.fields0 hi]; omega
   · rw [h.fieldsS hi hlt e, List.length_append]
     have := ih j hlt hj
     omega
end Kw
namespace Go.Proofs.YtmkdkplipbocjaaGreatDoor
open Kw
theorem locB {H : Heap} {x v : Value} {t : TypeId} {fr : Nat × Nat} : setH (H.push (.cells #[x] t fr)) ⟨H.size, 0, none⟩ v = H.push (.cells #[v] t fr) := by
 rw [setH_push]; rfl
theorem Fr.late {H H2 : Heap} (h : Fr [] H H2) {b o : Nat} {v : Value} (hb : H.size ≤ b) : Fr [] H (setH H2 ⟨b, o, none⟩ v) :=
 ⟨Nat.le_trans h.1 (Fr.set (F := [b]) (H := H2) (a := ⟨b, o, none⟩) (v := v) (by simp)).1, fun c hc _ => by rw [setH_ne (by simp only; omega)]; exact h.2 c hc (by simp)⟩
def PK (H : Heap) (b : Nat) (F : Foot) (s : SP) (t : TB) : Prop := ∃ sb tb F1 F2, F = b :: (F1 ++ F2) ∧ b ∉ F1 ∧ b ∉ F2 ∧ Disj F1 F2 ∧ b ≠ g_word_kinds ∧ g_word_kinds ∉ F2 ∧
 Blk H b #[.pointer (some ⟨sb, 0, none⟩), .pointer (some ⟨tb, 0, none⟩)] ∧ PSp H sb F1 s ∧ PTb H tb F2 t
theorem PK.lt {H : Heap} {b : Nat} {F : Foot} {s : SP} {t : TB} (h : PK H b F s t) : ∀ x ∈ F, x < H.size := by
 obtain ⟨sb, tb, F1, F2, rfl, h1, h2, h3, k1, k2, hB, hS, hT⟩ := h
 intro x hx
 rcases List.mem_cons.1 hx with rfl | hx
 · exact hB.lt
 · rcases List.mem_append.1 hx with hx | hx
   · exact hS.lt x hx
   · exact hT.lt x hx
theorem PK.bmem {H : Heap} {b : Nat} {F : Foot} {s : SP} {t : TB} (h : PK H b F s t) : b ∈ F := by obtain ⟨_, _, _, _, rfl, _⟩ := h; simp
theorem PK.kinds {H : Heap} {b : Nat} {F : Foot} {s : SP} {t : TB} (h : PK H b F s t) : Kinds H := by obtain ⟨_, _, _, _, _, _, _, _, _, _, _, hS, _⟩ := h; exact hS.kinds
theorem PK.fr {H H' : Heap} {b : Nat} {F G : Foot} {s : SP} {t : TB} (h : PK H b F s t) (hf : Fr G H H') (hd : Disj F G) (hg : g_word_kinds ∉ G) : PK H' b F s t := by
 obtain ⟨sb, tb, F1, F2, rfl, h1, h2, h3, k1, k2, hB, hS, hT⟩ := h
 exact ⟨sb, tb, F1, F2, rfl, h1, h2, h3, k1, k2, hB.fr hf (hd b (by simp)), hS.fr hf (hd.mono (fun x hx => by simp [hx]) fun _ h => h) hg, hT.fr hf (hd.mono (fun x hx => by simp [hx]) fun _ h => h)⟩
theorem PK.nil {H H' : Heap} {b : Nat} {F : Foot} {s : SP} {t : TB} (h : PK H b F s t) (hf : Fr [] H H') : PK H' b F s t := h.fr hf (Disj.nil_right _) (by simp)
theorem PK.wfs {H : Heap} {b : Nat} {F : Foot} {s : SP} {t : TB} (h : PK H b F s t) : WFS s := by obtain ⟨_, _, _, _, _, _, _, _, _, _, _, hS, _⟩ := h; exact hS.wf
theorem PK.wft {H : Heap} {b : Nat} {F : Foot} {s : SP} {t : TB} (h : PK H b F s t) : WFT t := by obtain ⟨_, _, _, _, _, _, _, _, _, _, _, _, hT⟩ := h; exact hT.wf
theorem PK.sp {H : Heap} {b : Nat} {F : Foot} {s : SP} {t : TB} (h : PK H b F s t) : ∃ sb F1, cellH H ⟨b, 0, none⟩ = some (.pointer (some ⟨sb, 0, none⟩)) ∧ PSp H sb F1 s ∧ (∀ x ∈ F1, x ∈ F) ∧ b ∉ F1 ∧
   (∀ H' F1' s', PSp H' sb F1' s' → Up F1 H F1' H' → ∃ F', PK H' b F' s' t ∧ Up F H F' H') ∧ (∀ H' s', PSp H' sb F1 s' → Fr F1 H H' → PK H' b F s' t) := by
 have hlt := h.lt
 have hgl := h.kinds.lt
 obtain ⟨sb, tb, F1, F2, rfl, h1, h2, h3, k1, k2, hB, hS, hT⟩ := h
 refine ⟨sb, F1, hB.cell 0, hS, fun x hx => by simp [hx], h1, fun H' F1' s' hS' hu => ⟨b :: (F1' ++ F2), ⟨sb, tb, F1', F2, rfl, fun hx => ?_, h2, fun x hx hx2 => ?_, k1, k2, hB.fr hu.1 h1, hS', hT.fr hu.1 h3.symm⟩, hu.1.mono fun x hx => by simp [hx], fun x hx => ?_⟩, fun H' s' hS' hf => ⟨sb, tb, F1, F2, rfl, h1, h2, h3, k1, k2, hB.fr hf h1, hS', hT.fr hf h3.symm⟩⟩
 · rcases hu.2 b hx with h4 | h4
   · exact h1 h4
   · have := hlt b (by simp); omega
 · rcases hu.2 x hx with h4 | h4
   · exact h3 x h4 hx2
   · have := hlt x (by simp [hx2]); omega
 · rcases List.mem_cons.1 hx with rfl | hx
   · exact .inl (by simp)
   · rcases List.mem_append.1 hx with hx | hx
     · exact (hu.2 x hx).imp (fun h4 => by simp [h4]) id
     · exact .inl (by simp [hx])
theorem PK.tb {H : Heap} {b : Nat} {F : Foot} {s : SP} {t : TB} (h : PK H b F s t) : ∃ tb F2, cellH H ⟨b, 1, none⟩ = some (.pointer (some ⟨tb, 0, none⟩)) ∧ PTb H tb F2 t ∧ (∀ x ∈ F2, x ∈ F) ∧ b ∉ F2 ∧
   (∀ H' F2' t', PTb H' tb F2' t' → Up F2 H F2' H' → ∃ F', PK H' b F' s t' ∧ Up F H F' H') ∧ (∀ H' t', PTb H' tb F2 t' → Fr F2 H H' → PK H' b F s t') := by
 have hlt := h.lt
 have hgl := h.kinds.lt
 obtain ⟨sb, tb, F1, F2, rfl, h1, h2, h3, k1, k2, hB, hS, hT⟩ := h
 have hgS := hS.gk
 refine ⟨tb, F2, hB.cell 1, hT, fun x hx => by simp [hx], h2, fun H' F2' t' hT' hu => ⟨b :: (F1 ++ F2'), ⟨sb, tb, F1, F2', rfl, h1, fun hx => ?_, fun x hx hx2 => ?_, k1, fun hx => ?_, hB.fr hu.1 h2, hS.fr hu.1 h3 k2, hT'⟩, hu.1.mono fun x hx => by simp [hx], fun x hx => ?_⟩, fun H' t' hT' hf => ⟨sb, tb, F1, F2, rfl, h1, h2, h3, k1, k2, hB.fr hf h2, hS.fr hf h3 k2, hT'⟩⟩
 · rcases hu.2 b hx with h4 | h4
   · exact h2 h4
   · have := hlt b (by simp); omega
 · rcases hu.2 x hx2 with h4 | h4
   · exact h3 x hx h4
   · have := hlt x (by simp [hx]); omega
 · rcases hu.2 _ hx with h4 | h4
   · exact k2 h4
   · omega
 · rcases List.mem_cons.1 hx with rfl | hx
   · exact .inl (by simp)
   · rcases List.mem_append.1 hx with hx | hx
     · exact .inl (by simp [hx])
     · exact (hu.2 x hx).imp (fun h4 => by simp [h4]) id
abbrev rd (b : Nat) : Value := .agg #[.pointer (some ⟨b, 0, none⟩)]
section
variable {H : Heap} {b : Nat} {F : Foot} {s : SP} {t : TB} {Q : QT}
theorem there_c (hK : PK H b F s t) (h : Q (.bool true) H) : callS PP n_k73 #[.pointer (some ⟨b, 0, none⟩)] Q H := by
 obtain ⟨sb, F1, hc, _⟩ := hK.sp
 apply k73_ok
 unfold k73
 exact ⟨_, rfl, _, hc, h⟩
theorem there_nil (h : Q (.bool false) H) : callS PP n_k73 #[.pointer none] Q H := by
 apply k73_ok
 unfold k73
 exact h
theorem slot_k (hK : PK H b F s t) {o i : Int} (h : ∀ H', Fr [] H H' → Q (.int .i64 (kslot s.h o i)) H') : callS PP n_k181 #[rd b, .int .i64 o, .int .i64 i] Q H := by
 apply k181_ok
 unfold k181 A0 iV
 have hf : Fr [] H (H.push (.cells #[.pointer (some ⟨b, 0, none⟩)] 131)) := Fr.push _ _ _
 obtain ⟨sb, F1, hc, hS, _⟩ := (hK.nil hf).sp
 refine ⟨_, (Blk.new _ _ _).cell 0, _, rfl, _, hc, psHeap_c hS fun hb F2 hR _ _ => ⟨_, rfl, hat_c hR ⟨_, _, rfl, h _ hf⟩⟩⟩
theorem oop_k (hK : PK H b F s t) {o i : Int} (h : ∀ H', Fr [] H H' → Q (.int .i64 (koop s.h o i)) H') : callS PP n_k76 #[rd b, .int .i64 o, .int .i64 i] Q H := by
 apply k76_ok
 unfold k76 A0 iV
 have hf : Fr [] H (H.push (.cells #[.pointer (some ⟨b, 0, none⟩)] 131)) := Fr.push _ _ _
 have hK1 := hK.nil hf
 refine ⟨_, (Blk.new _ _ _).cell 0, slot_k hK1 fun H' hf' => ⟨_, rfl, oop_c (hK1.nil hf').kinds ?_⟩⟩
 have := h H' (hf.trans hf')
 unfold koop oopW at this
 unfold ofW
 split
 · rename_i hk; rw [if_pos hk] at this; exact ⟨_, _, rfl, this⟩
 · rename_i hk; rw [if_neg hk] at this; exact ⟨_, _, rfl, this⟩
theorem num_k (hK : PK H b F s t) {o i : Int} (h : ∀ H', Fr [] H H' → Q (.int .i64 (knum s.h o i)) H') : callS PP n_k179 #[rd b, .int .i64 o, .int .i64 i] Q H := by
 apply k179_ok
 unfold k179 A0 iV
 have hf : Fr [] H (H.push (.cells #[.pointer (some ⟨b, 0, none⟩)] 131)) := Fr.push _ _ _
 have hK1 := hK.nil hf
 refine ⟨_, (Blk.new _ _ _).cell 0, slot_k hK1 fun H' hf' => ⟨_, rfl, num_c (hK1.nil hf').kinds ?_⟩⟩
 have := h H' (hf.trans hf')
 unfold knum numW at this
 unfold ofW
 split
 · rename_i hk; rw [if_pos hk] at this; exact ⟨_, _, rfl, this⟩
 · rename_i hk; rw [if_neg hk] at this; exact ⟨_, _, rfl, this⟩
theorem text_k (hK : PK H b F s t) {o i : Int} (h : ∀ H', Fr [] H H' → Q (.string (ktext s.h t o i)) H') : callS PP n_k176 #[rd b, .int .i64 o, .int .i64 i] Q H := by
 apply k176_ok
 unfold k176 A0 iV
 have hf : Fr [] H (H.push (.cells #[.pointer (some ⟨b, 0, none⟩)] 131)) := Fr.push _ _ _
 have hK1 := hK.nil hf
 refine ⟨_, (Blk.new _ _ _).cell 0, slot_k hK1 fun H' hf' => ⟨_, rfl, symOf_c (hK1.nil hf').kinds ?_⟩⟩
 have hB' := (Blk.new H #[.pointer (some ⟨b, 0, none⟩)] 131).fr hf' (by simp)
 have := h H' (hf.trans hf')
 unfold ktext textW at this
 unfold ofW
 split
 · rename_i hk
   rw [if_pos hk] at this
   refine ⟨_, _, rfl, ?_⟩
   simp only [show ((0 : Int) != 0) = false from rfl, cond_false]
   obtain ⟨tb, F2, hc, hT, _⟩ := (hK1.nil hf').tb
   refine ⟨_, hB'.cell 0, _, rfl, _, hc, ptText_c hT ?_⟩
   unfold textV
   by_cases hlt : 0 ≤ kslot s.h o i / 4 ∧ kslot s.h o i / 4 < t.texts.length
   · rw [dif_pos hlt]
     refine ⟨_, _, rfl, ?_⟩
     have e : t.texts[(kslot s.h o i / 4).toNat]'(by omega) = tx t (kslot s.h o i / 4).toNat := by
       unfold tx
       rw [List.getD_eq_getElem?_getD, List.getElem?_eq_getElem (by omega)]; rfl
     rw [e]; exact this
   · rw [dif_neg hlt]
     refine ⟨_, _, rfl, ?_⟩
     have hk' := kind_cases (kslot s.h o i)
     have e : tx t (kslot s.h o i / 4).toNat = ⟨#[]⟩ := by
       unfold tx
       rw [List.getD_eq_getElem?_getD, List.getElem?_eq_none (by omega)]; rfl
     rw [e] at this; exact this
 · rename_i hk
   rw [if_neg hk] at this
   exact ⟨_, _, rfl, this⟩
theorem size_k (hK : PK H b F s t) {o : Int} (h : ∀ H', Fr [] H H' → Q (.int .i64 (ksize s.h o)) H') : callS PP n_k75 #[rd b, .int .i64 o] Q H := by
 apply k75_ok
 unfold k75 A0 iV
 have hf : Fr [] H (H.push (.cells #[.pointer (some ⟨b, 0, none⟩)] 131)) := Fr.push _ _ _
 obtain ⟨sb, F1, hc, hS, _⟩ := (hK.nil hf).sp
 refine ⟨_, (Blk.new _ _ _).cell 0, _, rfl, _, hc, psHeap_c hS fun hb F2 hR _ _ => ⟨_, rfl, hsize_c hR ⟨_, _, _, rfl, h _ hf⟩⟩⟩
theorem root_k (hK : PK H b F s t) {i : Int} (h : ∀ H', Fr [] H H' → Q (.int .i64 (koop s.h 19 i)) H') : callS PP n_k74 #[rd b, .int .i64 i] Q H := by
 apply k74_ok
 unfold k74 A0 iV
 have hf : Fr [] H (H.push (.cells #[.pointer (some ⟨b, 0, none⟩)] 131)) := Fr.push _ _ _
 exact ⟨_, (Blk.new _ _ _).cell 0, oop_k (hK.nil hf) fun H' hf' => ⟨_, rfl, h _ (hf.trans hf')⟩⟩
theorem super_k (hK : PK H b F s t) {o : Int} (h : ∀ H', Fr [] H H' → Q (.int .i64 (if koop s.h o 1 = 1 then 0 else koop s.h o 1)) H') : callS PP n_k180 #[rd b, .int .i64 o] Q H := by
 apply k180_ok
 unfold k180 A0 iV
 have hf : Fr [] H (H.push (.cells #[.pointer (some ⟨b, 0, none⟩)] 131)) := Fr.push _ _ _
 refine ⟨_, (Blk.new _ _ _).cell 0, oop_k (hK.nil hf) fun H' hf' => ⟨_, rfl, ?_⟩⟩
 have := h _ (hf.trans hf')
 rw [bneI, cond_dec]
 refine ite_i (fun h1 => ?_) fun h1 => ?_
 · rw [if_neg h1] at this; exact this
 · rw [if_pos (Classical.byContradiction h1)] at this; exact this
def ktexts (r : RH) (t : TB) (o : Int) : List ByteArray := (List.range (ksize r o).toNat).map fun i : Nat => ktext r t o i
theorem texts_k (hK : PK H b F s t) {o : Int} (h : ∀ a l c G H', Own 1 H' a l c (strsV (ktexts s.h t o)) G → Fr [] H H' → (∀ x ∈ G, H.size ≤ x) → Q (.slice a l c) H') : callS PP n_k178 #[rd b, .int .i64 o] Q H := by
 have hs1 : sliceInfo PP 37 = some (1, 16, some (.string (⟨#[]⟩ : ByteArray))) := by kernel_rfl
 have hn0 := size_nonneg (r := s.h) o
 have hn1 := size_le hK.wfs.h o
 apply k178_ok
 unfold k178 A0 iV wW
 have hf : Fr [] H (H.push (.cells #[.pointer (some ⟨b, 0, none⟩)] 131)) := Fr.push _ _ _
 refine ⟨_, (Blk.new _ _ _).cell 0, size_k (hK.nil hf) fun H0 hf0 => ⟨_, rfl, ?_⟩⟩
 have hB0 := (Blk.new H #[.pointer (some ⟨b, 0, none⟩)] 131).fr hf0 (by simp)
 refine ⟨fun w H' => ∃ (i : Nat) (a : Option Addr) (l' c : Nat) (G : Foot), w = [.slice a l' c, .int .i64 i] ∧ (i : Int) ≤ ksize s.h o ∧ Own 1 H' a l' c (strsV ((ktexts s.h t o).take i)) G ∧ Fr [] H0 H' ∧ (∀ x ∈ G, H0.size ≤ x), fun w _ => match w with
   | [_, .int _ i] => (ksize s.h o - i).toNat
   | _ => 0, ⟨0, none, 0, 0, [], rfl, hn0, by simpa [strsV] using Own.nil 1 H0, Fr.refl _ _, by simp⟩, ?_⟩
 rintro w H1 ⟨i, a1, l1, c1, G, rfl, hi, ho, hf1, hG⟩ _
 have hlen : (ktexts s.h t o).length = (ksize s.h o).toNat := by simp [ktexts]
 have hl1 : l1 = i := by have := ho.len; simp only [strsV, List.length_map, List.length_take] at this; omega
 have hF1 : Fr [] H H1 := (hf.trans hf0).trans hf1
 refine ⟨_, _, _, _, rfl, ?_⟩
 rw [cond_dec]
 refine ite_i (fun hlt => ?_) fun hlt => ?_
 · have htk : (ktexts s.h t o).take (i + 1) = (ktexts s.h t o).take i ++ [ktext s.h t o i] := by
     rw [List.take_add_one, List.getElem?_eq_getElem (by omega)]; simp [ktexts]
   have e : IntKind.wrap .i64 ((i : Int) + 1) = ((i + 1 : Nat) : Int) := by rw [wrap64_id (by omega) (by omega)]; omega
   refine ⟨_, (hB0.fr hf1 (by simp)).cell 0, text_k (hK.nil hF1) fun H2 hf2 => ⟨_, rfl, ?_⟩⟩
   refine evS_append1 hs1 rfl (by kernel_rfl) (ho.fr hf2 (by simp)) rfl (by simp [oneC]) (by omega) (by decide) (by decide) fun a' c' G2 H3 g1 g2 g3 => ⟨_, _, _, rfl, ?_⟩
   have hfr := Up.fresh (hf1.trans hf2) g2 hG
   rw [e]
   refine ⟨⟨i + 1, a', l1 + 1, c', G2, rfl, by omega, ?_, hfr.1, hfr.2⟩, by simp; omega⟩
   rw [htk, strsV_append]; exact g1
 · rw [List.take_of_length_le (by omega)] at ho
   exact h _ _ _ _ H1 ho hF1 fun x hx => Nat.le_trans (hf.trans hf0).1 (hG x hx)
end
variable {Q : QT} {H : Heap}
abbrev n_k11 : Nat := 11
def k11 (n1 : Int) (n2 : Int) (Q : QT) (H : Heap) : Prop :=
 callS PP 55 #[iV n1, iV n2] (fun v3 H1 => ∃ p4 n5, v3 = .tuple #[.pointer p4, iV n5] ∧ cond (n5 != 0) (Q (.tuple #[.pointer none, iV n5]) H1) (callS PP 56 #[iV 4096] (fun v6 H2 => ∃ p7 n8, v6 = .tuple #[.pointer p7, iV n8] ∧ ∃ (I9 : IT) (μ9 : MT), I9 [iV 1] (H2.push (.cells #[.pointer p4, .pointer p7] 104)) ∧ ∀ w10 H3, I9 w10 H3 → ∀ _g : Nat → Value, ∃ n11, w10 = [iV n11] ∧ cond (decide (n11 ≤ 20)) (callS PP 57 #[iV n11] (fun v12 H4 => ∃ n13 n14, v12 = .tuple #[iV n13, iV n14] ∧ ∃ q15, p4 = some q15 ∧ ∃ p16, cellH H4 q15 = some (.pointer p16) ∧ callS PP 59 #[iV n13] (fun v17 H5 => ∃ n18, v17 = iV n18 ∧ ((cellH H5 q15 = some (.pointer p16) ∧ True) ∧ True) ∧ callS PP 58 #[.pointer p16, iV n18, iV n14, iV 0] (fun v19 H6 => ∃ n20 n21, v19 = .tuple #[iV n20, iV n21] ∧ True ∧ cond (n21 != 0) (Q (.tuple #[.pointer none, iV n21]) H6) (I9 [iV (wW (n11 + 1))] H6 ∧ μ9 [iV (wW (n11 + 1))] H6 < μ9 w10 H3)) H5) H4) H3) (∃ (I22 : IT) (μ22 : MT), I22 [iV 0] H3 ∧ ∀ w23 H7, I22 w23 H7 → ∀ _g : Nat → Value, ∃ n24, w23 = [iV n24] ∧ cond (decide (n24 < 14)) (((0 : Int) ≤ n24 ∧ n24 < (14 : Int)) ∧ ∃ s25, cellH H7 ((A0 0).add (Int.toNat n24 * 1)) = some (.string s25) ∧ callS PP 60 #[.pointer p7, .string s25] (fun v26 H8 => ∃ n27 n28, v26 = .tuple #[iV n27, iV n28] ∧ callS PP 59 #[iV 4] (fun v29 H9 => ∃ n30, v29 = iV n30 ∧ ∃ J31 : IT, (cond (n24 == 0) (callS PP 59 #[iV 1] (fun v32 H10 => ∃ n33, v32 = iV n33 ∧ J31 [iV n33] H10) H9) (J31 [iV n30] H9)) ∧ ∀ w34 H11, J31 w34 H11 → ∀ _g : Nat → Value, ∃ n35, w34 = [iV n35] ∧ callS PP 62 #[iV n24] (fun v36 H12 => ∃ n37, v36 = iV n37 ∧ callS PP 59 #[iV 18] (fun v38 H13 => ∃ n39, v38 = iV n39 ∧ callS PP 59 #[iV 18] (fun v40 H14 => ∃ n41, v40 = iV n41 ∧ callS PP 59 #[iV 18] (fun v42 H15 => ∃ n43, v42 = iV n43 ∧ callS PP 63 #[iV 0] (fun v44 H16 => ∃ n45, v44 = iV n45 ∧ callS PP 63 #[iV (wW (n24 + 1))] (fun v46 H17 => ∃ n47, v46 = iV n47 ∧ callS PP 61 #[.pointer (some (A0 H2.size)), iV (wW (4 + n24)), .slice (some (A0 H17.size)) 7 7] (fun v48 H18 => v48 = .tuple #[] ∧ ∃ q49, p4 = some q49 ∧ ∃ p50, cellH H18 q49 = some (.pointer p50) ∧ callS PP 59 #[iV (wW (4 + n24))] (fun v51 H19 => ∃ n52, v51 = iV n52 ∧ ((cellH H19 q49 = some (.pointer p50) ∧ True) ∧ True) ∧ callS PP 64 #[.pointer p50, iV 20, iV n24, iV n52] (fun v53 H20 => ∃ n54, v53 = iV n54 ∧ True ∧ I22 [iV (wW (n24 + 1))] H20 ∧ μ22 [iV (wW (n24 + 1))] H20 < μ22 w23 H7) H19) H18) (H17.push (.cells #[iV n37, iV n35, iV n39, iV n41, iV n43, iV n45, iV n47] 36))) H16) H15) H14) H13) H12) H11) H8) H7) (callS PP 59 #[iV 20] (fun v55 H21 => ∃ n56, v55 = iV n56 ∧ callS PP 59 #[iV 18] (fun v57 H22 => ∃ n58, v57 = iV n58 ∧ callS PP 59 #[iV 18] (fun v59 H23 => ∃ n60, v59 = iV n60 ∧ callS PP 59 #[iV 18] (fun v61 H24 => ∃ n62, v61 = iV n62 ∧ callS PP 59 #[iV 1] (fun v63 H25 => ∃ n64, v63 = iV n64 ∧ callS PP 59 #[iV 2] (fun v65 H26 => ∃ n66, v65 = iV n66 ∧ callS PP 59 #[iV 3] (fun v67 H27 => ∃ n68, v67 = iV n68 ∧ callS PP 59 #[iV 1] (fun v69 H28 => ∃ n70, v69 = iV n70 ∧ callS PP 61 #[.pointer (some (A0 H2.size)), iV 19, .slice (some (A0 H28.size)) 8 8] (fun v71 H29 => v71 = .tuple #[] ∧ callS PP 65 #[.pointer p4, iV 19] (fun v72 H30 => ∃ n73, v72 = iV n73 ∧ Q (.tuple #[.pointer (some (A0 H2.size)), iV 0]) H30) H29) (H28.push (.cells #[iV n56, iV n58, iV n60, iV n62, iV n64, iV n66, iV n68, iV n70] 36))) H27) H26) H25) H24) H23) H22) H21) H7))) H1)) H
theorem k11_ok {n1 : Int} {n2 : Int} (h : k11 n1 n2 Q H) : callS PP 11 #[.int .i64 n1, .int .i64 n2] Q H :=
 callS_of good Tryz.func11 rfl (Ls := fun | 7 => some [(11, 3)] | 14 => some [(16, 3)] | 1020 => some [(17, 36)] | _ => none) (by kernel_rfl) h
abbrev n_k27 : Nat := 27
def k27 (p1 : Option Addr) (s2 : ByteArray) (Q : QT) (H : Heap) : Prop :=
 callS PP 114 #[.string s2] (fun v3 H1 => ∃ b4, v3 = .bool b4 ∧ cond (!b4) (Q (iV 133) H1) (callS PP 115 #[.pointer p1, .string s2] (fun v5 H2 => ∃ b6, v5 = .bool b6 ∧ cond b6 (Q (iV 131) H2) (callS PP 78 #[.pointer p1] (fun v7 H3 => ∃ a8 l8 c8, v7 = .slice a8 l8 c8 ∧ cond (decide ((l8 : Int) ≥ 256)) (Q (iV 138) H3) (callS PP 116 #[.pointer p1] (fun v9 H4 => ∃ p10, v9 = .pointer p10 ∧ callS PP 117 #[.pointer p1, .slice (some (A0 H4.size)) 1 1] (fun v11 H5 => ∃ a12 l12, ∃ c12 n13, v11 = .tuple #[.slice a12 l12 c12, iV n13] ∧ cond (n13 == 0) (∃ J14 : IT, (((0 : Int) ≤ 0 ∧ 0 < (l12 : Int)) ∧ ∃ q15, a12 = some q15 ∧ ∃ n16, cellH H5 (q15.add (Int.toNat 0 * 1)) = some (iV n16) ∧ (callS PP 120 #[.pointer p1, iV 19, iV 1] (fun v17 H6 => ∃ n18, v17 = iV n18 ∧ ((cellH H6 (q15.add (Int.toNat 0 * 1)) = some (iV n16) ∧ True) ∧ True) ∧ (callS PP 119 #[iV n18] (fun v19 H7 => ∃ n20, v19 = iV n20 ∧ ((cellH H7 (q15.add (Int.toNat 0 * 1)) = some (iV n16) ∧ True) ∧ True) ∧ (callS PP 118 #[.pointer p1, iV n20] (fun v21 H8 => ∃ a22 l22 c22, v21 = .slice a22 l22 c22 ∧ ((cellH H8 (q15.add (Int.toNat 0 * 1)) = some (iV n16) ∧ True) ∧ True) ∧ True ∧ evS PP (Builtin.append_ #[108, 108] 108 #[.slice a22 l22 c22, .slice (some (A0 H8.size)) 1 1]) (fun v23 H9 => ∃ a24 l24 c24, v23 = .slice a24 l24 c24 ∧ True ∧ J14 [.slice a24 l24 c24] H9) (H8.push (.cells #[iV n16] 36))) H7) ∧ (True ∧ callS PP 118 #[.pointer p1, iV n20] (fun v25 H10 => ∃ a26 l26 c26, v25 = .slice a26 l26 c26 ∧ True ∧ evS PP (Builtin.append_ #[108, 108] 108 #[.slice a26 l26 c26, .slice (some (A0 H7.size)) 1 1]) (fun v27 H11 => ∃ a28 l28 c28, v27 = .slice a28 l28 c28 ∧ True ∧ J14 [.slice a28 l28 c28] H11) H10) (H7.push (.cells #[iV n16] 36)))) H6) ∧ (True ∧ callS PP 119 #[iV n18] (fun v29 H12 => ∃ n30, v29 = iV n30 ∧ True ∧ callS PP 118 #[.pointer p1, iV n30] (fun v31 H13 => ∃ a32 l32 c32, v31 = .slice a32 l32 c32 ∧ True ∧ evS PP (Builtin.append_ #[108, 108] 108 #[.slice a32 l32 c32, .slice (some (A0 H6.size)) 1 1]) (fun v33 H14 => ∃ a34 l34 c34, v33 = .slice a34 l34 c34 ∧ True ∧ J14 [.slice a34 l34 c34] H14) H13) H12) (H6.push (.cells #[iV n16] 36)))) H5) ∧ (True ∧ callS PP 120 #[.pointer p1, iV 19, iV 1] (fun v35 H15 => ∃ n36, v35 = iV n36 ∧ True ∧ callS PP 119 #[iV n36] (fun v37 H16 => ∃ n38, v37 = iV n38 ∧ True ∧ callS PP 118 #[.pointer p1, iV n38] (fun v39 H17 => ∃ a40 l40 c40, v39 = .slice a40 l40 c40 ∧ True ∧ evS PP (Builtin.append_ #[108, 108] 108 #[.slice a40 l40 c40, .slice (some (A0 H5.size)) 1 1]) (fun v41 H18 => ∃ a42 l42 c42, v41 = .slice a42 l42 c42 ∧ True ∧ J14 [.slice a42 l42 c42] H18) H17) H16) H15) (H5.push (.cells #[iV n16] 36)))) ∧ ∀ w43 H19, J14 w43 H19 → ∀ _g : Nat → Value, ∃ a44 l44 c44, w43 = [.slice a44 l44 c44] ∧ callS PP 59 #[iV 1] (fun v45 H20 => ∃ n46, v45 = iV n46 ∧ evS PP (Builtin.append_ #[108, 108] 108 #[.slice a44 l44 c44, .slice (some (A0 H20.size)) 1 1]) (fun v47 H21 => ∃ a48 l48 c48, v47 = .slice a48 l48 c48 ∧ callS PP 121 #[.pointer p1, iV 11, .slice a48 l48 c48] (fun v49 H22 => ∃ n50 n51, v49 = .tuple #[iV n50, iV n51] ∧ cond (n51 == 0) (∃ q52, p1 = some q52 ∧ ∃ p53, cellH H22 q52 = some (.pointer p53) ∧ callS PP 122 #[.pointer p53, iV 1, iV n50] (fun v54 H23 => ∃ n55, v54 = iV n55 ∧ callS PP 123 #[.pointer p1, .pointer p10, iV n51] (fun v56 H24 => ∃ n57, v56 = iV n57 ∧ Q (iV n57) H24) H23) H22) (callS PP 123 #[.pointer p1, .pointer p10, iV n51] (fun v58 H25 => ∃ n59, v58 = iV n59 ∧ Q (iV n59) H25) H22)) H21) (H20.push (.cells #[iV n46] 36))) H19) (callS PP 123 #[.pointer p1, .pointer p10, iV n13] (fun v60 H26 => ∃ n61, v60 = iV n61 ∧ Q (iV n61) H26) H5)) (H4.push (.cells #[.string s2] 9))) H3)) H2)) H1)) H
theorem k27_ok {p1 : Option Addr} {s2 : ByteArray} (h : k27 p1 s2 Q H) : callS PP 27 #[.pointer p1, .string s2] Q H :=
 callS_of good Tryz.func27 rfl (Ls := fun | 1012 => some [(9, 108)] | _ => none) (by kernel_rfl) h
abbrev n_k40 : Nat := 40
def k40 (p1 : Option Addr) (Q : QT) (H : Heap) : Prop :=
 callS PP 120 #[.pointer p1, iV 19, iV 0] (fun v2 H1 => ∃ n3, v2 = iV n3 ∧ callS PP 119 #[iV n3] (fun v4 H2 => ∃ n5, v4 = iV n5 ∧ callS PP 118 #[.pointer p1, iV n5] (fun v6 H3 => ∃ a7 l7 c7, v6 = .slice a7 l7 c7 ∧ ∃ (I8 : IT) (μ8 : MT), I8 [.slice none 0 0, iV 0] H3 ∧ ∀ w9 H4, I8 w9 H4 → ∀ _g : Nat → Value, ∃ a10 l10, ∃ c10 n11, w9 = [.slice a10 l10 c10, iV n11] ∧ cond (decide (n11 < (l7 : Int))) (((0 : Int) ≤ n11 ∧ n11 < (l7 : Int)) ∧ ∃ q12, a7 = some q12 ∧ ∃ n13, cellH H4 (q12.add (Int.toNat n11 * 1)) = some (iV n13) ∧ callS PP 119 #[iV n13] (fun v14 H5 => ∃ n15, v14 = iV n15 ∧ evS PP (Builtin.append_ #[66, 66] 66 #[.slice a10 l10 c10, .slice (some (A0 H5.size)) 1 1]) (fun v16 H6 => ∃ a17 l17 c17, v16 = .slice a17 l17 c17 ∧ I8 [.slice a17 l17 c17, iV (wW (n11 + 1))] H6 ∧ μ8 [.slice a17 l17 c17, iV (wW (n11 + 1))] H6 < μ8 w9 H4) (H5.push (.cells #[iV n15] 3))) H4) (Q (.slice a10 l10 c10) H4)) H2) H1) H
theorem k40_ok {p1 : Option Addr} (h : k40 p1 Q H) : callS PP 40 #[.pointer p1] Q H :=
 callS_of good Tryz.func40 rfl (Ls := fun | 4 => some [(4, 66), (5, 3)] | _ => none) (by kernel_rfl) h
abbrev n_k61 : Nat := 61
def k61 (p1 : Option Addr) (n2 : Int) (a3 : Option Addr) (l3 : Nat) (_c3 : Nat) (Q : QT) (H : Heap) : Prop :=
 ∃ (I4 : IT) (μ4 : MT), I4 [iV 0] H ∧ ∀ w5 H1, I4 w5 H1 → ∀ _g : Nat → Value, ∃ n6, w5 = [iV n6] ∧ cond (decide (n6 < (l3 : Int))) (∃ q7, p1 = some q7 ∧ ∃ p8, cellH H1 q7 = some (.pointer p8) ∧ ∃ q9, p8 = some q9 ∧ ∃ p10, cellH H1 q9 = some (.pointer p10) ∧ ((0 : Int) ≤ n6 ∧ n6 < (l3 : Int)) ∧ ∃ q11, a3 = some q11 ∧ ∃ n12, cellH H1 (q11.add (Int.toNat n6 * 1)) = some (iV n12) ∧ callS PP 64 #[.pointer p10, iV n2, iV n6, iV n12] (fun v13 H2 => ∃ n14, v13 = iV n14 ∧ True ∧ I4 [iV (wW (n6 + 1))] H2 ∧ μ4 [iV (wW (n6 + 1))] H2 < μ4 w5 H1) H1) (Q (.tuple #[]) H1)
theorem k61_ok {p1 : Option Addr} {n2 : Int} {a3 : Option Addr} {l3 : Nat} {c3 : Nat} (h : k61 p1 n2 a3 l3 c3 Q H) : callS PP 61 #[.pointer p1, .int .i64 n2, .slice a3 l3 c3] Q H :=
 callS_of good Tryz.func61 rfl (Ls := fun | 1 => some [(6, 3)] | _ => none) (by kernel_rfl) h
abbrev n_k78 : Nat := 78
def k78 (p1 : Option Addr) (Q : QT) (H : Heap) : Prop :=
 callS PP 120 #[.pointer p1, iV 19, iV 1] (fun v2 H1 => ∃ n3, v2 = iV n3 ∧ callS PP 119 #[iV n3] (fun v4 H2 => ∃ n5, v4 = iV n5 ∧ callS PP 118 #[.pointer p1, iV n5] (fun v6 H3 => ∃ a7 l7 c7, v6 = .slice a7 l7 c7 ∧ ∃ (I8 : IT) (μ8 : MT), I8 [.slice none 0 0, iV 0] H3 ∧ ∀ w9 H4, I8 w9 H4 → ∀ _g : Nat → Value, ∃ a10 l10, ∃ c10 n11, w9 = [.slice a10 l10 c10, iV n11] ∧ cond (decide ((wW (n11 + 1)) < (l7 : Int))) (((0 : Int) ≤ n11 ∧ n11 < (l7 : Int)) ∧ ∃ q12, a7 = some q12 ∧ ∃ n13, cellH H4 (q12.add (Int.toNat n11 * 1)) = some (iV n13) ∧ callS PP 158 #[.pointer p1, iV n13] (fun v14 H5 => ∃ s15, v14 = .string s15 ∧ evS PP (Builtin.append_ #[37, 37] 37 #[.slice a10 l10 c10, .slice (some (A0 H5.size)) 1 1]) (fun v16 H6 => ∃ a17 l17 c17, v16 = .slice a17 l17 c17 ∧ I8 [.slice a17 l17 c17, iV (wW (n11 + 2))] H6 ∧ μ8 [.slice a17 l17 c17, iV (wW (n11 + 2))] H6 < μ8 w9 H4) (H5.push (.cells #[.string s15] 9))) H4) (Q (.slice a10 l10 c10) H4)) H2) H1) H
theorem k78_ok {p1 : Option Addr} (h : k78 p1 Q H) : callS PP 78 #[.pointer p1] Q H :=
 callS_of good Tryz.func78 rfl (Ls := fun | 4 => some [(4, 37), (5, 3)] | _ => none) (by kernel_rfl) h
abbrev n_k103 : Nat := 103
def k103 (p1 : Option Addr) (s2 : ByteArray) (s3 : ByteArray) (a4 : Option Addr) (l4 : Nat) (c4 : Nat) (Q : QT) (H : Heap) : Prop :=
 callS PP 208 #[.pointer p1, .string s2, .string s3, .slice a4 l4 c4] (fun v5 H1 => ∃ n6 n7, v5 = .tuple #[iV n6, iV n7] ∧ cond (n7 != 0) (Q (.tuple #[iV 0, iV n7]) H1) (callS PP 116 #[.pointer p1] (fun v8 H2 => ∃ p9, v8 = .pointer p9 ∧ callS PP 209 #[.pointer p1, .string s2, iV n6, .slice a4 l4 c4] (fun v10 H3 => ∃ n11 n12, v10 = .tuple #[iV n11, iV n12] ∧ callS PP 123 #[.pointer p1, .pointer p9, iV n12] (fun v13 H4 => ∃ n14, v13 = iV n14 ∧ cond (n14 != 0) (Q (.tuple #[iV 0, iV n14]) H4) (Q (.tuple #[iV n11, iV 0]) H4)) H3) H2) H1)) H
theorem k103_ok {p1 : Option Addr} {s2 : ByteArray} {s3 : ByteArray} {a4 : Option Addr} {l4 : Nat} {c4 : Nat} (h : k103 p1 s2 s3 a4 l4 c4 Q H) : callS PP 103 #[.pointer p1, .string s2, .string s3, .slice a4 l4 c4] Q H :=
 okF Tryz.func103 rfl h
abbrev n_k105 : Nat := 105
def k105 (p1 : Option Addr) (n2 : Int) (n3 : Int) (Q : QT) (H : Heap) : Prop :=
 callS PP 106 #[.pointer p1, iV n2] (fun v4 H1 => ∃ n5 n6, v4 = .tuple #[iV n5, iV n6] ∧ cond (n6 != 0) (Q (iV n6) H1) (callS PP 210 #[iV n3] (fun v7 H2 => ∃ b8, v7 = .bool b8 ∧ cond (!b8) (Q (iV 10) H2) (∃ q9, p1 = some q9 ∧ ∃ p10, cellH H2 q9 = some (.pointer p10) ∧ ∃ q11, p10 = some q11 ∧ ∃ p12, cellH H2 q11 = some (.pointer p12) ∧ callS PP 120 #[.pointer p1, iV 19, iV 1] (fun v13 H3 => ∃ n14, v13 = iV n14 ∧ ((cellH H3 q11 = some (.pointer p12) ∧ True) ∧ ((cellH H3 q9 = some (.pointer p10) ∧ True) ∧ True)) ∧ callS PP 119 #[iV n14] (fun v15 H4 => ∃ n16, v15 = iV n16 ∧ ((cellH H4 q11 = some (.pointer p12) ∧ True) ∧ ((cellH H4 q9 = some (.pointer p10) ∧ True) ∧ True)) ∧ callS PP 64 #[.pointer p12, iV n16, iV (wW ((wW (2 * n2)) + 1)), iV n3] (fun v17 H5 => ∃ n18, v17 = iV n18 ∧ True ∧ Q (iV n18) H5) H4) H3) H2)) H1)) H
theorem k105_ok {p1 : Option Addr} {n2 : Int} {n3 : Int} (h : k105 p1 n2 n3 Q H) : callS PP 105 #[.pointer p1, .int .i64 n2, .int .i64 n3] Q H :=
 okF Tryz.func105 rfl h
abbrev n_k106 : Nat := 106
def k106 (p1 : Option Addr) (n2 : Int) (Q : QT) (H : Heap) : Prop :=
 cond (decide (n2 < 0)) (Q (.tuple #[iV 0, iV 1]) H) (callS PP 78 #[.pointer p1] (fun v3 H1 => ∃ a4 l4 c4, v3 = .slice a4 l4 c4 ∧ cond (decide (n2 ≥ (l4 : Int))) (Q (.tuple #[iV 0, iV 1]) H1) (callS PP 120 #[.pointer p1, iV 19, iV 1] (fun v5 H2 => ∃ n6, v5 = iV n6 ∧ callS PP 119 #[iV n6] (fun v7 H3 => ∃ n8, v7 = iV n8 ∧ callS PP 120 #[.pointer p1, iV n8, iV (wW ((wW (2 * n2)) + 1))] (fun v9 H4 => ∃ n10, v9 = iV n10 ∧ Q (.tuple #[iV n10, iV 0]) H4) H3) H2) H1)) H)
theorem k106_ok {p1 : Option Addr} {n2 : Int} (h : k106 p1 n2 Q H) : callS PP 106 #[.pointer p1, .int .i64 n2] Q H :=
 okF Tryz.func106 rfl h
abbrev n_k110 : Nat := 110
def k110 (p1 : Option Addr) (s2 : ByteArray) (Q : QT) (H : Heap) : Prop :=
 callS PP 40 #[.pointer p1] (fun v3 H1 => ∃ a4 l4 c4, v3 = .slice a4 l4 c4 ∧ ∃ (I5 : IT) (μ5 : MT), I5 [iV 0] H1 ∧ ∀ w6 H2, I5 w6 H2 → ∀ _g : Nat → Value, ∃ n7, w6 = [iV n7] ∧ cond (decide (n7 < (l4 : Int))) (((0 : Int) ≤ n7 ∧ n7 < (l4 : Int)) ∧ ∃ q8, a4 = some q8 ∧ ∃ n9, cellH H2 (q8.add (Int.toNat n7 * 1)) = some (iV n9) ∧ callS PP 120 #[.pointer p1, iV n9, iV 0] (fun v10 H3 => ∃ n11, v10 = iV n11 ∧ callS PP 158 #[.pointer p1, iV n11] (fun v12 H4 => ∃ s13, v12 = .string s13 ∧ cond (strEq s13 s2) (((0 : Int) ≤ n7 ∧ n7 < (l4 : Int)) ∧ ∃ q14, a4 = some q14 ∧ ∃ n15, cellH H4 (q14.add (Int.toNat n7 * 1)) = some (iV n15) ∧ Q (.tuple #[iV n15, iV 0]) H4) (I5 [iV (wW (n7 + 1))] H4 ∧ μ5 [iV (wW (n7 + 1))] H4 < μ5 w6 H2)) H3) H2) (Q (.tuple #[iV 0, iV 130]) H2)) H
theorem k110_ok {p1 : Option Addr} {s2 : ByteArray} (h : k110 p1 s2 Q H) : callS PP 110 #[.pointer p1, .string s2] Q H :=
 callS_of good Tryz.func110 rfl (Ls := fun | 3 => some [(7, 3)] | _ => none) (by kernel_rfl) h
abbrev n_k111 : Nat := 111
def k111 (p1 : Option Addr) (n2 : Int) (Q : QT) (H : Heap) : Prop :=
 callS PP 40 #[.pointer p1] (fun v3 H1 => ∃ a4 l4 c4, v3 = .slice a4 l4 c4 ∧ cond (decide (n2 < 1)) (Q (.tuple #[iV 0, iV 130]) H1) (cond (decide (n2 > (l4 : Int))) (Q (.tuple #[iV 0, iV 130]) H1) (((0 : Int) ≤ (wW (n2 - 1)) ∧ (wW (n2 - 1)) < (l4 : Int)) ∧ ∃ q5, a4 = some q5 ∧ ∃ n6, cellH H1 (q5.add (Int.toNat (wW (n2 - 1)) * 1)) = some (iV n6) ∧ Q (.tuple #[iV n6, iV 0]) H1))) H
theorem k111_ok {p1 : Option Addr} {n2 : Int} (h : k111 p1 n2 Q H) : callS PP 111 #[.pointer p1, .int .i64 n2] Q H :=
 okF Tryz.func111 rfl h
abbrev n_k113 : Nat := 113
def k113 (p1 : Option Addr) (n2 : Int) (Q : QT) (H : Heap) : Prop :=
 ∃ J3 : IT, (callS PP 210 #[iV n2] (fun v4 H1 => ∃ b5, v4 = .bool b5 ∧ cond b5 (cond ((Int.tmod n2 2) != 0) (Q (.tuple #[iV 8, iV 0]) H1) (J3 [] H1)) (J3 [] H1)) H) ∧ ∀ w6 H2, J3 w6 H2 → ∀ _g : Nat → Value, w6 = [] ∧ callS PP 210 #[iV n2] (fun v7 H3 => ∃ b8, v7 = .bool b8 ∧ cond (!b8) (Q (.tuple #[iV 0, iV 10]) H3) (cond ((Int.tmod n2 4) == 2) (Q (.tuple #[iV 9, iV 0]) H3) (∃ q9, p1 = some q9 ∧ ∃ p10, cellH H3 q9 = some (.pointer p10) ∧ ∃ q11, p10 = some q11 ∧ ∃ p12, cellH H3 q11 = some (.pointer p12) ∧ callS PP 119 #[iV n2] (fun v13 H4 => ∃ n14, v13 = iV n14 ∧ ((cellH H4 q11 = some (.pointer p12) ∧ True) ∧ ((cellH H4 q9 = some (.pointer p10) ∧ True) ∧ True)) ∧ callS PP 148 #[.pointer p12, iV n14] (fun v15 H5 => ∃ n16 n17, v15 = .tuple #[iV n16, iV n17] ∧ True ∧ cond (n17 != 0) (Q (.tuple #[iV 0, iV n17]) H5) (callS PP 119 #[iV n16] (fun v18 H6 => ∃ n19, v18 = iV n19 ∧ Q (.tuple #[iV n19, iV 0]) H6) H5)) H4) H3))) H2
theorem k113_ok {p1 : Option Addr} {n2 : Int} (h : k113 p1 n2 Q H) : callS PP 113 #[.pointer p1, .int .i64 n2] Q H :=
 callS_of good Tryz.func113 rfl (Ls := fun | 1003 => some [] | _ => none) (by kernel_rfl) h
abbrev n_k115 : Nat := 115
def k115 (p1 : Option Addr) (s2 : ByteArray) (Q : QT) (H : Heap) : Prop :=
 callS PP 110 #[.pointer p1, .string s2] (fun v3 H1 => ∃ n4 n5, v3 = .tuple #[iV n4, iV n5] ∧ callS PP 78 #[.pointer p1] (fun v6 H2 => ∃ a7 l7 c7, v6 = .slice a7 l7 c7 ∧ ∃ (I8 : IT) (μ8 : MT), I8 [iV 0] H2 ∧ ∀ w9 H3, I8 w9 H3 → ∀ _g : Nat → Value, ∃ n10, w9 = [iV n10] ∧ cond (decide (n10 < (l7 : Int))) (((0 : Int) ≤ n10 ∧ n10 < (l7 : Int)) ∧ ∃ q11, a7 = some q11 ∧ ∃ s12, cellH H3 (q11.add (Int.toNat n10 * 1)) = some (.string s12) ∧ cond (strEq s12 s2) (Q (.bool true) H3) (I8 [iV (wW (n10 + 1))] H3 ∧ μ8 [iV (wW (n10 + 1))] H3 < μ8 w9 H3)) (Q (.bool (n5 == 0)) H3)) H1) H
theorem k115_ok {p1 : Option Addr} {s2 : ByteArray} (h : k115 p1 s2 Q H) : callS PP 115 #[.pointer p1, .string s2] Q H :=
 callS_of good Tryz.func115 rfl (Ls := fun | 4 => some [(8, 3)] | _ => none) (by kernel_rfl) h
abbrev n_k116 : Nat := 116
def k116 (p1 : Option Addr) (Q : QT) (H : Heap) : Prop :=
 ∃ q2, p1 = some q2 ∧ ∃ p3, cellH H (q2.add 1) = some (.pointer p3) ∧ ∃ q4, p1 = some q4 ∧ ∃ p5, cellH H q4 = some (.pointer p5) ∧ ∃ q6, p5 = some q6 ∧ ∃ p7, cellH H q6 = some (.pointer p7) ∧ ∃ q8, p1 = some q8 ∧ ∃ p9, cellH H q8 = some (.pointer p9) ∧ ∃ q10, p9 = some q10 ∧ ∃ a11 l11 c11, cellH H (q10.add 2) = some (.slice a11 l11 c11) ∧ callS PP 214 #[.pointer p3] (fun v12 H1 => ∃ n13, v12 = iV n13 ∧ ((cellH H1 (q10.add 2) = some (.slice a11 l11 c11) ∧ True) ∧ ((cellH H1 q8 = some (.pointer p9) ∧ True) ∧ ((cellH H1 q6 = some (.pointer p7) ∧ True) ∧ ((cellH H1 q4 = some (.pointer p5) ∧ True) ∧ True)))) ∧ callS PP 82 #[.pointer p7] (fun v14 H2 => ∃ n15, v14 = iV n15 ∧ ((cellH H2 (q10.add 2) = some (.slice a11 l11 c11) ∧ True) ∧ ((cellH H2 q8 = some (.pointer p9) ∧ True) ∧ True)) ∧ True ∧ Q (.pointer (some (A0 H2.size))) (H2.push (.cells #[iV n13, iV n15, iV (l11 : Int)] 257))) H1) H
theorem k116_ok {p1 : Option Addr} (h : k116 p1 Q H) : callS PP 116 #[.pointer p1] Q H :=
 okF Tryz.func116 rfl h
abbrev n_k117 : Nat := 117
def k117 (p1 : Option Addr) (a2 : Option Addr) (l2 : Nat) (_c2 : Nat) (Q : QT) (H : Heap) : Prop :=
 ∃ (I3 : IT) (μ3 : MT), I3 [.slice none 0 0, iV 0] H ∧ ∀ w4 H1, I3 w4 H1 → ∀ _g : Nat → Value, ∃ a5 l5, ∃ c5 n6, w4 = [.slice a5 l5 c5, iV n6] ∧ cond (decide (n6 < (l2 : Int))) (∃ q7, p1 = some q7 ∧ ∃ p8, cellH H1 (q7.add 1) = some (.pointer p8) ∧ ((0 : Int) ≤ n6 ∧ n6 < (l2 : Int)) ∧ ∃ q9, a2 = some q9 ∧ ∃ s10, cellH H1 (q9.add (Int.toNat n6 * 1)) = some (.string s10) ∧ callS PP 60 #[.pointer p8, .string s10] (fun v11 H2 => ∃ n12 n13, v11 = .tuple #[iV n12, iV n13] ∧ True ∧ cond (n13 != 0) (Q (.tuple #[.slice none 0 0, iV n13]) H2) (callS PP 62 #[iV n12] (fun v14 H3 => ∃ n15, v14 = iV n15 ∧ evS PP (Builtin.append_ #[108, 108] 108 #[.slice a5 l5 c5, .slice (some (A0 H3.size)) 1 1]) (fun v16 H4 => ∃ a17 l17 c17, v16 = .slice a17 l17 c17 ∧ I3 [.slice a17 l17 c17, iV (wW (n6 + 1))] H4 ∧ μ3 [.slice a17 l17 c17, iV (wW (n6 + 1))] H4 < μ3 w4 H1) (H3.push (.cells #[iV n15] 36))) H2)) H1) (Q (.tuple #[.slice a5 l5 c5, iV 0]) H1)
theorem k117_ok {p1 : Option Addr} {a2 : Option Addr} {l2 : Nat} {c2 : Nat} (h : k117 p1 a2 l2 c2 Q H) : callS PP 117 #[.pointer p1, .slice a2 l2 c2] Q H :=
 callS_of good Tryz.func117 rfl (Ls := fun | 3 => some [(6, 108), (7, 3)] | _ => none) (by kernel_rfl) h
abbrev n_k118 : Nat := 118
def k118 (p1 : Option Addr) (n2 : Int) (Q : QT) (H : Heap) : Prop :=
 ∃ q3, p1 = some q3 ∧ ∃ p4, cellH H q3 = some (.pointer p4) ∧ ∃ q5, p4 = some q5 ∧ ∃ p6, cellH H q5 = some (.pointer p6) ∧ callS PP 201 #[.pointer p6, iV n2] (fun v7 H1 => ∃ n8 n9 n10, v7 = .tuple #[iV n8, iV n9, iV n10] ∧ ∃ (I11 : IT) (μ11 : MT), I11 [.slice none 0 0, iV 0] H1 ∧ ∀ w12 H2, I11 w12 H2 → ∀ _g : Nat → Value, ∃ a13 l13, ∃ c13 n14, w12 = [.slice a13 l13 c13, iV n14] ∧ cond (decide (n14 < n8)) (callS PP 120 #[.pointer p1, iV n2, iV n14] (fun v15 H3 => ∃ n16, v15 = iV n16 ∧ evS PP (Builtin.append_ #[108, 108] 108 #[.slice a13 l13 c13, .slice (some (A0 H3.size)) 1 1]) (fun v17 H4 => ∃ a18 l18 c18, v17 = .slice a18 l18 c18 ∧ I11 [.slice a18 l18 c18, iV (wW (n14 + 1))] H4 ∧ μ11 [.slice a18 l18 c18, iV (wW (n14 + 1))] H4 < μ11 w12 H2) (H3.push (.cells #[iV n16] 36))) H2) (Q (.slice a13 l13 c13) H2)) H
theorem k118_ok {p1 : Option Addr} {n2 : Int} (h : k118 p1 n2 Q H) : callS PP 118 #[.pointer p1, .int .i64 n2] Q H :=
 callS_of good Tryz.func118 rfl (Ls := fun | 4 => some [(8, 108), (9, 3)] | _ => none) (by kernel_rfl) h
abbrev n_k120 : Nat := 120
def k120 (p1 : Option Addr) (n2 : Int) (n3 : Int) (Q : QT) (H : Heap) : Prop :=
 ∃ q4, p1 = some q4 ∧ ∃ p5, cellH H q4 = some (.pointer p5) ∧ ∃ q6, p5 = some q6 ∧ ∃ p7, cellH H q6 = some (.pointer p7) ∧ callS PP 215 #[.pointer p7, iV n2, iV n3] (fun v8 H1 => ∃ n9 n10, v8 = .tuple #[iV n9, iV n10] ∧ Q (iV n9) H1) H
theorem k120_ok {p1 : Option Addr} {n2 : Int} {n3 : Int} (h : k120 p1 n2 n3 Q H) : callS PP 120 #[.pointer p1, .int .i64 n2, .int .i64 n3] Q H :=
 okF Tryz.func120 rfl h
abbrev n_k121 : Nat := 121
def k121 (p1 : Option Addr) (n2 : Int) (a3 : Option Addr) (l3 : Nat) (c3 : Nat) (Q : QT) (H : Heap) : Prop :=
 ∃ J4 : IT, (cond (n2 == 11) (cond ((l3 : Int) == 0) (callS PP 59 #[iV 18] (fun v5 H1 => ∃ n6, v5 = iV n6 ∧ Q (.tuple #[iV n6, iV 0]) H1) H) (J4 [] H)) (J4 [] H)) ∧ ∀ w7 H2, J4 w7 H2 → ∀ _g : Nat → Value, w7 = [] ∧ ∃ q8, p1 = some q8 ∧ ∃ p9, cellH H2 q8 = some (.pointer p9) ∧ callS PP 59 #[iV n2] (fun v10 H3 => ∃ n11, v10 = iV n11 ∧ ((cellH H3 q8 = some (.pointer p9) ∧ True) ∧ True) ∧ callS PP 216 #[.pointer p9, iV n11, iV (l3 : Int), iV 0] (fun v12 H4 => ∃ n13 n14, v12 = .tuple #[iV n13, iV n14] ∧ True ∧ cond (n14 != 0) (Q (.tuple #[iV 0, iV n14]) H4) (callS PP 119 #[iV n13] (fun v15 H5 => ∃ n16, v15 = iV n16 ∧ callS PP 61 #[.pointer p1, iV n16, .slice a3 l3 c3] (fun v17 H6 => v17 = .tuple #[] ∧ ∃ q18, p1 = some q18 ∧ ∃ p19, cellH H6 q18 = some (.pointer p19) ∧ callS PP 217 #[.pointer p19, .slice (some (A0 H6.size)) 1 1] (fun v20 H7 => ∃ n21, v20 = iV n21 ∧ Q (.tuple #[iV n13, iV n21]) H7) (H6.push (.cells #[iV n13] 36))) H5) H4)) H3) H2
theorem k121_ok {p1 : Option Addr} {n2 : Int} {a3 : Option Addr} {l3 : Nat} {c3 : Nat} (h : k121 p1 n2 a3 l3 c3 Q H) : callS PP 121 #[.pointer p1, .int .i64 n2, .slice a3 l3 c3] Q H :=
 callS_of good Tryz.func121 rfl (Ls := fun | 1003 => some [] | _ => none) (by kernel_rfl) h
abbrev n_k123 : Nat := 123
def k123 (p1 : Option Addr) (p2 : Option Addr) (n3 : Int) (Q : QT) (H : Heap) : Prop :=
 ∃ q4, p1 = some q4 ∧ ∃ p5, cellH H q4 = some (.pointer p5) ∧ ∃ q6, p1 = some q6 ∧ ∃ p7, cellH H q6 = some (.pointer p7) ∧ ∃ q8, p7 = some q8 ∧ ∃ a9 l9 c9, cellH H (q8.add 2) = some (.slice a9 l9 c9) ∧ ∃ q10, p2 = some q10 ∧ ∃ n11, cellH H (q10.add 2) = some (iV n11) ∧ callS PP 218 #[.pointer p5, iV (wW ((l9 : Int) - n11))] (fun v12 H1 => ∃ n13, v12 = iV n13 ∧ True ∧ cond (n3 == 0) (Q (iV 0) H1) (∃ q14, p1 = some q14 ∧ ∃ p15, cellH H1 (q14.add 1) = some (.pointer p15) ∧ ∃ q16, p2 = some q16 ∧ ∃ n17, cellH H1 q16 = some (iV n17) ∧ callS PP 219 #[.pointer p15, iV n17] (fun v18 H2 => ∃ n19, v18 = iV n19 ∧ True ∧ cond (n3 != 24) (∃ q20, p1 = some q20 ∧ ∃ p21, cellH H2 q20 = some (.pointer p21) ∧ ∃ q22, p21 = some q22 ∧ ∃ p23, cellH H2 q22 = some (.pointer p23) ∧ ∃ q24, p2 = some q24 ∧ ∃ n25, cellH H2 (q24.add 1) = some (iV n25) ∧ callS PP 107 #[.pointer p23, iV n25] (fun v26 H3 => ∃ n27, v26 = iV n27 ∧ True ∧ Q (iV n3) H3) H2) (Q (iV n3) H2)) H1)) H
theorem k123_ok {p1 : Option Addr} {p2 : Option Addr} {n3 : Int} (h : k123 p1 p2 n3 Q H) : callS PP 123 #[.pointer p1, .pointer p2, .int .i64 n3] Q H :=
 okF Tryz.func123 rfl h
abbrev n_k124 : Nat := 124
def k124 (p1 : Option Addr) (n2 : Int) (Q : QT) (H : Heap) : Prop :=
 callS PP 220 #[.pointer p1, iV n2] (fun v3 H1 => shH (setH H1 (A0 H.size) (.string (⟨#[]⟩ : ByteArray))) fun C5 => shH (setH C5 ((A0 H.size).add 1) (.string (⟨#[]⟩ : ByteArray))) fun C3 => shH (setH (setH C3 ((A0 H.size).add 2) (.slice none 0 0)) ((A0 H.size).add 3) (iV 0)) fun C1 => ∃ n4, v3 = iV n4 ∧ cond (n4 == 0) (Wr H1 (A0 H.size) ∧ Wr C5 ((A0 H.size).add 1) ∧ Wr C3 ((A0 H.size).add 2) ∧ Wr (setH C3 ((A0 H.size).add 2) (.slice none 0 0)) ((A0 H.size).add 3) ∧ ∃ s5, cellH C1 (A0 H.size) = some (.string s5) ∧ ∃ s6, cellH C1 ((A0 H.size).add 1) = some (.string s6) ∧ ∃ a7 l7 c7, cellH C1 ((A0 H.size).add 2) = some (.slice a7 l7 c7) ∧ ∃ n8, cellH C1 ((A0 H.size).add 3) = some (iV n8) ∧ Q (.tuple #[.agg #[.string s5, .string s6, .slice a7 l7 c7, iV n8], iV 130]) C1) (callS PP 221 #[.pointer p1, iV n2] (fun v9 H2 => ∃ s10 : ByteArray, ∃ s11 : ByteArray, shH (setH (setH H2 (A0 H.size) (.string s10)) ((A0 H.size).add 1) (.string s11)) fun C4 => ∃ a12 : Option Addr, ∃ l12 : Nat, ∃ c12 : Nat, ∃ n13 : Int, shH (setH (setH C4 ((A0 H.size).add 2) (.slice a12 l12 c12)) ((A0 H.size).add 3) (iV n13)) fun C2 => v9 = .agg #[.string s10, .string s11, .slice a12 l12 c12, iV n13] ∧ Wr H2 (A0 H.size) ∧ Wr (setH H2 (A0 H.size) (.string s10)) ((A0 H.size).add 1) ∧ Wr C4 ((A0 H.size).add 2) ∧ Wr (setH C4 ((A0 H.size).add 2) (.slice a12 l12 c12)) ((A0 H.size).add 3) ∧ ∃ s14, cellH C2 (A0 H.size) = some (.string s14) ∧ ∃ s15, cellH C2 ((A0 H.size).add 1) = some (.string s15) ∧ ∃ a16 l16 c16, cellH C2 ((A0 H.size).add 2) = some (.slice a16 l16 c16) ∧ ∃ n17, cellH C2 ((A0 H.size).add 3) = some (iV n17) ∧ Q (.tuple #[.agg #[.string s14, .string s15, .slice a16 l16 c16, iV n17], iV 0]) C2) H1)) (H.push (.cells #[.string (⟨#[]⟩ : ByteArray), .string (⟨#[]⟩ : ByteArray), .slice none 0 0, iV 0] 121))
theorem k124_ok {p1 : Option Addr} {n2 : Int} (h : k124 p1 n2 Q H) : callS PP 124 #[.pointer p1, .int .i64 n2] Q H :=
 okF Tryz.func124 rfl h
abbrev n_k125 : Nat := 125
def k125 (p1 : Option Addr) (n2 : Int) (Q : QT) (H : Heap) : Prop :=
 callS PP 220 #[.pointer p1, iV n2] (fun v3 H1 => ∃ n4, v3 = iV n4 ∧ cond (n4 == 0) (Q (.tuple #[.slice none 0 0, iV 130]) H1) (callS PP 223 #[.pointer p1] (fun v5 H2 => ∃ a6 l6 c6, v5 = .slice a6 l6 c6 ∧ callS PP 222 #[.slice a6 l6 c6, iV (wW (n4 - 1)), iV (-1), .slice none 0 0] (fun v7 H3 => ∃ a8 l8 c8, v7 = .slice a8 l8 c8 ∧ Q (.tuple #[.slice a8 l8 c8, iV 0]) H3) H2) H1)) H
theorem k125_ok {p1 : Option Addr} {n2 : Int} (h : k125 p1 n2 Q H) : callS PP 125 #[.pointer p1, .int .i64 n2] Q H :=
 okF Tryz.func125 rfl h
abbrev n_k126 : Nat := 126
def k126 (p1 : Option Addr) (n2 : Int) (Q : QT) (H : Heap) : Prop :=
 callS PP 220 #[.pointer p1, iV n2] (fun v3 H1 => ∃ n4, v3 = iV n4 ∧ callS PP 40 #[.pointer p1] (fun v5 H2 => ∃ a6 l6 c6, v5 = .slice a6 l6 c6 ∧ ∃ (I7 : IT) (μ7 : MT), I7 [.slice none 0 0, iV n4] H2 ∧ ∀ w8 H3, I7 w8 H3 → ∀ _g : Nat → Value, ∃ a9 l9, ∃ c9 n10, w8 = [.slice a9 l9 c9, iV n10] ∧ cond (decide (n4 > 0)) (cond (decide (n10 ≤ (l6 : Int))) (((0 : Int) ≤ (wW (n10 - 1)) ∧ (wW (n10 - 1)) < (l6 : Int)) ∧ ∃ q11, a6 = some q11 ∧ ∃ n12, cellH H3 (q11.add (Int.toNat (wW (n10 - 1)) * 1)) = some (iV n12) ∧ ∃ (I13 : IT) (μ13 : MT), I13 [iV n12] H3 ∧ ∀ w14 H4, I13 w14 H4 → ∀ _g : Nat → Value, ∃ n15, w14 = [iV n15] ∧ cond (n15 != 0) (cond (n15 != n2) (callS PP 224 #[.pointer p1, iV n15] (fun v16 H5 => ∃ n17, v16 = iV n17 ∧ I13 [iV n17] H5 ∧ μ13 [iV n17] H5 < μ13 w14 H4) H4) (cond (n15 == n2) (evS PP (Builtin.append_ #[66, 66] 66 #[.slice a9 l9 c9, .slice (some (A0 H4.size)) 1 1]) (fun v18 H6 => ∃ a19 l19 c19, v18 = .slice a19 l19 c19 ∧ I7 [.slice a19 l19 c19, iV (wW (n10 + 1))] H6 ∧ μ7 [.slice a19 l19 c19, iV (wW (n10 + 1))] H6 < μ7 w8 H3) (H4.push (.cells #[iV n10] 3))) (I7 [.slice a9 l9 c9, iV (wW (n10 + 1))] H4 ∧ μ7 [.slice a9 l9 c9, iV (wW (n10 + 1))] H4 < μ7 w8 H3))) (cond (n15 == n2) (evS PP (Builtin.append_ #[66, 66] 66 #[.slice a9 l9 c9, .slice (some (A0 H4.size)) 1 1]) (fun v20 H7 => ∃ a21 l21 c21, v20 = .slice a21 l21 c21 ∧ I7 [.slice a21 l21 c21, iV (wW (n10 + 1))] H7 ∧ μ7 [.slice a21 l21 c21, iV (wW (n10 + 1))] H7 < μ7 w8 H3) (H4.push (.cells #[iV n10] 3))) (I7 [.slice a9 l9 c9, iV (wW (n10 + 1))] H4 ∧ μ7 [.slice a9 l9 c9, iV (wW (n10 + 1))] H4 < μ7 w8 H3))) (Q (.slice a9 l9 c9) H3)) (Q (.slice a9 l9 c9) H3)) H1) H
theorem k126_ok {p1 : Option Addr} {n2 : Int} (h : k126 p1 n2 Q H) : callS PP 126 #[.pointer p1, .int .i64 n2] Q H :=
 callS_of good Tryz.func126 rfl (Ls := fun | 5 => some [(6, 66), (8, 3)] | 8 => some [(9, 3)] | _ => none) (by kernel_rfl) h
abbrev n_k158 : Nat := 158
def k158 (p1 : Option Addr) (n2 : Int) (Q : QT) (H : Heap) : Prop :=
 cond ((Int.tmod n2 4) != 2) (Q (.string (⟨#[]⟩ : ByteArray)) H) (∃ q3, p1 = some q3 ∧ ∃ p4, cellH H (q3.add 1) = some (.pointer p4) ∧ callS PP 241 #[.pointer p4, iV (wW (Int.tdiv (wW (n2 - 2)) 4))] (fun v5 H1 => ∃ s6 n7, v5 = .tuple #[.string s6, iV n7] ∧ Q (.string s6) H1) H)
theorem k158_ok {p1 : Option Addr} {n2 : Int} (h : k158 p1 n2 Q H) : callS PP 158 #[.pointer p1, .int .i64 n2] Q H :=
 okF Tryz.func158 rfl h
abbrev n_k189 : Nat := 189
def k189 (p1 : Option Addr) (n2 : Int) (Q : QT) (H : Heap) : Prop :=
 callS PP 220 #[.pointer p1, iV n2] (fun v3 H1 => ∃ n4, v3 = iV n4 ∧ cond (n4 == 0) (Q (.tuple #[iV 0, iV 130]) H1) (Q (.tuple #[iV n4, iV 0]) H1)) H
theorem k189_ok {p1 : Option Addr} {n2 : Int} (h : k189 p1 n2 Q H) : callS PP 189 #[.pointer p1, .int .i64 n2] Q H :=
 okF Tryz.func189 rfl h
abbrev n_k191 : Nat := 191
def k191 (p1 : Option Addr) (n2 : Int) (Q : QT) (H : Heap) : Prop :=
 callS PP 220 #[.pointer p1, iV n2] (fun v3 H1 => ∃ n4, v3 = iV n4 ∧ cond (n4 == 0) (Q (.tuple #[iV 0, iV 130]) H1) (callS PP 224 #[.pointer p1, iV n2] (fun v5 H2 => ∃ n6, v5 = iV n6 ∧ Q (.tuple #[iV n6, iV 0]) H2) H1)) H
theorem k191_ok {p1 : Option Addr} {n2 : Int} (h : k191 p1 n2 Q H) : callS PP 191 #[.pointer p1, .int .i64 n2] Q H :=
 okF Tryz.func191 rfl h
abbrev n_k193 : Nat := 193
def k193 (p1 : Option Addr) (n2 : Int) (Q : QT) (H : Heap) : Prop :=
 callS PP 124 #[.pointer p1, iV n2] (fun v3 H1 => shH (H1.push (.cells #[.string (⟨#[]⟩ : ByteArray), .string (⟨#[]⟩ : ByteArray), .slice none 0 0, iV 0] 121)) fun C2 => ∃ s4 : ByteArray, ∃ s5 : ByteArray, shH (setH (setH C2 (A0 H1.size) (.string s4)) ((A0 H1.size).add 1) (.string s5)) fun C1 => ∃ a6 : Option Addr, ∃ l6 : Nat, ∃ c6 : Nat, shH (setH C1 ((A0 H1.size).add 2) (.slice a6 l6 c6)) fun C3 => ∃ n7 n8, v3 = .tuple #[.agg #[.string s4, .string s5, .slice a6 l6 c6, iV n7], iV n8] ∧ Wr C2 (A0 H1.size) ∧ Wr (setH C2 (A0 H1.size) (.string s4)) ((A0 H1.size).add 1) ∧ Wr C1 ((A0 H1.size).add 2) ∧ Wr C3 ((A0 H1.size).add 3) ∧ ∃ n9, cellH (setH C3 ((A0 H1.size).add 3) (iV n7)) ((A0 H1.size).add 3) = some (iV n9) ∧ Q (.tuple #[iV n9, iV n8]) (setH C3 ((A0 H1.size).add 3) (iV n7))) H
theorem k193_ok {p1 : Option Addr} {n2 : Int} (h : k193 p1 n2 Q H) : callS PP 193 #[.pointer p1, .int .i64 n2] Q H :=
 okF Tryz.func193 rfl h
abbrev n_k208 : Nat := 208
def k208 (p1 : Option Addr) (s2 : ByteArray) (s3 : ByteArray) (a4 : Option Addr) (l4 : Nat) (_c4 : Nat) (Q : QT) (H : Heap) : Prop :=
 callS PP 114 #[.string s2] (fun v5 H1 => ∃ b6, v5 = .bool b6 ∧ cond (!b6) (Q (.tuple #[iV 0, iV 133]) H1) (callS PP 115 #[.pointer p1, .string s2] (fun v7 H2 => ∃ b8, v7 = .bool b8 ∧ cond b8 (Q (.tuple #[iV 0, iV 131]) H2) (callS PP 110 #[.pointer p1, .string s3] (fun v9 H3 => ∃ n10 n11, v9 = .tuple #[iV n10, iV n11] ∧ cond (n11 != 0) (Q (.tuple #[iV 0, iV 130]) H3) (callS PP 220 #[.pointer p1, iV n10] (fun v12 H4 => ∃ n13, v12 = iV n13 ∧ ∃ J14 : IT, (cond (decide (n13 > 1)) (cond (decide (n13 ≤ 14)) (Q (.tuple #[iV 0, iV 132]) H4) (J14 [] H4)) (J14 [] H4)) ∧ ∀ w15 H5, J14 w15 H5 → ∀ _g : Nat → Value, w15 = [] ∧ callS PP 125 #[.pointer p1, iV n10] (fun v16 H6 => ∃ a17 l17, ∃ c17 n18, v16 = .tuple #[.slice a17 l17 c17, iV n18] ∧ ∃ (I19 : IT) (μ19 : MT), I19 [iV 0] H6 ∧ ∀ w20 H7, I19 w20 H7 → ∀ _g : Nat → Value, ∃ n21, w20 = [iV n21] ∧ cond (decide (n21 < (l4 : Int))) (((0 : Int) ≤ n21 ∧ n21 < (l4 : Int)) ∧ ∃ q22, a4 = some q22 ∧ ∃ s23, cellH H7 (q22.add (Int.toNat n21 * 1)) = some (.string s23) ∧ callS PP 260 #[.string s23] (fun v24 H8 => ∃ b25, v24 = .bool b25 ∧ cond (!b25) (Q (.tuple #[iV 0, iV 133]) H8) (∃ (I26 : IT) (μ26 : MT), I26 [iV 0] H8 ∧ ∀ w27 H9, I26 w27 H9 → ∀ _g : Nat → Value, ∃ n28, w27 = [iV n28] ∧ cond (decide (n28 < n21)) (((0 : Int) ≤ n28 ∧ n28 < (l4 : Int)) ∧ ∃ q29, a4 = some q29 ∧ ∃ s30, cellH H9 (q29.add (Int.toNat n28 * 1)) = some (.string s30) ∧ ((0 : Int) ≤ n21 ∧ n21 < (l4 : Int)) ∧ ∃ q31, a4 = some q31 ∧ ∃ s32, cellH H9 (q31.add (Int.toNat n21 * 1)) = some (.string s32) ∧ cond (strEq s30 s32) (Q (.tuple #[iV 0, iV 134]) H9) (I26 [iV (wW (n28 + 1))] H9 ∧ μ26 [iV (wW (n28 + 1))] H9 < μ26 w27 H9)) (∃ (I33 : IT) (μ33 : MT), I33 [iV 0] H9 ∧ ∀ w34 H10, I33 w34 H10 → ∀ _g : Nat → Value, ∃ n35, w34 = [iV n35] ∧ cond (decide (n35 < (l17 : Int))) (((0 : Int) ≤ n35 ∧ n35 < (l17 : Int)) ∧ ∃ q36, a17 = some q36 ∧ ∃ s37, cellH H10 (q36.add (Int.toNat n35 * 1)) = some (.string s37) ∧ ((0 : Int) ≤ n21 ∧ n21 < (l4 : Int)) ∧ ∃ q38, a4 = some q38 ∧ ∃ s39, cellH H10 (q38.add (Int.toNat n21 * 1)) = some (.string s39) ∧ cond (strEq s37 s39) (Q (.tuple #[iV 0, iV 135]) H10) (I33 [iV (wW (n35 + 1))] H10 ∧ μ33 [iV (wW (n35 + 1))] H10 < μ33 w34 H10)) (I19 [iV (wW (n21 + 1))] H10 ∧ μ19 [iV (wW (n21 + 1))] H10 < μ19 w20 H7)))) H7) (cond (decide ((wW ((l17 : Int) + (l4 : Int))) > 32)) (Q (.tuple #[iV 0, iV 137]) H7) (callS PP 40 #[.pointer p1] (fun v40 H11 => ∃ a41 l41 c41, v40 = .slice a41 l41 c41 ∧ cond (decide ((l41 : Int) ≥ 256)) (Q (.tuple #[iV 0, iV 138]) H11) (Q (.tuple #[iV n10, iV 0]) H11)) H7))) H5) H3)) H2)) H1)) H
theorem k208_ok {p1 : Option Addr} {s2 : ByteArray} {s3 : ByteArray} {a4 : Option Addr} {l4 : Nat} {c4 : Nat} (h : k208 p1 s2 s3 a4 l4 c4 Q H) : callS PP 208 #[.pointer p1, .string s2, .string s3, .slice a4 l4 c4] Q H :=
 callS_of good Tryz.func208 rfl (Ls := fun | 1011 => some [] | 13 => some [(15, 3)] | 18 => some [(16, 3)] | 23 => some [(17, 3)] | _ => none) (by kernel_rfl) h
abbrev n_k209 : Nat := 209
def k209 (p1 : Option Addr) (s2 : ByteArray) (n3 : Int) (a4 : Option Addr) (l4 : Nat) (c4 : Nat) (Q : QT) (H : Heap) : Prop :=
 callS PP 117 #[.pointer p1, .slice (some (A0 H.size)) 1 1] (fun v5 H1 => ∃ a6 l6, ∃ c6 n7, v5 = .tuple #[.slice a6 l6 c6, iV n7] ∧ cond (n7 != 0) (Q (.tuple #[iV 0, iV n7]) H1) (callS PP 117 #[.pointer p1, .slice a4 l4 c4] (fun v8 H2 => ∃ a9 l9, ∃ c9 n10, v8 = .tuple #[.slice a9 l9 c9, iV n10] ∧ cond (n10 != 0) (Q (.tuple #[iV 0, iV n10]) H2) (callS PP 121 #[.pointer p1, iV 11, .slice a9 l9 c9] (fun v11 H3 => ∃ n12 n13, v11 = .tuple #[iV n12, iV n13] ∧ cond (n13 != 0) (Q (.tuple #[iV 0, iV n13]) H3) (callS PP 120 #[.pointer p1, iV 19, iV 0] (fun v14 H4 => ∃ n15, v14 = iV n15 ∧ callS PP 119 #[iV n15] (fun v16 H5 => ∃ n17, v16 = iV n17 ∧ callS PP 118 #[.pointer p1, iV n17] (fun v18 H6 => ∃ a19 l19 c19, v18 = .slice a19 l19 c19 ∧ ((0 : Int) ≤ 0 ∧ 0 < (l6 : Int)) ∧ ∃ q20, a6 = some q20 ∧ ∃ n21, cellH H6 (q20.add (Int.toNat 0 * 1)) = some (iV n21) ∧ callS PP 59 #[iV n3] (fun v22 H7 => ∃ n23, v22 = iV n23 ∧ ((cellH H7 (q20.add (Int.toNat 0 * 1)) = some (iV n21) ∧ True) ∧ True) ∧ callS PP 59 #[iV 18] (fun v24 H8 => ∃ n25, v24 = iV n25 ∧ ((cellH H8 (q20.add (Int.toNat 0 * 1)) = some (iV n21) ∧ True) ∧ True) ∧ callS PP 59 #[iV 18] (fun v26 H9 => ∃ n27, v26 = iV n27 ∧ ((cellH H9 (q20.add (Int.toNat 0 * 1)) = some (iV n21) ∧ True) ∧ True) ∧ callS PP 63 #[iV 0] (fun v28 H10 => ∃ n29, v28 = iV n29 ∧ ((cellH H10 (q20.add (Int.toNat 0 * 1)) = some (iV n21) ∧ True) ∧ True) ∧ callS PP 63 #[iV (wW ((l19 : Int) + 1))] (fun v30 H11 => ∃ n31, v30 = iV n31 ∧ ((cellH H11 (q20.add (Int.toNat 0 * 1)) = some (iV n21) ∧ True) ∧ True) ∧ True ∧ callS PP 121 #[.pointer p1, iV 12, .slice (some (A0 H11.size)) 7 7] (fun v32 H12 => ∃ n33 n34, v32 = .tuple #[iV n33, iV n34] ∧ True ∧ cond (n34 != 0) (Q (.tuple #[iV 0, iV n34]) H12) (evS PP (Builtin.append_ #[108, 108] 108 #[.slice a19 l19 c19, .slice (some (A0 H12.size)) 1 1]) (fun v35 H13 => ∃ a36 l36 c36, v35 = .slice a36 l36 c36 ∧ callS PP 121 #[.pointer p1, iV 11, .slice a36 l36 c36] (fun v37 H14 => ∃ n38 n39, v37 = .tuple #[iV n38, iV n39] ∧ cond (n39 != 0) (Q (.tuple #[iV 0, iV n39]) H14) (∃ q40, p1 = some q40 ∧ ∃ p41, cellH H14 q40 = some (.pointer p41) ∧ callS PP 122 #[.pointer p41, iV 0, iV n38] (fun v42 H15 => ∃ n43, v42 = iV n43 ∧ callS PP 119 #[iV n33] (fun v44 H16 => ∃ n45, v44 = iV n45 ∧ Q (.tuple #[iV n45, iV 0]) H16) H15) H14)) H13) (H12.push (.cells #[iV n33] 36)))) (H11.push (.cells #[iV n21, iV n23, iV n12, iV n25, iV n27, iV n29, iV n31] 36))) H10) H9) H8) H7) H6) H5) H4) H3)) H2)) H1)) (H.push (.cells #[.string s2] 9))
theorem k209_ok {p1 : Option Addr} {s2 : ByteArray} {n3 : Int} {a4 : Option Addr} {l4 : Nat} {c4 : Nat} (h : k209 p1 s2 n3 a4 l4 c4 Q H) : callS PP 209 #[.pointer p1, .string s2, .int .i64 n3, .slice a4 l4 c4] Q H :=
 okF Tryz.func209 rfl h
abbrev n_k220 : Nat := 220
def k220 (p1 : Option Addr) (n2 : Int) (Q : QT) (H : Heap) : Prop :=
 callS PP 40 #[.pointer p1] (fun v3 H1 => ∃ a4 l4 c4, v3 = .slice a4 l4 c4 ∧ ∃ (I5 : IT) (μ5 : MT), I5 [iV 0] H1 ∧ ∀ w6 H2, I5 w6 H2 → ∀ _g : Nat → Value, ∃ n7, w6 = [iV n7] ∧ cond (decide (n7 < (l4 : Int))) (((0 : Int) ≤ n7 ∧ n7 < (l4 : Int)) ∧ ∃ q8, a4 = some q8 ∧ ∃ n9, cellH H2 (q8.add (Int.toNat n7 * 1)) = some (iV n9) ∧ cond (n9 == n2) (cond (decide (n2 > 0)) (Q (iV (wW (n7 + 1))) H2) (I5 [iV (wW (n7 + 1))] H2 ∧ μ5 [iV (wW (n7 + 1))] H2 < μ5 w6 H2)) (I5 [iV (wW (n7 + 1))] H2 ∧ μ5 [iV (wW (n7 + 1))] H2 < μ5 w6 H2)) (Q (iV 0) H2)) H
theorem k220_ok {p1 : Option Addr} {n2 : Int} (h : k220 p1 n2 Q H) : callS PP 220 #[.pointer p1, .int .i64 n2] Q H :=
 callS_of good Tryz.func220 rfl (Ls := fun | 3 => some [(6, 3)] | _ => none) (by kernel_rfl) h
abbrev n_k221 : Nat := 221
def k221 (p1 : Option Addr) (n2 : Int) (Q : QT) (H : Heap) : Prop :=
 callS PP 120 #[.pointer p1, iV n2, iV 0] (fun v3 H1 => ∃ n4, v3 = iV n4 ∧ callS PP 158 #[.pointer p1, iV n4] (fun v5 H2 => ∃ s6, v5 = .string s6 ∧ callS PP 120 #[.pointer p1, iV n2, iV 2] (fun v7 H3 => ∃ n8, v7 = iV n8 ∧ callS PP 119 #[iV n8] (fun v9 H4 => ∃ n10, v9 = iV n10 ∧ callS PP 264 #[.pointer p1, iV n10] (fun v11 H5 => ∃ a12 l12 c12, v11 = .slice a12 l12 c12 ∧ callS PP 120 #[.pointer p1, iV n2, iV 5] (fun v13 H6 => ∃ n14, v13 = iV n14 ∧ callS PP 265 #[iV n14] (fun v15 H7 => shH (H7.push (.cells #[.string (⟨#[]⟩ : ByteArray), .string (⟨#[]⟩ : ByteArray), .slice none 0 0, iV 0] 121)) fun C8 => shH (setH C8 (A0 H7.size) (.string s6)) fun C3 => shH (setH C3 ((A0 H7.size).add 1) (.string (⟨#[]⟩ : ByteArray))) fun C7 => ∃ n16, v15 = iV n16 ∧ Wr C8 (A0 H7.size) ∧ Wr C3 ((A0 H7.size).add 1) ∧ Wr C7 ((A0 H7.size).add 2) ∧ Wr (setH C7 ((A0 H7.size).add 2) (.slice a12 l12 c12)) ((A0 H7.size).add 3) ∧ callS PP 224 #[.pointer p1, iV n2] (fun v17 H8 => ∃ n18, v17 = iV n18 ∧ cond (n18 != 0) (callS PP 120 #[.pointer p1, iV n18, iV 0] (fun v19 H9 => ∃ n20, v19 = iV n20 ∧ callS PP 158 #[.pointer p1, iV n20] (fun v21 H10 => ∃ s22 : ByteArray, shH (setH H10 ((A0 H7.size).add 1) (.string s22)) fun C4 => v21 = .string s22 ∧ Wr H10 ((A0 H7.size).add 1) ∧ ∃ s23, cellH C4 (A0 H7.size) = some (.string s23) ∧ ∃ s24 : ByteArray, shH (setH (setH C4 (A0 H.size) (.string s23)) ((A0 H.size).add 1) (.string s24)) fun C5 => cellH C4 ((A0 H7.size).add 1) = some (.string s24) ∧ ∃ a25 l25 c25, cellH C4 ((A0 H7.size).add 2) = some (.slice a25 l25 c25) ∧ ∃ n26 : Int, shH (setH (setH C5 ((A0 H.size).add 2) (.slice a25 l25 c25)) ((A0 H.size).add 3) (iV n26)) fun C1 => cellH C4 ((A0 H7.size).add 3) = some (iV n26) ∧ Wr C4 (A0 H.size) ∧ Wr (setH C4 (A0 H.size) (.string s23)) ((A0 H.size).add 1) ∧ Wr C5 ((A0 H.size).add 2) ∧ Wr (setH C5 ((A0 H.size).add 2) (.slice a25 l25 c25)) ((A0 H.size).add 3) ∧ ∃ s27, cellH C1 (A0 H.size) = some (.string s27) ∧ ∃ s28, cellH C1 ((A0 H.size).add 1) = some (.string s28) ∧ ∃ a29 l29 c29, cellH C1 ((A0 H.size).add 2) = some (.slice a29 l29 c29) ∧ ∃ n30, cellH C1 ((A0 H.size).add 3) = some (iV n30) ∧ Q (.agg #[.string s27, .string s28, .slice a29 l29 c29, iV n30]) C1) H9) H8) (∃ s31, cellH H8 (A0 H7.size) = some (.string s31) ∧ ∃ s32 : ByteArray, shH (setH (setH H8 (A0 H.size) (.string s31)) ((A0 H.size).add 1) (.string s32)) fun C6 => cellH H8 ((A0 H7.size).add 1) = some (.string s32) ∧ ∃ a33 l33 c33, cellH H8 ((A0 H7.size).add 2) = some (.slice a33 l33 c33) ∧ ∃ n34 : Int, shH (setH (setH C6 ((A0 H.size).add 2) (.slice a33 l33 c33)) ((A0 H.size).add 3) (iV n34)) fun C2 => cellH H8 ((A0 H7.size).add 3) = some (iV n34) ∧ Wr H8 (A0 H.size) ∧ Wr (setH H8 (A0 H.size) (.string s31)) ((A0 H.size).add 1) ∧ Wr C6 ((A0 H.size).add 2) ∧ Wr (setH C6 ((A0 H.size).add 2) (.slice a33 l33 c33)) ((A0 H.size).add 3) ∧ ∃ s35, cellH C2 (A0 H.size) = some (.string s35) ∧ ∃ s36, cellH C2 ((A0 H.size).add 1) = some (.string s36) ∧ ∃ a37 l37 c37, cellH C2 ((A0 H.size).add 2) = some (.slice a37 l37 c37) ∧ ∃ n38, cellH C2 ((A0 H.size).add 3) = some (iV n38) ∧ Q (.agg #[.string s35, .string s36, .slice a37 l37 c37, iV n38]) C2)) (setH (setH C7 ((A0 H7.size).add 2) (.slice a12 l12 c12)) ((A0 H7.size).add 3) (iV n16))) H6) H5) H4) H3) H2) H1) (H.push (.cells #[.string (⟨#[]⟩ : ByteArray), .string (⟨#[]⟩ : ByteArray), .slice none 0 0, iV 0] 121))
theorem k221_ok {p1 : Option Addr} {n2 : Int} (h : k221 p1 n2 Q H) : callS PP 221 #[.pointer p1, .int .i64 n2] Q H :=
 okF Tryz.func221 rfl h
abbrev n_k223 : Nat := 223
def k223 (p1 : Option Addr) (Q : QT) (H : Heap) : Prop :=
 callS PP 40 #[.pointer p1] (fun v2 H1 => ∃ a3 l3 c3, v2 = .slice a3 l3 c3 ∧ ∃ (I4 : IT) (μ4 : MT), I4 [.slice none 0 0, iV 0] H1 ∧ ∀ w5 H2, I4 w5 H2 → ∀ _g : Nat → Value, ∃ a6 l6, ∃ c6 n7, w5 = [.slice a6 l6 c6, iV n7] ∧ cond (decide (n7 < (l3 : Int))) (((0 : Int) ≤ n7 ∧ n7 < (l3 : Int)) ∧ ∃ q8, a3 = some q8 ∧ ∃ n9, cellH H2 (q8.add (Int.toNat n7 * 1)) = some (iV n9) ∧ callS PP 221 #[.pointer p1, iV n9] (fun v10 H3 => ∃ s11 s12, ∃ a13 l13, ∃ c13 n14, v10 = .agg #[.string s11, .string s12, .slice a13 l13 c13, iV n14] ∧ evS PP (Builtin.append_ #[40, 40] 40 #[.slice a6 l6 c6, .slice (some (A0 H3.size)) 1 1]) (fun v15 H4 => ∃ a16 l16 c16, v15 = .slice a16 l16 c16 ∧ I4 [.slice a16 l16 c16, iV (wW (n7 + 1))] H4 ∧ μ4 [.slice a16 l16 c16, iV (wW (n7 + 1))] H4 < μ4 w5 H2) (H3.push (.cells #[.string s11, .string s12, .slice a13 l13 c13, iV n14] 121))) H2) (Q (.slice a6 l6 c6) H2)) H
theorem k223_ok {p1 : Option Addr} (h : k223 p1 Q H) : callS PP 223 #[.pointer p1] Q H :=
 callS_of good Tryz.func223 rfl (Ls := fun | 4 => some [(4, 40), (5, 3)] | _ => none) (by kernel_rfl) h
abbrev n_k224 : Nat := 224
def k224 (p1 : Option Addr) (n2 : Int) (Q : QT) (H : Heap) : Prop :=
 callS PP 120 #[.pointer p1, iV n2, iV 1] (fun v3 H1 => ∃ n4, v3 = iV n4 ∧ callS PP 119 #[iV n4] (fun v5 H2 => ∃ n6, v5 = iV n6 ∧ cond (n6 == 1) (Q (iV 0) H2) (Q (iV n6) H2)) H1) H
theorem k224_ok {p1 : Option Addr} {n2 : Int} (h : k224 p1 n2 Q H) : callS PP 224 #[.pointer p1, .int .i64 n2] Q H :=
 okF Tryz.func224 rfl h
abbrev n_k264 : Nat := 264
def k264 (p1 : Option Addr) (n2 : Int) (Q : QT) (H : Heap) : Prop :=
 callS PP 118 #[.pointer p1, iV n2] (fun v3 H1 => ∃ a4 l4 c4, v3 = .slice a4 l4 c4 ∧ ∃ (I5 : IT) (μ5 : MT), I5 [.slice none 0 0, iV 0] H1 ∧ ∀ w6 H2, I5 w6 H2 → ∀ _g : Nat → Value, ∃ a7 l7, ∃ c7 n8, w6 = [.slice a7 l7 c7, iV n8] ∧ cond (decide (n8 < (l4 : Int))) (((0 : Int) ≤ n8 ∧ n8 < (l4 : Int)) ∧ ∃ q9, a4 = some q9 ∧ ∃ n10, cellH H2 (q9.add (Int.toNat n8 * 1)) = some (iV n10) ∧ callS PP 158 #[.pointer p1, iV n10] (fun v11 H3 => ∃ s12, v11 = .string s12 ∧ evS PP (Builtin.append_ #[37, 37] 37 #[.slice a7 l7 c7, .slice (some (A0 H3.size)) 1 1]) (fun v13 H4 => ∃ a14 l14 c14, v13 = .slice a14 l14 c14 ∧ I5 [.slice a14 l14 c14, iV (wW (n8 + 1))] H4 ∧ μ5 [.slice a14 l14 c14, iV (wW (n8 + 1))] H4 < μ5 w6 H2) (H3.push (.cells #[.string s12] 9))) H2) (Q (.slice a7 l7 c7) H2)) H
theorem k264_ok {p1 : Option Addr} {n2 : Int} (h : k264 p1 n2 Q H) : callS PP 264 #[.pointer p1, .int .i64 n2] Q H :=
 callS_of good Tryz.func264 rfl (Ls := fun | 4 => some [(6, 37), (7, 3)] | _ => none) (by kernel_rfl) h
end Go.Proofs.YtmkdkplipbocjaaGreatDoor
namespace Kw
open Go
def gB (s : ByteArray) (i : Nat) : Nat := (s[i]?.getD 0).toNat
theorem gB_some {s : ByteArray} {i : Nat} {u : UInt8} (h : s[i]? = some u) : gB s i = u.toNat := by unfold gB; rw [h]; rfl
def alnum (n : Nat) : Prop := (97 ≤ n ∧ n ≤ 122) ∨ (65 ≤ n ∧ n ≤ 90) ∨ (48 ≤ n ∧ n ≤ 57)
instance (n : Nat) : Decidable (alnum n) := inferInstanceAs (Decidable (_ ∨ _ ∨ _))
def nameOk (lo hi : Nat) (s : ByteArray) : Prop := 1 ≤ s.size ∧ s.size ≤ 32 ∧ lo ≤ gB s 0 ∧ gB s 0 ≤ hi ∧ ∀ i, i < s.size → alnum (gB s i)
noncomputable instance (lo hi : Nat) (s : ByteArray) : Decidable (nameOk lo hi s) := Classical.propDecidable _
def resvd (s : ByteArray) : Prop := s = ⟨#[115, 101, 108, 102]⟩ ∨ s = ⟨#[115, 117, 112, 101, 114]⟩ ∨ s = ⟨#[110, 105, 108]⟩ ∨ s = ⟨#[116, 114, 117, 101]⟩ ∨ s = ⟨#[102, 97, 108, 115, 101]⟩
instance (s : ByteArray) : Decidable (resvd s) := inferInstanceAs (Decidable (_ ∨ _))
def fieldOk (s : ByteArray) : Prop := ¬ resvd s ∧ nameOk 97 122 s
noncomputable instance (s : ByteArray) : Decidable (fieldOk s) := Classical.propDecidable _
noncomputable instance memBA (s : ByteArray) (l : List ByteArray) : Decidable (s ∈ l) := Classical.propDecidable _
noncomputable def ownE (inh pre : List ByteArray) : List ByteArray → Int
 | [] => 0
 | s :: l => if ¬ fieldOk s then 133 else if s ∈ pre then 134 else if s ∈ inh then 135 else ownE inh (pre ++ [s]) l
def takenK (v : KV) (t : TB) (name : ByteArray) : Prop := (findK v t name).2 = 0 ∨ name ∈ globsK v t
noncomputable instance (v : KV) (t : TB) (name : ByteArray) : Decidable (takenK v t name) := Classical.propDecidable _
noncomputable def defK (v : KV) (t : TB) (name sup : ByteArray) (own : List ByteArray) : Int × Int :=
 if ¬ nameOk 65 90 name then (0, 133)
 else if takenK v t name then (0, 131)
 else if (findK v t sup).2 ≠ 0 then (0, (findK v t sup).2)
 else match plK v (findK v t sup).1 with
   | none => (0, 130)
   | some j => if 1 ≤ j ∧ j < 14 then (0, 132)
     else if ownE ((fieldsK v j).map (tx t)) [] own ≠ 0 then (0, ownE ((fieldsK v j).map (tx t)) [] own)
     else if 32 < (fieldsK v j).length + own.length then (0, 137)
     else if 256 ≤ v.cls.length then (0, 138)
     else ((findK v t sup).1, 0)
theorem findK_cases (v : KV) (t : TB) (name : ByteArray) : (findK v t name = (0, 130) ∧ ∀ c ∈ v.cls, tx t c.name ≠ name) ∨ ∃ i, ∃ hi : i < v.cls.length, findK v t name = ((v.cls[i]).oop, 0) ∧ tx t (v.cls[i]).name = name := by
 unfold findK
 cases hx : v.cls.findIdx? (fun c => decide (tx t c.name = name)) with
 | none =>
   left
   rw [List.findIdx?_eq_none_iff] at hx
   exact ⟨rfl, fun c hc => by simpa using hx c hc⟩
 | some i =>
   right
   rw [List.findIdx?_eq_some_iff_getElem] at hx
   obtain ⟨hi, h1, _⟩ := hx
   exact ⟨i, hi, by simp [hi], by simpa using h1⟩
noncomputable def kDefineAll (s : SP) (v : KV) (t : TB) (name sup : ByteArray) (own : List ByteArray) : (Int × Int) × SP × TB :=
 if (defK v t name sup own).2 ≠ 0 then ((0, (defK v t name sup own).2), s, t) else kDefine s t v.clsW name (defK v t name sup own).1 own
noncomputable def globK (v : KV) (t : TB) (name : ByteArray) : Int :=
 if ¬ nameOk 65 90 name then 133 else if takenK v t name then 131 else if 256 ≤ v.glob.length then 138 else 0
noncomputable def kGlobalAll (s : SP) (v : KV) (t : TB) (name : ByteArray) : Int × SP × TB :=
 if globK v t name ≠ 0 then (globK v t name, s, t) else kGlobal s t (globW v.glob) name
theorem defK_ok {s : SP} {v : KV} {t : TB} (hv : KAll s t v) {name sup : ByteArray} {own : List ByteArray} (h : (defK v t name sup own).2 = 0) :
   ∃ j, ∃ hj : j < v.cls.length, (defK v t name sup own).1 = (v.cls[j]).oop ∧ v.cls.length < 256 ∧ (∀ c ∈ v.cls, tx t c.name ≠ name) ∧ findK v t sup = ((v.cls[j]).oop, 0) ∧ plK v (v.cls[j]).oop = some j := by
 unfold defK at h ⊢
 split at h
 · cases h
 rename_i h1
 split at h
 · cases h
 rename_i h2
 split at h
 · rename_i h3; exact absurd h h3
 rename_i h3
 rw [if_neg h1, if_neg h2, if_neg h3]
 rcases findK_cases v t sup with ⟨e, _⟩ | ⟨j, hj, e, _⟩
 · rw [e] at h3; simp at h3
 rw [e] at h ⊢
 have hp := hv.ks.idx hj
 simp only [hp] at h ⊢
 split at h
 · cases h
 rename_i h4
 split at h
 · rename_i h5; exact absurd h h5
 rename_i h5
 split at h
 · cases h
 rename_i h6
 split at h
 · cases h
 rename_i h7
 rw [if_neg h4, if_neg h5, if_neg h6, if_neg h7]
 refine ⟨j, hj, rfl, by omega, ?_, rfl, hp⟩
 rcases findK_cases v t name with ⟨_, h8⟩ | ⟨i, hi, e', _⟩
 · exact h8
 · exact absurd (.inl (by rw [e'])) h2
theorem defK_len {v : KV} {t : TB} {name sup : ByteArray} {own : List ByteArray} (h : (defK v t name sup own).2 = 0) : own.length ≤ 32 := by
 unfold defK at h
 split at h
 · cases h
 split at h
 · cases h
 split at h
 · rename_i h3; exact absurd h h3
 split at h
 · cases h
 split at h
 · cases h
 split at h
 · rename_i h5; exact absurd h h5
 split at h
 · cases h
 · omega
end Kw
namespace Kw
open Go
def bootPlan : List (Int × Int) := [(5, 0), (6, 0), (7, 0), (12, 7), (12, 7), (12, 7), (12, 7), (12, 7), (12, 7), (12, 7), (12, 7), (12, 7), (12, 7), (12, 7), (12, 7), (12, 7), (12, 7), (11, 0), (11, 8), (11, 14)]
def RH.allocAll (r : RH) : List (Int × Int) → Int × RH
 | [] => (0, r)
 | (c, n) :: l => if (r.alloc (4 * c) n 0).1.2 ≠ 0 then ((r.alloc (4 * c) n 0).1.2, (r.alloc (4 * c) n 0).2) else RH.allocAll (r.alloc (4 * c) n 0).2 l
def growO (p : List RO × Int) (x : Int × Int) : List RO × Int := (p.1 ++ [⟨lowFree p.1, 0, endL p.1, p.2, 4 * x.1, List.replicate x.2.toNat 4⟩], IntKind.wrap .i64 (p.2 + 1))
def growAll (p : List RO × Int) : List (Int × Int) → List RO × Int
 | [] => p
 | x :: l => growAll (growO p x) l
theorem alloc_grow {r : RH} (hm : r.mark = 0) {c n : Int} (h : (r.alloc (4 * c) n 0).1.2 = 0) : (r.alloc (4 * c) n 0).2 = { r with objs := (growO (r.objs, r.born) (c, n)).1, born := (growO (r.objs, r.born) (c, n)).2 } := by
 unfold RH.alloc at h ⊢
 split at h
 · cases h
 rename_i g1
 split at h
 · cases h
 rename_i g2
 split at h
 · cases h
 rename_i g3
 split at h
 · cases h
 rename_i g4
 rw [if_neg g1, if_neg g2, if_neg g3, if_neg g4]
 simp [growO, newO, hm]
theorem allocAll_grow (l : List (Int × Int)) : ∀ {r : RH}, r.mark = 0 → (r.allocAll l).1 = 0 → (r.allocAll l).2 = { r with objs := (growAll (r.objs, r.born) l).1, born := (growAll (r.objs, r.born) l).2 } := by
 induction l with
 | nil => intro r _ _; rfl
 | cons x l ih =>
   intro r hm h
   obtain ⟨c, n⟩ := x
   unfold RH.allocAll at h ⊢
   split at h
   · rename_i hn; exact absurd h hn
   rename_i hn
   rw [if_neg hn]
   have e := alloc_grow hm (Classical.byContradiction hn)
   have := ih (r := (r.alloc (4 * c) n 0).2) (by rw [e]; exact hm) h
   rw [this, e]
   rfl
theorem allocAll_wf (l : List (Int × Int)) : ∀ {r : RH}, WFH r → WFH (r.allocAll l).2 := by
 induction l with
 | nil => intro r h; exact h
 | cons x l ih =>
   intro r h
   obtain ⟨c, n⟩ := x
   unfold RH.allocAll
   split
   · exact alloc_wf h _ _ _
   · exact ih (alloc_wf h _ _ _)
def kNames : List ByteArray := [⟨#[79, 98, 106, 101, 99, 116]⟩, ⟨#[85, 110, 100, 101, 102, 105, 110, 101, 100, 79, 98, 106, 101, 99, 116]⟩, ⟨#[70, 97, 108, 115, 101]⟩, ⟨#[84, 114, 117, 101]⟩, ⟨#[73, 110, 116, 101, 103, 101, 114]⟩, ⟨#[83, 121, 109, 98, 111, 108]⟩, ⟨#[83, 116, 114, 105, 110, 103]⟩, ⟨#[65, 114, 114, 97, 121]⟩, ⟨#[67, 108, 97, 115, 115]⟩, ⟨#[77, 101, 116, 104, 111, 100]⟩, ⟨#[66, 108, 111, 99, 107]⟩, ⟨#[67, 111, 110, 116, 101, 120, 116]⟩, ⟨#[80, 114, 111, 99, 101, 115, 115]⟩, ⟨#[77, 101, 115, 115, 97, 103, 101]⟩]
def fillW (i : Nat) : List Int := [4 * (i : Int) + 2, if i = 0 then 4 else 16, 72, 72, 72, 1, 2 * ((i : Int) + 1) + 1]
def fillC (i : Nat) (r : RH) : RH := ((r.lay (4 + i) 0 (fillW i)).put 20 i (4 * (4 + i))).2
def fillN (r : RH) : Nat → RH
 | 0 => r
 | n + 1 => fillC n (fillN r n)
def fillR : List Int := [80, 72, 72, 72, 4, 8, 12]
def bootH (r : RH) : RH := (fillN r 14).lay 19 0 fillR
def bootL : List RO := (growAll ([], 0) bootPlan).1
def bootR0 (words oops : Int) : RH := ⟨words, oops, 0, 0, 0, []⟩
def bootRH (words oops : Int) : RH := bootH (((bootR0 words oops).allocAll bootPlan).2)
def bootS (words oops : Int) : SP := ⟨bootRH words oops, 19, [], false, 0, 0, 0⟩
def bootT : TB := ⟨4096, kNames⟩
def bootV : KV := ⟨(List.range 14).map fun i : Nat => ⟨4 + i, i, if i = 0 then 1 else 4, [], 18, 18, 18, [], [], 0⟩, 20, [], 18, [72, 72, 4, 8, 12, 4]⟩
def bootO : List (Int × List Int) := [(1, []), (2, []), (3, [])] ++ (List.range 14).map (fun i : Nat => ((4 + i : Int), fillW i)) ++ [(18, []), (19, [80, 72, 72, 72, 4, 8, 12, 4]), (20, (List.range 14).map fun i : Nat => 4 * (4 + (i : Int)))]
theorem bootH_objs (w o m b t : Int) : ((bootH ⟨w, o, m, b, t, bootL⟩).objs.map fun x => (x.oop, x.slots)) = bootO := by kernel_rfl
theorem bootH_fmt (w o m b t : Int) : ((bootH ⟨w, o, m, b, t, bootL⟩).objs.all fun x => decide (x.fmt = 0) && decide (kindW x.cls = 3)) = true := by kernel_rfl
theorem bootL_fmt : (bootL.all fun x => decide (x.fmt = 0)) = true := by kernel_rfl
theorem kNames_good : (kNames.all fun s => decide (goodText s)) = true := by kernel_rfl
theorem kNames_nodup : kNames.Nodup := by decide +kernel
theorem newRH_wf' {words oops : Int} (h0 : 0 ≤ words) (h1 : words ≤ 1048576) (h2 : 0 ≤ oops) (h3 : oops ≤ 65536) : WFH (bootR0 words oops) :=
 ⟨h0, h1, h2, h3, Int.le_refl _, by simp [bootR0], ⟨by simp [bootR0], by simp [bootR0]⟩⟩
theorem fillN_wf {r : RH} (h : WFH r) (n : Nat) : WFH (fillN r n) := by
 induction n with
 | zero => exact h
 | succ n ih => exact put_wf (lay_wf ih _ _ _) _ _ _
theorem bootH_wf {r : RH} (h : WFH r) : WFH (bootH r) := lay_wf (fillN_wf h 14) _ _ _
theorem bootT_wf : WFT bootT := ⟨by decide, by decide, by decide, kNames_nodup, fun s hs => by simpa using List.all_eq_true.1 kNames_good s hs⟩
theorem bootAdd {i : Nat} (hi : i < kNames.length) : TB.add ⟨4096, kNames.take i⟩ kNames[i] = (((i : Int), 0), ⟨4096, kNames.take (i + 1)⟩) := by
 have hg : goodText kNames[i] := by simpa using List.all_eq_true.1 kNames_good _ (List.getElem_mem hi)
 have hn : numOf (kNames.take i) kNames[i] = none := numOf_none.2 fun hm => by
   obtain ⟨j, hj, e⟩ := List.getElem_of_mem hm
   rw [List.getElem_take] at e
   have := (List.getElem_inj kNames_nodup).1 e
   simp only [List.length_take] at hj
   omega
 have h14 : kNames.length = 14 := rfl
 unfold TB.add
 rw [if_neg (by simpa using hg)]
 simp only [hn]
 rw [if_neg (by simp only [List.length_take]; omega)]
 have e1 : (kNames.take i).length = i := by rw [List.length_take]; omega
 rw [e1, List.take_add_one, List.getElem?_eq_getElem hi]
 rfl
theorem bootRoles : (bootV.roles.all fun p => decide (p ∈ bootO)) = true := by kernel_rfl
theorem bootSep : Sep bootV := by unfold Sep; decide +kernel
theorem bootO_eq {words oops : Int} (h : ((bootR0 words oops).allocAll bootPlan).1 = 0) : (bootRH words oops).objs = (bootH ⟨words, oops, 0, 20, 0, bootL⟩).objs := by
 have e : ((bootR0 words oops).allocAll bootPlan).2 = ⟨words, oops, 0, 20, 0, bootL⟩ := by
   rw [allocAll_grow bootPlan (r := bootR0 words oops) rfl h]
   kernel_rfl
 unfold bootRH
 rw [e]
theorem bootArr {words oops : Int} (hw : WFH (bootRH words oops)) (h : ((bootR0 words oops).allocAll bootPlan).1 = 0) {p : Role} (hp : p ∈ bootO) : Arr (bootRH words oops) p.1 p.2 := by
 have e := bootO_eq h
 rw [← bootH_objs words oops 0 20 0, ← e] at hp
 obtain ⟨x, hx, rfl⟩ := List.mem_map.1 hp
 have hf := bootH_fmt words oops 0 20 0
 rw [← e] at hf
 have := List.all_eq_true.1 hf x hx
 simp only [Bool.and_eq_true, decide_eq_true_eq] at this
 exact ⟨x, objAt_mem hw.objs hx, this.1, rfl⟩
theorem bootV_cls (i : Nat) (hi : i < bootV.cls.length) : bootV.cls[i] = ⟨4 + i, i, if i = 0 then 1 else 4, [], 18, 18, 18, [], [], 0⟩ := by simp [bootV]
theorem bootRH_wf {words oops : Int} (h0 : 0 ≤ words) (h1 : words ≤ 1048576) (h2 : 0 ≤ oops) (h3 : oops ≤ 65536) : WFH (bootRH words oops) := by
 unfold bootRH
 exact bootH_wf (allocAll_wf _ (newRH_wf' h0 h1 h2 h3))
attribute [local irreducible] bootRH
theorem boot_ok {words oops : Int} (h0 : 0 ≤ words) (h1 : words ≤ 1048576) (h2 : 0 ≤ oops) (h3 : oops ≤ 65536) (h : ((bootR0 words oops).allocAll bootPlan).1 = 0) : KAll (bootS words oops) bootT bootV := by
 have hw : WFH (bootRH words oops) := bootRH_wf h0 h1 h2 h3
 have hl : bootV.cls.length = 14 := rfl
 refine ⟨⟨⟨hw, (by decide : (0 : Int) ≤ 19), (by decide : (19 : Int) ≤ 65536), (Nat.zero_le _ : ([] : List Int).length ≤ 65536), fun w hw => by cases hw⟩, ?_, rfl, rfl, ?_, bootSep, ?_⟩, ⟨bootT_wf, ?_, ?_, ?_, ?_⟩, rfl⟩
 · intro x hx
   have hf := bootH_fmt words oops 0 20 0
   rw [← bootO_eq h] at hf
   have := List.all_eq_true.1 hf x hx
   simp only [Bool.and_eq_true, decide_eq_true_eq] at this
   exact this.2
 · intro p hp
   exact bootArr hw h (of_decide_eq_true (List.all_eq_true.1 bootRoles p hp))
 · refine ⟨rfl, by rw [hl]; decide, by rw [hl]; decide, by decide, fun _ => ?_, fun i hi hpos => ?_, fun i hi h14 => ?_, fun c hc => ?_⟩
   · rw [bootV_cls]; exact ⟨rfl, rfl⟩
   · refine ⟨0, by decide, hpos, ?_⟩
     rw [bootV_cls, bootV_cls]
     simp only
     rw [if_neg (by omega)]
     rfl
   · rw [bootV_cls]
   · obtain ⟨i, hi, rfl⟩ := List.getElem_of_mem hc
     rw [bootV_cls]; simp
 · intro c hc
   obtain ⟨i, hi, rfl⟩ := List.getElem_of_mem hc
   rw [bootV_cls]
   show i < 14
   rw [hl] at hi; exact hi
 · intro c hc n hn
   obtain ⟨i, hi, rfl⟩ := List.getElem_of_mem hc
   rw [bootV_cls] at hn
   cases hn
 · intro p hp; cases hp
 · have : bootV.cls.map (·.name) = List.range 14 := by kernel_rfl
   rw [this]; exact List.nodup_range
end Kw
namespace Go.Proofs.YtmkdkplipbocjaaGreatDoor
open Kw
def RK (H : Heap) (b : Nat) (F : Foot) (s : SP) (t : TB) : Prop := ∃ sb tb F1 F2, F = b :: (F1 ++ F2) ∧ b ∉ F1 ∧ b ∉ F2 ∧ Disj F1 F2 ∧
 Blk H b #[.pointer (some ⟨sb, 0, none⟩), .pointer (some ⟨tb, 0, none⟩)] ∧ RSp H sb F1 s ∧ RTb H tb F2 t
theorem RK.lt {H : Heap} {b : Nat} {F : Foot} {s : SP} {t : TB} (h : RK H b F s t) : ∀ x ∈ F, x < H.size := by
 obtain ⟨sb, tb, F1, F2, rfl, h1, h2, h3, hB, hS, hT⟩ := h
 intro x hx
 rcases List.mem_cons.1 hx with rfl | hx
 · exact hB.lt
 · rcases List.mem_append.1 hx with hx | hx
   · exact hS.lt x hx
   · exact hT.lt x hx
theorem RK.bmem {H : Heap} {b : Nat} {F : Foot} {s : SP} {t : TB} (h : RK H b F s t) : b ∈ F := by obtain ⟨_, _, _, _, rfl, _⟩ := h; simp
theorem RK.fr {H H' : Heap} {b : Nat} {F G : Foot} {s : SP} {t : TB} (h : RK H b F s t) (hf : Fr G H H') (hd : Disj F G) : RK H' b F s t := by
 obtain ⟨sb, tb, F1, F2, rfl, h1, h2, h3, hB, hS, hT⟩ := h
 exact ⟨sb, tb, F1, F2, rfl, h1, h2, h3, hB.fr hf (hd b (by simp)), hS.fr hf (hd.mono (fun x hx => by simp [hx]) fun _ h => h), hT.fr hf (hd.mono (fun x hx => by simp [hx]) fun _ h => h)⟩
theorem RK.nil {H H' : Heap} {b : Nat} {F : Foot} {s : SP} {t : TB} (h : RK H b F s t) (hf : Fr [] H H') : RK H' b F s t := h.fr hf (Disj.nil_right _)
theorem RK.wfs {H : Heap} {b : Nat} {F : Foot} {s : SP} {t : TB} (h : RK H b F s t) : WFS s := by obtain ⟨_, _, _, _, _, _, _, _, _, hS, _⟩ := h; exact hS.wf
theorem RK.wft {H : Heap} {b : Nat} {F : Foot} {s : SP} {t : TB} (h : RK H b F s t) : WFT t := by obtain ⟨_, _, _, _, _, _, _, _, _, _, hT⟩ := h; exact hT.wf
theorem RK.sp {H : Heap} {b : Nat} {F : Foot} {s : SP} {t : TB} (h : RK H b F s t) : ∃ sb F1, cellH H ⟨b, 0, none⟩ = some (.pointer (some ⟨sb, 0, none⟩)) ∧ RSp H sb F1 s ∧ (∀ x ∈ F1, x ∈ F) ∧ b ∉ F1 ∧
   ∀ H' F1' s', RSp H' sb F1' s' → Up F1 H F1' H' → ∃ F', RK H' b F' s' t ∧ Up F H F' H' := by
 have hlt := h.lt
 obtain ⟨sb, tb, F1, F2, rfl, h1, h2, h3, hB, hS, hT⟩ := h
 refine ⟨sb, F1, hB.cell 0, hS, fun x hx => by simp [hx], h1, fun H' F1' s' hS' hu => ⟨b :: (F1' ++ F2), ⟨sb, tb, F1', F2, rfl, fun hx => ?_, h2, fun x hx hx2 => ?_, hB.fr hu.1 h1, hS', hT.fr hu.1 h3.symm⟩, hu.1.mono fun x hx => by simp [hx], fun x hx => ?_⟩⟩
 · rcases hu.2 b hx with h4 | h4
   · exact h1 h4
   · have := hlt b (by simp); omega
 · rcases hu.2 x hx with h4 | h4
   · exact h3 x h4 hx2
   · have := hlt x (by simp [hx2]); omega
 · rcases List.mem_cons.1 hx with rfl | hx
   · exact .inl (by simp)
   · rcases List.mem_append.1 hx with hx | hx
     · exact (hu.2 x hx).imp (fun h4 => by simp [h4]) id
     · exact .inl (by simp [hx])
theorem RK.tb {H : Heap} {b : Nat} {F : Foot} {s : SP} {t : TB} (h : RK H b F s t) : ∃ tb F2, cellH H ⟨b, 1, none⟩ = some (.pointer (some ⟨tb, 0, none⟩)) ∧ RTb H tb F2 t ∧ (∀ x ∈ F2, x ∈ F) ∧ b ∉ F2 ∧
   ∀ H' F2' t', RTb H' tb F2' t' → Up F2 H F2' H' → ∃ F', RK H' b F' s t' ∧ Up F H F' H' := by
 have hlt := h.lt
 obtain ⟨sb, tb, F1, F2, rfl, h1, h2, h3, hB, hS, hT⟩ := h
 refine ⟨tb, F2, hB.cell 1, hT, fun x hx => by simp [hx], h2, fun H' F2' t' hT' hu => ⟨b :: (F1 ++ F2'), ⟨sb, tb, F1, F2', rfl, h1, fun hx => ?_, fun x hx hx2 => ?_, hB.fr hu.1 h2, hS.fr hu.1 h3, hT'⟩, hu.1.mono fun x hx => by simp [hx], fun x hx => ?_⟩⟩
 · rcases hu.2 b hx with h4 | h4
   · exact h2 h4
   · have := hlt b (by simp); omega
 · rcases hu.2 x hx2 with h4 | h4
   · exact h3 x hx h4
   · have := hlt x (by simp [hx]); omega
 · rcases List.mem_cons.1 hx with rfl | hx
   · exact .inl (by simp)
   · rcases List.mem_append.1 hx with hx | hx
     · exact .inl (by simp [hx])
     · exact (hu.2 x hx).imp (fun h4 => by simp [h4]) id
theorem RK.hp {H : Heap} {b : Nat} {F : Foot} {s : SP} {t : TB} (h : RK H b F s t) : ∃ sb hb F1, cellH H ⟨b, 0, none⟩ = some (.pointer (some ⟨sb, 0, none⟩)) ∧ cellH H ⟨sb, 0, none⟩ = some (.pointer (some ⟨hb, 0, none⟩)) ∧ RRep H hb F1 s.h ∧ (∀ x ∈ F1, x ∈ F) ∧ b ∉ F1 ∧
   ∀ H' F1' r', RRep H' hb F1' r' → Up F1 H F1' H' → ∃ F', RK H' b F' { s with h := r' } t ∧ Up F H F' H' := by
 obtain ⟨sb, F1, hc, hS, hsub, hbn, hup⟩ := h.sp
 obtain ⟨hb, F2, hR, c0, _, hsub2, _, hup2⟩ := hS.upd
 refine ⟨sb, hb, F2, hc, c0, hR, fun x hx => hsub x (hsub2 x hx), fun hm => hbn (hsub2 _ hm), fun H' F1' r' hR' hu => ?_⟩
 obtain ⟨F3, hS', hu'⟩ := hup2 H' F1' r' hR' hu
 exact hup H' F3 _ hS' hu'
def ktextW (t : TB) (w : Int) : ByteArray := if Int.tmod w 4 ≠ 2 then ⟨#[]⟩ else if h : 0 ≤ (w - 2) / 4 ∧ (w - 2) / 4 < t.texts.length then t.texts[((w - 2) / 4).toNat]'(by omega) else ⟨#[]⟩
theorem ktextW_sym {t : TB} (hw : WFT t) {n : Nat} (h : n < t.texts.length) : ktextW t (symW n) = tx t n := by
 unfold ktextW symW
 have e : (4 * (n : Int) + 2 - 2) / 4 = n := by omega
 rw [if_neg (by rw [Int.tmod_eq_emod_of_nonneg (by omega)]; omega)]
 rw [dif_pos (by omega)]
 unfold tx
 rw [List.getD_eq_getElem?_getD, List.getElem?_eq_getElem h]
 simp only [Option.getD_some]
 congr 1
 omega
section
variable {H : Heap} {b : Nat} {F : Foot} {s : SP} {t : TB} {Q : QT}
theorem slot_r (hK : RK H b F s t) {o i : Int} (h : Q (.int .i64 (kslot s.h o i)) H) : callS PP n_k120 #[.pointer (some ⟨b, 0, none⟩), .int .i64 o, .int .i64 i] Q H := by
 obtain ⟨sb, hb, F1, hc, c0, hR, _⟩ := hK.hp
 apply k120_ok
 unfold k120 iV
 exact ⟨_, rfl, _, hc, _, rfl, _, c0, rat_c hR ⟨_, _, rfl, h⟩⟩
theorem text_r (hK : RK H b F s t) {w : Int} (hw : I64 w) (h : Q (.string (ktextW t w)) H) : callS PP n_k158 #[.pointer (some ⟨b, 0, none⟩), .int .i64 w] Q H := by
 apply k158_ok
 unfold k158 iV wW
 unfold ktextW at h
 rw [bneI, cond_dec]
 refine ite_i (fun h1 => ?_) fun h1 => ?_
 · rw [if_pos h1] at h; exact h
 rw [if_neg h1] at h
 obtain ⟨tb, F2, hc, hT, _⟩ := hK.tb
 have hw1 := hw.1
 have hw2 := hw.2
 have h2 : Int.tmod w 4 = 2 := Classical.byContradiction h1
 have hge : 0 ≤ w := by
   rcases Int.lt_or_le w 0 with h3 | h3
   · exfalso
     have h4 : Int.tmod w 4 ≤ 0 := by
       have e : w = -(-w) := by omega
       rw [e, Int.neg_tmod, Int.tmod_eq_emod_of_nonneg (by omega)]
       omega
     omega
   · exact h3
 have hm : w % 4 = 2 := by rw [← h2, Int.tmod_eq_emod_of_nonneg hge]
 have e1 : IntKind.wrap .i64 (w - 2) = w - 2 := wrap64_id (by omega) (by omega)
 have e2 : Int.tdiv (w - 2) 4 = (w - 2) / 4 := Int.tdiv_eq_ediv_of_nonneg (by omega)
 have e3 : IntKind.wrap .i64 ((w - 2) / 4) = (w - 2) / 4 := wrap64_id (by omega) (by omega)
 rw [e1, e2, e3]
 refine ⟨_, rfl, _, hc, ttext_c hT ?_⟩
 unfold textV
 split at h
 · rename_i h5
   rw [dif_pos h5]
   exact ⟨_, _, rfl, h⟩
 · rename_i h5
   rw [dif_neg h5]
   exact ⟨_, _, rfl, h⟩
theorem words_r (hK : RK H b F s t) {o : Int} (h : ∀ a l c G H', Own 1 H' a l c (intsV (kwords s.h o)) G → Fr [] H H' → (∀ x ∈ G, H.size ≤ x) → Q (.slice a l c) H') : callS PP n_k118 #[.pointer (some ⟨b, 0, none⟩), .int .i64 o] Q H := by
 have hs1 : sliceInfo PP 108 = some (1, 8, some (.int .i64 0)) := by kernel_rfl
 have hn0 := size_nonneg (r := s.h) o
 have hn1 := size_le hK.wfs.h o
 apply k118_ok
 unfold k118 A0 iV wW
 obtain ⟨sb, hb, F1, hc, c0, hR, _⟩ := hK.hp
 refine ⟨_, rfl, _, hc, _, rfl, _, c0, rsize_c hR ⟨_, _, _, rfl, ?_⟩⟩
 show ∃ (I11 : List Value → Heap → Prop) (μ11 : List Value → Heap → Nat), I11 [.slice none 0 0, .int .i64 0] H ∧ ∀ w12 H2, I11 w12 H2 → ∀ _g : Nat → Value, ∃ a13 : Option Addr, ∃ l13 : Nat, ∃ c13 : Nat, ∃ n14 : Int, w12 = [.slice a13 l13 c13, .int .i64 n14] ∧ cond (decide (n14 < ksize s.h o)) _ _
 refine ⟨fun w H' => ∃ (i : Nat) (a : Option Addr) (l' c : Nat) (G : Foot), w = [.slice a l' c, .int .i64 i] ∧ (i : Int) ≤ ksize s.h o ∧ Own 1 H' a l' c (intsV ((kwords s.h o).take i)) G ∧ Fr [] H H' ∧ (∀ x ∈ G, H.size ≤ x), fun w _ => match w with
   | [_, .int _ i] => (ksize s.h o - i).toNat
   | _ => 0, ⟨0, none, 0, 0, [], rfl, hn0, by simpa [intsV] using Own.nil 1 H, Fr.refl _ _, by simp⟩, ?_⟩
 rintro w H1 ⟨i, a1, l1, c1, G, rfl, hi, ho, hf1, hG⟩ _
 have hlen : (kwords s.h o).length = (ksize s.h o).toNat := by simp [kwords]
 have hl1 : l1 = i := by have := ho.len; simp only [intsV, List.length_map, List.length_take] at this; omega
 refine ⟨_, _, _, _, rfl, ?_⟩
 rw [cond_dec]
 refine ite_i (fun hlt => ?_) fun hlt => ?_
 · have htk : (kwords s.h o).take (i + 1) = (kwords s.h o).take i ++ [kslot s.h o i] := by
     rw [List.take_add_one, List.getElem?_eq_getElem (by omega)]; simp [kwords]
   have e : IntKind.wrap .i64 ((i : Int) + 1) = ((i + 1 : Nat) : Int) := by rw [wrap64_id (by omega) (by omega)]; omega
   refine slot_r (hK.nil hf1) ⟨_, rfl, ?_⟩
   refine evS_append1 hs1 rfl (by kernel_rfl) ho rfl (by simp [oneC]) (by omega) (by decide) (by decide) fun a' c' G2 H3 g1 g2 g3 => ⟨_, _, _, rfl, ?_⟩
   have hfr := Up.fresh hf1 g2 hG
   rw [e]
   refine ⟨⟨i + 1, a', l1 + 1, c', G2, rfl, by omega, ?_, hfr.1, hfr.2⟩, by simp; omega⟩
   rw [htk, intsV_append]; exact g1
 · rw [List.take_of_length_le (by omega)] at ho
   exact h _ _ _ _ H1 ho hf1 hG
end
theorem refOop_obj {o : Int} (h : 1 ≤ o) : refOop (4 * o) = o := by
 unfold refOop; rw [if_pos (by omega)]; omega
theorem I64_small {n : Int} (h0 : -1000000000000 ≤ n) (h1 : n ≤ 1000000000000) : I64 n := ⟨by omega, by omega⟩
section
variable {H : Heap} {b : Nat} {F : Foot} {s : SP} {t : TB} {v : KV} {Q : QT}
theorem root_r (hK : RK H b F s t) (hv : KS s v) {i : Int} {x : Int} (hx : kslot s.h 19 i = 4 * x) (h0 : 1 ≤ x) (h1 : x ≤ 65536) {Q : QT} (h : Q (.int .i64 x) H) :
   callS PP n_k120 #[.pointer (some ⟨b, 0, none⟩), .int .i64 19, .int .i64 i] (fun v2 H1 => ∃ n3 : Int, v2 = .int .i64 n3 ∧ callS PP n_k119 #[.int .i64 n3] Q H1) H := by
 refine slot_r hK ⟨_, rfl, ?_⟩
 rw [hx]
 refine refOop13_c (I64_small (by omega) (by omega)) ?_
 rw [refOop_obj h0]; exact h
theorem KS.s0 (h : KS s v) : kslot s.h 19 0 = 4 * v.clsA ∧ 1 ≤ v.clsA ∧ v.clsA ≤ 65536 := by
 have hb := h.view.all.bnd h.wf.h
 exact ⟨h.view.root.kslot (i := 0) (by simp [KV.rootW]), hb.1, hb.2.1⟩
theorem KS.s1 (h : KS s v) : kslot s.h 19 1 = 4 * v.globA ∧ 1 ≤ v.globA ∧ v.globA ≤ 65536 := by
 have hb := h.view.globs.bnd h.wf.h
 exact ⟨h.view.root.kslot (i := 1) (by simp [KV.rootW]), hb.1, hb.2.1⟩
def oopsK (v : KV) : List Int := v.cls.map (·.oop)
theorem all_r (hK : RK H b F s t) (hv : KS s v) (h : ∀ a l c G H', Own 1 H' a l c (intsV (oopsK v)) G → Fr [] H H' → (∀ x ∈ G, H.size ≤ x) → Q (.slice a l c) H') : callS PP n_k40 #[.pointer (some ⟨b, 0, none⟩)] Q H := by
 have hs1 : sliceInfo PP 66 = some (1, 8, some (.int .i64 0)) := by kernel_rfl
 have hm1 := hv.shape.many1
 obtain ⟨e0, b0, b1⟩ := KS.s0 hv
 apply k40_ok
 unfold k40 A0 iV wW
 refine root_r hK hv e0 b0 b1 ⟨_, rfl, words_r hK fun aw lw cw Gw H0 how hfw hGw => ⟨_, _, _, rfl, ?_⟩⟩
 rw [show kwords s.h v.clsA = v.clsW from hv.view.all.kwords] at how
 have hlw : lw = v.cls.length := by have := how.len; simpa [intsV, KV.clsW] using this.symm
 have hlen : (oopsK v).length = v.cls.length := by simp [oopsK]
 refine ⟨fun w H' => ∃ (i : Nat) (a : Option Addr) (l' c : Nat) (G : Foot), w = [.slice a l' c, .int .i64 i] ∧ i ≤ v.cls.length ∧ Own 1 H' a l' c (intsV ((oopsK v).take i)) G ∧ Fr [] H0 H' ∧ (∀ x ∈ G, H0.size ≤ x), fun w _ => match w with
   | [_, .int _ i] => (v.cls.length - i).toNat
   | _ => 0, ⟨0, none, 0, 0, [], rfl, Nat.zero_le _, by simpa [intsV] using Own.nil 1 H0, Fr.refl _ _, by simp⟩, ?_⟩
 rintro w H1 ⟨i, a1, l1, c1, G, rfl, hi, ho, hf1, hG⟩ _
 have hl1 : l1 = i := by have := ho.len; simp only [intsV, List.length_map, List.length_take] at this; omega
 refine ⟨_, _, _, _, rfl, ?_⟩
 rw [cond_dec]
 refine ite_i (fun hlt => ?_) fun hlt => ?_
 · have hlt' : i < v.cls.length := by omega
   obtain ⟨p, rfl, hcell, hlt2⟩ := (how.rd.fr' hf1 (by simp)).int (i := (i : Int)) (by omega) hlt
   rw [Int.toNat_natCast] at hcell hlt2
   have hx : v.clsW.getD i 0 = 4 * (v.cls[i]).oop := by simp [KV.clsW, hlt']
   rw [hx] at hcell
   have hb := up_arr hv hlt'
   have htk : (oopsK v).take (i + 1) = (oopsK v).take i ++ [(v.cls[i]).oop] := by
     rw [List.take_add_one, List.getElem?_eq_getElem (by omega)]; simp [oopsK]
   have e : IntKind.wrap .i64 ((i : Int) + 1) = ((i + 1 : Nat) : Int) := by rw [wrap64_id (by omega) (by omega)]; omega
   refine ⟨⟨by omega, hlt⟩, _, rfl, _, by rw [Int.toNat_natCast, Nat.mul_one]; exact hcell, refOop13_c (I64_small (by omega) (by omega)) ⟨_, rfl, ?_⟩⟩
   rw [refOop_obj hb.1]
   refine evS_append1 hs1 rfl (by kernel_rfl) ho rfl (by simp [oneC]) (by omega) (by decide) (by decide) fun a' c' G2 H3 g1 g2 g3 => ⟨_, _, _, rfl, ?_⟩
   have hfr := Up.fresh hf1 g2 hG
   rw [e]
   refine ⟨⟨i + 1, a', l1 + 1, c', G2, rfl, by omega, ?_, hfr.1, hfr.2⟩, by simp; omega⟩
   rw [htk, intsV_append]; exact g1
 · rw [List.take_of_length_le (by omega)] at ho
   exact h _ _ _ _ H1 ho (hfw.trans hf1) fun x hx => Nat.le_trans hfw.1 (hG x hx)
theorem rd_oops {a : Option Addr} {l c : Nat} {G : Foot} (ho : Own 1 H a l c (intsV (oopsK v)) G) {H' : Heap} (hf : Fr [] H H') {i : Nat} (hi : i < v.cls.length) : ∃ p, a = some p ∧ cellH H' (p.add (i * 1)) = some (.int .i64 (v.cls[i]).oop) := by
 have hl : l = v.cls.length := by have := ho.len; simpa [intsV, oopsK] using this.symm
 obtain ⟨p, hp, hcell, hlt2⟩ := (ho.rd.fr' hf (by simp)).int (i := (i : Int)) (by omega) (by omega)
 rw [Int.toNat_natCast] at hcell
 refine ⟨p, hp, ?_⟩
 rw [Nat.mul_one, hcell]
 simp [oopsK, hi]
def placeN (v : KV) (o : Int) : Int := match plK v o with
 | some i => (i : Int) + 1
 | none => 0
theorem place_r (hK : RK H b F s t) (hv : KS s v) {o : Int} (h : ∀ H', Fr [] H H' → Q (.int .i64 (placeN v o)) H') : callS PP n_k220 #[.pointer (some ⟨b, 0, none⟩), .int .i64 o] Q H := by
 have hm1 := hv.shape.many1
 apply k220_ok
 unfold k220 iV wW
 refine all_r hK hv fun a l c G H1 ho hf1 hG => ⟨_, _, _, rfl, ?_⟩
 have hl : l = v.cls.length := by have := ho.len; simpa [intsV, oopsK] using this.symm
 refine ⟨fun w H' => H' = H1 ∧ ∃ i : Nat, w = [.int .i64 i] ∧ i ≤ v.cls.length ∧ ∀ j (hj : j < v.cls.length), j < i → (v.cls[j]).oop ≠ o, fun w _ => match w with
   | [.int _ i] => (v.cls.length - i).toNat
   | _ => 0, ⟨rfl, 0, rfl, Nat.zero_le _, fun j _ hj => by omega⟩, ?_⟩
 rintro w H2 ⟨rfl, i, rfl, hi, hall⟩ _
 refine ⟨_, rfl, ?_⟩
 rw [cond_dec]
 refine ite_i (fun hlt => ?_) fun hlt => ?_
 · have hlt' : i < v.cls.length := by omega
   obtain ⟨p, rfl, hcell⟩ := rd_oops ho (Fr.refl _ _) hlt'
   have e : IntKind.wrap .i64 ((i : Int) + 1) = ((i + 1 : Nat) : Int) := by rw [wrap64_id (by omega) (by omega)]; omega
   have hb := (up_arr hv hlt').1
   refine ⟨⟨by omega, hlt⟩, _, rfl, _, by rw [Int.toNat_natCast]; exact hcell, ?_⟩
   rw [beqI, cond_dec]
   refine ite_i (fun he => ?_) fun he => ?_
   · rw [cond_dec, if_pos (by omega), e]
     have : placeN v o = ((i + 1 : Nat) : Int) := by
       unfold placeN
       rw [← he, hv.idx hlt']
       simp
     rw [← this]; exact h _ hf1
   · rw [e]
     refine ⟨⟨rfl, i + 1, rfl, by omega, fun j hj hji => ?_⟩, by simp; omega⟩
     rcases Nat.lt_or_ge j i with h5 | h5
     · exact hall j hj h5
     · have : j = i := by omega
       subst this; exact he
 · have : placeN v o = 0 := by
     unfold placeN
     cases hp : plK v o with
     | none => rfl
     | some j =>
       obtain ⟨hj, e⟩ := plK_some hp
       exact absurd e (hall j hj (by omega))
   rw [← this]; exact h _ hf1
theorem up_r (hK : RK H b F s t) (hv : KS s v) {i : Nat} (hi : i < v.cls.length) (h : Q (.int .i64 (superK v i)) H) : callS PP n_k224 #[.pointer (some ⟨b, 0, none⟩), .int .i64 (v.cls[i]).oop] Q H := by
 have hb := hv.upB hi
 apply k224_ok
 unfold k224 iV
 refine slot_r hK ⟨_, rfl, ?_⟩
 rw [hv.c1 hi]
 refine refOop13_c (I64_small (by omega) (by omega)) ⟨_, rfl, ?_⟩
 rw [refOop_obj hb.1, beqI, cond_dec]
 unfold superK at h
 rw [List.getElem?_eq_getElem hi] at h
 simp only at h
 refine ite_i (fun h1 => ?_) fun h1 => ?_
 · rw [if_pos h1] at h; exact h
 · rw [if_neg h1] at h; exact h
theorem name_r (hK : RK H b F s t) (hv : KAll s t v) {i : Nat} (hi : i < v.cls.length) {Q : QT} (h : Q (.string (tx t (v.cls[i]).name)) H) :
   callS PP n_k120 #[.pointer (some ⟨b, 0, none⟩), .int .i64 (v.cls[i]).oop, .int .i64 0] (fun v2 H1 => ∃ n3 : Int, v2 = .int .i64 n3 ∧ callS PP n_k158 #[.pointer (some ⟨b, 0, none⟩), .int .i64 n3] Q H1) H := by
 have hn := hv.names.name _ (List.getElem_mem hi)
 have h3 := hv.names.wf.m1
 have h4 := hv.names.wf.len
 refine slot_r hK ⟨_, rfl, ?_⟩
 rw [hv.ks.c0 hi]
 refine text_r hK (I64_small (by unfold symW; omega) (by unfold symW; omega)) ?_
 rw [ktextW_sym hv.names.wf hn]; exact h
theorem find_r (hK : RK H b F s t) (hv : KAll s t v) {name : ByteArray} (h : ∀ H', Fr [] H H' → Q (.tuple #[.int .i64 (findK v t name).1, .int .i64 (findK v t name).2]) H') : callS PP n_k110 #[.pointer (some ⟨b, 0, none⟩), .string name] Q H := by
 have hm1 := hv.ks.shape.many1
 apply k110_ok
 unfold k110 iV wW
 refine all_r hK hv.ks fun a l c G H1 ho hf1 hG => ⟨_, _, _, rfl, ?_⟩
 have hl : l = v.cls.length := by have := ho.len; simpa [intsV, oopsK] using this.symm
 have hK1 := hK.nil hf1
 refine ⟨fun w H' => H' = H1 ∧ ∃ i : Nat, w = [.int .i64 i] ∧ i ≤ v.cls.length ∧ ∀ j (hj : j < v.cls.length), j < i → tx t (v.cls[j]).name ≠ name, fun w _ => match w with
   | [.int _ i] => (v.cls.length - i).toNat
   | _ => 0, ⟨rfl, 0, rfl, Nat.zero_le _, fun j _ hj => by omega⟩, ?_⟩
 rintro w H2 ⟨rfl, i, rfl, hi, hno⟩ _
 refine ⟨_, rfl, ?_⟩
 rw [cond_dec]
 refine ite_i (fun hlt => ?_) fun hlt => ?_
 · have hlt' : i < v.cls.length := by omega
   obtain ⟨p, rfl, hcell⟩ := rd_oops ho (Fr.refl _ _) hlt'
   have e : IntKind.wrap .i64 ((i : Int) + 1) = ((i + 1 : Nat) : Int) := by rw [wrap64_id (by omega) (by omega)]; omega
   refine ⟨⟨by omega, hlt⟩, _, rfl, _, by rw [Int.toNat_natCast]; exact hcell, name_r hK1 hv hlt' ⟨_, rfl, ?_⟩⟩
   rw [strEq_dec, cond_dec]
   refine ite_i (fun he => ?_) fun he => ?_
   · have hfd : findK v t name = ((v.cls[i]).oop, 0) := by
       unfold findK
       have : v.cls.findIdx? (fun c => decide (tx t c.name = name)) = some i := by
         rw [List.findIdx?_eq_some_iff_getElem]
         exact ⟨hlt', by simpa using he, fun j hj => by simpa using hno j (by omega) hj⟩
       rw [this]
       simp [hlt']
     rw [hfd] at h
     exact ⟨⟨by omega, hlt⟩, _, rfl, _, by rw [Int.toNat_natCast]; exact hcell, h _ hf1⟩
   · rw [e]
     refine ⟨⟨rfl, i + 1, rfl, by omega, fun j hj hji => ?_⟩, by simp; omega⟩
     rcases Nat.lt_or_ge j i with h1 | h1
     · exact hno j hj h1
     · have : j = i := by omega
       subst this; exact he
 · have hfd : findK v t name = (0, 130) := by
     unfold findK
     have : v.cls.findIdx? (fun c => decide (tx t c.name = name)) = none := by
       rw [List.findIdx?_eq_none_iff]
       intro c hc
       obtain ⟨j, hj, rfl⟩ := hv.ks.view.idx hc
       simpa using hno j hj (by omega)
     rw [this]
   rw [hfd] at h
   exact h _ hf1
theorem numbered_r (hK : RK H b F s t) (hv : KAll s t v) {n : Int} (h : ∀ H', Fr [] H H' → Q (.tuple #[.int .i64 (numberedK v n).1, .int .i64 (numberedK v n).2]) H') : callS PP n_k111 #[.pointer (some ⟨b, 0, none⟩), .int .i64 n] Q H := by
 have hm1 := hv.ks.shape.many1
 apply k111_ok
 unfold k111 iV wW
 unfold numberedK at h
 refine all_r hK hv.ks fun a l c G H1 ho hf1 hG => ⟨_, _, _, rfl, ?_⟩
 have hl : l = v.cls.length := by have := ho.len; simpa [intsV, oopsK] using this.symm
 rw [cond_dec]
 refine ite_i (fun h1 => ?_) fun h1 => ?_
 · rw [dif_neg (by omega)] at h; exact h _ hf1
 rw [cond_dec]
 refine ite_i (fun h2 => ?_) fun h2 => ?_
 · rw [dif_neg (by omega)] at h; exact h _ hf1
 rw [dif_pos (by omega)] at h
 have e : IntKind.wrap .i64 (n - 1) = ((n - 1).toNat : Nat) := by rw [wrap64_id (by omega) (by omega)]; omega
 rw [e]
 obtain ⟨p, rfl, hcell⟩ := rd_oops ho (Fr.refl _ _) (i := (n - 1).toNat) (by omega)
 exact ⟨⟨by omega, by omega⟩, _, rfl, _, by rw [Int.toNat_natCast]; exact hcell, h _ hf1⟩
theorem number_r (hK : RK H b F s t) (hv : KAll s t v) {o : Int} (h : ∀ H', Fr [] H H' → Q (match plK v o with | some i => .tuple #[.int .i64 ((i : Int) + 1), .int .i64 0] | none => .tuple #[.int .i64 0, .int .i64 130]) H') : callS PP n_k189 #[.pointer (some ⟨b, 0, none⟩), .int .i64 o] Q H := by
 apply k189_ok
 unfold k189 iV
 refine place_r hK hv.ks fun H1 hf1 => ⟨_, rfl, ?_⟩
 have := h H1 hf1
 unfold placeN
 cases hp : plK v o with
 | none => rw [hp] at this; exact this
 | some i =>
   rw [hp] at this
   rw [beqI, cond_dec, if_neg (by simp only; omega)]; exact this
theorem super_r (hK : RK H b F s t) (hv : KAll s t v) {o : Int} (h : ∀ H', Fr [] H H' → Q (match plK v o with | some i => .tuple #[.int .i64 (superK v i), .int .i64 0] | none => .tuple #[.int .i64 0, .int .i64 130]) H') : callS PP n_k191 #[.pointer (some ⟨b, 0, none⟩), .int .i64 o] Q H := by
 apply k191_ok
 unfold k191 iV
 refine place_r hK hv.ks fun H1 hf1 => ⟨_, rfl, ?_⟩
 have := h H1 hf1
 unfold placeN
 cases hp : plK v o with
 | none => rw [hp] at this; exact this
 | some i =>
   rw [hp] at this
   obtain ⟨hi, rfl⟩ := plK_some hp
   rw [beqI, cond_dec, if_neg (by simp only; omega)]
   exact up_r (hK.nil hf1) hv.ks hi ⟨_, rfl, this⟩
theorem of_r (hK : RK H b F s t) (hv : KAll s t v) {w : Int} (h : Q (.tuple #[.int .i64 (ofK s.h w).1, .int .i64 (ofK s.h w).2]) H) : callS PP n_k113 #[.pointer (some ⟨b, 0, none⟩), .int .i64 w] Q H := by
 have hk := kind_cases w
 apply k113_ok
 unfold k113 iV
 unfold ofK at h
 refine ⟨fun x H' => x = [] ∧ H' = H ∧ kindW w ≠ 1, refIs_c ⟨_, rfl, ?_⟩, ?_⟩
 · rw [cond_dec]
   refine ite_i (fun h1 => ?_) fun h1 => ⟨rfl, rfl, fun e => h1 (by unfold isW; omega)⟩
   rw [bneI, cond_dec]
   refine ite_i (fun h2 => ?_) fun h2 => ⟨rfl, rfl, fun e => h2 ?_⟩
   · have h3 : kindW w = 1 := by
       have h4 : w % 2 ≠ 0 := fun e => h2 (Int.dvd_iff_tmod_eq_zero.1 (Int.dvd_of_emod_eq_zero e))
       unfold isW at h1
       omega
     rw [if_pos h3] at h; exact h
   · intro e2
     have h4 : w % 2 = 0 := Int.emod_eq_zero_of_dvd (Int.dvd_of_tmod_eq_zero e2)
     omega
 rintro x H1 ⟨rfl, rfl, h1⟩ _
 rw [if_neg h1] at h
 refine ⟨rfl, refIs_c ⟨_, rfl, ?_⟩⟩
 rw [← decide_not, cond_dec]
 refine ite_i (fun h2 => ?_) fun h2 => ?_
 · rw [if_neg (by unfold isW at h2; omega), if_neg (by unfold isW at h2; omega)] at h
   exact h
 have hw : isW w := Classical.byContradiction h2
 unfold isW at hw
 have hge : 0 ≤ w := by omega
 rw [beqI, cond_dec, Int.tmod_eq_emod_of_nonneg hge]
 refine ite_i (fun h3 => ?_) fun h3 => ?_
 · rw [if_pos (by omega)] at h; exact h
 have h3' : kindW w = 3 := by omega
 rw [if_neg (by omega), if_pos h3'] at h
 obtain ⟨sb, hb, F1, hc, c0, hR, _⟩ := hK.hp
 have hro : refOop w = w / 4 := by unfold refOop; rw [if_pos (by omega)]
 refine ⟨_, rfl, _, hc, _, rfl, _, c0, refOop13_c (I64_small (by omega) (by omega)) ⟨_, rfl, ⟨⟨c0, trivial⟩, ⟨hc, trivial⟩, trivial⟩, rclass_c hR ?_⟩⟩
 rw [hro]
 unfold RH.clsAt at h ⊢
 cases ho : objAt s.h.objs (w / 4) with
 | none => rw [ho] at h; exact ⟨_, _, rfl, trivial, h⟩
 | some x =>
   rw [ho] at h
   refine ⟨_, _, rfl, trivial, ?_⟩
   have hcl := hv.ks.gc x (objAt_some ho).1
   have hk2 := kind_cases x.cls
   simp only [show ((0 : Int) != 0) = false from rfl, cond_false]
   refine refOop13_c (I64_small (by omega) (by omega)) ⟨_, rfl, ?_⟩
   have hro2 : refOop x.cls = x.cls / 4 := by unfold refOop; rw [if_pos (by omega)]
   rw [hro2]
   simp only [oopW, if_pos hcl] at h
   exact h
end
section
variable {H : Heap} {b : Nat} {F : Foot} {s : SP} {t : TB} {v : KV} {Q : QT}
theorem class_k (hK : PK H b F s t) (hv : KAll s t v) {o : Int} (h : ∀ H', Fr [] H H' → Q (.bool (plK v o).isSome) H') : callS PP n_k245 #[rd b, .int .i64 o] Q H := by
 have hm1 := hv.ks.shape.many1
 apply k245_ok
 unfold k245 A0 iV wW
 have hf : Fr [] H (H.push (.cells #[.pointer (some ⟨b, 0, none⟩)] 131)) := Fr.push _ _ _
 have hB := Blk.new H #[.pointer (some ⟨b, 0, none⟩)] 131
 refine ⟨_, hB.cell 0, num_k (hK.nil hf) fun H1 hf1 => ⟨_, rfl, _, (hB.fr hf1 (by simp)).cell 0, ?_⟩⟩
 have hF1 := hf.trans hf1
 refine root_k (hK.nil hF1) fun H2 hf2 => ⟨_, rfl, ?_⟩
 rw [hv.ks.root0]
 have hF2 := hF1.trans hf2
 have hB2 := (hB.fr hf1 (by simp)).fr hf2 (by simp)
 cases hp : plK v o with
 | some i =>
   rw [hp] at h
   obtain ⟨hi, he⟩ := plK_some hp
   have hb := (up_arr hv.ks hi).1
   have hn : knum s.h o 6 = (i : Int) + 1 := by rw [← he]; exact hv.ks.num hi
   rw [hn, cond_dec, if_pos (by omega), cond_dec, if_pos (by omega)]
   refine ⟨_, hB2.cell 0, size_k (hK.nil hF2) fun H3 hf3 => ⟨_, rfl, ?_⟩⟩
   rw [hv.ks.size0, cond_dec, if_pos (by omega)]
   refine ⟨_, (hB2.fr hf3 (by simp)).cell 0, oop_k (hK.nil (hF2.trans hf3)) fun H4 hf4 => ⟨_, rfl, ?_⟩⟩
   have e : IntKind.wrap .i64 ((i : Int) + 1 - 1) = (i : Nat) := by rw [wrap64_id (by omega) (by omega)]; omega
   rw [e, (hv.ks.clsAt hi).2, he]
   have := h H4 ((hF2.trans hf3).trans hf4)
   simpa using this
 | none =>
   rw [hp] at h
   rw [cond_dec]
   refine ite_i (fun h1 => ?_) fun h1 => h _ hF2
   rw [cond_dec]
   refine ite_i (fun h2 => ?_) fun h2 => h _ hF2
   refine ⟨_, hB2.cell 0, size_k (hK.nil hF2) fun H3 hf3 => ⟨_, rfl, ?_⟩⟩
   rw [hv.ks.size0, cond_dec]
   refine ite_i (fun h3 => ?_) fun h3 => h _ (hF2.trans hf3)
   refine ⟨_, (hB2.fr hf3 (by simp)).cell 0, oop_k (hK.nil (hF2.trans hf3)) fun H4 hf4 => ⟨_, rfl, ?_⟩⟩
   have hi : (knum s.h o 6 - 1).toNat < v.cls.length := by omega
   have e : IntKind.wrap .i64 (knum s.h o 6 - 1) = ((knum s.h o 6 - 1).toNat : Nat) := by rw [wrap64_id (by omega) (by omega)]; omega
   have hne := plK_none hp _ hi
   rw [e, (hv.ks.clsAt hi).2]
   have := h H4 ((hF2.trans hf3).trans hf4)
   rw [beqI, decide_eq_false hne]; exact this
theorem look_k (hK : PK H b F s t) (hv : KAll s t v) {o : Int} (h1 : ∀ i, plK v o = some i → ∀ H', Fr [] H H' → Q (.tuple #[rd b, .int .i64 0]) H') (h2 : plK v o = none → ∀ H', Fr [] H H' → Q (.tuple #[.agg #[.pointer none], .int .i64 130]) H') : callS PP n_k177 #[.pointer (some ⟨b, 0, none⟩), .int .i64 o] Q H := by
 apply k177_ok
 unfold k177 A0 iV; dsimp only [shH]
 have hf : Fr [] H (H.push (.cells #[.pointer none] 131)) := Fr.push _ _ _
 have hB := Blk.new H #[.pointer none] 131
 have hK1 := hK.nil hf
 generalize (H.push (.cells #[.pointer none] 131)) = H1 at hf hB hK1 ⊢
 refine there_c hK1 ⟨_, rfl, ?_⟩
 simp only [Bool.not_true, cond_false]
 rw [locB]
 have hf1 : Fr [] H1 (H1.push (.cells #[.pointer (some ⟨b, 0, none⟩)] 131)) := Fr.push _ _ _
 have hB1 := Blk.new H1 #[.pointer (some ⟨b, 0, none⟩)] 131
 refine ⟨Wr_push.2 (by simp), _, hB1.cell 0, class_k (hK1.nil hf1) hv fun H2 hf2 => ⟨_, rfl, ?_⟩⟩
 have hB2 := (hB.fr hf1 (by simp)).fr hf2 (by simp)
 have hF2 := (hf.trans hf1).trans hf2
 have hset : ∀ x, Fr [] H (setH H2 ⟨H.size, 0, none⟩ x) := fun x => Fr.late hF2 (Nat.le_refl _)
 cases hp : plK v o with
 | none =>
   simp only [Option.isSome_none, Bool.not_false, cond_true]
   exact ⟨hB2.wr (by simp), _, (hB2.set 0 _).cell 0, h2 hp _ (hset _)⟩
 | some i =>
   simp only [Option.isSome_some, Bool.not_true, cond_false]
   exact ⟨_, (hB1.fr hf2 (by simp)).cell 0, hB2.wr (by simp), _, (hB2.set 0 _).cell 0, h1 i hp _ (hset _)⟩
theorem number_k (hK : PK H b F s t) (hv : KAll s t v) {o : Int} (h : ∀ H', Fr [] H H' → Q (match plK v o with | some i => .tuple #[.int .i64 ((i : Int) + 1), .int .i64 0] | none => .tuple #[.int .i64 0, .int .i64 130]) H') : callS PP n_k188 #[.pointer (some ⟨b, 0, none⟩), .int .i64 o] Q H := by
 apply k188_ok
 unfold k188 A0 iV; dsimp only [shH]
 refine look_k hK hv (fun i hp H1 hf => ?_) fun hp H1 hf => ?_
 · refine ⟨_, _, rfl, Wr_push.2 (by simp), ?_⟩
   rw [hp] at h
   simp only [show ((0 : Int) != 0) = false from rfl, cond_false]
   rw [locB]
   have hf1 : Fr [] H1 (H1.push (.cells #[.pointer (some ⟨b, 0, none⟩)] 131)) := Fr.push _ _ _
   obtain ⟨hi, he⟩ := plK_some hp
   refine ⟨_, (Blk.new H1 _ _).cell 0, num_k (hK.nil (hf.trans hf1)) fun H2 hf2 => ⟨_, rfl, ?_⟩⟩
   have hn : knum s.h o 6 = (i : Int) + 1 := by rw [← he]; exact hv.ks.num hi
   rw [hn]; exact h _ ((hf.trans hf1).trans hf2)
 · refine ⟨_, _, rfl, Wr_push.2 (by simp), ?_⟩
   rw [hp] at h
   simp only [show ((130 : Int) != 0) = true from rfl, cond_true]
   rw [locB]
   exact h _ hf.more
theorem ksuper_k (hK : PK H b F s t) (hv : KAll s t v) {o : Int} (h : ∀ H', Fr [] H H' → Q (match plK v o with | some i => .tuple #[.int .i64 (superK v i), .int .i64 0] | none => .tuple #[.int .i64 0, .int .i64 130]) H') : callS PP n_k190 #[.pointer (some ⟨b, 0, none⟩), .int .i64 o] Q H := by
 apply k190_ok
 unfold k190 A0 iV; dsimp only [shH]
 refine look_k hK hv (fun i hp H1 hf => ?_) fun hp H1 hf => ?_
 · refine ⟨_, _, rfl, Wr_push.2 (by simp), ?_⟩
   rw [hp] at h
   simp only [show ((0 : Int) != 0) = false from rfl, cond_false]
   rw [locB]
   have hf1 : Fr [] H1 (H1.push (.cells #[.pointer (some ⟨b, 0, none⟩)] 131)) := Fr.push _ _ _
   obtain ⟨hi, he⟩ := plK_some hp
   refine ⟨_, (Blk.new H1 _ _).cell 0, super_k (hK.nil (hf.trans hf1)) fun H2 hf2 => ⟨_, rfl, ?_⟩⟩
   have hn : koop s.h o 1 = (v.cls[i]).up := by rw [← he]; exact hv.ks.up hi
   have := h _ ((hf.trans hf1).trans hf2)
   simp only [superK, List.getElem?_eq_getElem hi] at this
   rw [hn]; exact this
 · refine ⟨_, _, rfl, Wr_push.2 (by simp), ?_⟩
   rw [hp] at h
   simp only [show ((130 : Int) != 0) = true from rfl, cond_true]
   rw [locB]
   exact h _ hf.more
theorem layout_k (hK : PK H b F s t) (hv : KAll s t v) {o : Int} (h : ∀ H', Fr [] H H' → Q (match plK v o with | some i => .tuple #[.int .i64 (infoK v t i).lay, .int .i64 0] | none => .tuple #[.int .i64 0, .int .i64 130]) H') : callS PP n_k192 #[.pointer (some ⟨b, 0, none⟩), .int .i64 o] Q H := by
 apply k192_ok
 unfold k192 A0 iV; dsimp only [shH]
 refine look_k hK hv (fun i hp H1 hf => ?_) fun hp H1 hf => ?_
 · refine ⟨_, _, rfl, Wr_push.2 (by simp), ?_⟩
   rw [hp] at h
   simp only [show ((0 : Int) != 0) = false from rfl, cond_false]
   rw [locB]
   have hf1 : Fr [] H1 (H1.push (.cells #[.pointer (some ⟨b, 0, none⟩)] 131)) := Fr.push _ _ _
   obtain ⟨hi, he⟩ := plK_some hp
   refine ⟨_, (Blk.new H1 _ _).cell 0, num_k (hK.nil (hf.trans hf1)) fun H2 hf2 => ⟨_, rfl, ?_⟩⟩
   have hn : knum s.h o 5 = (infoK v t i).lay := by
     rw [← he, hv.ks.layN hi]
     unfold infoK
     rw [List.getElem?_eq_getElem hi]
   rw [hn]; exact h _ ((hf.trans hf1).trans hf2)
 · refine ⟨_, _, rfl, Wr_push.2 (by simp), ?_⟩
   rw [hp] at h
   simp only [show ((130 : Int) != 0) = true from rfl, cond_true]
   rw [locB]
   exact h _ hf.more
theorem count_ks (hK : PK H b F s t) (hv : KS s v) (h : ∀ H', Fr [] H H' → Q (.int .i64 (v.cls.length : Int)) H') : callS PP n_k70 #[.pointer (some ⟨b, 0, none⟩)] Q H := by
 apply k70_ok
 unfold k70 A0 iV; dsimp only [shH]
 refine there_c hK ⟨_, rfl, ?_⟩
 simp only [Bool.not_true, cond_false]
 rw [locB]
 have hf1 : Fr [] H (H.push (.cells #[.pointer (some ⟨b, 0, none⟩)] 131)) := Fr.push _ _ _
 have hB := Blk.new H #[.pointer (some ⟨b, 0, none⟩)] 131
 refine ⟨Wr_push.2 (by simp), _, hB.cell 0, _, hB.cell 0, root_k (hK.nil hf1) fun H2 hf2 => ⟨_, rfl, ⟨⟨(hB.fr hf2 (by simp)).cell 0, trivial⟩, trivial⟩, ?_⟩⟩
 rw [hv.root0]
 refine size_k (hK.nil (hf1.trans hf2)) fun H3 hf3 => ⟨_, rfl, trivial, ?_⟩
 rw [hv.size0]; exact h _ ((hf1.trans hf2).trans hf3)
theorem count_k (hK : PK H b F s t) (hv : KAll s t v) (h : ∀ H', Fr [] H H' → Q (.int .i64 (v.cls.length : Int)) H') : callS PP n_k70 #[.pointer (some ⟨b, 0, none⟩)] Q H := count_ks hK hv.ks h
theorem count_nil (h : Q (.int .i64 0) H) : callS PP n_k70 #[.pointer none] Q H := by
 apply k70_ok
 unfold k70 A0 iV; dsimp only [shH]
 exact there_nil ⟨_, rfl, h⟩
theorem numbered_k (hK : PK H b F s t) (hv : KAll s t v) {n : Int} (h : ∀ H', Fr [] H H' → Q (.tuple #[.int .i64 (numberedK v n).1, .int .i64 (numberedK v n).2]) H') : callS PP n_k14 #[.pointer (some ⟨b, 0, none⟩), .int .i64 n] Q H := by
 have hm1 := hv.ks.shape.many1
 apply k14_ok
 unfold k14 A0 iV wW; dsimp only [shH]
 unfold numberedK at h
 refine there_c hK ⟨_, rfl, ?_⟩
 simp only [Bool.not_true, cond_false]
 rw [locB]
 have hf1 : Fr [] H (H.push (.cells #[.pointer (some ⟨b, 0, none⟩)] 131)) := Fr.push _ _ _
 have hB := Blk.new H #[.pointer (some ⟨b, 0, none⟩)] 131
 refine ⟨Wr_push.2 (by simp), _, hB.cell 0, root_k (hK.nil hf1) fun H2 hf2 => ⟨_, rfl, ?_⟩⟩
 rw [hv.ks.root0, cond_dec]
 have hF2 := hf1.trans hf2
 refine ite_i (fun h1 => ?_) fun h1 => ?_
 · rw [dif_neg (by omega)] at h; exact h _ hF2
 have hB2 := hB.fr hf2 (by simp)
 refine ⟨_, hB2.cell 0, size_k (hK.nil hF2) fun H3 hf3 => ⟨_, rfl, ?_⟩⟩
 rw [hv.ks.size0, cond_dec]
 refine ite_i (fun h2 => ?_) fun h2 => ?_
 · rw [dif_neg (by omega)] at h; exact h _ (hF2.trans hf3)
 rw [dif_pos (by omega)] at h
 refine ⟨_, (hB2.fr hf3 (by simp)).cell 0, oop_k (hK.nil (hF2.trans hf3)) fun H4 hf4 => ⟨_, rfl, ?_⟩⟩
 have e : IntKind.wrap .i64 (n - 1) = ((n - 1).toNat : Nat) := by rw [wrap64_id (by omega) (by omega)]; omega
 rw [e, (hv.ks.clsAt (by omega)).2]
 exact h _ ((hF2.trans hf3).trans hf4)
theorem kfind_k (hK : PK H b F s t) (hv : KAll s t v) {name : ByteArray} (h : ∀ H', Fr [] H H' → Q (.tuple #[.int .i64 (findK v t name).1, .int .i64 (findK v t name).2]) H') : callS PP n_k66 #[.pointer (some ⟨b, 0, none⟩), .string name] Q H := by
 have hm1 := hv.ks.shape.many1
 apply k66_ok
 unfold k66 A0 iV wW; dsimp only [shH]
 refine there_c hK ⟨_, rfl, ?_⟩
 simp only [Bool.not_true, cond_false]
 rw [locB]
 have hf1 : Fr [] H (H.push (.cells #[.pointer (some ⟨b, 0, none⟩)] 131)) := Fr.push _ _ _
 have hB := Blk.new H #[.pointer (some ⟨b, 0, none⟩)] 131
 refine ⟨Wr_push.2 (by simp), _, hB.cell 0, root_k (hK.nil hf1) fun H2 hf2 => ⟨_, rfl, ?_⟩⟩
 rw [hv.ks.root0]
 have hF2 := hf1.trans hf2
 have hB2 := hB.fr hf2 (by simp)
 refine ⟨_, hB2.cell 0, size_k (hK.nil hF2) fun H3 hf3 => ⟨_, rfl, ?_⟩⟩
 rw [hv.ks.size0]
 have hF3 := hF2.trans hf3
 have hB3 := hB2.fr hf3 (by simp)
 refine ⟨fun w H' => ∃ i : Nat, w = [.int .i64 i] ∧ i ≤ v.cls.length ∧ Fr [] H3 H' ∧ ∀ j (hj : j < v.cls.length), j < i → tx t (v.cls[j]).name ≠ name, fun w _ => match w with
   | [.int _ i] => (v.cls.length - i).toNat
   | _ => 0, ⟨0, rfl, Nat.zero_le _, Fr.refl _ _, fun j _ hj => by omega⟩, ?_⟩
 rintro w H4 ⟨i, rfl, hi, hf4, hno⟩ _
 have hF4 := hF3.trans hf4
 have hB4 := hB3.fr hf4 (by simp)
 refine ⟨_, rfl, ?_⟩
 rw [cond_dec]
 refine ite_i (fun hlt => ?_) fun hlt => ?_
 · have hlt' : i < v.cls.length := by omega
   refine ⟨_, hB4.cell 0, oop_k (hK.nil hF4) fun H5 hf5 => ⟨_, rfl, _, (hB4.fr hf5 (by simp)).cell 0, ?_⟩⟩
   rw [(hv.ks.clsAt hlt').2]
   refine text_k (hK.nil (hF4.trans hf5)) fun H6 hf6 => ⟨_, rfl, ?_⟩
   rw [hv.name hlt', strEq_dec, cond_dec]
   refine ite_i (fun he => ?_) fun he => ?_
   · have hfd : findK v t name = ((v.cls[i]).oop, 0) := by
       unfold findK
       have : v.cls.findIdx? (fun c => decide (tx t c.name = name)) = some i := by
         rw [List.findIdx?_eq_some_iff_getElem]
         exact ⟨hlt', by simpa using he, fun j hj => by simpa using hno j (by omega) hj⟩
       rw [this]
       simp [hlt']
     rw [hfd] at h
     exact h _ ((hF4.trans hf5).trans hf6)
   · have e : IntKind.wrap .i64 ((i : Int) + 1) = ((i + 1 : Nat) : Int) := by rw [wrap64_id (by omega) (by omega)]; omega
     rw [e]
     refine ⟨⟨i + 1, rfl, by omega, (hf4.trans hf5).trans hf6, fun j hj hji => ?_⟩, by simp; omega⟩
     rcases Nat.lt_or_ge j i with h1 | h1
     · exact hno j hj h1
     · have : j = i := by omega
       subst this; exact he
 · have hfd : findK v t name = (0, 130) := by
     unfold findK
     have : v.cls.findIdx? (fun c => decide (tx t c.name = name)) = none := by
       rw [List.findIdx?_eq_none_iff]
       intro c hc
       obtain ⟨j, hj, rfl⟩ := hv.ks.view.idx hc
       simpa using hno j hj (by omega)
     rw [this]
   rw [hfd] at h
   exact h _ hF4
theorem kfind_nil {name : ByteArray} (h : Q (.tuple #[.int .i64 0, .int .i64 2]) H) : callS PP n_k66 #[.pointer none, .string name] Q H := by
 apply k66_ok
 unfold k66 A0 iV wW; dsimp only [shH]
 exact there_nil ⟨_, rfl, h⟩
end
section
variable {H : Heap} {b : Nat} {F : Foot} {s : SP} {t : TB} {v : KV} {Q : QT}
theorem words_k (hK : PK H b F s t) {o : Int} (h : ∀ a l c G H', Own 1 H' a l c (intsV (kwords s.h o)) G → Fr [] H H' → (∀ x ∈ G, H.size ≤ x) → Q (.slice a l c) H') : callS PP n_k95 #[rd b, .int .i64 o] Q H := by
 have hs1 : sliceInfo PP 108 = some (1, 8, some (.int .i64 0)) := by kernel_rfl
 have hn0 := size_nonneg (r := s.h) o
 have hn1 := size_le hK.wfs.h o
 apply k95_ok
 unfold k95 A0 iV wW
 have hf : Fr [] H (H.push (.cells #[.pointer (some ⟨b, 0, none⟩)] 131)) := Fr.push _ _ _
 refine ⟨_, (Blk.new _ _ _).cell 0, size_k (hK.nil hf) fun H0 hf0 => ⟨_, rfl, ?_⟩⟩
 have hB0 := (Blk.new H #[.pointer (some ⟨b, 0, none⟩)] 131).fr hf0 (by simp)
 refine ⟨fun w H' => ∃ (i : Nat) (a : Option Addr) (l' c : Nat) (G : Foot), w = [.slice a l' c, .int .i64 i] ∧ (i : Int) ≤ ksize s.h o ∧ Own 1 H' a l' c (intsV ((kwords s.h o).take i)) G ∧ Fr [] H0 H' ∧ (∀ x ∈ G, H0.size ≤ x), fun w _ => match w with
   | [_, .int _ i] => (ksize s.h o - i).toNat
   | _ => 0, ⟨0, none, 0, 0, [], rfl, hn0, by simpa [intsV] using Own.nil 1 H0, Fr.refl _ _, by simp⟩, ?_⟩
 rintro w H1 ⟨i, a1, l1, c1, G, rfl, hi, ho, hf1, hG⟩ _
 have hlen : (kwords s.h o).length = (ksize s.h o).toNat := by simp [kwords]
 have hl1 : l1 = i := by have := ho.len; simp only [intsV, List.length_map, List.length_take] at this; omega
 have hF1 : Fr [] H H1 := (hf.trans hf0).trans hf1
 refine ⟨_, _, _, _, rfl, ?_⟩
 rw [cond_dec]
 refine ite_i (fun hlt => ?_) fun hlt => ?_
 · have htk : (kwords s.h o).take (i + 1) = (kwords s.h o).take i ++ [kslot s.h o i] := by
     rw [List.take_add_one, List.getElem?_eq_getElem (by omega)]; simp [kwords]
   have e : IntKind.wrap .i64 ((i : Int) + 1) = ((i + 1 : Nat) : Int) := by rw [wrap64_id (by omega) (by omega)]; omega
   refine ⟨_, (hB0.fr hf1 (by simp)).cell 0, slot_k (hK.nil hF1) fun H2 hf2 => ⟨_, rfl, ?_⟩⟩
   refine evS_append1 hs1 rfl (by kernel_rfl) (ho.fr hf2 (by simp)) rfl (by simp [oneC]) (by omega) (by decide) (by decide) fun a' c' G2 H3 g1 g2 g3 => ⟨_, _, _, rfl, ?_⟩
   have hfr := Up.fresh (hf1.trans hf2) g2 hG
   rw [e]
   refine ⟨⟨i + 1, a', l1 + 1, c', G2, rfl, by omega, ?_, hfr.1, hfr.2⟩, by simp; omega⟩
   rw [htk, intsV_append]; exact g1
 · rw [List.take_of_length_le (by omega)] at ho
   exact h _ _ _ _ H1 ho hF1 fun x hx => Nat.le_trans (hf.trans hf0).1 (hG x hx)
theorem globals_k (hK : PK H b F s t) (hv : KAll s t v) (h : ∀ a l c G H', Own 1 H' a l c (strsV (globsK v t)) G → Fr [] H H' → (∀ x ∈ G, H.size ≤ x) → Q (.slice a l c) H') : callS PP n_k71 #[.pointer (some ⟨b, 0, none⟩)] Q H := by
 have hs1 : sliceInfo PP 37 = some (1, 16, some (.string (⟨#[]⟩ : ByteArray))) := by kernel_rfl
 have hg := hv.ks.shape.globs
 apply k71_ok
 unfold k71 A0 iV wW; dsimp only [shH]
 refine there_c hK ⟨_, rfl, ?_⟩
 simp only [Bool.not_true, cond_false]
 rw [locB]
 have hf1 : Fr [] H (H.push (.cells #[.pointer (some ⟨b, 0, none⟩)] 131)) := Fr.push _ _ _
 have hB := Blk.new H #[.pointer (some ⟨b, 0, none⟩)] 131
 refine ⟨Wr_push.2 (by simp), _, hB.cell 0, root_k (hK.nil hf1) fun H2 hf2 => ⟨_, rfl, ?_⟩⟩
 rw [hv.ks.root1]
 have hF2 := hf1.trans hf2
 have hB2 := hB.fr hf2 (by simp)
 refine ⟨_, hB2.cell 0, size_k (hK.nil hF2) fun H0 hf0 => ⟨_, rfl, ?_⟩⟩
 rw [hv.ks.size1]
 have hF0 := hF2.trans hf0
 have hB0 := hB2.fr hf0 (by simp)
 have ed : IntKind.wrap .i64 (Int.tdiv (2 * (v.glob.length : Int)) 2) = v.glob.length := by
   rw [show Int.tdiv (2 * (v.glob.length : Int)) 2 = v.glob.length by rw [Int.tdiv_eq_ediv_of_nonneg (by omega)]; omega]
   exact wrap64_id (by omega) (by omega)
 have hlen : (globsK v t).length = v.glob.length := by simp [globsK]
 refine ⟨fun w H' => ∃ (i : Nat) (a : Option Addr) (l' c : Nat) (G : Foot), w = [.slice a l' c, .int .i64 i] ∧ i ≤ v.glob.length ∧ Own 1 H' a l' c (strsV ((globsK v t).take i)) G ∧ Fr [] H0 H' ∧ (∀ x ∈ G, H0.size ≤ x), fun w _ => match w with
   | [_, .int _ i] => (v.glob.length - i).toNat
   | _ => 0, ⟨0, none, 0, 0, [], rfl, Nat.zero_le _, by simpa [strsV] using Own.nil 1 H0, Fr.refl _ _, by simp⟩, ?_⟩
 rintro w H1 ⟨i, a1, l1, c1, G, rfl, hi, ho, hf3, hG⟩ _
 have hl1 : l1 = i := by have := ho.len; simp only [strsV, List.length_map, List.length_take] at this; omega
 have hF1 : Fr [] H H1 := hF0.trans hf3
 refine ⟨_, _, _, _, rfl, ?_⟩
 rw [ed, cond_dec]
 refine ite_i (fun hlt => ?_) fun hlt => ?_
 · have hlt' : i < v.glob.length := by omega
   have htk : (globsK v t).take (i + 1) = (globsK v t).take i ++ [tx t v.glob[i].1] := by
     rw [List.take_add_one, List.getElem?_eq_getElem (by omega)]; simp [globsK]
   have e : IntKind.wrap .i64 ((i : Int) + 1) = ((i + 1 : Nat) : Int) := by rw [wrap64_id (by omega) (by omega)]; omega
   have e2 : IntKind.wrap .i64 (2 * (i : Int)) = ((2 * i : Nat) : Int) := by rw [wrap64_id (by omega) (by omega)]; omega
   rw [e2]
   refine ⟨_, (hB0.fr hf3 (by simp)).cell 0, text_k (hK.nil hF1) fun H2 hf4 => ⟨_, rfl, ?_⟩⟩
   rw [hv.gname hlt']
   refine evS_append1 hs1 rfl (by kernel_rfl) (ho.fr hf4 (by simp)) rfl (by simp [oneC]) (by omega) (by decide) (by decide) fun a' c' G2 H3 g1 g2 g3 => ⟨_, _, _, rfl, ?_⟩
   have hfr := Up.fresh (hf3.trans hf4) g2 hG
   rw [e]
   refine ⟨⟨i + 1, a', l1 + 1, c', G2, rfl, by omega, ?_, hfr.1, hfr.2⟩, by simp; omega⟩
   rw [htk, strsV_append]; exact g1
 · rw [List.take_of_length_le (by omega)] at ho
   exact h _ _ _ _ H1 ho hF1 fun x hx => Nat.le_trans hF0.1 (hG x hx)
theorem globals_nil (h : Q (.slice none 0 0) H) : callS PP n_k71 #[.pointer none] Q H := by
 apply k71_ok
 unfold k71 A0 iV wW; dsimp only [shH]
 exact there_nil ⟨_, rfl, h⟩
theorem value_k (hK : PK H b F s t) (hv : KAll s t v) {n : Int} (h : ∀ H', Fr [] H H' → Q (.tuple #[.int .i64 (valueK v n).1, .int .i64 (valueK v n).2]) H') : callS PP n_k68 #[.pointer (some ⟨b, 0, none⟩), .int .i64 n] Q H := by
 have hg := hv.ks.shape.globs
 apply k68_ok
 unfold k68 A0 iV wW; dsimp only [shH]
 unfold valueK at h
 refine there_c hK ⟨_, rfl, ?_⟩
 simp only [Bool.not_true, cond_false]
 rw [locB]
 have hf1 : Fr [] H (H.push (.cells #[.pointer (some ⟨b, 0, none⟩)] 131)) := Fr.push _ _ _
 have hB := Blk.new H #[.pointer (some ⟨b, 0, none⟩)] 131
 refine ⟨Wr_push.2 (by simp), _, hB.cell 0, root_k (hK.nil hf1) fun H2 hf2 => ⟨_, rfl, ?_⟩⟩
 rw [hv.ks.root1, cond_dec]
 have hF2 := hf1.trans hf2
 refine ite_i (fun h1 => ?_) fun h1 => ?_
 · rw [dif_neg (by omega)] at h; exact h _ hF2
 have hB2 := hB.fr hf2 (by simp)
 refine ⟨_, hB2.cell 0, size_k (hK.nil hF2) fun H3 hf3 => ⟨_, rfl, ?_⟩⟩
 have ed : IntKind.wrap .i64 (Int.tdiv (2 * (v.glob.length : Int)) 2) = v.glob.length := by
   rw [show Int.tdiv (2 * (v.glob.length : Int)) 2 = v.glob.length by rw [Int.tdiv_eq_ediv_of_nonneg (by omega)]; omega]
   exact wrap64_id (by omega) (by omega)
 rw [hv.ks.size1, ed, cond_dec]
 refine ite_i (fun h2 => ?_) fun h2 => ?_
 · rw [dif_neg (by omega)] at h; exact h _ (hF2.trans hf3)
 rw [dif_pos (by omega)] at h
 have e : IntKind.wrap .i64 (IntKind.wrap .i64 (2 * n) + 1) = ((2 * n.toNat + 1 : Nat) : Int) := by rw [wrap64_id (n := 2 * n) (by omega) (by omega), wrap64_id (by omega) (by omega)]; omega
 rw [e]
 refine ⟨_, (hB2.fr hf3 (by simp)).cell 0, slot_k (hK.nil (hF2.trans hf3)) fun H4 hf4 => ⟨_, rfl, ?_⟩⟩
 rw [(hv.ks.globAt (by omega)).2]
 exact h _ ((hF2.trans hf3).trans hf4)
theorem value_nil {n : Int} (h : Q (.tuple #[.int .i64 0, .int .i64 2]) H) : callS PP n_k68 #[.pointer none, .int .i64 n] Q H := by
 apply k68_ok
 unfold k68 A0 iV wW; dsimp only [shH]
 exact there_nil ⟨_, rfl, h⟩
theorem setValue_k (hK : PK H b F s t) (hv : KAll s t v) {n w : Int} (h : ∀ H' F', PK H' b F' (setValueK s v n w).2 t → Up F H F' H' → Q (.int .i64 (setValueK s v n w).1) H') : callS PP n_k69 #[.pointer (some ⟨b, 0, none⟩), .int .i64 n, .int .i64 w] Q H := by
 have hg := hv.ks.shape.globs
 apply k69_ok
 unfold k69 iV wW
 unfold setValueK at h
 refine value_k hK hv fun H1 hf1 => ⟨_, _, rfl, ?_⟩
 unfold valueK
 by_cases hn : 0 ≤ n ∧ n < v.glob.length
 · rw [dif_pos hn]
   rw [if_neg (by omega)] at h
   simp only [show ((0 : Int) != 0) = false from rfl, cond_false]
   have hK1 := hK.nil hf1
   refine kind_c hK1.kinds ⟨_, rfl, ?_⟩
   rw [beqI, cond_dec]
   refine ite_i (fun hw => ?_) fun hw => ?_
   · rw [if_pos (by unfold isW; omega)] at h
     exact h _ _ hK1 ⟨hf1.of_nil, fun x hx => .inl hx⟩
   rw [if_neg (by unfold isW; omega)] at h
   obtain ⟨sb, F1, hc, hS, hsub, hbF, hup, _⟩ := hK1.sp
   refine ⟨_, rfl, _, hc, psHeap_c hS fun hb F2 hR hsub2 hup2 => ⟨_, rfl, root_k hK1 fun H3 hf3 => ⟨_, rfl, ?_⟩⟩⟩
   rw [hv.ks.root1]
   have e : IntKind.wrap .i64 (IntKind.wrap .i64 (2 * n) + 1) = 2 * n + 1 := by rw [wrap64_id (n := 2 * n) (by omega) (by omega), wrap64_id (by omega) (by omega)]
   rw [e]
   refine put_c (hR.fr hf3 (Disj.nil_right _) (by simp)) (fun o ho => ?_) fun H4 hR4 hf4 => ⟨_, rfl, ?_⟩
   · obtain ⟨x, h1, h2, _⟩ := hv.ks.view.globs
     rw [h1] at ho; cases ho; exact h2
   · have hf34 : Fr F2 H1 H4 := hf3.of_nil.trans hf4
     have hS4 := hup2 H4 _ hR4 hf34
     obtain ⟨F', hK4, hu⟩ := hup H4 F1 _ hS4 ⟨hf34.mono hsub2, fun x hx => .inl hx⟩
     exact h _ _ hK4 ⟨hf1.of_nil.trans hu.1, fun x hx => (hu.2 x hx).imp id fun h => Nat.le_trans hf1.1 h⟩
 · rw [dif_neg hn]
   rw [if_pos (by omega)] at h
   simp only [show ((1 : Int) != 0) = true from rfl, cond_true]
   exact h _ _ (hK.nil hf1) ⟨hf1.of_nil, fun x hx => .inl hx⟩
theorem setValue_nil {n w : Int} (h : Q (.int .i64 2) H) : callS PP n_k69 #[.pointer none, .int .i64 n, .int .i64 w] Q H := by
 apply k69_ok
 unfold k69 iV wW
 exact value_nil ⟨_, _, rfl, h⟩
theorem of_k (hK : PK H b F s t) (hv : KAll s t v) {w : Int} (h : Q (.tuple #[.int .i64 (ofK s.h w).1, .int .i64 (ofK s.h w).2]) H) : callS PP n_k112 #[.pointer (some ⟨b, 0, none⟩), .int .i64 w] Q H := by
 apply k112_ok
 unfold k112 iV
 unfold ofK at h
 refine there_c hK ⟨_, rfl, ?_⟩
 simp only [Bool.not_true, cond_false]
 refine kind_c hK.kinds ⟨_, rfl, ?_⟩
 rw [beqI, beqI, beqI, cond_dec]
 refine ite_i (fun h1 => ?_) fun h1 => ?_
 · rw [if_pos h1] at h; exact h
 rw [if_neg h1] at h
 rw [cond_dec]
 refine ite_i (fun h2 => ?_) fun h2 => ?_
 · rw [if_pos h2] at h; exact h
 rw [if_neg h2] at h
 rw [cond_dec]
 refine ite_i (fun h3 => ?_) fun h3 => ?_
 · rw [if_pos h3] at h
   refine oop_c hK.kinds ?_
   unfold ofW
   rw [if_pos h3]
   obtain ⟨sb, F1, hc, hS, _⟩ := hK.sp
   refine ⟨_, _, rfl, _, rfl, _, hc, psHeap_c hS fun hb F2 hR _ _ => ⟨_, rfl, hclass_c hR ?_⟩⟩
   unfold RH.clsAt at h ⊢
   cases ho : objAt s.h.objs (w / 4) with
   | none => rw [ho] at h; exact ⟨_, _, rfl, h⟩
   | some x =>
     rw [ho] at h
     refine ⟨_, _, rfl, ?_⟩
     have hc := hv.ks.gc x (objAt_some ho).1
     simp only [show ((0 : Int) != 0) = false from rfl, cond_false]
     refine oop_c hK.kinds ?_
     unfold ofW
     rw [if_pos hc]
     refine ⟨_, _, rfl, ?_⟩
     simp only [oopW, if_pos hc] at h
     exact h
 · rw [if_neg h3] at h; exact h
end
section
variable {H : Heap} {b : Nat} {F : Foot} {s : SP} {t : TB} {v : KV} {Q : QT}
theorem ktexts_own (hv : KAll s t v) {i : Nat} (hi : i < v.cls.length) : ktexts s.h t (v.cls[i]).ownA = (v.cls[i]).own.map (tx t) := by
 unfold ktexts
 rw [hv.ks.ownL hi, Int.toNat_natCast]
 apply List.ext_getElem (by simp)
 intro j h1 h2
 simp only [List.getElem_map, List.getElem_range]
 exact hv.ownT hi (by simpa using h2)
theorem fields_k (hv : KAll s t v) : ∀ (i : Nat) {H : Heap} {Q : QT} (hK : PK H b F s t) (hi : i < v.cls.length) (h : ∀ a l c G H', Own 1 H' a l c (strsV ((fieldsK v i).map (tx t))) G → Fr [] H H' → (∀ x ∈ G, H.size ≤ x) → Q (.slice a l c) H'), callS PP n_k202 #[rd b, .int .i64 (v.cls[i]).oop] Q H := by
 intro i
 induction i using Nat.strongRecOn with
 | ind i ih =>
   intro H Q hK hi h
   have hs1 : sliceInfo PP 37 = some (1, 16, some (.string (⟨#[]⟩ : ByteArray))) := by kernel_rfl
   have hm1 := hv.ks.shape.many1
   have hb := up_arr hv.ks hi
   have hfl := fields_len hv.ks i hi
   apply k202_ok
   unfold k202 A0 iV
   rw [beqI, cond_dec, if_neg (by omega)]
   have hf : Fr [] H (H.push (.cells #[.pointer (some ⟨b, 0, none⟩)] 131)) := Fr.push _ _ _
   have hB := Blk.new H #[.pointer (some ⟨b, 0, none⟩)] 131
   refine ⟨_, hB.cell 0, _, hB.cell 0, _, hB.cell 0, _, hB.cell 0, super_k (hK.nil hf) fun H1 hf1 => ⟨_, rfl, ?_⟩⟩
   have hB1 := hB.fr hf1 (by simp)
   have hF1 := hf.trans hf1
   refine ⟨⟨⟨hB1.cell 0, trivial⟩, ⟨hB1.cell 0, trivial⟩, ⟨hB1.cell 0, trivial⟩, trivial⟩, ?_⟩
   have es : (if koop s.h (v.cls[i]).oop 1 = 1 then 0 else koop s.h (v.cls[i]).oop 1) = superK v i := by
     rw [hv.ks.up hi]; unfold superK; rw [List.getElem?_eq_getElem hi]
   rw [es]
   have fin : ∀ (l : List Nat) (hl : fieldsK v i = l ++ (v.cls[i]).own) (a : Option Addr) (n c : Nat) (G : Foot) (H2 : Heap), Own 1 H2 a n c (strsV (l.map (tx t))) G → Fr [] H1 H2 → (∀ x ∈ G, H1.size ≤ x) →
       ∃ a10 l10 c10, Value.slice a n c = .slice a10 l10 c10 ∧ ((cellH H2 ⟨H.size, 0, none⟩ = some (.pointer (some ⟨b, 0, none⟩)) ∧ True) ∧ ((cellH H2 ⟨H.size, 0, none⟩ = some (.pointer (some ⟨b, 0, none⟩)) ∧ True) ∧ True)) ∧ callS PP n_k76 #[rd b, .int .i64 (v.cls[i]).oop, .int .i64 2] (fun v11 H3 => ∃ n12 : Int, v11 = .int .i64 n12 ∧ ((cellH H3 ⟨H.size, 0, none⟩ = some (.pointer (some ⟨b, 0, none⟩)) ∧ True) ∧ True) ∧ callS PP n_k178 #[rd b, .int .i64 n12] (fun v13 H4 => ∃ a14 : Option Addr, ∃ l14 : Nat, ∃ c14 : Nat, v13 = .slice a14 l14 c14 ∧ True ∧ evS PP (Builtin.append_ #[37, 37] 37 #[.slice a10 l10 c10, .slice a14 l14 c14]) (fun v15 H5 => ∃ a16 : Option Addr, ∃ l16 : Nat, ∃ c16 : Nat, v15 = .slice a16 l16 c16 ∧ True ∧ Q (.slice a16 l16 c16) H5) H4) H3) H2 := by
     intro l hl a n c G H2 ho hf2 hG
     have hB2 := hB1.fr hf2 (by simp)
     refine ⟨_, _, _, rfl, ⟨⟨hB2.cell 0, trivial⟩, ⟨hB2.cell 0, trivial⟩, trivial⟩, oop_k (hK.nil (hF1.trans hf2)) fun H3 hf3 => ⟨_, rfl, ⟨⟨(hB2.fr hf3 (by simp)).cell 0, trivial⟩, trivial⟩, ?_⟩⟩
     rw [hv.ks.ownO hi]
     refine texts_k (hK.nil ((hF1.trans hf2).trans hf3)) fun a3 l3 c3 G3 H4 ho3 hf4 hG3 => ⟨_, _, _, rfl, trivial, ?_⟩
     rw [ktexts_own hv hi] at ho3
     have hlen : n + l3 ≤ 8192 * (i + 1) := by
       have h1 := ho.len
       have h2 := ho3.len
       rw [hl, List.length_append] at hfl
       simp only [strsV, List.length_map] at h1 h2
       omega
     refine evS_append hs1 rfl (by kernel_rfl) (ho.fr (hf3.trans hf4) (by simp)) ho3.rd strsV_one (by omega) (by decide) (by decide) fun a' c' G4 H5 g1 g2 g3 => ⟨_, _, _, rfl, trivial, ?_⟩
     have hfr := Up.fresh ((hf2.trans hf3).trans hf4) g2 hG
     refine h _ _ _ G4 H5 ?_ (hF1.trans hfr.1) fun x hx => Nat.le_trans hF1.1 (hfr.2 x hx)
     rw [hl, List.map_append, strsV_append]; exact g1
   rcases hv.ks.upI hi with ⟨h0, e0, _⟩ | ⟨j, hj, hlt, e0, _, e⟩
   · rw [e0]
     show callS PP n_k202 #[rd b, .int .i64 0] _ H1
     apply k202_ok
     unfold k202 A0 iV
     simp only [show ((0 : Int) == 0) = true from rfl, cond_true]
     subst h0
     exact fin [] (by rw [hv.ks.fields0 hi]; rfl) none 0 0 [] _ (by simpa [strsV] using Own.nil 1 _) (Fr.push _ _ _) (by simp)
   · rw [e0]
     exact ih j hlt (hK.nil hF1) hj fun a n c G H2 ho hf2 hG => fin (fieldsK v j) (hv.ks.fieldsS hi hlt e) a n c G H2 ho hf2 hG
theorem kfields_k (hK : PK H b F s t) (hv : KAll s t v) {o : Int} (h1 : ∀ i, plK v o = some i → ∀ a l c G H', Own 1 H' a l c (strsV ((fieldsK v i).map (tx t))) G → Fr [] H H' → (∀ x ∈ G, H.size ≤ x) → Q (.tuple #[.slice a l c, .int .i64 0]) H')
   (h2 : plK v o = none → ∀ H', Fr [] H H' → Q (.tuple #[.slice none 0 0, .int .i64 130]) H') : callS PP n_k101 #[.pointer (some ⟨b, 0, none⟩), .int .i64 o] Q H := by
 apply k101_ok
 unfold k101 A0 iV; dsimp only [shH]
 refine look_k hK hv (fun i hp H1 hf => ?_) fun hp H1 hf => ?_
 · refine ⟨_, _, rfl, Wr_push.2 (by simp), ?_⟩
   simp only [show ((0 : Int) != 0) = false from rfl, cond_false]
   rw [locB]
   have hf1 : Fr [] H1 (H1.push (.cells #[.pointer (some ⟨b, 0, none⟩)] 131)) := Fr.push _ _ _
   obtain ⟨hi, he⟩ := plK_some hp
   refine ⟨_, (Blk.new H1 _ _).cell 0, ?_⟩
   rw [← he]
   refine fields_k hv i (hK.nil (hf.trans hf1)) hi fun a l c G H2 ho hf2 hG => ⟨_, _, _, rfl, h1 i hp _ _ _ G H2 ho ((hf.trans hf1).trans hf2) fun x hx => Nat.le_trans (hf.trans hf1).1 (hG x hx)⟩
 · refine ⟨_, _, rfl, Wr_push.2 (by simp), ?_⟩
   simp only [show ((130 : Int) != 0) = true from rfl, cond_true]
   rw [locB]
   exact h2 hp _ hf.more
theorem under_k (hK : PK H b F s t) (hv : KAll s t v) {o : Int} (h1 : ∀ i, plK v o = some i → ∀ a l c G H', Own 1 H' a l c (intsV (underK v o)) G → Fr [] H H' → (∀ x ∈ G, H.size ≤ x) → Q (.slice a l c) H')
   (h2 : plK v o = none → ∀ H', Fr [] H H' → Q (.slice none 0 0) H') : callS PP n_k72 #[.pointer (some ⟨b, 0, none⟩), .int .i64 o] Q H := by
 have hs1 : sliceInfo PP 66 = some (1, 8, some (.int .i64 0)) := by kernel_rfl
 have hmi : mapInfo PP 236 = some (.int .i64, some (.bool false)) := by kernel_rfl
 have hm1 := hv.ks.shape.many1
 apply k72_ok
 unfold k72 A0 iV wW; dsimp only [shH]
 refine look_k hK hv (fun i hp H1 hf => ?_) fun hp H1 hf => ?_
 rotate_left
 · refine ⟨_, _, rfl, Wr_push.2 (by simp), ?_⟩
   simp only [show ((130 : Int) != 0) = true from rfl, cond_true]
   rw [locB]
   exact h2 hp _ hf.more
 refine ⟨_, _, rfl, Wr_push.2 (by simp), ?_⟩
 simp only [show ((0 : Int) != 0) = false from rfl, cond_false]
 rw [locB]
 have hf1 : Fr [] H1 (H1.push (.cells #[.pointer (some ⟨b, 0, none⟩)] 131)) := Fr.push _ _ _
 have hB := Blk.new H1 #[.pointer (some ⟨b, 0, none⟩)] 131
 have hF1 := hf.trans hf1
 refine ⟨_, hB.cell 0, root_k (hK.nil hF1) fun H2 hf2 => ⟨_, rfl, ?_⟩⟩
 rw [hv.ks.root0]
 have hB2 := hB.fr hf2 (by simp)
 have hF2 := hF1.trans hf2
 have ho0 : ∀ p ∈ ([] : List (Key × Value)), p.1.of (.int .i64) := by simp
 refine evS_mapUpdate (k := .int o) hmi trivial ho0 (MapAt.new H2) fun H3 hM3 hf3 => ?_
 have hm3 : ∀ x, setK ([] : List (Key × Value)) x (.bool true) = [(x, .bool true)] := fun x => rfl
 rw [hm3] at hM3
 have hfm : Fr [] H2 H3 := ⟨Nat.le_trans (by simp) hf3.1, fun x hx _ => by rw [hf3.2 x (by simp; omega) (by simp; omega), (Fr.push [] H2 (.map #[] 0)).2 x hx (by simp)]⟩
 have hB3 := hB2.fr hfm (by simp)
 have hF3 := hF2.trans hfm
 have hbl : H1.size < H2.size := hB2.lt
 refine ⟨_, hB3.cell 0, size_k (hK.nil hF3) fun H4 hf4 => ⟨_, rfl, ?_⟩⟩
 rw [hv.ks.size0]
 have hB4 := hB3.fr hf4 (by simp)
 have hM4 := hM3.fr hf4 (by simp)
 let D : CV := ⟨0, 0, 0, [], 0, 0, 0, [], [], 0⟩
 let f : Nat → Bool := fun i => decide (Und v o (v.cls.getD i D).oop)
 let pre : Nat → List Int := fun n => ((List.range n).filter f).map fun i : Nat => (i : Int) + 1
 have hpre : ∀ n, pre (n + 1) = pre n ++ if f n then [(n : Int) + 1] else [] := by
   intro n
   simp only [pre, List.range_succ, List.filter_append, List.map_append]
   congr 1
   by_cases hfn : f n <;> simp [hfn]
 have hprel : ∀ n, (pre n).length ≤ n := fun n => by simp only [pre, List.length_map]; exact Nat.le_trans (List.length_filter_le _ _) (by simp)
 have hend : pre v.cls.length = underK v o := rfl
 let okM : Nat → List (Key × Value) → Prop := fun n es => (∀ p ∈ es, p.1.of (.int .i64)) ∧ ∀ x : Int, (getK es (.int x)).getD (.bool false) = .bool (decide (x = o ∨ ∃ j, ∃ hj : j < v.cls.length, j < n ∧ (v.cls[j]).oop = x ∧ Und v o x))
 refine ⟨fun w H' => ∃ (i : Nat) (a : Option Addr) (l' c : Nat) (G : Foot) (es : List (Key × Value)), w = [.slice a l' c, .int .i64 i] ∧ i ≤ v.cls.length ∧ Own 1 H' a l' c (intsV (pre i)) G ∧ MapAt H' H2.size es ∧ okM i es ∧ Fr [] H2 H' ∧ (∀ x ∈ G, H2.size < x), fun w _ => match w with
   | [_, .int _ i] => (v.cls.length - i).toNat
   | _ => 0, ⟨0, none, 0, 0, [], _, rfl, Nat.zero_le _, by simpa [intsV, pre] using Own.nil 1 H4, hM4, ⟨by simp [Key.of], fun x => ?_⟩, hfm.trans hf4, by simp⟩, ?_⟩
 · unfold getK
   by_cases hx : x = o
   · subst hx; simp
   · rw [if_neg (by simpa using hx)]
     have : ¬ (x = o ∨ ∃ j, ∃ hj : j < v.cls.length, j < 0 ∧ (v.cls[j]).oop = x ∧ Und v o x) := by
       rintro (h | ⟨j, _, hj, _⟩)
       · exact hx h
       · omega
     rw [decide_eq_false this]; rfl
 rintro w H5 ⟨i, a1, l1, c1, G, es, rfl, hi, ho, hM, ⟨hok1, hok2⟩, hf5, hG⟩ _
 have hl1 : l1 ≤ i := by have h1 := ho.len; have h2 := hprel i; simp only [intsV, List.length_map] at h1; omega
 have hF5 := hF2.trans hf5
 have hB5 := hB2.fr hf5 (by simp)
 refine ⟨_, _, _, _, rfl, ?_⟩
 rw [cond_dec]
 refine ite_i (fun hlt => ?_) fun hlt => ?_
 rotate_left
 · have : i = v.cls.length := by omega
   subst this
   rw [hend] at ho
   exact h1 _ hp _ _ _ G H5 ho hF5 fun x hx => by have := hG x hx; have := hF2.1; omega
 have hlt' : i < v.cls.length := by omega
 have e : IntKind.wrap .i64 ((i : Int) + 1) = ((i + 1 : Nat) : Int) := by rw [wrap64_id (by omega) (by omega)]; omega
 have hgd : v.cls.getD i D = v.cls[i] := by simp [hlt']
 have hui := und_iff hv.ks (o := o) hlt'
 refine ⟨_, hB5.cell 0, oop_k (hK.nil hF5) fun H6 hf6 => ⟨_, rfl, ?_⟩⟩
 rw [(hv.ks.clsAt hlt').2]
 have hM6 := hM.fr hf6 (by simp)
 have hB6 := hB5.fr hf6 (by simp)
 have hF6 := hF5.trans hf6
 have hstep : ∀ x : Int, (x = o ∨ ∃ j, ∃ hj : j < v.cls.length, j < i + 1 ∧ (v.cls[j]).oop = x ∧ Und v o x) ↔ ((x = o ∨ ∃ j, ∃ hj : j < v.cls.length, j < i ∧ (v.cls[j]).oop = x ∧ Und v o x) ∨ ((v.cls[i]).oop = x ∧ Und v o x)) := by
   intro x
   constructor
   · rintro (h | ⟨j, hj, hji, h3, h4⟩)
     · exact .inl (.inl h)
     · by_cases hjj : j = i
       · subst hjj; exact .inr ⟨h3, h4⟩
       · exact .inl (.inr ⟨j, hj, by omega, h3, h4⟩)
   · rintro ((h | ⟨j, hj, hji, h3, h4⟩) | ⟨h3, h4⟩)
     · exact .inl h
     · exact .inr ⟨j, hj, by omega, h3, h4⟩
     · exact .inr ⟨i, hlt', by omega, h3, h4⟩
 have yes : ∀ (hU : Und v o (v.cls[i]).oop) (H7 : Heap) (_ : MapAt H7 H2.size es) (_ : Fr [] H5 H7) {K : Value → Heap → Prop} (_ : ∀ a' n' c' G' es' H9, Own 1 H9 a' n' c' (intsV (pre (i + 1))) G' → MapAt H9 H2.size es' → okM (i + 1) es' → Fr [] H2 H9 → (∀ x ∈ G', H2.size < x) → K (.slice a' n' c') H9),
     evS PP (Instr.mapUpdate 236 (.map (some H2.size)) (.int .i64 (v.cls[i]).oop) (.bool true)) (fun _ H8 => evS PP (Builtin.append_ #[66, 66] 66 #[.slice a1 l1 c1, .slice (some (⟨H8.size, 0, none⟩ : Addr)) 1 1]) K (H8.push (.cells #[.int .i64 (IntKind.wrap .i64 ((i : Int) + 1))] 3))) H7 := by
   intro hU H7 hM7 hf7 K hk
   refine evS_mapUpdate (k := .int (v.cls[i]).oop) hmi trivial hok1 hM7 fun H8 hM8 hf8 => ?_
   have hnG : H2.size ∉ G := fun hm => by have := hG _ hm; omega
   have ho8 : Own 1 H8 a1 l1 c1 (intsV (pre i)) G := (ho.fr hf7 (by simp)).fr hf8 (fun x hx hn => by simp only [List.mem_singleton] at hn; subst hn; exact hnG hx)
   refine evS_append1 hs1 rfl (by kernel_rfl) ho8 rfl (by simp [oneC]) (by omega) (by decide) (by decide) fun a' c' G2 H9 g1 g2 g3 => ?_
   have hsz : H2.size < H8.size := by have := hM7.lt; have := hf8.1; omega
   have hnG2 : H2.size ∉ G2 := fun hm => by
     rcases g2.2 _ hm with h3 | h3
     · exact hnG h3
     · omega
   refine hk _ _ _ G2 _ H9 ?_ (hM8.fr g2.1 hnG) ⟨?_, fun x => ?_⟩ ?_ ?_
   · have hfi : f i = true := by simp only [f, hgd]; simpa using hU
     rw [hpre, hfi, e] at *
     simp only [if_pos, intsV_append]
     exact g1
   · intro p hp
     have : ∀ (es : List (Key × Value)), (∀ p ∈ es, p.1.of (.int .i64)) → ∀ p ∈ setK es (.int (v.cls[i]).oop) (.bool true), p.1.of (.int .i64) := by
       intro es
       induction es with
       | nil => intro _ p hp; simp [setK] at hp; subst hp; trivial
       | cons q es ih =>
         intro hes p hp
         unfold setK at hp
         split at hp
         · rcases List.mem_cons.1 hp with rfl | hp
           · trivial
           · exact hes p (by simp [hp])
         · rcases List.mem_cons.1 hp with rfl | hp
           · exact hes _ (by simp)
           · exact ih (fun p hp => hes p (by simp [hp])) p hp
     exact this es hok1 p hp
   · rw [getK_setK]
     by_cases hx : x = (v.cls[i]).oop
     · subst hx
       rw [if_pos rfl]
       have : (v.cls[i]).oop = o ∨ ∃ j, ∃ hj : j < v.cls.length, j < i + 1 ∧ (v.cls[j]).oop = (v.cls[i]).oop ∧ Und v o (v.cls[i]).oop := .inr ⟨i, hlt', by omega, rfl, hU⟩
       rw [decide_eq_true this]; rfl
     · rw [if_neg (by simpa using hx), hok2 x]
       congr 1
       rw [decide_eq_decide, hstep x]
       constructor
       · exact .inl
       · rintro (h | ⟨h, _⟩)
         · exact h
         · exact absurd h.symm hx
   · have hfx : Fr [] H2 H8 := ⟨Nat.le_of_lt hsz, fun x hx _ => by rw [hf8.2 x (by have := hf7.1; have := hf5.1; omega) (by simp; omega), hf7.2 x (by have := hf5.1; omega) (by simp), hf5.2 x hx (by simp)]⟩
     exact ⟨Nat.le_trans hfx.1 g2.1.1, fun x hx hn => by rw [g2.1.2 x (by omega) (fun hm => by have := hG _ hm; omega), hfx.2 x hx hn]⟩
   · intro x hx
     rcases g2.2 x hx with h3 | h3
     · exact hG x h3
     · omega
 refine evS_lookup (k := .int (v.cls[i]).oop) hmi trivial hok1 hM6 ?_
 simp only [Bool.false_eq_true, if_false]
 rw [hok2]
 refine ⟨_, rfl, ?_⟩
 rw [cond_dec]
 refine ite_i (fun hin => ?_) fun hin => ?_
 · have hU : Und v o (v.cls[i]).oop := by
     rcases hin with h | ⟨_, _, _, _, h⟩
     · rw [h]; exact .self
     · exact h
   refine yes hU H6 hM6 hf6 fun a' n' c' G' es' H9 g1 g2 g3 g4 g5 => ⟨_, _, _, rfl, ?_⟩
   rw [e]
   exact ⟨⟨i + 1, a', n', c', G', es', rfl, by omega, g1, g2, g3, g4, g5⟩, by simp; omega⟩
 · refine ⟨_, hB6.cell 0, super_k (hK.nil hF6) fun H7 hf7 => ⟨_, rfl, ?_⟩⟩
   have es' : (if koop s.h (v.cls[i]).oop 1 = 1 then 0 else koop s.h (v.cls[i]).oop 1) = superK v i := by
     rw [hv.ks.up hlt']; unfold superK; rw [List.getElem?_eq_getElem hlt']
   rw [es']
   refine evS_lookup (k := .int (superK v i)) hmi trivial hok1 (hM6.fr hf7 (by simp)) ?_
   simp only [Bool.false_eq_true, if_false]
   rw [hok2]
   refine ⟨_, rfl, ?_⟩
   rw [cond_dec]
   have hsup : (superK v i = o ∨ ∃ j, ∃ hj : j < v.cls.length, j < i ∧ (v.cls[j]).oop = superK v i ∧ Und v o (superK v i)) ↔ (superK v i ≠ 0 ∧ Und v o (superK v i)) := by
     obtain ⟨hpi, hpe⟩ := plK_some hp
     have ho1 := (up_arr hv.ks hpi).1
     rw [hpe] at ho1
     constructor
     · rintro (h | ⟨j, hj, _, h3, h4⟩)
       · rw [h]; exact ⟨by omega, .self⟩
       · have := (up_arr hv.ks hj).1
         exact ⟨by omega, h4⟩
     · rintro ⟨h3, h4⟩
       rcases hv.ks.upI hlt' with ⟨_, h5, _⟩ | ⟨j, hj, hji, h5, _, _⟩
       · exact absurd h5 h3
       · exact .inr ⟨j, hj, hji, h5.symm, h4⟩
   refine ite_i (fun hin2 => ?_) fun hin2 => ?_
   · have hU : Und v o (v.cls[i]).oop := hui.2 (.inr (hsup.1 hin2))
     refine yes hU H7 (hM6.fr hf7 (by simp)) (hf6.trans hf7) fun a' n' c' G' es' H9 g1 g2 g3 g4 g5 => ⟨_, _, _, rfl, ?_⟩
     rw [e]
     exact ⟨⟨i + 1, a', n', c', G', es', rfl, by omega, g1, g2, g3, g4, g5⟩, by simp; omega⟩
   · have hnU : ¬ Und v o (v.cls[i]).oop := fun hU => by
       rcases hui.1 hU with h | h
       · exact hin (.inl h)
       · exact hin2 (hsup.2 h)
     have hfi : f i = false := by simp only [f, hgd]; simpa using hnU
     rw [e]
     have hf67 := hf6.trans hf7
     refine ⟨⟨i + 1, a1, l1, c1, G, es, rfl, by omega, ?_, hM.fr hf67 (by simp), ⟨hok1, fun x => ?_⟩, hf5.trans hf67, hG⟩, by simp; omega⟩
     · rw [hpre, hfi]
       simpa using ho.fr hf67 (by simp)
     · rw [hok2 x]
       congr 1
       rw [decide_eq_decide, hstep x]
       constructor
       · exact .inl
       · rintro (h | ⟨h, h'⟩)
         · exact h
         · rw [← h] at h'; exact absurd h' hnU
end
end Go.Proofs.YtmkdkplipbocjaaGreatDoor
