/- Lemmas for RRefuses: functions of the program as predicate transformers, and their contracts. -/
import Derived.Test.YtmkdkplipbocjaaGreatDoorZR4
import Derived.ProofKit
import Derived.Test.YtmkdkplipbocjaaGreatDoorCards
import Derived.Test.YtmkdkplipbocjaaGreatDoorTie
import Derived.LaidLaws
import Derived.Handed
import Derived.Lib.LaidU8
import Derived.Deep.Strs
import Derived.WideKeyArgs
import Derived.SizedLaws
import Derived.JoinedOf
set_option linter.all false
set_option maxRecDepth 100000
set_option maxHeartbeats 4000000
namespace Go.Proofs.YtmkdkplipbocjaaGreatDoor
open Kw
section
variable {H : Heap} {b : Nat} {F : Foot} {s : SP} {t : TB} {v : KV} {Q : QT}
theorem kdefine_k (hK : PK H b F s t) (hv : KAll s t v) {name sup : ByteArray} {a : Option Addr} {l c : Nat} {own : List ByteArray} (hr : Rd 1 H a l (strsV own)) (hout : Outs H a l F) (hlc : l ≤ c) (hlk : l ≤ 1000000000000000)
   (h : ∀ H' F', PK H' b F' (kDefineAll s v t name sup own).2.1 (kDefineAll s v t name sup own).2.2 → Up F H F' H' → Q (.tuple #[.int .i64 (kDefineAll s v t name sup own).1.1, .int .i64 (kDefineAll s v t name sup own).1.2]) H') :
   callS PP n_k17 #[.pointer (some ⟨b, 0, none⟩), .string name, .string sup, .slice a l c] Q H := by
 apply k17_ok
 unfold k17 iV pV sV lV cS
 unfold kDefineAll at h
 refine there_c hK ⟨_, rfl, ?_⟩
 simp only [Bool.not_true, cond_false]
 refine definable_k hK hv hr hlc (by omega) fun H1 hf1 => ⟨_, _, rfl, ?_⟩
 rw [bneI, cond_dec]
 refine ite_i (fun h1 => ?_) fun h1 => ?_
 · rw [if_pos h1] at h; exact h H1 F (hK.nil hf1) (Up.of_nil hf1)
 rw [if_neg h1] at h
 obtain ⟨j, hj, ej, hlt, hno, _, _⟩ := defK_ok hv (Classical.byContradiction h1)
 rw [ej] at h ⊢
 have hb := up_arr hv.ks hj
 have hst : s.stack.length < 60000 := by rw [hv.stack]; decide
 refine begin_k (hK.nil hf1) fun H2 mb hM2 hf2 => ⟨_, rfl, ?_⟩
 have hf12 := hf1.trans hf2
 have hu2 : Up F H F H2 := Up.of_nil hf12
 have hl32 := defK_len (Classical.byContradiction h1)
 refine mdefine_k hM2 hv.ks hb hst (hout.rd hu2 hr) (hout.up hu2) (by have := hr.1; simp only [strsV, List.length_map] at this; omega) fun H3 F3 hM3 hu3 => ⟨_, _, rfl, ?_⟩
 refine end_k hM3 ⟨by omega, by omega⟩ fun H4 hK4 hf4 => ⟨_, rfl, ?_⟩
 have hu4 : Up F H F3 H4 := (hu2.trans hu3).trans ⟨hf4, fun _ h => .inl h⟩
 have := h H4 F3 hK4 hu4
 unfold kDefine at this
 rw [bneI, cond_dec]
 refine ite_i (fun h2 => ?_) fun h2 => ?_
 · rw [if_neg h2] at this; exact this
 · have hz := Classical.byContradiction h2
   rw [if_pos hz] at this
   have e0 : (kDef s t v.clsW name (v.cls[j]).oop own).1.2 = 0 := hz
   rw [e0] at this
   exact this
theorem kdefine_nil {name sup : ByteArray} {a : Option Addr} {l c : Nat} (h : Q (.tuple #[.int .i64 0, .int .i64 2]) H) : callS PP n_k17 #[.pointer none, .string name, .string sup, .slice a l c] Q H := by
 apply k17_ok
 unfold k17 iV pV sV lV cS
 exact there_nil ⟨_, rfl, h⟩
theorem KS.gwords {s : SP} {v : KV} (h : KS s v) : kwords s.h v.globA = globW v.glob := h.view.globs.kwords
theorem kglobal_k (hK : PK H b F s t) (hv : KAll s t v) {name : ByteArray}
   (h : ∀ H' F', PK H' b F' (kGlobalAll s v t name).2.1 (kGlobalAll s v t name).2.2 → Up F H F' H' → Q (.int .i64 (kGlobalAll s v t name).1) H') :
   callS PP n_k18 #[.pointer (some ⟨b, 0, none⟩), .string name] Q H := by
 have hg := hv.ks.shape.globs
 apply k18_ok
 unfold k18 A0 iV pV sV lV cS
 unfold kGlobalAll globK at h
 refine there_c hK ⟨_, rfl, ?_⟩
 simp only [Bool.not_true, cond_false]
 refine named_k (lo := 65) (up := 90) fun H1 hf1 => ⟨_, rfl, ?_⟩
 rw [← decide_not, cond_dec]
 refine ite_i (fun h1 => ?_) fun h1 => ?_
 · rw [if_pos h1, if_pos (by decide)] at h; exact h H1 F (hK.nil hf1) (Up.of_nil hf1)
 rw [if_neg h1] at h
 refine taken_k (hK.nil hf1) hv fun H2 hf2 => ⟨_, rfl, ?_⟩
 have hF2 := hf1.trans hf2
 rw [cond_dec]
 refine ite_i (fun h2 => ?_) fun h2 => ?_
 · rw [if_pos h2, if_pos (by decide)] at h; exact h H2 F (hK.nil hF2) (Up.of_nil hF2)
 rw [if_neg h2] at h
 refine globals_k (hK.nil hF2) hv fun a l c G H3 ho hf3 hG => ⟨_, _, _, rfl, ?_⟩
 have hF3 := hF2.trans hf3
 have hl : l = v.glob.length := by have := ho.len; simpa [strsV, globsK] using this.symm
 rw [cond_dec]
 refine ite_i (fun h3 => ?_) fun h3 => ?_
 · rw [if_pos (show 256 ≤ v.glob.length by omega), if_pos (by decide)] at h; exact h H3 F (hK.nil hF3) (Up.of_nil hF3)
 rw [if_neg (show ¬ 256 ≤ v.glob.length by omega), if_neg (by decide)] at h
 refine begin_k (hK.nil hF3) fun H4 mb hM4 hf4 => ⟨_, rfl, ?_⟩
 have hF4 := hF3.trans hf4
 have hu4 : Up F H F H4 := Up.of_nil hF4
 unfold kGlobal at h
 have hst : s.stack.length < 60000 := by rw [hv.stack]; decide
 have hkp : (0 : Int) ≤ s.stack.length ∧ (s.stack.length : Int) ≤ 1000000 := ⟨by omega, by omega⟩
 have fin : ∀ (R : Int × SP × TB) (H5 : Heap) (F5 : Foot), kGlob s t (globW v.glob) name = R → PM H5 mb b F5 R.2.1 R.2.2 t.texts.length s.h.mark s.stack.length → Up F H F5 H5 → callS PP n_k90 #[.pointer (some ⟨mb, 0, none⟩), .int .i64 R.1] (fun v37 H13 => ∃ n38 : Int, v37 = .int .i64 n38 ∧ Q (.int .i64 n38) H13) H5 := by
   intro R H5 F5 eR hM5 hu5
   rw [eR] at h
   exact end_k hM5 hkp fun H6 hK6 hf6 => ⟨_, rfl, h H6 F5 hK6 (hu5.trans ⟨hf6, fun _ h => .inl h⟩)⟩
 refine msymbol_k hM4 fun H5 F5 hM5 hu5 => ⟨_, _, rfl, ?_⟩
 have hu45 := hu4.trans hu5
 rw [beqI, cond_dec]
 refine ite_i (fun h5 => ?_) fun h5 => ?_
 rotate_left
 · have eR : kGlob s t (globW v.glob) name = ((t.add name).1.2, s, (t.add name).2) := by unfold kGlob; rw [if_pos h5]
   have := fin _ H5 F5 eR hM5 hu45
   exact this
 rw [if_pos h5]
 obtain ⟨nn, en, en2, _⟩ := add_ok name h5
 have eR : kGlob s t (globW v.glob) name = kGlob1 s (t.add name).2 (globW v.glob) (4 * (t.add name).1.1 + 2) := by unfold kGlob; rw [if_neg (by simpa using h5)]
 rw [en] at eR ⊢
 generalize (t.add name).2 = t1 at *
 unfold kGlob1 at eR
 have hwt1 := hM5.k.wft
 have hnn := (tx_some en2).2
 have hws : ∀ w ∈ globW v.glob ++ [4 * (nn : Int) + 2, 4], isW w := fun w hw => by
   rcases List.mem_append.1 hw with hw | hw
   · exact globW_words hv.ks w hw
   · simp only [List.mem_cons, List.not_mem_nil, or_false] at hw
     rcases hw with rfl | rfl
     · exact isW_sym hwt1 hnn
     · decide
 obtain ⟨k1, _⟩ := array_ok hv.ks (by omega) hws
 have mc : ∀ {H' : Heap}, Fr [] H5 H' → cellH H' ⟨mb, 0, none⟩ = some (.pointer (some ⟨b, 0, none⟩)) := fun hf => (hM5.m.fr hf (by simp)).cell 0
 refine ⟨_, rfl, _, hM5.m.cell 0, _, rfl, _, hM5.m.cell 0, root_k hM5.k fun H6 f6 => ⟨_, rfl, ⟨⟨mc f6, trivial⟩, trivial⟩, ?_⟩⟩
 rw [hv.ks.root1]
 refine words_k (hM5.k.nil f6) fun a7 l7 c7 G7 H7 ho7 f7 hG7 => ⟨_, _, _, rfl, trivial, object_c (by decide) ⟨_, rfl, trivial, trivial, ?_⟩⟩
 rw [KS.gwords hv.ks] at ho7
 have fp := (Fr.push [] H7 (.cells #[.int .i64 (4 * (nn : Int) + 2), .int .i64 4] 36))
 have hr2 : Rd 1 (H7.push (.cells #[.int .i64 (4 * (nn : Int) + 2), .int .i64 4] 36)) (some ⟨H7.size, 0, none⟩) 2 (intsV [4 * (nn : Int) + 2, 4]) := rd_new (cs := [4 * (nn : Int) + 2, 4])
 rw [show ((4 : Int) * 1) = 4 from rfl]
 generalize (H7.push (.cells #[.int .i64 (4 * (nn : Int) + 2), .int .i64 4] 36)) = Hp at fp hr2 ⊢
 have hgl := globW_len v.glob
 refine mappend_k (xs := [4 * (nn : Int) + 2, 4]) hM5 ((f6.trans f7).trans fp) (ho7.fr fp (by simp)) (fun x hx => Nat.le_trans f6.1 (hG7 x hx)) (by omega) hr2 (by decide) fun H8 F8 hM8 hu8 => ⟨_, _, rfl, trivial, ?_⟩
 have hu58 := hu45.trans hu8
 rw [beqI, cond_dec]
 refine ite_i (fun h6 => ?_) fun h6 => ?_
 · rw [if_neg (by simpa using h6)] at eR
   obtain ⟨sb, F1, hcs, hS, hsub, _, _, hup⟩ := hM8.k.sp
   refine ⟨_, rfl, _, hM8.m.cell 0, _, rfl, _, hcs, psSetRoot_c hS (fun o ho => ?_) fun H9 hS9 hf9 => ⟨_, rfl, ?_⟩⟩
   · obtain ⟨x, hx1, hx2, _⟩ := k1.view.root
     rw [k1.king] at ho
     rw [hx1] at ho; cases ho; exact hx2
   have hu9 : Up F8 H8 F8 H9 := ⟨hf9.mono hsub, fun _ h => .inl h⟩
   have := fin _ H9 F8 eR (hM8.up (hup H9 _ hS9 hf9) hu9) (hu58.trans hu9)
   rw [h6]; exact this
 · rw [if_pos h6] at eR
   have := fin _ H8 F8 eR hM8 hu58
   exact this
theorem kglobal_nil {name : ByteArray} (h : Q (.int .i64 2) H) : callS PP n_k18 #[.pointer none, .string name] Q H := by
 apply k18_ok
 unfold k18 A0 iV pV sV lV cS
 exact there_nil ⟨_, rfl, h⟩
theorem over_nil {q : Option Addr} (h : Q (.tuple #[.pointer none, .int .i64 2]) H) : callS PP n_k25 #[.pointer none, .pointer q] Q H := by
 apply k25_ok
 unfold k25 A0 iV pV
 exact h
theorem kspace_k (hK : PK H b F s t) (h : ∀ sb F1, cellH H ⟨b, 0, none⟩ = some (.pointer (some ⟨sb, 0, none⟩)) → PSp H sb F1 s → (∀ x ∈ F1, x ∈ F) → (∀ H' F1' s', PSp H' sb F1' s' → Up F1 H F1' H' → ∃ F', PK H' b F' s' t ∧ Up F H F' H') → (∀ H' s', PSp H' sb F1 s' → Fr F1 H H' → PK H' b F s' t) → Q (.pointer (some ⟨sb, 0, none⟩)) H) : callS PP n_k19 #[.pointer (some ⟨b, 0, none⟩)] Q H := by
 obtain ⟨sb, F1, hc, hS, hsub, _, hup, hup2⟩ := hK.sp
 apply k19_ok
 unfold k19 pV
 exact ⟨_, rfl, _, hc, h sb F1 hc hS hsub hup hup2⟩
theorem kspace_nil (h : Q (.pointer none) H) : callS PP n_k19 #[.pointer none] Q H := by
 apply k19_ok
 unfold k19 pV
 exact h
theorem ksymbols_k (hK : PK H b F s t) (h : ∀ tb F1, cellH H ⟨b, 1, none⟩ = some (.pointer (some ⟨tb, 0, none⟩)) → PTb H tb F1 t → Q (.pointer (some ⟨tb, 0, none⟩)) H) : callS PP n_k26 #[.pointer (some ⟨b, 0, none⟩)] Q H := by
 obtain ⟨tb, F1, hc, hT, _⟩ := hK.tb
 apply k26_ok
 unfold k26 pV
 exact ⟨_, rfl, _, hc, h tb F1 hc hT⟩
theorem ksymbols_nil (h : Q (.pointer none) H) : callS PP n_k26 #[.pointer none] Q H := by
 apply k26_ok
 unfold k26 pV
 exact h
end
section
variable {H : Heap} {b : Nat} {F : Foot} {s : SP} {t : TB} {v : KV} {Q : QT}
theorem globals_r (hK : RK H b F s t) (hv : KAll s t v) (h : ∀ a l c G H', Own 1 H' a l c (strsV (globsK v t)) G → Fr [] H H' → (∀ x ∈ G, H.size ≤ x) → Q (.slice a l c) H') : callS PP n_k78 #[.pointer (some ⟨b, 0, none⟩)] Q H := by
 have hs1 : sliceInfo PP 37 = some (1, 16, some (.string (⟨#[]⟩ : ByteArray))) := by kernel_rfl
 have hg := hv.ks.shape.globs
 obtain ⟨e0, b0, b1⟩ := KS.s1 hv.ks
 have h3 := hv.names.wf.m1
 have h4 := hv.names.wf.len
 apply k78_ok
 unfold k78 A0 iV wW pV sV lV cS
 refine root_r hK hv.ks e0 b0 b1 ⟨_, rfl, words_r hK fun aw lw cw Gw H0 how hfw hGw => ⟨_, _, _, rfl, ?_⟩⟩
 rw [show kwords s.h v.globA = globW v.glob from hv.ks.view.globs.kwords] at how
 have hgl := globW_len v.glob
 have hlw : lw = 2 * v.glob.length := by have := how.len; simp only [intsV, List.length_map, hgl] at this; omega
 have hlen : (globsK v t).length = v.glob.length := by simp [globsK]
 refine ⟨fun w H' => ∃ (i : Nat) (a : Option Addr) (l' c : Nat) (G : Foot), w = [.slice a l' c, .int .i64 (2 * i : Nat)] ∧ i ≤ v.glob.length ∧ Own 1 H' a l' c (strsV ((globsK v t).take i)) G ∧ Fr [] H0 H' ∧ (∀ x ∈ G, H0.size ≤ x), fun w _ => match w with
   | [_, .int _ i] => (2 * v.glob.length - i).toNat
   | _ => 0, ⟨0, none, 0, 0, [], rfl, Nat.zero_le _, by simpa [strsV] using Own.nil 1 H0, Fr.refl _ _, by simp⟩, ?_⟩
 rintro w H1 ⟨i, a1, l1, c1, G, rfl, hi, ho, hf1, hG⟩ _
 have hl1 : l1 = i := by have := ho.len; simp only [strsV, List.length_map, List.length_take] at this; omega
 refine ⟨_, _, _, _, rfl, ?_⟩
 have ew : IntKind.wrap .i64 (((2 * i : Nat) : Int) + 1) = ((2 * i : Nat) : Int) + 1 := wrap64_id (by omega) (by omega)
 rw [ew, cond_dec]
 refine ite_i (fun hlt => ?_) fun hlt => ?_
 · have hlt' : i < v.glob.length := by omega
   obtain ⟨p, rfl, hcell, hlt2⟩ := (how.rd.fr' hf1 (by simp)).int (i := ((2 * i : Nat) : Int)) (by omega) (by omega)
   rw [Int.toNat_natCast] at hcell hlt2
   have hx : (globW v.glob).getD (2 * i) 0 = symW v.glob[i].1 := by
     rw [List.getD_eq_getElem?_getD, (globW_get hlt').1]; rfl
   rw [hx] at hcell
   have hn := hv.names.glob _ (List.getElem_mem hlt')
   have htk : (globsK v t).take (i + 1) = (globsK v t).take i ++ [tx t v.glob[i].1] := by
     rw [List.take_add_one, List.getElem?_eq_getElem (by omega)]; simp [globsK]
   have e : IntKind.wrap .i64 (((2 * i : Nat) : Int) + 2) = ((2 * (i + 1) : Nat) : Int) := by rw [wrap64_id (by omega) (by omega)]; omega
   refine ⟨⟨by omega, by omega⟩, _, rfl, _, by rw [Int.toNat_natCast, Nat.mul_one]; exact hcell, text_r (hK.nil (hfw.trans hf1)) (I64_small (by unfold symW; omega) (by unfold symW; omega)) ⟨_, rfl, ?_⟩⟩
   rw [ktextW_sym hv.names.wf hn]
   refine evS_append1 hs1 rfl (by kernel_rfl) ho rfl (by simp [oneC]) (by omega) (by decide) (by decide) fun a' c' G2 H3 g1 g2 g3 => ⟨_, _, _, rfl, ?_⟩
   have hfr := Up.fresh hf1 g2 hG
   rw [e]
   refine ⟨⟨i + 1, a', l1 + 1, c', G2, rfl, by omega, ?_, hfr.1, hfr.2⟩, by simp; omega⟩
   rw [htk, strsV_append]; exact g1
 · rw [List.take_of_length_le (by omega)] at ho
   exact h _ _ _ _ H1 ho (hfw.trans hf1) fun x hx => Nat.le_trans hfw.1 (hG x hx)
theorem texts_r (hK : RK H b F s t) (hv : KAll s t v) {i : Nat} (hi : i < v.cls.length) (h : ∀ a l c G H', Own 1 H' a l c (strsV ((v.cls[i]).own.map (tx t))) G → Fr [] H H' → (∀ x ∈ G, H.size ≤ x) → Q (.slice a l c) H') : callS PP n_k264 #[.pointer (some ⟨b, 0, none⟩), .int .i64 (v.cls[i]).ownA] Q H := by
 have hs1 : sliceInfo PP 37 = some (1, 16, some (.string (⟨#[]⟩ : ByteArray))) := by kernel_rfl
 have h3 := hv.names.wf.m1
 have h4 := hv.names.wf.len
 have hown := hv.ks.view.own hi
 have hol : (v.cls[i]).own.length ≤ 8192 := by have := (hown.bnd hv.ks.wf.h).2.2.1; simpa using this
 apply k264_ok
 unfold k264 A0 iV wW pV sV lV cS
 refine words_r hK fun aw lw cw Gw H0 how hfw hGw => ⟨_, _, _, rfl, ?_⟩
 rw [hown.kwords] at how
 have hlw : lw = (v.cls[i]).own.length := by have := how.len; simpa [intsV] using this.symm
 refine ⟨fun w H' => ∃ (k : Nat) (a : Option Addr) (l' c : Nat) (G : Foot), w = [.slice a l' c, .int .i64 k] ∧ k ≤ (v.cls[i]).own.length ∧ Own 1 H' a l' c (strsV (((v.cls[i]).own.map (tx t)).take k)) G ∧ Fr [] H0 H' ∧ (∀ x ∈ G, H0.size ≤ x), fun w _ => match w with
   | [_, .int _ k] => ((v.cls[i]).own.length - k).toNat
   | _ => 0, ⟨0, none, 0, 0, [], rfl, Nat.zero_le _, by simpa [strsV] using Own.nil 1 H0, Fr.refl _ _, by simp⟩, ?_⟩
 rintro w H1 ⟨k, a1, l1, c1, G, rfl, hk, ho, hf1, hG⟩ _
 have hl1 : l1 = k := by have := ho.len; simp only [strsV, List.length_map, List.length_take] at this; omega
 refine ⟨_, _, _, _, rfl, ?_⟩
 rw [cond_dec]
 refine ite_i (fun hlt => ?_) fun hlt => ?_
 · have hlt' : k < (v.cls[i]).own.length := by omega
   obtain ⟨p, rfl, hcell, hlt2⟩ := (how.rd.fr' hf1 (by simp)).int (i := (k : Int)) (by omega) hlt
   rw [Int.toNat_natCast] at hcell hlt2
   have hx : ((v.cls[i]).own.map symW).getD k 0 = symW (v.cls[i]).own[k] := by simp [hlt']
   rw [hx] at hcell
   have hn := hv.names.own _ (List.getElem_mem hi) _ (List.getElem_mem hlt')
   have htk : ((v.cls[i]).own.map (tx t)).take (k + 1) = ((v.cls[i]).own.map (tx t)).take k ++ [tx t (v.cls[i]).own[k]] := by
     rw [List.take_add_one, List.getElem?_eq_getElem (by simpa using hlt')]; simp
   have e : IntKind.wrap .i64 ((k : Int) + 1) = ((k + 1 : Nat) : Int) := by rw [wrap64_id (by omega) (by omega)]; omega
   refine ⟨⟨by omega, hlt⟩, _, rfl, _, by rw [Int.toNat_natCast, Nat.mul_one]; exact hcell, text_r (hK.nil (hfw.trans hf1)) (I64_small (by unfold symW; omega) (by unfold symW; omega)) ⟨_, rfl, ?_⟩⟩
   rw [ktextW_sym hv.names.wf hn]
   refine evS_append1 hs1 rfl (by kernel_rfl) ho rfl (by simp [oneC]) (by omega) (by decide) (by decide) fun a' c' G2 H3 g1 g2 g3 => ⟨_, _, _, rfl, ?_⟩
   have hfr := Up.fresh hf1 g2 hG
   rw [e]
   refine ⟨⟨k + 1, a', l1 + 1, c', G2, rfl, by omega, ?_, hfr.1, hfr.2⟩, by simp; omega⟩
   rw [htk, strsV_append]; exact g1
 · rw [List.take_of_length_le (by simp; omega)] at ho
   exact h _ _ _ _ H1 ho (hfw.trans hf1) fun x hx => Nat.le_trans hfw.1 (hG x hx)
end
abbrev infoTailR (R0 LC : Addr) (Q : QT) (H6 : Heap) : Prop :=
 ∃ s36 : ByteArray, cellH H6 LC = some (.string s36) ∧ ∃ s37 : ByteArray, cellH H6 (LC.add 1) = some (.string s37) ∧ ∃ a38 : Option Addr, ∃ l38 : Nat, ∃ c38 : Nat, cellH H6 (LC.add 2) = some (.slice a38 l38 c38) ∧ ∃ n39 : Int, cellH H6 (LC.add 3) = some (.int .i64 n39) ∧
 Wr H6 R0 ∧ Wr (setH H6 R0 (.string s36)) (R0.add 1) ∧ Wr (setH (setH H6 R0 (.string s36)) (R0.add 1) (.string s37)) (R0.add 2) ∧ Wr (setH (setH (setH H6 R0 (.string s36)) (R0.add 1) (.string s37)) (R0.add 2) (.slice a38 l38 c38)) (R0.add 3) ∧
 ∃ s40 : ByteArray, cellH (setH (setH (setH (setH H6 R0 (.string s36)) (R0.add 1) (.string s37)) (R0.add 2) (.slice a38 l38 c38)) (R0.add 3) (.int .i64 n39)) R0 = some (.string s40) ∧
 ∃ s41 : ByteArray, cellH (setH (setH (setH (setH H6 R0 (.string s36)) (R0.add 1) (.string s37)) (R0.add 2) (.slice a38 l38 c38)) (R0.add 3) (.int .i64 n39)) (R0.add 1) = some (.string s41) ∧
 ∃ a42 : Option Addr, ∃ l42 : Nat, ∃ c42 : Nat, cellH (setH (setH (setH (setH H6 R0 (.string s36)) (R0.add 1) (.string s37)) (R0.add 2) (.slice a38 l38 c38)) (R0.add 3) (.int .i64 n39)) (R0.add 2) = some (.slice a42 l42 c42) ∧
 ∃ n43 : Int, cellH (setH (setH (setH (setH H6 R0 (.string s36)) (R0.add 1) (.string s37)) (R0.add 2) (.slice a38 l38 c38)) (R0.add 3) (.int .i64 n39)) (R0.add 3) = some (.int .i64 n43) ∧
 Q (.agg #[.string s40, .string s41, .slice a42 l42 c42, .int .i64 n43]) (setH (setH (setH (setH H6 R0 (.string s36)) (R0.add 1) (.string s37)) (R0.add 2) (.slice a38 l38 c38)) (R0.add 3) (.int .i64 n39))
section
variable {H : Heap} {b : Nat} {F : Foot} {s : SP} {t : TB} {v : KV} {Q : QT}
theorem info_tailR {r0 lc : Nat} {nm sup : ByteArray} {a : Option Addr} {l c : Nat} {ly : Int} {cs : Array Value} (hLC : Blk H lc #[.string nm, .string sup, .slice a l c, .int .i64 ly]) (hR0 : Blk H r0 cs) (hsz : cs.size = 4)
   (h : ∀ H', Fr [r0] H H' → Q (.agg #[.string nm, .string sup, .slice a l c, .int .i64 ly]) H') : infoTailR ⟨r0, 0, none⟩ ⟨lc, 0, none⟩ Q H := by
 obtain ⟨x0, x1, x2, x3, rfl⟩ : ∃ x0 x1 x2 x3, cs = #[x0, x1, x2, x3] := by
   obtain ⟨l⟩ := cs
   match l, hsz with
   | [x0, x1, x2, x3], _ => exact ⟨_, _, _, _, rfl⟩
 obtain ⟨w0, w1, w2, w3, hB, hf⟩ := st4 hR0 (o := 0) (by omega) (.string nm) (.string sup) (.slice a l c) (.int .i64 ly)
 exact ⟨_, hLC.cell 0, _, hLC.cell 1, _, _, _, hLC.cell 2, _, hLC.cell 3, w0, w1, w2, w3, _, hB.cell 0, _, hB.cell 1, _, _, _, hB.cell 2, _, hB.cell 3, h _ hf⟩
theorem rnum_c {n : Int} (h0 : -1000000000000 ≤ n) (h1 : n ≤ 1000000000000) (h : Q (.int .i64 n) H) : callS PP n_k265 #[.int .i64 (2 * n + 1)] Q H := by
 apply k265_ok
 unfold k265 iV wW
 have e1 : IntKind.wrap .i64 (2 * n + 1 - 1) = 2 * n := by rw [wrap64_id (by omega) (by omega)]; omega
 have e2 : Int.tdiv (2 * n) 2 = n := by rw [Int.mul_comm]; exact Int.mul_tdiv_cancel _ (by decide)
 have e3 : IntKind.wrap .i64 n = n := wrap64_id (by omega) (by omega)
 rw [e1, e2, e3]
 exact h
theorem info0_r (hK : RK H b F s t) (hv : KAll s t v) {i : Nat} (hi : i < v.cls.length) (h : ∀ a l c G H', Own 1 H' a l c (strsV (infoK v t i).own) G → Fr [] H H' → (∀ x ∈ G, H.size ≤ x) → Q (.agg #[.string (infoK v t i).name, .string (infoK v t i).sup, .slice a l c, .int .i64 (infoK v t i).lay]) H') :
   callS PP n_k221 #[.pointer (some ⟨b, 0, none⟩), .int .i64 (v.cls[i]).oop] Q H := by
 apply k221_ok
 unfold k221 A0 iV pV sV lV cS; dsimp only [shH]
 have hob := (hv.ks.view.own hi).bnd hv.ks.wf.h
 have hlay := hv.ks.shape.lay _ (List.getElem_mem hi)
 have hf0 : Fr [] H (H.push (.cells #[.string (⟨#[]⟩ : ByteArray), .string (⟨#[]⟩ : ByteArray), .slice none 0 0, .int .i64 0] 121)) := Fr.push _ _ _
 have hR0 := Blk.new H #[.string (⟨#[]⟩ : ByteArray), .string (⟨#[]⟩ : ByteArray), .slice none 0 0, .int .i64 0] 121
 have hK0 := hK.nil hf0
 generalize (H.push (.cells #[.string (⟨#[]⟩ : ByteArray), .string (⟨#[]⟩ : ByteArray), .slice none 0 0, .int .i64 0] 121)) = H0 at hf0 hR0 hK0 ⊢
 have hI : infoK v t i = ⟨tx t (v.cls[i]).name, (infoK v t i).sup, (v.cls[i]).own.map (tx t), (v.cls[i]).lay⟩ := by
   unfold infoK; rw [List.getElem?_eq_getElem hi]
 have en : (infoK v t i).name = tx t (v.cls[i]).name := by rw [hI]
 have eo : (infoK v t i).own = (v.cls[i]).own.map (tx t) := by rw [hI]
 have el : (infoK v t i).lay = (v.cls[i]).lay := by rw [hI]
 rw [en, eo, el] at h
 refine name_r hK0 hv hi ⟨_, rfl, slot_r hK0 ⟨_, rfl, ?_⟩⟩
 rw [hv.ks.c2 hi]
 refine refOop13_c (I64_small (by omega) (by omega)) ⟨_, rfl, ?_⟩
 rw [refOop_obj hob.1]
 refine texts_r hK0 hv hi fun a l c G H1 ho hf1 hG => ⟨_, _, _, rfl, slot_r (hK0.nil hf1) ⟨_, rfl, ?_⟩⟩
 rw [hv.ks.c5 hi]
 refine rnum_c (by omega) (by omega) ⟨_, rfl, ?_⟩
 have hf2 : Fr [] H1 (H1.push (.cells #[.string (⟨#[]⟩ : ByteArray), .string (⟨#[]⟩ : ByteArray), .slice none 0 0, .int .i64 0] 121)) := Fr.push _ _ _
 have hL := Blk.new H1 #[.string (⟨#[]⟩ : ByteArray), .string (⟨#[]⟩ : ByteArray), .slice none 0 0, .int .i64 0] 121
 have hl0 : H.size < H1.size := Nat.lt_of_lt_of_le hR0.lt hf1.1
 generalize hH2 : (H1.push (.cells #[.string (⟨#[]⟩ : ByteArray), .string (⟨#[]⟩ : ByteArray), .slice none 0 0, .int .i64 0] 121)) = H2 at hf2 hL ⊢
 obtain ⟨w0, w1, w2, w3, hB, hf3⟩ := st4 hL (o := 0) (by simp) (.string (tx t (v.cls[i]).name)) (.string ⟨#[]⟩) (.slice a l c) (.int .i64 (v.cls[i]).lay)
 refine ⟨w0, w1, w2, w3, ?_⟩
 have hF2 := (hf0.trans hf1).trans hf2
 have hF3 := (Up.fresh hF2 (F := [H1.size]) (F' := [H1.size]) ⟨hf3, fun _ h => .inl h⟩ (by simp; omega)).1
 have hG' : ∀ x ∈ G, H.size < x ∧ x < H1.size := fun x hx => ⟨Nat.lt_of_lt_of_le hR0.lt (hG x hx), ho.lt x hx⟩
 have hR3 := ((hR0.fr hf1 (by simp)).fr hf2 (by simp)).fr hf3 (by simp; omega)
 have hB' : Blk _ H1.size #[.string (tx t (v.cls[i]).name), .string ⟨#[]⟩, .slice a l c, .int .i64 (v.cls[i]).lay] := hB
 have ho3 : Own 1 (setH (setH (setH (setH H2 ⟨H1.size, 0, none⟩ (.string (tx t (v.cls[i]).name))) ⟨H1.size, 0 + 1, none⟩ (.string ⟨#[]⟩)) ⟨H1.size, 0 + 2, none⟩ (.slice a l c)) ⟨H1.size, 0 + 3, none⟩ (.int .i64 (v.cls[i]).lay)) a l c (strsV ((v.cls[i]).own.map (tx t))) G :=
   (ho.fr hf2 (by simp)).fr hf3 fun x hx hm => by simp only [List.mem_singleton] at hm; have := (hG' x hx).2; omega
 have fin : ∀ H' (_ : Fr [H1.size, H.size] (setH (setH (setH (setH H2 ⟨H1.size, 0, none⟩ (.string (tx t (v.cls[i]).name))) ⟨H1.size, 0 + 1, none⟩ (.string ⟨#[]⟩)) ⟨H1.size, 0 + 2, none⟩ (.slice a l c)) ⟨H1.size, 0 + 3, none⟩ (.int .i64 (v.cls[i]).lay)) H'), Q (.agg #[.string (tx t (v.cls[i]).name), .string (infoK v t i).sup, .slice a l c, .int .i64 (v.cls[i]).lay]) H' := by
   intro H' hf'
   refine h a l c G H' (ho3.fr hf' fun x hx hm => ?_) ?_ fun x hx => Nat.le_of_lt (hG' x hx).1
   · have := hG' x hx
     simp only [List.mem_cons, List.not_mem_nil, or_false] at hm
     omega
   · exact (Up.fresh hF3 (F := [H1.size, H.size]) (F' := [H1.size, H.size]) ⟨hf', fun _ h => .inl h⟩ (by simp; omega)).1
 have hK3 := hK.nil hF3
 show callS PP n_k224 _ _ (setH (setH (setH (setH H2 ⟨H1.size, 0, none⟩ (.string (tx t (v.cls[i]).name))) ⟨H1.size, 0 + 1, none⟩ (.string ⟨#[]⟩)) ⟨H1.size, 0 + 2, none⟩ (.slice a l c)) ⟨H1.size, 0 + 3, none⟩ (.int .i64 (v.cls[i]).lay))
 generalize (setH (setH (setH (setH H2 ⟨H1.size, 0, none⟩ (.string (tx t (v.cls[i]).name))) ⟨H1.size, 0 + 1, none⟩ (.string ⟨#[]⟩)) ⟨H1.size, 0 + 2, none⟩ (.slice a l c)) ⟨H1.size, 0 + 3, none⟩ (.int .i64 (v.cls[i]).lay)) = H3 at *
 refine up_r hK3 hv.ks hi ⟨_, rfl, ?_⟩
 have hsup : (infoK v t i).sup = match upIdx v i with
   | some j => match v.cls[j]? with
     | some d => tx t d.name
     | none => ⟨#[]⟩
   | none => ⟨#[]⟩ := by unfold infoK; rw [List.getElem?_eq_getElem hi] <;> rfl
 rw [bneI, cond_dec]
 rcases hv.ks.upI hi with ⟨_, e0, e1⟩ | ⟨j, hj, hlt, e0, _, e1⟩
 · rw [e1] at hsup
   simp only at hsup
   rw [e0, if_neg (by decide)]
   rw [hsup] at fin
   exact info_tailR hB' hR3 (by simp) fun H' hf' => fin H' (hf'.mono (by simp))
 · rw [e1] at hsup
   simp only [List.getElem?_eq_getElem hj] at hsup
   have hb := (up_arr hv.ks hj).1
   rw [e0, if_pos (by omega)]
   refine name_r hK3 hv hj ⟨_, rfl, hB'.wr (o := 1) (by simp), ?_⟩
   rw [← hsup]
   have hfl : Fr [H1.size] H3 (setH H3 ⟨H1.size, 1, none⟩ (.string (infoK v t i).sup)) := Fr.set (by simp)
   exact info_tailR (hB'.set 1 (.string (infoK v t i).sup)) (hR3.fr hfl (by simp; omega)) (by simp) fun H' hf' => fin H' ((hfl.mono (by simp)).trans (hf'.mono (by simp)))
theorem info_r (hK : RK H b F s t) (hv : KAll s t v) {o : Int} (h1 : ∀ i, plK v o = some i → ∀ a l c G H', Own 1 H' a l c (strsV (infoK v t i).own) G → Fr [] H H' → (∀ x ∈ G, H.size ≤ x) → Q (.tuple #[.agg #[.string (infoK v t i).name, .string (infoK v t i).sup, .slice a l c, .int .i64 (infoK v t i).lay], .int .i64 0]) H')
   (h2 : plK v o = none → ∀ H', Fr [] H H' → Q (.tuple #[.agg #[.string ⟨#[]⟩, .string ⟨#[]⟩, .slice none 0 0, .int .i64 0], .int .i64 130]) H') : callS PP n_k124 #[.pointer (some ⟨b, 0, none⟩), .int .i64 o] Q H := by
 apply k124_ok
 unfold k124 A0 iV pV sV lV cS; dsimp only [shH]
 have hf0 : Fr [] H (H.push (.cells #[.string (⟨#[]⟩ : ByteArray), .string (⟨#[]⟩ : ByteArray), .slice none 0 0, .int .i64 0] 121)) := Fr.push _ _ _
 have hR0 := Blk.new H #[.string (⟨#[]⟩ : ByteArray), .string (⟨#[]⟩ : ByteArray), .slice none 0 0, .int .i64 0] 121
 have hK0 := hK.nil hf0
 generalize (H.push (.cells #[.string (⟨#[]⟩ : ByteArray), .string (⟨#[]⟩ : ByteArray), .slice none 0 0, .int .i64 0] 121)) = H0 at hf0 hR0 hK0 ⊢
 refine place_r hK0 hv.ks fun H1 hf1 => ⟨_, rfl, ?_⟩
 unfold placeN
 cases hp : plK v o with
 | none =>
   simp only [show ((0 : Int) == 0) = true from rfl, cond_true]
   obtain ⟨w0, w1, w2, w3, hB, hf⟩ := st4 (hR0.fr hf1 (by simp)) (o := 0) (by simp) (.string ⟨#[]⟩) (.string ⟨#[]⟩) (.slice none 0 0) (.int .i64 0)
   refine ⟨w0, w1, w2, w3, _, hB.cell 0, _, hB.cell 1, _, _, _, hB.cell 2, _, hB.cell 3, h2 hp _ ?_⟩
   exact (Up.fresh (hf0.trans hf1) (F := [H.size]) (F' := [H.size]) ⟨hf, fun _ h => .inl h⟩ (by simp)).1
 | some i =>
   obtain ⟨hi, rfl⟩ := plK_some hp
   rw [beqI, cond_dec, if_neg (by simp only; omega)]
   refine info0_r (hK0.nil hf1) hv hi fun a l c G H2 ho hf2 hG => ⟨_, _, _, _, _, _, rfl, ?_⟩
   obtain ⟨w0, w1, w2, w3, hB, hf⟩ := st4 ((hR0.fr hf1 (by simp)).fr hf2 (by simp)) (o := 0) (by simp) (.string (infoK v t i).name) (.string (infoK v t i).sup) (.slice a l c) (.int .i64 (infoK v t i).lay)
   have hl0 : H.size < H1.size := Nat.lt_of_lt_of_le hR0.lt hf1.1
   refine ⟨w0, w1, w2, w3, _, hB.cell 0, _, hB.cell 1, _, _, _, hB.cell 2, _, hB.cell 3, h1 i hp a l c G _ (ho.fr hf fun x hx hm => ?_) ?_ fun x hx => ?_⟩
   · simp only [List.mem_singleton] at hm
     have := hG x hx; omega
   · exact (Up.fresh ((hf0.trans hf1).trans hf2) (F := [H.size]) (F' := [H.size]) ⟨hf, fun _ h => .inl h⟩ (by simp)).1
   · have := hG x hx; omega
theorem layout_r (hK : RK H b F s t) (hv : KAll s t v) {o : Int} (h : ∀ H', Fr [] H H' → Q (match plK v o with | some i => .tuple #[.int .i64 (infoK v t i).lay, .int .i64 0] | none => .tuple #[.int .i64 0, .int .i64 130]) H') : callS PP n_k193 #[.pointer (some ⟨b, 0, none⟩), .int .i64 o] Q H := by
 apply k193_ok
 unfold k193 A0 iV pV sV lV; dsimp only [shH]
 refine info_r hK hv (fun i hp a l c G H1 ho hf hG => ?_) fun hp H1 hf => ?_
 · rw [hp] at h
   have hL := Blk.new H1 #[.string (⟨#[]⟩ : ByteArray), .string (⟨#[]⟩ : ByteArray), .slice none 0 0, .int .i64 0] 121
   obtain ⟨w0, w1, w2, w3, hB, hf3⟩ := st4 hL (o := 0) (by simp) (.string (infoK v t i).name) (.string (infoK v t i).sup) (.slice a l c) (.int .i64 (infoK v t i).lay)
   refine ⟨_, _, _, _, _, _, _, rfl, w0, w1, w2, w3, _, hB.cell 3, h _ ?_⟩
   exact (Up.fresh (hf.trans (Fr.push [] H1 _)) (F := [H1.size]) (F' := [H1.size]) ⟨hf3, fun _ h => .inl h⟩ (by have := hf.1; simpa using this)).1
 · rw [hp] at h
   have hL := Blk.new H1 #[.string (⟨#[]⟩ : ByteArray), .string (⟨#[]⟩ : ByteArray), .slice none 0 0, .int .i64 0] 121
   obtain ⟨w0, w1, w2, w3, hB, hf3⟩ := st4 hL (o := 0) (by simp) (.string ⟨#[]⟩) (.string ⟨#[]⟩) (.slice none 0 0) (.int .i64 0)
   refine ⟨_, _, _, _, _, _, _, rfl, w0, w1, w2, w3, _, hB.cell 3, h _ ?_⟩
   exact (Up.fresh (hf.trans (Fr.push [] H1 _)) (F := [H1.size]) (F' := [H1.size]) ⟨hf3, fun _ h => .inl h⟩ (by have := hf.1; simpa using this)).1
end
def letterN (n : Nat) : Prop := (97 ≤ n ∧ n ≤ 122) ∨ (65 ≤ n ∧ n ≤ 90)
instance (n : Nat) : Decidable (letterN n) := inferInstanceAs (Decidable (_ ∨ _))
def plainN (s : ByteArray) : Prop := 1 ≤ s.size ∧ s.size ≤ 32 ∧ letterN (gB s 0) ∧ ∀ i, i < s.size → alnum (gB s i)
noncomputable instance (s : ByteArray) : Decidable (plainN s) := Classical.propDecidable _
section
variable {H : Heap} {Q : QT}
end
def InfoR : RepT CI := fun H ys x F => ∃ a l c, ys = [.string x.name, .string x.sup, .slice a l c, .int .i64 x.lay] ∧ Own 1 H a l c (strsV x.own) F
theorem InfoR.fr : FrR InfoR := fun H H' ys x F ⟨a, l, c, e, h⟩ he => ⟨a, l, c, e, h.keep he⟩
theorem InfoR.lt : LtR InfoR := fun H ys x F ⟨a, l, c, e, h⟩ => h.lt
def infosK (v : KV) (t : TB) : List CI := (List.range v.cls.length).map (infoK v t)
section
variable {H : Heap} {b : Nat} {F : Foot} {s : SP} {t : TB} {v : KV} {Q : QT}
theorem infos_r (hK : RK H b F s t) (hv : KAll s t v) (h : ∀ a l c G H', LRep 4 InfoR H' a l c (infosK v t) G → Fr [] H H' → (∀ x ∈ G, H.size ≤ x) → Q (.slice a l c) H') : callS PP n_k223 #[.pointer (some ⟨b, 0, none⟩)] Q H := by
 have hs1 : sliceInfo PP 40 = some (4, 64, some (.agg #[.string (⟨#[]⟩ : ByteArray), .string (⟨#[]⟩ : ByteArray), .slice none 0 0, .int .i64 0])) := by kernel_rfl
 have hm1 := hv.ks.shape.many1
 apply k223_ok
 unfold k223 A0 iV wW pV sV lV cS
 refine all_r hK hv.ks fun al ll cl Gl H0 hol hfl hGl => ⟨_, _, _, rfl, ?_⟩
 have hll : ll = v.cls.length := by have := hol.len; simpa [intsV, oopsK] using this.symm
 have hlen : (infosK v t).length = v.cls.length := by simp [infosK]
 refine ⟨fun w H' => ∃ (i : Nat) (a : Option Addr) (l' c : Nat) (G : Foot), w = [.slice a l' c, .int .i64 i] ∧ i ≤ v.cls.length ∧ LRep 4 InfoR H' a l' c ((infosK v t).take i) G ∧ Fr [] H0 H' ∧ (∀ x ∈ G, H0.size ≤ x), fun w _ => match w with
   | [_, .int _ i] => (v.cls.length - i).toNat
   | _ => 0, ⟨0, none, 0, 0, [], rfl, Nat.zero_le _, by simpa using LRep.nil, Fr.refl _ _, by simp⟩, ?_⟩
 rintro w H1 ⟨i, a1, l1, c1, G, rfl, hi, ho, hf1, hG⟩ _
 have hl1 : l1 = i := by have := ho.len; simp only [List.length_take] at this; omega
 refine ⟨_, _, _, _, rfl, ?_⟩
 rw [cond_dec]
 refine ite_i (fun hlt => ?_) fun hlt => ?_
 · have hlt' : i < v.cls.length := by omega
   obtain ⟨p, rfl, hcell⟩ := rd_oops hol hf1 hlt'
   have htk : (infosK v t).take (i + 1) = (infosK v t).take i ++ [infoK v t i] := by
     rw [List.take_add_one, List.getElem?_eq_getElem (by omega)]; simp [infosK]
   have e : IntKind.wrap .i64 ((i : Int) + 1) = ((i + 1 : Nat) : Int) := by rw [wrap64_id (by omega) (by omega)]; omega
   refine ⟨⟨by omega, hlt⟩, _, rfl, _, by rw [Int.toNat_natCast]; exact hcell, info0_r (hK.nil (hfl.trans hf1)) hv hlt' fun a l c G2 H2 ho2 hf2 hG2 => ⟨_, _, _, _, _, _, rfl, ?_⟩⟩
   have hlt1 := ho.lt InfoR.lt
   refine LRep.snoc (x := infoK v t i) (G := G2) InfoR.fr InfoR.lt hs1 rfl (by kernel_rfl) (ho.fr InfoR.fr InfoR.lt hf2 (Disj.nil_right _)) ⟨a, l, c, rfl, ho2⟩ rfl (fun x hx hx2 => ?_) (by simp [oneC]) (by omega) (by decide) (by decide) fun a' c' F' H3 g1 g2 g3 => ⟨_, _, _, rfl, ?_⟩
   · have := hlt1 x hx
     have := hG2 x hx2
     omega
   · rw [e]
     have hf3 : Fr [] H0 H3 := (Up.fresh (hf1.trans hf2) (F := G) (F' := G) ⟨g2, fun _ h => .inl h⟩ hG).1
     refine ⟨⟨i + 1, a', l1 + 1, c', F', rfl, by omega, by rw [htk]; exact g1, hf3, fun x hx => ?_⟩, by simp; omega⟩
     rcases g3 x hx with h5 | h5 | h5
     · exact hG x h5
     · exact Nat.le_trans hf1.1 (hG2 x h5)
     · exact Nat.le_trans (hf1.trans hf2).1 h5
 · rw [List.take_of_length_le (by omega)] at ho
   exact h _ _ _ _ H1 ho (hfl.trans hf1) fun x hx => Nat.le_trans hfl.1 (hG x hx)
theorem info_get {a : Option Addr} {l c : Nat} {G : Foot} (hL : LRep 4 InfoR H a l c (infosK v t) G) {i : Nat} (hi : i < v.cls.length) : ∃ p a2 l2 c2 G2, a = some p ∧ p.spot = none ∧ cellH H (p.add (i * 4)) = some (.string (infoK v t i).name) ∧ cellH H ((p.add (i * 4)).add 1) = some (.string (infoK v t i).sup) ∧
   cellH H ((p.add (i * 4)).add 2) = some (.slice a2 l2 c2) ∧ Own 1 H a2 l2 c2 (strsV (infoK v t i).own) G2 ∧ ∀ x ∈ G2, x ∈ G := by
 obtain ⟨p, ys, G2, hp, hsp, hoff, hcell, hyl, ⟨a2, l2, c2, e, ho⟩, hsub⟩ := hL.get (i := i) (by simpa [infosK] using hi)
 have ei : (infosK v t)[i]'(by simpa [infosK] using hi) = infoK v t i := by simp [infosK]
 rw [ei] at e ho
 subst e
 obtain ⟨pb, po, ps⟩ := p
 simp only at hsp hoff
 subst hsp hoff
 have h0 := hcell 0 (by decide)
 have h1 := hcell 1 (by decide)
 have h2 := hcell 2 (by decide)
 refine ⟨_, a2, l2, c2, G2, hp, rfl, ?_, ?_, ?_, ho, hsub⟩
 · rw [add_none, Nat.zero_add]; exact h0
 · rw [add_none, add_none, Nat.zero_add]; exact h1
 · rw [add_none, add_none, Nat.zero_add]; exact h2
theorem at_r {a : Option Addr} {l c : Nat} {G : Foot} (hL : LRep 4 InfoR H a l c (infosK v t) G) {n : Nat} (hn : n ≤ v.cls.length) (hm : v.cls.length ≤ 256) {x : ByteArray}
   (h1 : ∀ j, j < n → (infoK v t j).name = x → (∀ k, k < j → (infoK v t k).name ≠ x) → Q (.int .i64 j) H) (h2 : (∀ k, k < n → (infoK v t k).name ≠ x) → Q (.int .i64 (-1)) H) :
   callS PP n_k266 #[.slice a l c, .int .i64 n, .string x] Q H := by
 have hl : l = v.cls.length := by have := hL.len; simpa [infosK] using this
 apply k266_ok
 unfold k266 iV wW sV
 refine ⟨fun w H' => H' = H ∧ ∃ i : Nat, w = [.int .i64 i] ∧ i ≤ n ∧ ∀ k, k < i → (infoK v t k).name ≠ x, fun w _ => match w with
   | [.int _ i] => (n - i).toNat
   | _ => 0, ⟨rfl, 0, rfl, Nat.zero_le _, fun k hk => by omega⟩, ?_⟩
 rintro w H1 ⟨rfl, i, rfl, hi, hno⟩ _
 refine ⟨_, rfl, ?_⟩
 rw [cond_dec]
 refine ite_i (fun hlt => ?_) fun hlt => ?_
 · obtain ⟨p, a2, l2, c2, G2, rfl, _, c0, _⟩ := info_get hL (i := i) (by omega)
   have e : IntKind.wrap .i64 ((i : Int) + 1) = ((i + 1 : Nat) : Int) := by rw [wrap64_id (by omega) (by omega)]; omega
   refine ⟨⟨by omega, by omega⟩, _, rfl, _, by rw [Int.toNat_natCast]; exact c0, ?_⟩
   rw [strEq_dec, cond_dec]
   refine ite_i (fun he => h1 i (by omega) he hno) fun he => ?_
   rw [e]
   refine ⟨⟨rfl, i + 1, rfl, by omega, fun k hk => ?_⟩, by simp; omega⟩
   rcases Nat.lt_or_ge k i with h5 | h5
   · exact hno k h5
   · have : k = i := by omega
     subst this; exact he
 · have : i = n := by omega
   subst this
   exact h2 hno
end
def HB (H : Heap) (b sb hb : Nat) : Prop := cellH H ⟨b, 0, none⟩ = some (.pointer (some ⟨sb, 0, none⟩)) ∧ cellH H ⟨sb, 0, none⟩ = some (.pointer (some ⟨hb, 0, none⟩))
theorem cell_lt {H : Heap} {b o : Nat} {v : Value} (h : cellH H ⟨b, o, none⟩ = some v) : b < H.size := by
 unfold cellH at h
 rcases Nat.lt_or_ge b H.size with h1 | h1
 · exact h1
 · simp only [Array.getElem?_eq_none h1] at h; cases h
theorem HB.nil {H H' : Heap} {b sb hb : Nat} (h : HB H b sb hb) (hf : Fr [] H H') : HB H' b sb hb := by
 obtain ⟨h1, h2⟩ := h
 exact ⟨by rw [cell_fr hf (by simp) (cell_lt h1)]; exact h1, by rw [cell_fr hf (by simp) (cell_lt h2)]; exact h2⟩
section
variable {H : Heap} {b sb hb : Nat} {F : Foot} {s : SP} {t : TB} {Q : QT}
theorem PK.hp (hK : PK H b F s t) (hB : HB H b sb hb) : ∃ F1, HRep H hb F1 s.h ∧ (∀ x ∈ F1, x ∈ F) ∧ ∀ H' r', HRep H' hb F1 r' → Fr F1 H H' → PK H' b F { s with h := r' } t ∧ HB H' b sb hb := by
 obtain ⟨sb', F1, hc, hS, hsub, hbF, _, hup⟩ := hK.sp
 obtain ⟨hc1, hc2⟩ := hB
 rw [hc] at hc1
 have e : sb' = sb := by simpa using hc1
 subst e
 obtain ⟨hb', F2, hR, c0, _, _, hsub2, hnb, hup2⟩ := hS.upd
 rw [c0] at hc2
 have e : hb' = hb := by simpa using hc2
 subst e
 have hbl := hK.lt b hK.bmem
 have hsl := hS.lt _ hS.bmem
 refine ⟨F2, hR, fun x hx => hsub x (hsub2 x hx), fun H' r' hR' hf => ⟨hup H' _ (hup2 H' r' hR' hf) (hf.mono hsub2), ?_, ?_⟩⟩
 · rw [cell_fr hf (fun hm => hbF (hsub2 b hm)) hbl]; exact hc
 · rw [cell_fr hf hnb hsl]; exact c0
theorem PK.tbB (hK : PK H b F s t) (hB : HB H b sb hb) : ∃ tb F2, cellH H ⟨b, 1, none⟩ = some (.pointer (some ⟨tb, 0, none⟩)) ∧ PTb H tb F2 t ∧ ∀ H' F2' t', PTb H' tb F2' t' → Up F2 H F2' H' → (∃ F', PK H' b F' s t' ∧ Up F H F' H') ∧ HB H' b sb hb := by
 obtain ⟨sb0, tb, F1, F2, rfl, h1, h2, h3, k1, k2, hBl, hS, hT⟩ := hK
 have hK : PK H b (b :: (F1 ++ F2)) s t := ⟨sb0, tb, F1, F2, rfl, h1, h2, h3, k1, k2, hBl, hS, hT⟩
 obtain ⟨tb', F2', hc', hT', hsub', hbF', hup', _⟩ := hK.tb
 obtain ⟨hc1, hc2⟩ := hB
 have e0 : cellH H ⟨b, 0, none⟩ = some (.pointer (some ⟨sb0, 0, none⟩)) := hBl.cell 0
 rw [e0] at hc1
 have e : sb0 = sb := by simpa using hc1
 subst e
 have hbl := hK.lt b hK.bmem
 have hsl := hS.lt _ hS.bmem
 refine ⟨tb, F2, hBl.cell 1, hT, fun H' F2' t' hT2 hu => ⟨?_, ?_, ?_⟩⟩
 · have hlt := hK.lt
   have hgl := hK.kinds.lt
   have hgS := hS.gk
   refine ⟨b :: (F1 ++ F2'), ⟨_, tb, F1, F2', rfl, h1, Up.out hu h2 hbl, fun x hx hx2 => ?_, k1, Up.out hu k2 hgl, hBl.fr hu.1 h2, hS.fr hu.1 h3 k2, hT2⟩, hu.1.mono fun x hx => by simp [hx], fun x hx => ?_⟩
   · rcases hu.2 x hx2 with h4 | h4
     · exact h3 x hx h4
     · have := hlt x (by simp [hx]); omega
   · rcases List.mem_cons.1 hx with rfl | hx
     · exact .inl (by simp)
     · rcases List.mem_append.1 hx with hx | hx
       · exact .inl (by simp [hx])
       · exact (hu.2 x hx).imp (fun h4 => by simp [h4]) id
 · rw [cell_fr hu.1 h2 hbl]; exact e0
 · rw [cell_fr hu.1 (h3 _ hS.bmem) hsl]; exact hc2
theorem put_all {r : RH} (h : ∀ k x, objAt r.objs k = some x → x.fmt = 0) (k i w : Int) : ∀ j x, objAt (r.put k i w).2.objs j = some x → x.fmt = 0 := fun j x hx => by
 obtain ⟨y, h1, h2⟩ := put_fmt k i w j hx
 rw [h2]; exact h j y h1
theorem lay_all (o : Int) (l : List Int) : ∀ (i : Int) {r : RH}, (∀ k x, objAt r.objs k = some x → x.fmt = 0) → ∀ j x, objAt (r.lay o i l).objs j = some x → x.fmt = 0 := by
 induction l with
 | nil => intro i r h; exact h
 | cons w l ih => intro i r h; exact ih (i + 1) (put_all h o i w)
theorem fillN_all {r : RH} (h : ∀ k x, objAt r.objs k = some x → x.fmt = 0) (n : Nat) : ∀ j x, objAt (fillN r n).objs j = some x → x.fmt = 0 := by
 induction n with
 | zero => exact h
 | succ n ih => exact put_all (lay_all _ _ _ ih) _ _ _
theorem fill_k (hK : PK H b F s ⟨4096, []⟩) (hB : HB H b sb hb) (hfmt : ∀ k x, objAt s.h.objs k = some x → x.fmt = 0)
   (h : ∀ H' F', PK H' b F' { s with h := bootH s.h } bootT → HB H' b sb hb → Up F H F' H' → Q (.tuple #[]) H') : callS PP n_k52 #[.pointer (some ⟨b, 0, none⟩)] Q H := by
 have h14 : kNames.length = 14 := rfl
 apply k52_ok
 unfold k52 A0 iV wW pV sV lV cS
 obtain ⟨sb0, F1, hc, hS, _⟩ := hK.sp
 have e0 : sb0 = sb := by
   have := hB.1
   rw [hc] at this; simpa using this
 subst e0
 refine ⟨_, rfl, _, hc, ?_⟩
 have hps : ∀ {Q' : Value → Heap → Prop}, Q' (.pointer (some ⟨hb, 0, none⟩)) H → callS PP n_k20 #[.pointer (some ⟨sb0, 0, none⟩)] Q' H := by
   intro Q' hq
   obtain ⟨hb', F1', hR, c0, _⟩ := hS.upd
   obtain ⟨hc1, hc2⟩ := hB
   rw [c0] at hc2
   have e : hb' = hb := by simpa using hc2
   subst e
   apply k20_ok
   unfold k20 pV
   refine sgone_c hS ⟨_, rfl, ?_⟩
   simp only [cond_false]
   exact ⟨_, rfl, _, c0, hq⟩
 refine hps ⟨_, rfl, ?_⟩
 apply k48_ok
 unfold k48 A0 sV lV
 refine ⟨_, _, _, rfl, ?_⟩
 have fp := (Fr.push [] H (.cells (strsV kNames).toArray 9))
 have hN : Rd 1 (H.push (.cells (strsV kNames).toArray 9)) (some ⟨H.size, 0, none⟩) 14 (strsV kNames) := by
   refine ⟨rfl, (fun h => by cases h), fun p hp k hk => ?_⟩
   cases hp
   rw [add_none, Nat.zero_add, (Blk.new H _ _).cell]
   simp
 have hNo : Out (H.push (.cells (strsV kNames).toArray 9)) (some ⟨H.size, 0, none⟩) F := fun p hp => by
   cases hp
   exact ⟨by simp, fun hm => absurd (hK.lt _ hm) (Nat.lt_irrefl _)⟩
 have hK1 := hK.nil fp
 have hB1 : HB (H.push (.cells (strsV kNames).toArray 9)) b sb0 hb := HB.nil hB fp
 show ∃ (I8 : List Value → Heap → Prop) (μ8 : List Value → Heap → Nat), I8 [.int .i64 0] (H.push (.cells (strsV kNames).toArray 9)) ∧ _
 generalize (H.push (.cells (strsV kNames).toArray 9)) = H0 at fp hN hNo hK1 hB1 ⊢
 refine ⟨fun w H' => ∃ (i : Nat) (F' : Foot), w = [.int .i64 i] ∧ i ≤ 14 ∧ PK H' b F' { s with h := fillN s.h i } ⟨4096, kNames.take i⟩ ∧ HB H' b sb0 hb ∧ Up F H0 F' H', fun w _ => match w with
   | [.int _ i] => (14 - i).toNat
   | _ => 0, ⟨0, F, rfl, by decide, hK1, hB1, Up.refl _ _⟩, ?_⟩
 rintro w H3 ⟨i, F3, rfl, hi, hK3, hB3, hu3⟩ _
 refine ⟨_, rfl, ?_⟩
 rw [cond_dec]
 refine ite_i (fun hlt => ?_) fun hlt => ?_
 · have hlt' : i < kNames.length := by omega
   obtain ⟨p, hlt2, hp, hcell⟩ := (hNo.rd hu3 hN).str (i := (i : Int)) (by omega) (by omega)
   cases hp
   simp only [Int.toNat_natCast] at hcell hlt2
   have e1 : IntKind.wrap .i64 ((i : Int) + 1) = ((i + 1 : Nat) : Int) := by rw [wrap64_id (by omega) (by omega)]; omega
   have e1' : IntKind.wrap .i64 ((i : Int) + 1) = (i : Int) + 1 := wrap64_id (by omega) (by omega)
   have e4 : IntKind.wrap .i64 (4 + (i : Int)) = 4 + (i : Int) := wrap64_id (by omega) (by omega)
   obtain ⟨tb, F4, hc4, hT4, hup4⟩ := PK.tbB hK3 hB3
   refine ⟨⟨by omega, hlt⟩, _, rfl, _, by rw [Int.toNat_natCast, Nat.mul_one]; exact hcell, _, rfl, _, hc4, ptAdd_c hT4 fun H4 F4' hT4' hu4 => ⟨_, _, rfl, ?_⟩⟩
   rw [bootAdd hlt'] at hT4' ⊢
   obtain ⟨⟨F5, hK5, hu5⟩, hB5⟩ := hup4 H4 F4' _ hT4' hu4
   refine sym_c ⟨by simp only; omega, by simp only; omega⟩ ⟨_, _, rfl, object_c (by decide) ⟨_, rfl, ?_⟩⟩
   refine ⟨fun w H' => w = [.int .i64 (if i = 0 then 4 else 16)] ∧ H' = H4, ?_, ?_⟩
   · rw [beqI, cond_dec]
     refine ite_i (fun h0 => object_c (by decide) ⟨_, rfl, ?_, rfl⟩) fun h0 => ⟨?_, rfl⟩
     · rw [if_pos (by omega)]; rfl
     · rw [if_neg (by omega)]; rfl
   rintro w H4' ⟨rfl, rfl⟩ _
   refine ⟨_, rfl, object_c (by decide) ⟨_, rfl, object_c (by decide) ⟨_, rfl, object_c (by decide) ⟨_, rfl, integer_c (by decide) ⟨_, rfl, ?_⟩⟩⟩⟩⟩
   rw [e1', e4]
   refine integer_c ⟨by omega, by omega⟩ ⟨_, rfl, ?_⟩
   have fq := (Fr.push [] H4' (.cells (intsV (fillW i)).toArray 36))
   have hW : Rd 1 (H4'.push (.cells (intsV (fillW i)).toArray 36)) (some ⟨H4'.size, 0, none⟩) 7 (intsV (fillW i)) := rd_new (cs := fillW i)
   have hWo : Out (H4'.push (.cells (intsV (fillW i)).toArray 36)) (some ⟨H4'.size, 0, none⟩) F5 := fun p hp => by
     cases hp
     exact ⟨by simp, fun hm => absurd (hK5.lt _ hm) (Nat.lt_irrefl _)⟩
   have hK6 := hK5.nil fq
   have hB6 : HB (H4'.push (.cells (intsV (fillW i)).toArray 36)) b sb0 hb := HB.nil hB5 fq
   show ∃ (I38 : List Value → Heap → Prop) (μ38 : List Value → Heap → Nat), I38 [.int .i64 0] (H4'.push (.cells (intsV (fillW i)).toArray 36)) ∧ _
   generalize (H4'.push (.cells (intsV (fillW i)).toArray 36)) = H6 at fq hW hWo hK6 hB6 ⊢
   refine ⟨fun w H' => ∃ (k : Nat) (r : RH), w = [.int .i64 k] ∧ k ≤ 7 ∧ PK H' b F5 { s with h := r } ⟨4096, kNames.take (i + 1)⟩ ∧ HB H' b sb0 hb ∧ Fr F5 H6 H' ∧ r.lay (4 + i) k ((fillW i).drop k) = (fillN s.h i).lay (4 + i) 0 (fillW i) ∧ ∀ j x, objAt r.objs j = some x → x.fmt = 0, fun w _ => match w with
     | [.int _ k] => (7 - k).toNat
     | _ => 0, ⟨0, fillN s.h i, rfl, by decide, hK6, hB6, Fr.refl _ _, rfl, fillN_all hfmt i⟩, ?_⟩
   rintro w H7 ⟨k, r, rfl, hk7, hK7, hB7, hf7, hlay, hr⟩ _
   refine ⟨_, rfl, ?_⟩
   rw [cond_dec]
   refine ite_i (fun hkl => ?_) fun hkl => ?_
   · have hkl' : k < (fillW i).length := by show k < 7; omega
     obtain ⟨p, hp, hcell, hlt3⟩ := (hW.fr' hf7 fun p hp => (hWo p hp).2).int (i := (k : Int)) (by omega) (by omega)
     cases hp
     rw [Int.toNat_natCast] at hcell hlt3
     have hx : (fillW i).getD k 0 = (fillW i)[k] := by simp [hkl']
     rw [hx] at hcell
     have ed : (fillW i).drop k = (fillW i)[k] :: (fillW i).drop (k + 1) := List.drop_eq_getElem_cons hkl'
     have ek : IntKind.wrap .i64 ((k : Int) + 1) = ((k + 1 : Nat) : Int) := by rw [wrap64_id (by omega) (by omega)]; omega
     obtain ⟨F8, hR8, hsub8, hup8⟩ := PK.hp hK7 hB7
     refine ⟨⟨by omega, hkl⟩, _, rfl, _, by rw [Int.toNat_natCast, Nat.mul_one]; exact hcell, put_c hR8 (hr _) fun H9 hR9 hf9 => ⟨_, rfl, ?_⟩⟩
     obtain ⟨hK9, hB9⟩ := hup8 H9 _ hR9 hf9
     rw [ek]
     refine ⟨⟨k + 1, (r.put (4 + i) k (fillW i)[k]).2, rfl, by omega, hK9, hB9, hf7.trans (hf9.mono hsub8), ?_, put_all hr _ _ _⟩, by simp; omega⟩
     rw [← hlay, ed]
     rfl
   · have hk : k = 7 := by omega
     subst hk
     have hz : (fillW i).drop 7 = [] := rfl
     rw [hz] at hlay
     simp only [RH.lay] at hlay
     subst hlay
     refine object_c ⟨by omega, by omega⟩ ⟨_, rfl, ?_⟩
     obtain ⟨F8, hR8, hsub8, hup8⟩ := PK.hp hK7 hB7
     refine put_c hR8 (hr _) fun H9 hR9 hf9 => ⟨_, rfl, ?_⟩
     obtain ⟨hK9, hB9⟩ := hup8 H9 _ hR9 hf9
     rw [show (i : Int) + 1 = ((i + 1 : Nat) : Int) by omega]
     refine ⟨⟨i + 1, F5, rfl, by omega, hK9, hB9, ?_⟩, by simp; omega⟩
     exact (hu3.trans hu5).trans ((Up.of_nil fq).trans ⟨hf7.trans (hf9.mono hsub8), fun _ h => .inl h⟩)
 · have hi14 : i = 14 := by omega
   subst hi14
   have fq := (Fr.push [] H3 (.cells (intsV [20, 18, 18, 18, 1, 2, 3]).toArray 3))
   have hW : Rd 1 (H3.push (.cells (intsV [20, 18, 18, 18, 1, 2, 3]).toArray 3)) (some ⟨H3.size, 0, none⟩) 7 (intsV [20, 18, 18, 18, 1, 2, 3]) := rd_new (cs := [20, 18, 18, 18, 1, 2, 3])
   have hWo : Out (H3.push (.cells (intsV [20, 18, 18, 18, 1, 2, 3]).toArray 3)) (some ⟨H3.size, 0, none⟩) F3 := fun p hp => by
     cases hp
     exact ⟨by simp, fun hm => absurd (hK3.lt _ hm) (Nat.lt_irrefl _)⟩
   have hK6 := hK3.nil fq
   have hB6 : HB (H3.push (.cells (intsV [20, 18, 18, 18, 1, 2, 3]).toArray 3)) b sb0 hb := HB.nil hB3 fq
   show ∃ (I38 : List Value → Heap → Prop) (μ38 : List Value → Heap → Nat), I38 [.int .i64 0] (H3.push (.cells (intsV [20, 18, 18, 18, 1, 2, 3]).toArray 3)) ∧ _
   generalize (H3.push (.cells (intsV [20, 18, 18, 18, 1, 2, 3]).toArray 3)) = H6 at fq hW hWo hK6 hB6 ⊢
   refine ⟨fun w H' => ∃ (k : Nat) (r : RH), w = [.int .i64 k] ∧ k ≤ 7 ∧ PK H' b F3 { s with h := r } bootT ∧ HB H' b sb0 hb ∧ Fr F3 H6 H' ∧ r.lay 19 k (fillR.drop k) = bootH s.h ∧ ∀ j x, objAt r.objs j = some x → x.fmt = 0, fun w _ => match w with
     | [.int _ k] => (7 - k).toNat
     | _ => 0, ⟨0, fillN s.h 14, rfl, by decide, by rw [show bootT = ⟨4096, kNames.take 14⟩ from rfl]; exact hK6, hB6, Fr.refl _ _, by rw [bootH]; rfl, fillN_all hfmt 14⟩, ?_⟩
   rintro w H7 ⟨k, r, rfl, hk7, hK7, hB7, hf7, hlay, hr⟩ _
   refine ⟨_, rfl, ?_⟩
   rw [cond_dec]
   refine ite_i (fun hkl => ?_) fun hkl => ?_
   · have hkl' : k < 7 := by omega
     obtain ⟨p, hp, hcell, hlt3⟩ := (hW.fr' hf7 fun p hp => (hWo p hp).2).int (i := (k : Int)) (by omega) (by omega)
     cases hp
     rw [Int.toNat_natCast] at hcell hlt3
     have ek : IntKind.wrap .i64 ((k : Int) + 1) = ((k + 1 : Nat) : Int) := by rw [wrap64_id (by omega) (by omega)]; omega
     have hx : 1 ≤ ([20, 18, 18, 18, 1, 2, 3] : List Int).getD k 0 ∧ ([20, 18, 18, 18, 1, 2, 3] : List Int).getD k 0 ≤ 65536 ∧ fillR.drop k = 4 * ([20, 18, 18, 18, 1, 2, 3] : List Int).getD k 0 :: fillR.drop (k + 1) := by
       rcases k with _ | _ | _ | _ | _ | _ | _ | k
       all_goals first | exact ⟨by decide, by decide, by decide⟩ | omega
     obtain ⟨F8, hR8, hsub8, hup8⟩ := PK.hp hK7 hB7
     refine ⟨⟨by omega, hkl⟩, _, rfl, _, by rw [Int.toNat_natCast, Nat.mul_one]; exact hcell, object_c ⟨hx.1, hx.2.1⟩ ⟨_, rfl, put_c hR8 (hr _) fun H9 hR9 hf9 => ⟨_, rfl, ?_⟩⟩⟩
     obtain ⟨hK9, hB9⟩ := hup8 H9 _ hR9 hf9
     rw [ek]
     refine ⟨⟨k + 1, _, rfl, by omega, hK9, hB9, hf7.trans (hf9.mono hsub8), ?_, put_all hr _ _ _⟩, by simp; omega⟩
     rw [← hlay, hx.2.2]
     rfl
   · have hk : k = 7 := by omega
     subst hk
     have hz : fillR.drop 7 = [] := rfl
     rw [hz] at hlay
     have hlay' : r = bootH s.h := hlay
     rw [hlay'] at hK7
     have hu7 : Up F3 H3 F3 H7 := (Up.of_nil fq).trans ⟨hf7, fun _ h => .inl h⟩
     have hu9 : Up F H F3 H7 := ((Up.of_nil fp).trans hu3).trans hu7
     exact h H7 F3 hK7 hB7 hu9
end
def tailT (pl : List (Value × List ByteArray)) (n : Nat) : List ByteArray := ((pl.drop n).reverse.map (·.2)).flatten
theorem tailT_step {pl : List (Value × List ByteArray)} {n : Nat} (h : n < pl.length) : tailT pl n = tailT pl (n + 1) ++ (pl[n]).2 := by
 unfold tailT
 rw [List.drop_eq_getElem_cons h]
 simp only [List.reverse_cons, List.map_append, List.map_cons, List.map_nil, List.flatten_append, List.flatten_cons, List.flatten_nil, List.append_nil]
theorem tailT_end (pl : List (Value × List ByteArray)) : tailT pl pl.length = [] := by simp [tailT]
theorem tailT_snoc (pl : List (Value × List ByteArray)) (x : Value × List ByteArray) : tailT (pl ++ [x]) 0 = x.2 ++ tailT pl 0 := by simp [tailT]
theorem tailT_pre {pl : List (Value × List ByteArray)} : ∀ (k n : Nat), n + k = pl.length → ∃ r, tailT pl 0 = tailT pl n ++ r ∧ True := by
 intro k n hk
 induction n generalizing k with
 | zero => exact ⟨[], by simp, trivial⟩
 | succ n ih =>
   obtain ⟨r, e, _⟩ := ih (k + 1) (by omega)
   exact ⟨(pl[n]'(by omega)).2 ++ r, by rw [e, tailT_step (by omega)]; simp, trivial⟩
def PartOK (H : Heap) (p : Value × List ByteArray) : Prop := ∃ a l c, p.1 = .slice a l c ∧ Rd 1 H a l (strsV p.2)
section
variable {H : Heap} {b : Nat} {F : Foot} {s : SP} {t : TB} {v : KV} {Q : QT}
theorem infoK_name {i : Nat} (hi : i < v.cls.length) : (infoK v t i).name = tx t (v.cls[i]).name ∧ (infoK v t i).own = (v.cls[i]).own.map (tx t) := by
 unfold infoK; rw [List.getElem?_eq_getElem hi]; exact ⟨rfl, rfl⟩
theorem name_inj (hv : KAll s t v) {i j : Nat} (hi : i < v.cls.length) (hj : j < v.cls.length) (h : (infoK v t i).name = (infoK v t j).name) : i = j := by
 rw [(infoK_name hi).1, (infoK_name hj).1] at h
 have := tx_inj hv.names.wf (hv.names.name _ (List.getElem_mem hi)) (hv.names.name _ (List.getElem_mem hj)) h
 have hn := hv.names.nodup
 have e1 : (v.cls.map (·.name))[i]'(by simpa using hi) = (v.cls.map (·.name))[j]'(by simpa using hj) := by simpa using this
 exact (List.getElem_inj hn).1 e1
theorem name_ne (hv : KAll s t v) {i : Nat} (hi : i < v.cls.length) : (infoK v t i).name ≠ ⟨#[]⟩ := by
 rw [(infoK_name hi).1]
 have := tx_good hv.names.wf (hv.names.name _ (List.getElem_mem hi))
 intro e
 rw [e] at this
 exact absurd this.1 (by decide)
theorem atSup_r (hv : KAll s t v) {a : Option Addr} {l c : Nat} {G : Foot} (hL : LRep 4 InfoR H a l c (infosK v t) G) {i : Nat} (hi : i < v.cls.length)
   (h : Q (.int .i64 (match upIdx v i with | some j => (j : Int) | none => -1)) H) : callS PP n_k266 #[.slice a l c, .int .i64 i, .string (infoK v t i).sup] Q H := by
 have hm1 := hv.ks.shape.many1
 have hsup : (infoK v t i).sup = match upIdx v i with
   | some j => match v.cls[j]? with
     | some d => tx t d.name
     | none => ⟨#[]⟩
   | none => ⟨#[]⟩ := by unfold infoK; rw [List.getElem?_eq_getElem hi] <;> rfl
 rcases hv.ks.upI hi with ⟨_, e0, e1⟩ | ⟨j, hj, hlt, e0, _, e1⟩
 · rw [e1] at hsup h
   simp only at hsup h
   refine at_r hL (Nat.le_of_lt hi) hm1 (fun k hk he _ => ?_) fun _ => h
   rw [hsup] at he
   exact absurd he (name_ne hv (by omega))
 · rw [e1] at hsup h
   simp only [List.getElem?_eq_getElem hj] at hsup h
   have hsj : (infoK v t i).sup = (infoK v t j).name := by rw [hsup, (infoK_name hj).1]
   refine at_r hL (Nat.le_of_lt hi) hm1 (fun k hk he _ => ?_) fun hno => ?_
   · rw [hsj] at he
     have := name_inj hv (by omega) hj he
     subst this; exact h
   · exact absurd hsj.symm (hno j hlt)
theorem fields20_r (hv : KAll s t v) {a : Option Addr} {l c : Nat} {G : Foot} (hL : LRep 4 InfoR H a l c (infosK v t) G) {i : Nat} (hi : i < v.cls.length)
   (h : ∀ a l c G H', Own 1 H' a l c (strsV ((fieldsK v i).map (tx t))) G → Fr [] H H' → (∀ x ∈ G, H.size ≤ x) → Q (.slice a l c) H') : callS PP n_k222 #[.slice a l c, .int .i64 i, .int .i64 (-1), .slice none 0 0] Q H := by
 have hs1 : sliceInfo PP 37 = some (1, 16, some (.string (⟨#[]⟩ : ByteArray))) := by kernel_rfl
 have hs2 : sliceInfo PP 80 = some (1, 24, some (.slice none 0 0)) := by kernel_rfl
 have hm1 := hv.ks.shape.many1
 have hfl := fields_len hv.ks i hi
 have hl : l = v.cls.length := by have := hL.len; simpa [infosK] using this
 apply k222_ok
 unfold k222 A0 iV wW sV lV cS
 refine ⟨fun w H' => ∃ (cx : Int) (a8 : Option Addr) (l8 c8 : Nat) (G8 : Foot) (pl : List (Value × List ByteArray)), w = [.int .i64 cx, .slice a8 l8 c8] ∧ Own 1 H' a8 l8 c8 (pl.map (·.1)) G8 ∧ Fr [] H H' ∧ (∀ x ∈ G8, H.size ≤ x) ∧ (∀ p ∈ pl, PartOK H p) ∧ pl.length + (cx + 1).toNat ≤ i + 1 ∧
     ((cx = -1 ∧ (fieldsK v i).map (tx t) = tailT pl 0) ∨ ∃ j, ∃ _ : j < v.cls.length, cx = (j : Int) ∧ (fieldsK v i).map (tx t) = (fieldsK v j).map (tx t) ++ tailT pl 0), fun w _ => match w with
   | [.int _ cx, _] => (cx + 1).toNat
   | _ => 0, ⟨i, none, 0, 0, [], [], rfl, Own.nil 1 H, Fr.refl _ _, by simp, by simp, by first | (simp; done) | (simp; omega), .inr ⟨i, hi, rfl, by simp [tailT]⟩⟩, ?_⟩
 rintro w H1 ⟨cx, a8, l8, c8, G8, pl, rfl, ho8, hf8, hG8, hpl, hlen8, hcase⟩ _
 have hl8 : l8 = pl.length := by have := ho8.len; simpa using this.symm
 refine ⟨_, _, _, _, rfl, ?_⟩
 rw [cond_dec]
 refine ite_i (fun hge => ?_) fun hge => ?_
 · -- one class more
   rcases hcase with ⟨e, _⟩ | ⟨j, hj, rfl, heq⟩
   · omega
   rw [beqI, cond_dec, if_neg (by omega)]
   obtain ⟨p, a2, l2, c2, G2, rfl, hspot, _, _, cc2, ho2, _⟩ := info_get (hL.fr InfoR.fr InfoR.lt hf8 (Disj.nil_right _)) hj
   obtain ⟨p', a2', l2', c2', G2', hp', _, _, _, cc2', ho2', _⟩ := info_get hL hj
   cases hp'
   refine ⟨⟨by omega, by omega⟩, _, rfl, _, _, _, by rw [Int.toNat_natCast]; exact cc2, ?_⟩
   refine evS_append1 hs2 rfl (by kernel_rfl) ho8 rfl (by simp [oneC]) (by omega) (by decide) (by decide) fun a' c' G3 H3 g1 g2 g3 => ⟨_, _, _, rfl, ⟨by omega, by omega⟩, _, rfl, ?_⟩
   have hfr := Up.fresh hf8 g2 hG8
   have hL3 := hL.fr InfoR.fr InfoR.lt hfr.1 (Disj.nil_right _)
   obtain ⟨p', a3, l3, c3, G4, hp', _, _, cc1, _⟩ := info_get hL3 hj
   cases hp'
   refine ⟨_, by rw [Int.toNat_natCast]; exact cc1, atSup_r hv hL3 hj ⟨_, rfl, ?_⟩⟩
   have hj' : (v.cls[j]).own.map (tx t) = (infoK v t j).own := (infoK_name hj).2.symm
   have hsl : Value.slice a2 l2 c2 = .slice a2' l2' c2' := by
     have e2 : cellH H1 ((p.add (j * 4)).add 2) = cellH H ((p.add (j * 4)).add 2) := by
       obtain ⟨pb, po, ps⟩ := p
       simp only at hspot
       subst hspot
       rw [add_none, add_none] at cc2' ⊢
       exact cell_fr hf8 (by simp) (cell_lt cc2')
     rw [cc2, cc2'] at e2
     exact Option.some.inj e2
   have hpart : PartOK H (.slice a2 l2 c2, (infoK v t j).own) := ⟨a2', l2', c2', hsl, ho2'.rd⟩
   rcases hv.ks.upI hj with ⟨h0, _, e1⟩ | ⟨k, hk, hlt, _, _, e1⟩
   · rw [e1]
     simp only
     refine ⟨⟨-1, a', l8 + 1, c', G3, pl ++ [(.slice a2 l2 c2, (infoK v t j).own)], rfl, by simpa using g1, hfr.1, hfr.2, fun q hq => ?_, by first | (simp; done) | (simp; omega), .inl ⟨rfl, ?_⟩⟩, by first | (simp; done) | (simp; omega)⟩
     · rcases List.mem_append.1 hq with hq | hq
       · exact hpl q hq
       · simp only [List.mem_singleton] at hq; rw [hq]; exact hpart
     · subst h0
       rw [tailT_snoc, heq, hv.ks.fields0 hj, hj']
   · rw [e1]
     simp only
     refine ⟨⟨k, a', l8 + 1, c', G3, pl ++ [(.slice a2 l2 c2, (infoK v t j).own)], rfl, by simpa using g1, hfr.1, hfr.2, fun q hq => ?_, by first | (simp; done) | (simp; omega), .inr ⟨k, hk, rfl, ?_⟩⟩, by first | (simp; done) | (simp; omega)⟩
     · rcases List.mem_append.1 hq with hq | hq
       · exact hpl q hq
       · simp only [List.mem_singleton] at hq; rw [hq]; exact hpart
     · rw [tailT_snoc, heq, hv.ks.fieldsS hj hlt e1, List.map_append, hj', List.append_assoc]
 · -- turned round
   have heq : (fieldsK v i).map (tx t) = tailT pl 0 := by
     rcases hcase with ⟨_, e⟩ | ⟨j, _, e, _⟩
     · exact e
     · omega
   have htot : (tailT pl 0).length ≤ 3000000 := by rw [← heq, List.length_map]; omega
   have hpn : pl.length ≤ 1000 := by omega
   have e0 : IntKind.wrap .i64 ((l8 : Int) - 1) = (pl.length : Int) - 1 := by rw [wrap64_id (by omega) (by omega)]; omega
   refine ⟨fun w H' => ∃ (n : Nat) (a3 : Option Addr) (l3 c3 : Nat) (G3 : Foot), w = [.slice a3 l3 c3, .int .i64 ((n : Int) - 1)] ∧ n ≤ pl.length ∧ Own 1 H' a3 l3 c3 (strsV (tailT pl n)) G3 ∧ Fr [] H1 H' ∧ (∀ x ∈ G3, H1.size ≤ x), fun w _ => match w with
     | [_, .int _ n] => (n + 1).toNat
     | _ => 0, ⟨pl.length, none, 0, 0, [], by rw [e0], Nat.le_refl _, by rw [tailT_end]; exact Own.nil 1 H1, Fr.refl _ _, by simp⟩, ?_⟩
   rintro w H6 ⟨n, a3, l3, c3, G3, rfl, hn, ho3, hf3, hG3⟩ _
   refine ⟨_, _, _, _, rfl, ?_⟩
   rw [cond_dec]
   refine ite_i (fun hge2 => ?_) fun hge2 => ?_
   · have hnp : n - 1 < pl.length := by omega
     have en : (n : Int) - 1 = ((n - 1 : Nat) : Int) := by omega
     have hp := hpl _ (List.getElem_mem hnp)
     obtain ⟨ap, lp, cp, ep, hrp⟩ := hp
     obtain ⟨r, er, _⟩ := tailT_pre (pl := pl) (pl.length - (n - 1)) (n - 1) (by omega)
     have es := tailT_step hnp
     rw [show n - 1 + 1 = n by omega] at es
     have hlp : lp = (pl[n - 1]).2.length := by have := hrp.1; simpa [strsV] using this.symm
     have hle : (tailT pl n).length + (pl[n - 1]).2.length ≤ 3000000 := by
       rw [er, es] at htot
       simp only [List.length_append] at htot
       omega
     have hcellP : ∀ {H' : Heap}, Fr [] H1 H' → ∃ q, a8 = some q ∧ cellH H' (q.add ((n - 1) * 1)) = some (.slice ap lp cp) := by
       intro H' hf'
       have hr8 := (ho8.fr hf' (by simp)).rd
       cases ha : a8 with
       | none =>
         have := hr8.2.1 ha
         omega
       | some q =>
         refine ⟨q, rfl, ?_⟩
         rw [hr8.2.2 q ha ((n - 1) * 1) (by omega)]
         rw [Nat.mul_one, List.getElem?_map, List.getElem?_eq_getElem hnp, ← ep]
         rfl
     refine ⟨fun w H' => ∃ (k : Nat) (a4 : Option Addr) (l4 c4 : Nat) (G4 : Foot), w = [.slice a4 l4 c4, .int .i64 k] ∧ k ≤ (pl[n - 1]).2.length ∧ Own 1 H' a4 l4 c4 (strsV (tailT pl n ++ (pl[n - 1]).2.take k)) G4 ∧ Fr [] H1 H' ∧ (∀ x ∈ G4, H1.size ≤ x), fun w _ => match w with
       | [_, .int _ k] => ((pl[n - 1]).2.length - k).toNat
       | _ => 0, ⟨0, a3, l3, c3, G3, rfl, Nat.zero_le _, by simpa using ho3, hf3, hG3⟩, ?_⟩
     rintro w H7 ⟨k, a4, l4, c4, G4, rfl, hk, ho4, hf4, hG4⟩ _
     have hl4 : l4 = (tailT pl n).length + k := by
       have := ho4.len
       simp only [strsV, List.length_map, List.length_append, List.length_take] at this
       omega
     obtain ⟨q, hq, hcq⟩ := hcellP hf4
     subst hq
     rw [en]
     refine ⟨_, _, _, _, rfl, ⟨by omega, by omega⟩, _, rfl, _, _, _, by rw [Int.toNat_natCast]; exact hcq, ?_⟩
     rw [cond_dec]
     refine ite_i (fun hlt => ?_) fun hlt => ?_
     · obtain ⟨pp, hlt2, rfl, hcell⟩ := (hrp.fr' (hf8.trans hf4) (by simp)).str (i := (k : Int)) (by omega) hlt
       simp only [Int.toNat_natCast] at hcell hlt2
       have e1 : IntKind.wrap .i64 ((k : Int) + 1) = ((k + 1 : Nat) : Int) := by rw [wrap64_id (by omega) (by omega)]; omega
       refine ⟨⟨by omega, by omega⟩, _, rfl, _, _, _, by rw [Int.toNat_natCast]; exact hcq, ⟨by omega, hlt⟩, _, rfl, _, by rw [Int.toNat_natCast, Nat.mul_one]; exact hcell, ?_⟩
       refine evS_append1 hs1 rfl (by kernel_rfl) ho4 rfl (by simp [oneC]) (by omega) (by decide) (by decide) fun a' c' G5 H8 g1 g2 g3 => ⟨_, _, _, rfl, ?_⟩
       have hfr := Up.fresh hf4 g2 hG4
       rw [e1]
       refine ⟨⟨k + 1, a', l4 + 1, c', G5, rfl, by omega, ?_, hfr.1, hfr.2⟩, by first | (simp; done) | (simp; omega)⟩
       rw [List.take_add_one, List.getElem?_eq_getElem hlt2, ← List.append_assoc, strsV_append]
       exact g1
     · have hkl : k = (pl[n - 1]).2.length := by omega
       rw [hkl, List.take_length, ← es] at ho4
       have e1 : IntKind.wrap .i64 (((n - 1 : Nat) : Int) - 1) = ((n - 1 : Nat) : Int) - 1 := wrap64_id (by omega) (by omega)
       rw [e1]
       exact ⟨⟨n - 1, a4, l4, c4, G4, rfl, by omega, ho4, hf4, hG4⟩, by first | (simp; done) | (simp; omega)⟩
   · have : n = 0 := by omega
     subst this
     rw [← heq] at ho3
     exact h _ _ _ G3 H6 ho3 (hf8.trans hf3) fun x hx => Nat.le_trans hf8.1 (hG3 x hx)
end
section
variable {H : Heap} {b : Nat} {F : Foot} {s : SP} {t : TB} {v : KV} {Q : QT}
theorem fields_r (hK : RK H b F s t) (hv : KAll s t v) {o : Int} (h1 : ∀ i, plK v o = some i → ∀ a l c G H', Own 1 H' a l c (strsV ((fieldsK v i).map (tx t))) G → Fr [] H H' → (∀ x ∈ G, H.size ≤ x) → Q (.tuple #[.slice a l c, .int .i64 0]) H')
   (h2 : plK v o = none → ∀ H', Fr [] H H' → Q (.tuple #[.slice none 0 0, .int .i64 130]) H') : callS PP n_k125 #[.pointer (some ⟨b, 0, none⟩), .int .i64 o] Q H := by
 have hm1 := hv.ks.shape.many1
 apply k125_ok
 unfold k125 iV wW pV lV cS
 refine place_r hK hv.ks fun H1 hf1 => ⟨_, rfl, ?_⟩
 unfold placeN
 cases hp : plK v o with
 | none => exact h2 hp H1 hf1
 | some i =>
   obtain ⟨hi, rfl⟩ := plK_some hp
   rw [beqI, cond_dec, if_neg (by simp only; omega)]
   refine infos_r (hK.nil hf1) hv fun a l c G H2 hL hf2 hG => ⟨_, _, _, rfl, ?_⟩
   have e : IntKind.wrap .i64 ((i : Int) + 1 - 1) = (i : Int) := by rw [wrap64_id (by omega) (by omega)]; omega
   simp only [e]
   exact fields20_r hv hL hi fun a2 l2 c2 G2 H3 ho hf3 hG2 => ⟨_, _, _, rfl, h1 i hp a2 l2 c2 G2 H3 ho ((hf1.trans hf2).trans hf3) fun x hx => Nat.le_trans (hf1.trans hf2).1 (hG2 x hx)⟩
theorem under_r (hK : RK H b F s t) (hv : KAll s t v) {o : Int} (h1 : ∀ i, plK v o = some i → ∀ a l c G H', Own 1 H' a l c (intsV (underK v o)) G → Fr [] H H' → (∀ x ∈ G, H.size ≤ x) → Q (.slice a l c) H')
   (h2 : plK v o = none → ∀ H', Fr [] H H' → Q (.slice none 0 0) H') : callS PP n_k126 #[.pointer (some ⟨b, 0, none⟩), .int .i64 o] Q H := by
 have hs1 : sliceInfo PP 66 = some (1, 8, some (.int .i64 0)) := by kernel_rfl
 have hm1 := hv.ks.shape.many1
 apply k126_ok
 unfold k126 A0 iV wW pV lV cS
 refine place_r hK hv.ks fun H1 hf1 => ⟨_, rfl, all_r (hK.nil hf1) hv.ks fun al ll cl Gl H2 hol hf2 hGl => ⟨_, _, _, rfl, ?_⟩⟩
 have hll : ll = v.cls.length := by have := hol.len; simpa [intsV, oopsK] using this.symm
 have hF2 := hf1.trans hf2
 cases hp : plK v o with
 | none =>
   have e0 : placeN v o = 0 := by unfold placeN; rw [hp]
   rw [e0]
   refine ⟨fun w H' => w = [.slice none 0 0, .int .i64 0] ∧ H' = H2, fun _ _ => 0, ⟨rfl, rfl⟩, ?_⟩
   rintro w H3 ⟨rfl, rfl⟩ _
   refine ⟨_, _, _, _, rfl, ?_⟩
   rw [cond_dec, if_neg (by decide)]
   exact h2 hp _ hF2
 | some p =>
   obtain ⟨hpi, hpo⟩ := plK_some hp
   have e0 : placeN v o = (p : Int) + 1 := by unfold placeN; rw [hp]
   rw [e0]
   have ho1 := (up_arr hv.ks hpi).1
   rw [hpo] at ho1
   let D : CV := ⟨0, 0, 0, [], 0, 0, 0, [], [], 0⟩
   let f : Nat → Bool := fun i => decide (Und v o (v.cls.getD i D).oop)
   let pre : Nat → List Int := fun n => ((List.range n).filter f).map fun i : Nat => (i : Int) + 1
   have hpre : ∀ n, pre (n + 1) = pre n ++ if f n then [(n : Int) + 1] else [] := by
     intro n
     simp only [pre, List.range_succ, List.filter_append, List.map_append]
     congr 1
     by_cases hfn : f n <;> simp [hfn]
   have hprel : ∀ n, (pre n).length ≤ n := fun n => by simp only [pre, List.length_map]; exact Nat.le_trans (List.length_filter_le _ _) (by simp)
   have hend : pre v.cls.length = underK v o := rfl
   have hgd : ∀ i (hi : i < v.cls.length), v.cls.getD i D = v.cls[i] := fun i hi => by simp [hi]
   have hlow : ∀ i, i < v.cls.length → i < p → ¬ Und v o (v.cls.getD i D).oop := by
     intro i
     induction i using Nat.strongRecOn with
     | ind i ih =>
       intro hi hip hu
       rw [hgd i hi] at hu
       rcases (und_iff hv.ks hi).1 hu with he | ⟨hne, hu2⟩
       · have := hv.ks.view.inj hi hpi (he.trans hpo.symm)
         omega
       · rcases hv.ks.upI hi with ⟨_, h5, _⟩ | ⟨j, hj, hji, h5, _, _⟩
         · exact hne h5
         · rw [h5] at hu2
           exact ih j hji hj (by omega) (by rw [hgd j hj]; exact hu2)
   have hpre0 : ∀ n, n ≤ p → pre n = [] := by
     intro n hn
     induction n with
     | zero => rfl
     | succ n ih =>
       rw [hpre, ih (by omega)]
       have : f n = false := by simpa [f] using hlow n (by omega) (by omega)
       rw [this]; rfl
   refine ⟨fun w H' => ∃ (i : Nat) (a : Option Addr) (l' c : Nat) (G : Foot), w = [.slice a l' c, .int .i64 ((i : Int) + 1)] ∧ i ≤ v.cls.length ∧ Own 1 H' a l' c (intsV (pre i)) G ∧ Fr [] H2 H' ∧ (∀ x ∈ G, H2.size ≤ x), fun w _ => match w with
     | [_, .int _ i] => ((v.cls.length : Int) + 1 - i).toNat
     | _ => 0, ⟨p, none, 0, 0, [], rfl, Nat.le_of_lt hpi, by rw [hpre0 p (Nat.le_refl _)]; exact Own.nil 1 H2, Fr.refl _ _, by simp⟩, ?_⟩
   rintro w H3 ⟨i, a1, l1, c1, G, rfl, hi, ho, hf3, hG⟩ _
   have hl1 : l1 ≤ i := by have h1 := ho.len; have h2 := hprel i; simp only [intsV, List.length_map] at h1; omega
   refine ⟨_, _, _, _, rfl, ?_⟩
   rw [cond_dec, if_pos (by omega), cond_dec]
   refine ite_i (fun hlt => ?_) fun hlt => ?_
   · have hlt' : i < v.cls.length := by omega
     have ew : IntKind.wrap .i64 ((i : Int) + 1 - 1) = (i : Int) := by rw [wrap64_id (by omega) (by omega)]; omega
     have e1 : IntKind.wrap .i64 ((i : Int) + 1 + 1) = ((i + 1 : Nat) : Int) + 1 := by rw [wrap64_id (by omega) (by omega)]; omega
     obtain ⟨q, rfl, hcell⟩ := rd_oops hol hf3 hlt'
     have hF3 := hF2.trans hf3
     have hfi : f i = decide (Und v o (v.cls[i]).oop) := by simp only [f, hgd i hlt']
     rw [ew, e1]
     refine ⟨⟨by omega, by omega⟩, _, rfl, _, by rw [Int.toNat_natCast]; exact hcell, ?_⟩
     refine ⟨fun w H' => H' = H3 ∧ ∃ x : Int, w = [.int .i64 x] ∧ (Und v o (v.cls[i]).oop ↔ x ≠ 0 ∧ Und v o x) ∧ (x = 0 ∨ ∃ j, ∃ hj : j < v.cls.length, (v.cls[j]).oop = x), fun w _ => match w with
       | [.int _ x] => match plK v x with
         | some j => j + 1
         | none => 0
       | _ => 0, ⟨rfl, _, rfl, ⟨fun hu => ⟨by have := (up_arr hv.ks hlt').1; omega, hu⟩, fun hu => hu.2⟩, .inr ⟨i, hlt', rfl⟩⟩, ?_⟩
     rintro w H4 ⟨rfl, x, rfl, hx, hxc⟩ _
     refine ⟨_, rfl, ?_⟩
     have yes : Und v o (v.cls[i]).oop → ∀ {K : Value → Heap → Prop} (_ : ∀ a' n' c' G' H9, Own 1 H9 a' n' c' (intsV (pre (i + 1))) G' → Fr [] H2 H9 → (∀ x ∈ G', H2.size ≤ x) → K (.slice a' n' c') H9),
         evS PP (Builtin.append_ #[66, 66] 66 #[.slice a1 l1 c1, .slice (some (⟨H4.size, 0, none⟩ : Addr)) 1 1]) K (H4.push (.cells #[.int .i64 ((i : Int) + 1)] 3)) := by
       intro hU K hk
       refine evS_append1 hs1 rfl (by kernel_rfl) ho rfl (by simp [oneC]) (by omega) (by decide) (by decide) fun a' c' G2 H9 g1 g2 g3 => ?_
       have hfr := Up.fresh hf3 g2 hG
       refine hk _ _ _ G2 H9 ?_ hfr.1 hfr.2
       rw [hpre, hfi, decide_eq_true hU]
       simp only [if_pos, intsV_append]
       exact g1
     have no : ¬ Und v o (v.cls[i]).oop → pre (i + 1) = pre i := fun hU => by rw [hpre, hfi, decide_eq_false hU]; simp
     have out : ∀ (hxo : ¬ (x ≠ 0 ∧ x ≠ o)), cond (x == o) (evS PP (Builtin.append_ #[66, 66] 66 #[.slice a1 l1 c1, .slice (some (⟨H4.size, 0, none⟩ : Addr)) 1 1]) (fun v18 H6 => ∃ a19 : Option Addr, ∃ l19 : Nat, ∃ c19 : Nat, v18 = .slice a19 l19 c19 ∧
         (∃ (i_1 : Nat) (a : Option Addr) (l' c : Nat) (G : Foot), [Value.slice a19 l19 c19, .int .i64 (((i + 1 : Nat) : Int) + 1)] = [.slice a l' c, .int .i64 ((i_1 : Int) + 1)] ∧ i_1 ≤ v.cls.length ∧ Own 1 H6 a l' c (intsV (pre i_1)) G ∧ Fr [] H2 H6 ∧ (∀ x ∈ G, H2.size ≤ x)) ∧ ((v.cls.length : Int) + 1 - (((i + 1 : Nat) : Int) + 1)).toNat < ((v.cls.length : Int) + 1 - ((i : Int) + 1)).toNat) (H4.push (.cells #[.int .i64 ((i : Int) + 1)] 3)))
         ((∃ (i_1 : Nat) (a : Option Addr) (l' c : Nat) (G : Foot), [Value.slice a1 l1 c1, .int .i64 (((i + 1 : Nat) : Int) + 1)] = [.slice a l' c, .int .i64 ((i_1 : Int) + 1)] ∧ i_1 ≤ v.cls.length ∧ Own 1 H4 a l' c (intsV (pre i_1)) G ∧ Fr [] H2 H4 ∧ (∀ x ∈ G, H2.size ≤ x)) ∧ ((v.cls.length : Int) + 1 - (((i + 1 : Nat) : Int) + 1)).toNat < ((v.cls.length : Int) + 1 - ((i : Int) + 1)).toNat) := by
       intro hxo
       rw [beqI, cond_dec]
       refine ite_i (fun he => ?_) fun he => ?_
       · have hU : Und v o (v.cls[i]).oop := hx.2 ⟨by omega, by rw [he]; exact .self⟩
         exact yes hU fun a' n' c' G' H9 k1 k2 k3 => ⟨_, _, _, rfl, ⟨i + 1, a', n', c', G', rfl, by omega, k1, k2, k3⟩, by omega⟩
       · have hx0 : x = 0 := Classical.byContradiction fun hn => hxo ⟨hn, he⟩
         have hU : ¬ Und v o (v.cls[i]).oop := fun hU => (hx.1 hU).1 hx0
         refine ⟨⟨i + 1, a1, l1, c1, G, rfl, by omega, by rw [no hU]; exact ho, hf3, hG⟩, by omega⟩
     rw [bneI, cond_dec]
     refine ite_i (fun hx0 => ?_) fun hx0 => out fun hh => hx0 hh.1
     rw [bneI, cond_dec]
     refine ite_i (fun hxo => ?_) fun hxo => out fun hh => hxo hh.2
     rcases hxc with h5 | ⟨j, hj, rfl⟩
     · exact absurd h5 hx0
     refine up_r (hK.nil hF3) hv.ks hj ⟨_, rfl, ?_⟩
     have huj := und_iff hv.ks (o := o) hj
     refine ⟨⟨rfl, superK v j, rfl, ?_, ?_⟩, ?_⟩
     · rw [hx]
       constructor
       · rintro ⟨_, h6⟩
         rcases huj.1 h6 with h7 | h7
         · exact absurd h7 hxo
         · exact h7
       · exact fun h6 => ⟨hx0, huj.2 (.inr h6)⟩
     · rcases hv.ks.upI hj with ⟨_, h6, _⟩ | ⟨k, hk, _, h6, _, _⟩
       · exact .inl h6
       · exact .inr ⟨k, hk, h6.symm⟩
     · simp only [hv.ks.idx hj]
       rcases hv.ks.upI hj with ⟨_, h6, h7⟩ | ⟨k, hk, hkj, h6, _, h7⟩
       · have : plK v (superK v j) = none := h7
         rw [this]; simp
       · rw [h6, hv.ks.idx hk]; simp; omega
   · have : i = v.cls.length := by omega
     subst this
     rw [hend] at ho
     exact h1 p hp _ _ _ G H3 ho (hF2.trans hf3) fun x hx => Nat.le_trans hF2.1 (hG x hx)
end
section
variable {H : Heap} {b : Nat} {F : Foot} {s : SP} {t : TB} {v : KV} {Q : QT}
theorem symbols_r (hK : RK H b F s t) {a : Option Addr} {l c : Nat} {own : List ByteArray} (hr : Rd 1 H a l (strsV own)) (hout : Outs H a l F) (hlk : l ≤ 100000000)
   (h : ∀ H' F' a' l' c' G, RK H' b F' s (t.addAll [] own).2 → Up F H F' H' → Own 1 H' a' l' c' (intsV (t.addAll [] own).1.1) G → (∀ x ∈ G, H.size ≤ x ∧ x ∉ F') → Q (.tuple #[.slice a' l' c', .int .i64 (t.addAll [] own).1.2]) H') :
   callS PP n_k117 #[.pointer (some ⟨b, 0, none⟩), .slice a l c] Q H := by
 have hs1 : sliceInfo PP 108 = some (1, 8, some (.int .i64 0)) := by kernel_rfl
 have hl : l = own.length := by have := hr.1; simpa [strsV] using this.symm
 apply k117_ok
 unfold k117 A0 iV wW pV sV lV cS
 refine ⟨fun w H' => ∃ (i : Nat) (t' : TB) (acc : List Int) (a' : Option Addr) (l' c' : Nat) (G F' : Foot), w = [.slice a' l' c', .int .i64 i] ∧ i ≤ own.length ∧ RK H' b F' s t' ∧ Up F H F' H' ∧ t'.addAll acc (own.drop i) = t.addAll [] own ∧ Own 1 H' a' l' c' (intsV acc) G ∧ (∀ x ∈ G, H.size ≤ x ∧ x ∉ F') ∧ acc.length = i, fun w _ => match w with
   | [_, .int _ i] => (own.length - i).toNat
   | _ => 0, ⟨0, t, [], none, 0, 0, [], F, rfl, Nat.zero_le _, hK, Up.refl _ _, rfl, by simpa [intsV] using Own.nil 1 H, by simp, rfl⟩, ?_⟩
 rintro w H2 ⟨i, t2, acc, a2, l2, c2, G, F2, rfl, hi, hK2, hu2, hadd, ho, hG, hacc⟩ _
 have hl2 : l2 = i := by have := ho.len; simp only [intsV, List.length_map] at this; omega
 refine ⟨_, _, _, _, rfl, ?_⟩
 rw [cond_dec]
 refine ite_i (fun hlt => ?_) fun hlt => ?_
 · obtain ⟨p, hlt2, rfl, hcell⟩ := (hout.rd hu2 hr).str (i := (i : Int)) (by omega) hlt
   simp only [Int.toNat_natCast] at hcell hlt2
   have e1 : IntKind.wrap .i64 ((i : Int) + 1) = ((i + 1 : Nat) : Int) := by rw [wrap64_id (by omega) (by omega)]; omega
   have ed : own.drop i = own[i] :: own.drop (i + 1) := List.drop_eq_getElem_cons hlt2
   rw [ed, TB.addAll] at hadd
   obtain ⟨tb, F3, hc3, hT, hsub3, _, hup3⟩ := hK2.tb
   refine ⟨_, rfl, _, hc3, ⟨by omega, hlt⟩, _, rfl, _, by rw [Int.toNat_natCast, Nat.mul_one]; exact hcell, tadd_c hT fun H3 F4 hT3 hu3 => ⟨_, _, rfl, trivial, ?_⟩⟩
   obtain ⟨F5, hK3, hu3'⟩ := hup3 H3 F4 _ hT3 hu3
   rw [bneI, cond_dec]
   refine ite_i (fun h3 => ?_) fun h3 => ?_
   · rw [if_pos h3] at hadd
     rw [← hadd] at h
     exact h H3 F5 none 0 0 [] hK3 (hu2.trans hu3') (Own.nil 1 _) (by simp)
   rw [if_neg h3] at hadd
   have hz3 : (t2.add own[i]).1.2 = 0 := Classical.byContradiction h3
   obtain ⟨n, en, en2, _⟩ := add_ok own[i] hz3
   have hw3 := hK3.wft
   have h5 := (tx_some en2).2
   have h6 := hw3.m1
   have h7 := hw3.len
   rw [en] at hadd ⊢
   refine refSym_c ⟨by omega, by omega⟩ ⟨_, rfl, ?_⟩
   have hoG : ∀ x ∈ G, x < H2.size := ho.lt
   have ho3 : Own 1 H3 a2 l2 c2 (intsV acc) G := ho.fr hu3'.1 fun x hx => (hG x hx).2
   refine evS_append1 hs1 rfl (by kernel_rfl) ho3 rfl (by simp [oneC]) (by omega) (by decide) (by decide) fun a' c' G2 H4 g1 g2 g3 => ⟨_, _, _, rfl, ?_⟩
   rw [e1]
   have hG3 : ∀ x ∈ G, H.size ≤ x ∧ x ∉ F5 := fun x hx => ⟨(hG x hx).1, Up.out hu3' (hG x hx).2 (hoG x hx)⟩
   have hF5lt := hK3.lt
   have hK4 : RK H4 b F5 s (t2.add own[i]).2 := hK3.fr g2.1 fun x hx hm => (hG3 x hm).2 hx
   have hu4 : Up F H F5 H4 := by
     have h12 := hu2.trans hu3'
     refine ⟨⟨Nat.le_trans h12.1.1 g2.1.1, fun x hx hn => ?_⟩, h12.2⟩
     rw [g2.1.2 x (Nat.lt_of_lt_of_le hx h12.1.1) (fun hm => by have := (hG3 x hm).1; omega), h12.1.2 x hx hn]
   refine ⟨⟨i + 1, _, _, a', l2 + 1, c', G2, F5, rfl, by omega, hK4, hu4, hadd, ?_, fun x hx => ?_, by simp [hacc]⟩, by simp; omega⟩
   · rw [intsV_append]; exact g1
   · rcases g2.2 x hx with h5 | h5
     · exact hG3 x h5
     · exact ⟨Nat.le_trans (hu2.trans hu3').1.1 h5, fun hm => by have := hF5lt x hm; omega⟩
 · have hil : i = own.length := by omega
   rw [hil, List.drop_length, TB.addAll] at hadd
   rw [← hadd] at h
   exact h H2 F2 a2 l2 c2 G hK2 hu2 ho hG
theorem layB_r (hK : RK H b F s t) {o : Int} {a : Option Addr} {l c : Nat} {ws : List Int} (hk : Rd 1 H a l (intsV ws)) (hout : Out H a F) (hlk : l ≤ 1000000000)
   (h : ∀ H' F', RK H' b F' { s with h := s.h.lay o 0 ws } t → Up F H F' H' → (∀ o, cellH H' ⟨b, o, none⟩ = cellH H ⟨b, o, none⟩) → Q (.tuple #[]) H') : callS PP n_k61 #[.pointer (some ⟨b, 0, none⟩), .int .i64 o, .slice a l c] Q H := by
 have hl : l = ws.length := by have := hk.1; simpa [intsV] using this.symm
 apply k61_ok
 unfold k61 iV wW pV cS
 refine ⟨fun w H' => ∃ (i : Nat) (r : RH) (F' : Foot), w = [.int .i64 i] ∧ i ≤ ws.length ∧ RK H' b F' { s with h := r } t ∧ Up F H F' H' ∧ (∀ o, cellH H' ⟨b, o, none⟩ = cellH H ⟨b, o, none⟩) ∧ r.lay o i (ws.drop i) = s.h.lay o 0 ws, fun w _ => match w with
   | [.int _ i] => (ws.length - i).toNat
   | _ => 0, ⟨0, s.h, F, rfl, Nat.zero_le _, hK, Up.refl _ _, fun _ => rfl, rfl⟩, ?_⟩
 rintro w H4 ⟨i, r, F4, rfl, hi, hK4, hu4, hce, hlay⟩ _
 refine ⟨_, rfl, ?_⟩
 rw [cond_dec]
 refine ite_i (fun hlt => ?_) fun hlt => ?_
 · obtain ⟨p, rfl, hcell, hlt2⟩ := (hout.rd hu4 hk).int (i := (i : Int)) (by omega) hlt
   rw [Int.toNat_natCast] at hcell hlt2
   have hx : ws.getD i 0 = ws[i] := by simp [hlt2]
   rw [hx] at hcell
   have ed : ws.drop i = ws[i] :: ws.drop (i + 1) := List.drop_eq_getElem_cons hlt2
   have e : IntKind.wrap .i64 ((i : Int) + 1) = ((i + 1 : Nat) : Int) := by rw [wrap64_id (by omega) (by omega)]; omega
   obtain ⟨sb, hb, F1, hc, c0, hR, hsub, hbn, hup⟩ := hK4.hp
   have hbl := hK4.lt b hK4.bmem
   refine ⟨_, rfl, _, hc, _, rfl, _, c0, ⟨by omega, hlt⟩, _, rfl, _, by rw [Int.toNat_natCast, Nat.mul_one]; exact hcell, rput_c hR fun H6 hR6 hf6 => ⟨_, rfl, trivial, ?_⟩⟩
   obtain ⟨F7, hK7, hu7⟩ := hup H6 F1 _ hR6 ⟨hf6, fun _ h => .inl h⟩
   rw [e]
   refine ⟨⟨i + 1, (r.put o i ws[i]).2, F7, rfl, by omega, hK7, hu4.trans hu7, fun o => by rw [cell_fr hf6 hbn hbl]; exact hce o, ?_⟩, by simp; omega⟩
   rw [← hlay, ed]
   rfl
 · have hil : i = ws.length := by omega
   subst hil
   rw [List.drop_length] at hlay
   simp only [RH.lay] at hlay
   rw [hlay] at hK4
   exact h H4 F4 hK4 hu4 hce
end
theorem Up.mid {F F1 G : Foot} {H H1 H2 : Heap} (hu : Up F H F1 H1) (hg : Fr G H1 H2) (hG : ∀ x ∈ G, H.size ≤ x) : Up F H F1 H2 :=
 ⟨⟨Nat.le_trans hu.1.1 hg.1, fun x hx hn => by rw [hg.2 x (Nat.lt_of_lt_of_le hx hu.1.1) (fun hm => by have := hG x hm; omega), hu.1.2 x hx hn]⟩, hu.2⟩
section
variable {H : Heap} {b : Nat} {F : Foot} {s : SP} {t : TB} {v : KV} {Q : QT}
end
def planV : List (Int × Int) → List Value
 | [] => []
 | (c, n) :: l => .int .i64 c :: .int .i64 n :: planV l
theorem planV_append (l m : List (Int × Int)) : planV (l ++ m) = planV l ++ planV m := by
 induction l with
 | nil => rfl
 | cons x l ih => obtain ⟨c, n⟩ := x; simp [planV, ih]
theorem planV_len (l : List (Int × Int)) : (planV l).length = 2 * l.length := by
 induction l with
 | nil => rfl
 | cons x l ih => obtain ⟨c, n⟩ := x; simp only [planV, List.length_cons, ih]; omega
theorem planV_one (l : List (Int × Int)) : ∀ v ∈ planV l, oneC v = true := by
 induction l with
 | nil => intro v hv; cases hv
 | cons x l ih =>
   obtain ⟨c, n⟩ := x
   intro v hv
   simp only [planV, List.mem_cons] at hv
   rcases hv with rfl | rfl | hv
   · rfl
   · rfl
   · exact ih v hv
theorem planV_get {l : List (Int × Int)} {i : Nat} (h : i < l.length) : (planV l)[i * 2]? = some (.int .i64 l[i].1) ∧ (planV l)[i * 2 + 1]? = some (.int .i64 l[i].2) := by
 induction l generalizing i with
 | nil => simp at h
 | cons x l ih =>
   obtain ⟨c, n⟩ := x
   cases i with
   | zero => simp [planV]
   | succ i =>
     have := ih (i := i) (by simpa using h)
     have e : (i + 1) * 2 = i * 2 + 2 := by omega
     rw [e]
     simpa [planV] using this
theorem allocAll_cons (r : RH) (x : Int × Int) (l : List (Int × Int)) : r.allocAll (x :: l) = if (r.alloc (4 * x.1) x.2 0).1.2 ≠ 0 then ((r.alloc (4 * x.1) x.2 0).1.2, (r.alloc (4 * x.1) x.2 0).2) else RH.allocAll (r.alloc (4 * x.1) x.2 0).2 l := by
 obtain ⟨c, n⟩ := x; rfl
theorem bootRH_eq (words oops : Int) : bootH (((bootR0 words oops).allocAll bootPlan).2) = bootRH words oops := rfl
theorem boot_objs {words oops : Int} (hz : ((bootR0 words oops).allocAll bootPlan).1 = 0) : ((bootR0 words oops).allocAll bootPlan).2.objs = bootL := by
 rw [allocAll_grow bootPlan (r := bootR0 words oops) rfl hz]; rfl
theorem boot_root {words oops : Int} (hw : WFH (bootRH words oops)) (hz : ((bootR0 words oops).allocAll bootPlan).1 = 0) : ((bootRH words oops).clsAt 19).2 = 0 := by
 obtain ⟨x, hx, _⟩ := bootArr hw hz (p := (19, [80, 72, 72, 72, 4, 8, 12, 4])) (by decide)
 unfold RH.clsAt
 simp only at hx
 rw [hx]
attribute [local irreducible] bootRH bootH bootL
section
variable {H : Heap} {Q : QT}
theorem bootPlan_b : ∀ i (hi : i < bootPlan.length), 1 ≤ (bootPlan[i]).1 ∧ (bootPlan[i]).1 ≤ 65536 := by decide
theorem kboot_k {words oops : Int} (hk : Kinds H) (hbad : ¬ (0 ≤ words ∧ words ≤ 1048576 ∧ 0 ≤ oops ∧ oops ≤ 65536) → Q (.tuple #[.pointer none, .int .i64 1]) H)
   (h1 : (0 ≤ words ∧ words ≤ 1048576 ∧ 0 ≤ oops ∧ oops ≤ 65536) → ((bootR0 words oops).allocAll bootPlan).1 ≠ 0 → ∀ H', Fr [] H H' → Q (.tuple #[.pointer none, .int .i64 ((bootR0 words oops).allocAll bootPlan).1]) H')
   (h2 : (0 ≤ words ∧ words ≤ 1048576 ∧ 0 ≤ oops ∧ oops ≤ 65536) → ((bootR0 words oops).allocAll bootPlan).1 = 0 → ∀ b F H', PK H' b F (bootS words oops) bootT → Fr [] H H' → (∀ x ∈ F, H.size ≤ x) → Q (.tuple #[.pointer (some ⟨b, 0, none⟩), .int .i64 0]) H') :
   callS PP n_k10 #[.int .i64 words, .int .i64 oops] Q H := by
 have hs1 : sliceInfo PP 92 = some (2, 16, some (.agg #[.int .i64 0, .int .i64 0])) := by kernel_rfl
 apply k10_ok
 unfold k10 A0 iV wW pV lV cS; dsimp only [shH]
 refine psNew_c hk (fun hb => ⟨_, _, rfl, hbad hb⟩) fun hg sb F1 H1 hS1 hf1 hF1 => ⟨_, _, rfl, ?_⟩
 simp only [show ((0 : Int) != 0) = false from rfl, cond_false]
 have h1 := h1 hg
 have h2 := h2 hg
 refine ptNew_c (fun hb => absurd ⟨by decide, by decide⟩ hb) fun _ tb F2 H2 hT2 hf2 hF2 => ⟨_, _, rfl, ?_⟩
 simp only [show ((0 : Int) != 0) = false from rfl, cond_false]
 have hf12 := hf1.trans hf2
 have hS2 := hS1.nilfr hf2
 have hgl := hk.lt
 have hK3 : PK (H2.push (.cells #[.pointer (some ⟨sb, 0, none⟩), .pointer (some ⟨tb, 0, none⟩)] 90)) H2.size (H2.size :: (F1 ++ F2)) ⟨bootR0 words oops, 0, [], false, 0, 0, 0⟩ ⟨4096, []⟩ := by
   have fp := Fr.push [] H2 (.cells #[.pointer (some ⟨sb, 0, none⟩), .pointer (some ⟨tb, 0, none⟩)] 90)
   have l1 := hS2.lt
   have l1' := hS1.lt
   have l2 := hT2.lt
   refine ⟨sb, tb, F1, F2, rfl, fun hm => absurd (l1 _ hm) (Nat.lt_irrefl _), fun hm => absurd (l2 _ hm) (Nat.lt_irrefl _), fun x hx hx2 => ?_, ?_, fun hm => ?_, Blk.new _ _ _, hS2.nilfr fp, hT2.fr fp (Disj.nil_right _)⟩
   · have := hF2 x hx2; have := l1' x hx; omega
   · have := hf12.1; omega
   · have := hF2 _ hm; have := hf1.1; omega
 have hf3 : Fr [] H (H2.push (.cells #[.pointer (some ⟨sb, 0, none⟩), .pointer (some ⟨tb, 0, none⟩)] 90)) := hf12.more
 have hF3 : ∀ x ∈ H2.size :: (F1 ++ F2), H.size ≤ x := fun x hx => by
   rcases List.mem_cons.1 hx with rfl | hx
   · exact hf12.1
   · rcases List.mem_append.1 hx with hx | hx
     · exact hF1 x hx
     · exact Nat.le_trans hf1.1 (hF2 x hx)
 generalize hH3 : (H2.push (.cells #[.pointer (some ⟨sb, 0, none⟩), .pointer (some ⟨tb, 0, none⟩)] 90)) = H3 at hK3 hf3 ⊢
 generalize (H2.size :: (F1 ++ F2)) = F3 at hK3 hF3
 apply k48_ok
 unfold k48 A0 sV lV
 refine ⟨_, _, _, rfl, ?_⟩
 have hlt3 := hK3.lt
 have hO0 : Own 2 (H3.push (.cells (planV [(5, 0), (6, 0), (7, 0)]).toArray 91)) (some ⟨H3.size, 0, none⟩) 3 3 (planV [(5, 0), (6, 0), (7, 0)]) [H3.size] := ⟨rfl, Nat.le_refl _, .inr ⟨H3.size, _, rfl, rfl, Blk.new _ _ _, rfl, rfl⟩⟩
 have fq : Fr [] H3 (H3.push (.cells (planV [(5, 0), (6, 0), (7, 0)]).toArray 91)) := Fr.push _ _ _
 generalize hH4 : (H3.push (.cells (planV [(5, 0), (6, 0), (7, 0)]).toArray 91)) = H4 at hO0 fq
 have hO1 : Own 2 (H4.push (.cells (strsV kNames).toArray 9)) (some ⟨H3.size, 0, none⟩) 3 3 (planV [(5, 0), (6, 0), (7, 0)]) [H3.size] := hO0.fr (Fr.push [] _ _) (by simp)
 have fr1 : Fr [] H3 (H4.push (.cells (strsV kNames).toArray 9)) := fq.more
 show ∃ (I11 : List Value → Heap → Prop) (μ11 : List Value → Heap → Nat), I11 [.slice (some ⟨H3.size, 0, none⟩) 3 3, .int .i64 0] ((H3.push (.cells (planV [(5, 0), (6, 0), (7, 0)]).toArray 91)).push (.cells (strsV kNames).toArray 9)) ∧ _
 rw [hH4]
 generalize (H4.push (.cells (strsV kNames).toArray 9)) = H5 at hO1 fr1 ⊢
 refine ⟨fun w H' => ∃ (i : Nat) (a : Option Addr) (l c : Nat) (G : Foot), w = [.slice a l c, .int .i64 i] ∧ i ≤ 14 ∧ Own 2 H' a l c (planV ([(5, 0), (6, 0), (7, 0)] ++ List.replicate i (12, 7))) G ∧ Fr [] H3 H' ∧ (∀ x ∈ G, H3.size ≤ x), fun w _ => match w with
   | [_, .int _ i] => (14 - i).toNat
   | _ => 0, ⟨0, _, _, _, _, rfl, by decide, hO1, fr1, by simp⟩, ?_⟩
 rintro w H6 ⟨i, a, l, c, G, rfl, hi, ho, hf6, hG⟩ _
 have hl : l = 3 + i := by have := ho.len; rw [planV_len] at this; simp at this; omega
 refine ⟨_, _, _, _, rfl, ?_⟩
 rw [cond_dec]
 refine ite_i (fun hlt => ?_) fun hlt => ?_
 · have e1 : IntKind.wrap .i64 ((i : Int) + 1) = ((i + 1 : Nat) : Int) := by rw [wrap64_id (by omega) (by omega)]; omega
   refine evS_append1 hs1 rfl (by kernel_rfl) ho rfl (by simp [oneC]) (by omega) (by decide) (by decide) fun a' c' G2 H7 g1 g2 g3 => ⟨_, _, _, rfl, ?_⟩
   obtain ⟨f7, hG7⟩ := Up.fresh hf6 g2 hG
   rw [e1]
   refine ⟨⟨i + 1, a', l + 1, c', G2, rfl, by omega, ?_, f7, hG7⟩, by simp; omega⟩
   rw [List.replicate_succ', ← List.append_assoc, planV_append]
   exact g1
 have hi14 : i = 14 := by omega
 subst hi14
 have fl : Fr [] H6 (H6.push (.cells (planV [(11, 0), (11, 8), (11, 14)]).toArray 91)) := Fr.push _ _ _
 refine evS_append (l2 := 3) (ys := planV [(11, 0), (11, 8), (11, 14)]) hs1 rfl (by kernel_rfl) (ho.fr fl (by simp)) ⟨rfl, (fun h => by cases h), fun p hp k hk' => ?_⟩ (planV_one _) (by omega) (by decide) (by decide) fun a' c' G2 H7 g1 g2 g3 => ⟨_, _, _, rfl, ?_⟩
 · cases hp
   rw [add_none, Nat.zero_add]
   exact ((Blk.new H6 (planV [(11, 0), (11, 8), (11, 14)]).toArray 91).cell k).trans (by simp)
 obtain ⟨f7, hG7⟩ := Up.fresh (hf6.trans fl) g2 hG
 rw [← planV_append] at g1
 have ep : [(5, 0), (6, 0), (7, 0)] ++ List.replicate 14 (12, 7) ++ [(11, 0), (11, 8), (11, 14)] = bootPlan := rfl
 rw [ep] at g1
 subst hl
 have hr7 : Rd 2 H7 a' 20 (planV bootPlan) := g1.rd
 have ho7 : Out H7 a' F3 := fun p hp => by
   have hlt := g1.lt
   rcases g1.2.2 with ⟨h3, _⟩ | ⟨b', cs, h3, h4, _⟩
   · rw [h3] at hp; cases hp
   · rw [h3] at hp; cases hp
     have hb' : b' ∈ G2 := by rw [h4]; simp
     exact ⟨hlt _ hb', fun hm => by have h5 := hG7 _ hb'; have h6 := hlt3 _ hm; simp only at h6; omega⟩
 have hK7 := hK3.nil f7
 have hc3 : cellH H3 ⟨H2.size, 0, none⟩ = some (.pointer (some ⟨sb, 0, none⟩)) := by rw [← hH3]; exact (Blk.new H2 _ _).cell 0
 have hc7 : cellH H7 ⟨H2.size, 0, none⟩ = some (.pointer (some ⟨sb, 0, none⟩)) := by rw [cell_fr f7 (by simp) (cell_lt hc3)]; exact hc3
 have hf7 := hf3.trans f7
 have h20 : bootPlan.length = 20 := rfl
 refine ⟨fun w H' => ∃ (k : Nat) (r : RH) (st : List Int) (F' : Foot), w = [.int .i64 k] ∧ k ≤ 20 ∧ PK H' H2.size F' ⟨r, 0, st, false, 0, 0, 0⟩ ⟨4096, []⟩ ∧ Up F3 H7 F' H' ∧ st.length = k ∧ cellH H' ⟨H2.size, 0, none⟩ = some (.pointer (some ⟨sb, 0, none⟩)) ∧ r.allocAll (bootPlan.drop k) = (bootR0 words oops).allocAll bootPlan, fun w _ => match w with
   | [.int _ k] => (20 - k).toNat
   | _ => 0, ⟨0, _, _, _, rfl, by decide, hK7, Up.refl _ _, rfl, hc7, rfl⟩, ?_⟩
 rintro w H8 ⟨k, r, st, F8, rfl, hk20, hK8, hu8, hst, hcb, hall⟩ _
 refine ⟨_, rfl, ?_⟩
 rw [cond_dec]
 refine ite_i (fun hlt => ?_) fun hlt => ?_
 · have hkl : k < bootPlan.length := by omega
   have e1 : IntKind.wrap .i64 ((k : Int) + 1) = ((k + 1 : Nat) : Int) := by rw [wrap64_id (by omega) (by omega)]; omega
   have hr8 : Rd 2 H8 a' 20 (planV bootPlan) := hr7.fr' hu8.1 fun p hp => (ho7 p hp).2
   have hpb := bootPlan_b k hkl
   obtain ⟨q0, q1⟩ := planV_get hkl
   have ed : bootPlan.drop k = bootPlan[k] :: bootPlan.drop (k + 1) := List.drop_eq_getElem_cons hkl
   rw [ed] at hall
   have hex : ∃ q, a' = some q := by
     cases ha : a' with
     | none => have := hr8.2.1 ha; omega
     | some q => exact ⟨q, rfl⟩
   obtain ⟨q, rfl⟩ := hex
   have c0 := hr8.2.2 q rfl (k * 2) (by omega)
   have c1 := hr8.2.2 q rfl (k * 2 + 1) (by omega)
   rw [q0] at c0
   rw [q1] at c1
   have eadd : (q.add (k * 2)).add 1 = q.add (k * 2 + 1) := Addr.add_add _ _ _
   refine ⟨⟨by omega, by omega⟩, _, rfl, _, by rw [Int.toNat_natCast]; exact c0, _, by rw [Int.toNat_natCast, eadd]; exact c1, ?_⟩
   have fpx : Fr [] H8 (H8.push (.cells #[.int .i64 0, .int .i64 0] 91)) := Fr.push _ _ _
   have hBx := Blk.new H8 #[.int .i64 0, .int .i64 0] 91
   generalize (H8.push (.cells #[.int .i64 0, .int .i64 0] 91)) = H9 at fpx hBx ⊢
   have hB9 := (hBx.set 0 (.int .i64 (bootPlan[k]).1)).set 1 (.int .i64 (bootPlan[k]).2)
   have f9 : Fr [] H8 (setH (setH H9 ⟨H8.size, 0, none⟩ (.int .i64 (bootPlan[k]).1)) ⟨H8.size, 1, none⟩ (.int .i64 (bootPlan[k]).2)) := Fr.late (Fr.late fpx (Nat.le_refl _)) (Nat.le_refl _)
   refine ⟨hBx.wr (o := 0) (by simp), (hBx.set 0 _).wr (o := 1) (by simp), ?_⟩
   show ∃ n25 : Int, cellH (setH (setH H9 ⟨H8.size, 0, none⟩ (.int .i64 (bootPlan[k]).1)) ⟨H8.size, 1, none⟩ (.int .i64 (bootPlan[k]).2)) ⟨H8.size, 0, none⟩ = some (.int .i64 n25) ∧ ∃ n26 : Int, cellH (setH (setH H9 ⟨H8.size, 0, none⟩ (.int .i64 (bootPlan[k]).1)) ⟨H8.size, 1, none⟩ (.int .i64 (bootPlan[k]).2)) ⟨H8.size, 1, none⟩ = some (.int .i64 n26) ∧ callS PP n_k20 _ _ (setH (setH H9 ⟨H8.size, 0, none⟩ (.int .i64 (bootPlan[k]).1)) ⟨H8.size, 1, none⟩ (.int .i64 (bootPlan[k]).2))
   generalize (setH (setH H9 ⟨H8.size, 0, none⟩ (.int .i64 (bootPlan[k]).1)) ⟨H8.size, 1, none⟩ (.int .i64 (bootPlan[k]).2)) = HA at hB9 f9 ⊢
   have hKA := hK8.nil f9
   obtain ⟨sbA, FA, hcA, hSA, hsubA, hbA, hupA, hupA2⟩ := hKA.sp
   have esb : sbA = sb := by rw [cell_fr f9 (by simp) (cell_lt hcb), hcb] at hcA; simpa using hcA.symm
   subst esb
   refine ⟨_, hB9.cell 0, _, hB9.cell 1, psHeap_c hSA fun hb FB hRB hsubB hupB => ⟨_, rfl, ⟨⟨hB9.cell 1, trivial⟩, ⟨hB9.cell 0, trivial⟩, trivial⟩, object_c hpb ⟨_, rfl, ⟨⟨hB9.cell 1, trivial⟩, trivial⟩, alloc_c hRB fun HB' hRB' hfB => ⟨_, _, rfl, trivial, ?_⟩⟩⟩⟩
   have hSB := hupB HB' _ hRB' hfB
   have hKB := hupA2 HB' _ hSB (hfB.mono hsubB)
   have huB : Up F8 HA F8 HB' := ⟨(hfB.mono hsubB).mono hsubA, fun _ h => .inl h⟩
   have hu8B : Up F3 H7 F8 HB' := hu8.trans ((Up.of_nil f9).trans huB)
   rw [allocAll_cons] at hall
   rw [bneI, cond_dec]
   refine ite_i (fun he => ?_) fun he => ?_
   · rw [if_pos he] at hall
     have e0 : ((bootR0 words oops).allocAll bootPlan).1 = (r.alloc (4 * (bootPlan[k]).1) (bootPlan[k]).2 0).1.2 := by rw [← hall]
     have := h1 (by rw [e0]; exact he) HB' ?_
     · rw [e0] at this; exact this
     · exact (Up.fresh hf7 hu8B hF3).1
   rw [if_neg he] at hall
   have hz : (r.alloc (4 * (bootPlan[k]).1) (bootPlan[k]).2 0).1.2 = 0 := Classical.byContradiction he
   have hob := alloc_ok hK8.wfs.h hz
   refine object_c ⟨hob.2.1, hob.2.2.1⟩ ⟨_, rfl, ?_⟩
   have fpy : Fr [] HB' (HB'.push (.cells #[.int .i64 (4 * (r.alloc (4 * (bootPlan[k]).1) (bootPlan[k]).2 0).1.1)] 36)) := Fr.push _ _ _
   have hKC := hKB.nil fpy
   obtain ⟨sbC, FC, hcC, hSC, hsubC, hbC, hupC, _⟩ := hKC.sp
   have hcB' : cellH HB' ⟨H2.size, 0, none⟩ = some (.pointer (some ⟨sbA, 0, none⟩)) := by rw [cell_fr hfB (fun hm => hbA (hsubB _ hm)) (cell_lt hcA)]; exact hcA
   have hcP := cell_fr fpy (b := H2.size) (o := 0) (by simp) (cell_lt hcB')
   rw [hcB'] at hcP
   have esb : sbC = sbA := by rw [hcP] at hcC; simpa using hcC.symm
   subst esb
   have hkw := keepW_one (s := ⟨(r.alloc (4 * (bootPlan[k]).1) (bootPlan[k]).2 0).2, 0, st, false, 0, 0, 0⟩) (isW_obj hob.2.1 hob.2.2.1) (by show st.length < 65536; omega)
   refine psKeep_c hSC (rd_new (cs := [4 * (r.alloc (4 * (bootPlan[k]).1) (bootPlan[k]).2 0).1.1])) (by decide) fun HD FD hSD huD => ⟨_, rfl, ?_⟩
   rw [hkw] at hSD ⊢
   simp only [show ((0 : Int) != 0) = false from rfl, cond_false]
   obtain ⟨FE, hKE, huE⟩ := hupC HD FD _ hSD huD
   rw [e1]
   exact ⟨⟨k + 1, _, _, FE, rfl, by omega, hKE, hu8B.trans ((Up.of_nil fpy).trans huE), by simp [hst], by rw [cell_fr huD.1 hbC (cell_lt hcC)]; exact hcC, hall⟩, by simp; omega⟩
 · have hk20' : k = 20 := by omega
   subst hk20'
   have ez : bootPlan.drop 20 = [] := rfl
   rw [ez] at hall
   have hall' : (0, r) = (bootR0 words oops).allocAll bootPlan := hall
   have hz : ((bootR0 words oops).allocAll bootPlan).1 = 0 := by rw [← hall']
   have hrr : r = ((bootR0 words oops).allocAll bootPlan).2 := by rw [← hall']
   have hbH : bootH r = bootRH words oops := by rw [hrr]; exact bootRH_eq _ _
   have hro : r.objs = bootL := by rw [hrr]; exact boot_objs hz
   obtain ⟨sb8, F9, hc8, hS8, _⟩ := hK8.sp
   obtain ⟨hb8, _, _, hcx, _⟩ := hS8.upd
   have esb8 : sb8 = sb := by rw [hcb] at hc8; simpa using hc8.symm
   subst esb8
   refine fill_k hK8 ⟨hc8, hcx⟩ (fun j x hx => ?_) fun H9 FA hKA hBA huA => ⟨rfl, ?_⟩
   · rw [hro] at hx
     exact of_decide_eq_true (List.all_eq_true.1 bootL_fmt x (objAt_some hx).1)
   have hKA' : PK H9 H2.size FA ⟨bootRH words oops, 0, st, false, 0, 0, 0⟩ bootT := by rw [← hbH]; exact hKA
   obtain ⟨sbA, F10, hcA, hSA, hsubA, hbA, _, hupA⟩ := hKA'.sp
   have esb : sbA = sb8 := by have := hBA.1; rw [hcA] at this; simpa using this
   subst esb
   have hwf : WFH (bootRH words oops) := hKA'.wfs.h
   have hcl : ((bootRH words oops).clsAt 19).2 = 0 := boot_root hwf hz
   refine psCrown_c hSA fun HB hSB hfB => ⟨_, rfl, ?_⟩
   have ecr : (SP.crown ⟨bootRH words oops, 0, st, false, 0, 0, 0⟩ 19) = (0, ⟨bootRH words oops, 19, st, false, 0, 0, 0⟩) := by
     unfold SP.crown
     rw [if_neg (by simpa using hcl)]
   rw [ecr] at hSB
   have hKB := hupA HB _ hSB hfB
   obtain ⟨sbB, F11, hcB, hSB', hsubB, _, _, hupB⟩ := hKB.sp
   have esb : sbB = sbA := by rw [cell_fr hfB hbA (cell_lt hcA), hcA] at hcB; simpa using hcB.symm
   subst esb
   refine psDrop_c hSB' ⟨by decide, by decide⟩ fun HC hSC hfC => ⟨_, rfl, ?_⟩
   have edr : (SP.drop ⟨bootRH words oops, 19, st, false, 0, 0, 0⟩ ((20 : Nat) : Int)) = (0, bootS words oops) := by
     unfold SP.drop
     rw [if_neg (by simp only [hst]; decide)]
     simp [hst, bootS]
   have e20 : ((3 + 14 + 3 : Nat) : Int) = ((20 : Nat) : Int) := rfl
   rw [edr] at hSC
   have hKC := hupB HC _ hSC hfC
   have huC : Up F3 H7 FA HC := (hu8.trans huA).trans ⟨(hfB.mono hsubA).trans (hfC.mono hsubB), fun _ h => .inl h⟩
   have := Up.fresh hf7 huC hF3
   exact h2 hz H2.size FA HC hKC this.1 this.2
end
end Go.Proofs.YtmkdkplipbocjaaGreatDoor
namespace Go.Proofs.YtmkdkplipbocjaaGreatDoor
open Kw
def NamesAt (H : Heap) : Prop := ∀ i (hi : i < kNames.length), cellH H ⟨g_kilnref13_Names, i, none⟩ = some (.string kNames[i])
theorem NamesAt.fr {H H' : Heap} {F : Foot} (h : NamesAt H) (hf : Fr F H H') (hn : g_kilnref13_Names ∉ F) : NamesAt H' := fun i hi => by
 rw [cell_fr hf hn (cell_lt (h i hi))]; exact h i hi
theorem NamesAt.lt {H : Heap} (h : NamesAt H) : g_kilnref13_Names < H.size := cell_lt (h 0 (by decide))
theorem lay8 (x : RH) : x.lay 19 0 [80, 72, 72, 72, 4, 8, 12, 4] = ((x.lay 19 0 fillR).put 19 7 4).2 := rfl
theorem boot_put7 (w o m b t : Int) : ((bootH ⟨w, o, m, b, t, bootL⟩).put 19 7 4).2 = bootH ⟨w, o, m, b, t, bootL⟩ := by kernel_rfl
theorem boot_lay8 {words oops : Int} (hz : ((bootR0 words oops).allocAll bootPlan).1 = 0) : (fillN ((bootR0 words oops).allocAll bootPlan).2 14).lay 19 0 [80, 72, 72, 72, 4, 8, 12, 4] = bootRH words oops := by
 have e : ((bootR0 words oops).allocAll bootPlan).2 = ⟨words, oops, 0, 20, 0, bootL⟩ := by
   rw [allocAll_grow bootPlan (r := bootR0 words oops) rfl hz]
   kernel_rfl
 have e2 : bootRH words oops = bootH ⟨words, oops, 0, 20, 0, bootL⟩ := by unfold bootRH; rw [e]
 rw [lay8, e2, e]
 exact boot_put7 words oops 0 20 0
attribute [local irreducible] bootRH bootH bootL
section
variable {H : Heap} {Q : QT}
theorem row_r {k : Nat} (hk : k < bootPlan.length) (h : Q (.tuple #[.int .i64 (bootPlan[k]).1, .int .i64 (bootPlan[k]).2]) H) : callS PP n_k57 #[.int .i64 ((k : Int) + 1)] Q H := by
 apply k57_ok
 unfold k57 iV wW
 have h20 : k < 20 := hk
 rcases k with _ | _ | _ | _ | _ | _ | _ | _ | _ | _ | _ | _ | _ | _ | _ | _ | _ | _ | _ | _ | k
 all_goals first | exact h | omega
theorem boot_r {words oops : Int} (hN : NamesAt H) (hbad : ¬ (0 ≤ words ∧ words ≤ 1048576 ∧ 0 ≤ oops ∧ oops ≤ 65536) → Q (.tuple #[.pointer none, .int .i64 1]) H)
   (h1 : (0 ≤ words ∧ words ≤ 1048576 ∧ 0 ≤ oops ∧ oops ≤ 65536) → ((bootR0 words oops).allocAll bootPlan).1 ≠ 0 → ∀ H', Fr [] H H' → Q (.tuple #[.pointer none, .int .i64 ((bootR0 words oops).allocAll bootPlan).1]) H')
   (h2 : (0 ≤ words ∧ words ≤ 1048576 ∧ 0 ≤ oops ∧ oops ≤ 65536) → ((bootR0 words oops).allocAll bootPlan).1 = 0 → ∀ b F H', RK H' b F (bootS words oops) bootT → Fr [] H H' → (∀ x ∈ F, H.size ≤ x) → Q (.tuple #[.pointer (some ⟨b, 0, none⟩), .int .i64 0]) H') :
   callS PP n_k11 #[.int .i64 words, .int .i64 oops] Q H := by
 have h14 : kNames.length = 14 := rfl
 apply k11_ok
 unfold k11 A0 iV wW pV sV lV cS
 refine rsNew_c (fun hb => ⟨_, _, rfl, hbad hb⟩) fun hg sb F1 H1 hS1 hf1 hF1 => ⟨_, _, rfl, ?_⟩
 simp only [show ((0 : Int) != 0) = false from rfl, cond_false]
 have h1 := h1 hg
 have h2 := h2 hg
 refine rtNew_c (fun hb => absurd ⟨by decide, by decide⟩ hb) fun _ H2 hT2 hf2 => ⟨_, _, rfl, ?_⟩
 have hf12 := hf1.trans hf2
 have hS2 := hS1.fr hf2 (Disj.nil_right _)
 have hK3 : RK (H2.push (.cells #[.pointer (some ⟨sb, 0, none⟩), .pointer (some ⟨H1.size, 0, none⟩)] 104)) H2.size (H2.size :: (F1 ++ [H1.size])) ⟨bootR0 words oops, 0, [], false, 0, 0, 0⟩ ⟨4096, []⟩ := by
   have fp := Fr.push [] H2 (.cells #[.pointer (some ⟨sb, 0, none⟩), .pointer (some ⟨H1.size, 0, none⟩)] 104)
   have l1 := hS2.lt
   have l1' := hS1.lt
   have l2 := hT2.lt
   exact ⟨sb, H1.size, F1, [H1.size], rfl, fun hm => absurd (l1 _ hm) (Nat.lt_irrefl _), fun hm => absurd (l2 _ hm) (Nat.lt_irrefl _), fun x hx hx2 => by simp only [List.mem_singleton] at hx2; have := l1' x hx; omega, Blk.new _ _ _, hS2.fr fp (Disj.nil_right _), hT2.fr fp (Disj.nil_right _)⟩
 have hf3 : Fr [] H (H2.push (.cells #[.pointer (some ⟨sb, 0, none⟩), .pointer (some ⟨H1.size, 0, none⟩)] 104)) := hf12.more
 have hF3 : ∀ x ∈ H2.size :: (F1 ++ [H1.size]), H.size ≤ x := fun x hx => by
   rcases List.mem_cons.1 hx with rfl | hx
   · exact hf12.1
   · rcases List.mem_append.1 hx with hx | hx
     · exact hF1 x hx
     · simp only [List.mem_singleton] at hx; rw [hx]; exact hf1.1
 have hc0 : cellH (H2.push (.cells #[.pointer (some ⟨sb, 0, none⟩), .pointer (some ⟨H1.size, 0, none⟩)] 104)) ⟨H2.size, 0, none⟩ = some (.pointer (some ⟨sb, 0, none⟩)) := (Blk.new H2 _ _).cell 0
 have hc1 : cellH (H2.push (.cells #[.pointer (some ⟨sb, 0, none⟩), .pointer (some ⟨H1.size, 0, none⟩)] 104)) ⟨H2.size, 1, none⟩ = some (.pointer (some ⟨H1.size, 0, none⟩)) := (Blk.new H2 _ _).cell 1
 generalize (H2.push (.cells #[.pointer (some ⟨sb, 0, none⟩), .pointer (some ⟨H1.size, 0, none⟩)] 104)) = H3 at hK3 hf3 hc0 hc1 ⊢
 generalize (H2.size :: (F1 ++ [H1.size])) = F3 at hK3 hF3
 have h20 : bootPlan.length = 20 := rfl
 have hgF : ∀ {H' : Heap} {F' : Foot}, Up F3 H3 F' H' → g_kilnref13_Names ∉ F' := fun {H' F'} hu hm => by
   have hlt := hN.lt
   rcases hu.2 _ hm with h5 | h5
   · have := hF3 _ h5; omega
   · have := hf3.1; omega
 refine ⟨fun w H' => ∃ (k : Nat) (r : RH) (F' : Foot), w = [.int .i64 ((k : Int) + 1)] ∧ k ≤ 20 ∧ RK H' H2.size F' ⟨r, 0, [], false, 0, 0, 0⟩ ⟨4096, []⟩ ∧ Up F3 H3 F' H' ∧ cellH H' ⟨H2.size, 0, none⟩ = some (.pointer (some ⟨sb, 0, none⟩)) ∧ cellH H' ⟨H2.size, 1, none⟩ = some (.pointer (some ⟨H1.size, 0, none⟩)) ∧ r.allocAll (bootPlan.drop k) = (bootR0 words oops).allocAll bootPlan, fun w _ => match w with
   | [.int _ k] => (21 - k).toNat
   | _ => 0, ⟨0, _, _, rfl, by decide, hK3, Up.refl _ _, hc0, hc1, rfl⟩, ?_⟩
 rintro w H8 ⟨k, r, F8, rfl, hk20, hK8, hu8, hd0, hd1, hall⟩ _
 refine ⟨_, rfl, ?_⟩
 rw [cond_dec]
 refine ite_i (fun hlt => ?_) fun hlt => ?_
 · have hkl : k < bootPlan.length := by omega
   have e1 : IntKind.wrap .i64 ((k : Int) + 1 + 1) = ((k + 1 : Nat) : Int) + 1 := by rw [wrap64_id (by omega) (by omega)]; omega
   have hpb := bootPlan_b k hkl
   have ed : bootPlan.drop k = bootPlan[k] :: bootPlan.drop (k + 1) := List.drop_eq_getElem_cons hkl
   rw [ed, allocAll_cons] at hall
   obtain ⟨sb', hb, FB, hcs, c0, hRB, hsub, hbn, hup⟩ := hK8.hp
   have esb : sb' = sb := by rw [hd0] at hcs; simpa using hcs.symm
   subst esb
   refine row_r hkl ⟨_, _, rfl, _, rfl, _, c0, refObj_c ⟨by omega, by omega⟩ ⟨_, rfl, ⟨⟨c0, trivial⟩, trivial⟩, ralloc_c hRB fun H9 FB' hR9 hu9 => ⟨_, _, rfl, trivial, ?_⟩⟩⟩
   obtain ⟨F9, hK9, hu9'⟩ := hup H9 FB' _ hR9 hu9
   have hbl := hK8.lt _ hK8.bmem
   rw [bneI, cond_dec]
   refine ite_i (fun he => ?_) fun he => ?_
   · rw [if_pos he] at hall
     have e0 : ((bootR0 words oops).allocAll bootPlan).1 = (r.alloc (4 * (bootPlan[k]).1) (bootPlan[k]).2 0).1.2 := by rw [← hall]
     have := h1 (by rw [e0]; exact he) H9 (Up.fresh hf3 (hu8.trans hu9') hF3).1
     rw [e0] at this; exact this
   rw [if_neg he] at hall
   rw [e1]
   exact ⟨⟨k + 1, _, F9, rfl, by omega, hK9, hu8.trans hu9', by rw [cell_fr hu9.1 hbn hbl]; exact hd0, by rw [cell_fr hu9.1 hbn hbl]; exact hd1, hall⟩, by simp; omega⟩
 have hk20' : k = 20 := by omega
 subst hk20'
 have ez : bootPlan.drop 20 = [] := rfl
 rw [ez] at hall
 have hall' : (0, r) = (bootR0 words oops).allocAll bootPlan := hall
 have hz : ((bootR0 words oops).allocAll bootPlan).1 = 0 := by rw [← hall']
 have hrr : r = ((bootR0 words oops).allocAll bootPlan).2 := by rw [← hall']
 have hbH : bootH r = bootRH words oops := by rw [hrr]; exact bootRH_eq _ _
 have hNm : ∀ {H' : Heap} {F' : Foot}, Up F3 H3 F' H' → NamesAt H' := fun {H' F'} hu => by
   have hN3 := hN.fr hf3 (by simp)
   exact hN3.fr hu.1 (fun hm => by have := hF3 _ hm; have := hN.lt; omega)
 refine ⟨fun w H' => ∃ (i : Nat) (F' : Foot), w = [.int .i64 i] ∧ i ≤ 14 ∧ RK H' H2.size F' ⟨fillN r i, 0, [], false, 0, 0, 0⟩ ⟨4096, kNames.take i⟩ ∧ Up F3 H3 F' H' ∧ cellH H' ⟨H2.size, 0, none⟩ = some (.pointer (some ⟨sb, 0, none⟩)) ∧ cellH H' ⟨H2.size, 1, none⟩ = some (.pointer (some ⟨H1.size, 0, none⟩)), fun w _ => match w with
   | [.int _ i] => (14 - i).toNat
   | _ => 0, ⟨0, F8, rfl, by decide, hK8, hu8, hd0, hd1⟩, ?_⟩
 rintro w H9 ⟨i, F9, rfl, hi, hK9, hu9, hx0, hx1⟩ _
 refine ⟨_, rfl, ?_⟩
 rw [cond_dec]
 refine ite_i (fun hlt2 => ?_) fun hlt2 => ?_
 · have hlt' : i < kNames.length := by omega
   have hN9 := hNm hu9 i hlt'
   have e1 : IntKind.wrap .i64 ((i : Int) + 1) = ((i + 1 : Nat) : Int) := by rw [wrap64_id (by omega) (by omega)]; omega
   have e1' : IntKind.wrap .i64 ((i : Int) + 1) = (i : Int) + 1 := wrap64_id (by omega) (by omega)
   have e4 : IntKind.wrap .i64 (4 + (i : Int)) = 4 + (i : Int) := wrap64_id (by omega) (by omega)
   obtain ⟨tb, FT, hct, hT, hsubT, hbT, hupT⟩ := hK9.tb
   have etb : tb = H1.size := by rw [hx1] at hct; simpa using hct.symm
   subst etb
   refine ⟨⟨by omega, hlt2⟩, _, by rw [add_none, Int.toNat_natCast, Nat.mul_one, Nat.zero_add]; exact hN9, tadd_c hT fun HA FT' hTA huA => ⟨_, _, rfl, ?_⟩⟩
   rw [bootAdd hlt'] at hTA
   obtain ⟨FA, hKA, huA'⟩ := hupT HA FT' _ hTA huA
   have hbl9 := hK9.lt _ hK9.bmem
   have hy0 : cellH HA ⟨H2.size, 0, none⟩ = some (.pointer (some ⟨sb, 0, none⟩)) := by rw [cell_fr huA.1 hbT hbl9]; exact hx0
   have hy1 : cellH HA ⟨H2.size, 1, none⟩ = some (.pointer (some ⟨H1.size, 0, none⟩)) := by rw [cell_fr huA.1 hbT hbl9]; exact hx1
   refine refObj_c (by decide) ⟨_, rfl, ?_⟩
   refine ⟨fun w H' => w = [.int .i64 (if i = 0 then 4 else 16)] ∧ H' = HA, ?_, ?_⟩
   · rw [beqI, cond_dec]
     refine ite_i (fun h0 => refObj_c (by decide) ⟨_, rfl, ?_, rfl⟩) fun h0 => ⟨?_, rfl⟩
     · rw [if_pos (by omega)]; rfl
     · rw [if_neg (by omega)]; rfl
   rintro w HA' ⟨rfl, rfl⟩ _
   refine ⟨_, rfl, refSym_c ⟨by omega, by omega⟩ ⟨_, rfl, refObj_c (by decide) ⟨_, rfl, refObj_c (by decide) ⟨_, rfl, refObj_c (by decide) ⟨_, rfl, refInt_c (by decide) ⟨_, rfl, ?_⟩⟩⟩⟩⟩⟩
   rw [e1', e4]
   refine refInt_c ⟨by omega, by omega⟩ ⟨_, rfl, ?_⟩
   have fq := (Fr.push [] HA' (.cells (intsV (fillW i)).toArray 36))
   have hlA := hKA.lt
   refine layB_r (hKA.nil fq) (ws := fillW i) rd_new (fun p hp => by cases hp; exact ⟨by simp, fun hm => absurd (hlA _ hm) (Nat.lt_irrefl _)⟩) (by decide) fun HB FB hKB huB hce => ⟨rfl, ?_⟩
   have hz0 : cellH HB ⟨H2.size, 0, none⟩ = some (.pointer (some ⟨sb, 0, none⟩)) := by rw [hce, cell_fr fq (by simp) (cell_lt hy0)]; exact hy0
   have hz1 : cellH HB ⟨H2.size, 1, none⟩ = some (.pointer (some ⟨H1.size, 0, none⟩)) := by rw [hce, cell_fr fq (by simp) (cell_lt hy1)]; exact hy1
   obtain ⟨sb', hb, FC, hcs, c0, hRC, hsub, hbn, hupC⟩ := hKB.hp
   have esb : sb' = sb := by rw [hz0] at hcs; simpa using hcs.symm
   subst esb
   refine ⟨_, rfl, _, c0, refObj_c ⟨by omega, by omega⟩ ⟨_, rfl, ⟨⟨c0, trivial⟩, trivial⟩, rput_c hRC fun HD hRD hfD => ⟨_, rfl, trivial, ?_⟩⟩⟩
   obtain ⟨FD, hKD, huD⟩ := hupC HD FC _ hRD ⟨hfD, fun _ h => .inl h⟩
   rw [show (i : Int) + 1 = ((i + 1 : Nat) : Int) by omega]
   have hbl := hKB.lt _ hKB.bmem
   refine ⟨⟨i + 1, FD, rfl, by omega, hKD, ?_, by rw [cell_fr hfD hbn hbl]; exact hz0, by rw [cell_fr hfD hbn hbl]; exact hz1⟩, by simp; omega⟩
   exact ((hu9.trans huA').trans ((Up.of_nil fq).trans huB)).trans huD
 · have hi14 : i = 14 := by omega
   subst hi14
   refine refObj_c (by decide) ⟨_, rfl, refObj_c (by decide) ⟨_, rfl, refObj_c (by decide) ⟨_, rfl, refObj_c (by decide) ⟨_, rfl, refObj_c (by decide) ⟨_, rfl, refObj_c (by decide) ⟨_, rfl, refObj_c (by decide) ⟨_, rfl, refObj_c (by decide) ⟨_, rfl, ?_⟩⟩⟩⟩⟩⟩⟩⟩
   have fq := (Fr.push [] H9 (.cells (intsV [80, 72, 72, 72, 4, 8, 12, 4]).toArray 36))
   have hl9 := hK9.lt
   have hrd : Rd 1 (H9.push (.cells (intsV [80, 72, 72, 72, 4, 8, 12, 4]).toArray 36)) (some ⟨H9.size, 0, none⟩) 8 (intsV [80, 72, 72, 72, 4, 8, 12, 4]) := rd_new (cs := [80, 72, 72, 72, 4, 8, 12, 4])
   have hRW : (fillN r 14).lay 19 0 [80, 72, 72, 72, 4, 8, 12, 4] = bootRH words oops := by rw [hrr]; exact boot_lay8 hz
   show callS PP n_k61 _ _ (H9.push (.cells (intsV [80, 72, 72, 72, 4, 8, 12, 4]).toArray 36))
   generalize (H9.push (.cells (intsV [80, 72, 72, 72, 4, 8, 12, 4]).toArray 36)) = H9' at fq hrd ⊢
   have hKq := hK9.nil fq
   have hlq : Out H9' (some ⟨H9.size, 0, none⟩) F9 := fun p hp => by
     cases hp
     have h6 := hrd.2.2 _ rfl 0 (by decide)
     rw [add_none] at h6
     exact ⟨cell_lt (h6.trans (by rfl)), fun hm => absurd (hl9 _ hm) (Nat.lt_irrefl _)⟩
   generalize ([80, 72, 72, 72, 4, 8, 12, 4] : List Int) = W8 at hrd hRW
   generalize fillN r 14 = R8 at hKq hRW
   have eT : (⟨4096, kNames.take 14⟩ : TB) = bootT := rfl
   rw [eT] at hKq
   refine layB_r hKq (ws := W8) hrd hlq (by decide) fun HB FB hKB huB hce => ⟨rfl, ?_⟩
   have hKB : RK HB H2.size FB ⟨R8.lay 19 0 W8, 0, [], false, 0, 0, 0⟩ bootT := hKB
   rw [hRW] at hKB
   have hz0 : cellH HB ⟨H2.size, 0, none⟩ = some (.pointer (some ⟨sb, 0, none⟩)) := by rw [hce, cell_fr fq (by simp) (cell_lt hx0)]; exact hx0
   obtain ⟨sb', FS, hcs, hS, hsubS, _, hupS⟩ := hKB.sp
   have esb : sb' = sb := by rw [hz0] at hcs; simpa using hcs.symm
   subst esb
   refine rsCrown_c hS fun HC hSC hfC => ⟨_, rfl, ?_⟩
   have hwf : WFH (bootRH words oops) := hKB.wfs.h
   have hcl : ((bootRH words oops).clsAt 19).2 = 0 := boot_root hwf hz
   have ecr : (SP.crown ⟨bootRH words oops, 0, [], false, 0, 0, 0⟩ 19) = (0, bootS words oops) := by
     unfold SP.crown
     rw [if_neg (by simpa using hcl)]
     rfl
   rw [ecr] at hSC
   obtain ⟨FC, hKC, huC⟩ := hupS HC FS _ hSC ⟨hfC, fun _ h => .inl h⟩
   have hall2 := Up.fresh hf3 ((hu9.trans ((Up.of_nil fq).trans huB)).trans huC) hF3
   exact h2 hz H2.size FC HC hKC hall2.1 hall2.2
end
end Go.Proofs.YtmkdkplipbocjaaGreatDoor
namespace Go.Proofs.YtmkdkplipbocjaaGreatDoor
open Kw
variable {Q : QT} {H : Heap}
abbrev n_k3 : Nat := 3
def k3 (n1 : Int) (n2 : Int) (Q : QT) (H : Heap) : Prop :=
 callS PP 10 #[iV n1, iV n2] (fun v3 H1 => ∃ p4 n5, v3 = .tuple #[pV p4, iV n5] ∧ cS 11 #[iV n1, iV n2] (fun v6 H2 => ∃ p7 n8, v6 = .tuple #[pV p7, iV n8] ∧ cS 12 #[iV n5] (fun v9 H3 => ∃ n10, v9 = iV n10 ∧ cond (n10 != n8) (Q (.bool false) H3) (cond (!((Option.isNone p4) == (Option.isNone p7))) (Q (.bool false) H3) (cond (Option.isNone p4) (cS 10 #[iV 160, iV 20] (fun v11 H4 => ∃ p12 n13, v11 = .tuple #[pV p12, iV n13] ∧ cond (!(Option.isNone p12)) (cS 12 #[iV n13] (fun v14 H5 => ∃ n15, v14 = iV n15 ∧ cond (n15 == 0) (cS 13 #[] (fun v16 H6 => ∃ b17, v16 = .bool b17 ∧ Q (.bool b17) H6) H5) (Q (.bool false) H5)) H4) (Q (.bool false) H4)) H3) (cS 14 #[pV p4, iV 14] (fun v18 H7 => ∃ n19 n20, v18 = .tuple #[iV n19, iV n20] ∧ cS 15 #[pV p4, pV p7] (fun v21 H8 => ∃ b22, v21 = .bool b22 ∧ cond b22 (cond (n19 == 17) (cS 12 #[iV n20] (fun v23 H9 => ∃ n24, v23 = iV n24 ∧ cond (n24 == 0) (cS 13 #[] (fun v25 H10 => ∃ b26, v25 = .bool b26 ∧ Q (.bool b26) H10) H9) (Q (.bool false) H9)) H8) (Q (.bool false) H8)) (Q (.bool false) H8)) H7) H3)))) H2) H1) H
theorem k3_ok {n1 : Int} {n2 : Int} (h : k3 n1 n2 Q H) : callS PP 3 #[.int .i64 n1, .int .i64 n2] Q H :=
 okF Tryz.func3 rfl h
abbrev n_k4 : Nat := 4
def k4 (n1 : Int) (n2 : Int) (a3 : Option Addr) (l3 : Nat) (_c3 : Nat) (Q : QT) (H : Heap) : Prop :=
 callS PP 10 #[iV n1, iV n2] (fun v4 H1 => ∃ p5 n6, v4 = .tuple #[pV p5, iV n6] ∧ cond (Option.isNone p5) (cond (Option.isNone p5) (cS 12 #[iV n6] (fun v7 H2 => ∃ n8, v7 = iV n8 ∧ cond (n8 != 0) (cS 3 #[iV 160, iV 20] (fun v9 H3 => ∃ b10, v9 = .bool b10 ∧ Q (.bool b10) H3) H2) (Q (.bool false) H2)) H1) (Q (.bool false) H1)) (cS 12 #[iV n6] (fun v11 H4 => ∃ n12, v11 = iV n12 ∧ cond (n12 != 0) (cond (Option.isNone p5) (cS 12 #[iV n6] (fun v13 H5 => ∃ n14, v13 = iV n14 ∧ cond (n14 != 0) (cS 3 #[iV 160, iV 20] (fun v15 H6 => ∃ b16, v15 = .bool b16 ∧ Q (.bool b16) H6) H5) (Q (.bool false) H5)) H4) (Q (.bool false) H4)) (∃ (I17 : IT) (μ17 : MT), I17 [iV 0] H4 ∧ ∀ w18 H7, shH (H7.push (.cells #[iV 0, iV 0, iV 0, sV (⟨#[]⟩ : ByteArray), sV (⟨#[]⟩ : ByteArray), lV none 0 0] 39)) fun C7 => I17 w18 H7 → ∀ _g : Nat → Value, ∃ n19, w18 = [iV n19] ∧ cond (decide (n19 < (l3 : Int))) (cond (decide (n19 < 1099511627776)) (((0 : Int) ≤ n19 ∧ n19 < (l3 : Int)) ∧ ∃ q20, a3 = some q20 ∧ ∃ n21, cellH H7 (q20.add (Int.toNat n19 * 6)) = some (iV n21) ∧ ∃ n22 : Int, shH (setH (setH C7 (A0 H7.size) (iV n21)) ((A0 H7.size).add 1) (iV n22)) fun C4 => cellH H7 ((q20.add (Int.toNat n19 * 6)).add 1) = some (iV n22) ∧ ∃ n23, cellH H7 ((q20.add (Int.toNat n19 * 6)).add 2) = some (iV n23) ∧ ∃ s24 : ByteArray, shH (setH (setH C4 ((A0 H7.size).add 2) (iV n23)) ((A0 H7.size).add 3) (sV s24)) fun C10 => cellH H7 ((q20.add (Int.toNat n19 * 6)).add 3) = some (sV s24) ∧ ∃ s25, cellH H7 ((q20.add (Int.toNat n19 * 6)).add 4) = some (sV s25) ∧ ∃ a26 l26 c26, cellH H7 ((q20.add (Int.toNat n19 * 6)).add 5) = some (lV a26 l26 c26) ∧ Wr C7 (A0 H7.size) ∧ Wr (setH C7 (A0 H7.size) (iV n21)) ((A0 H7.size).add 1) ∧ Wr C4 ((A0 H7.size).add 2) ∧ Wr (setH C4 ((A0 H7.size).add 2) (iV n23)) ((A0 H7.size).add 3) ∧ Wr C10 ((A0 H7.size).add 4) ∧ Wr (setH C10 ((A0 H7.size).add 4) (sV s25)) ((A0 H7.size).add 5) ∧ cS 16 #[pV p5] (fun v27 H8 => shH (H8.push (.cells #[iV 0, iV 0, iV 0, iV 0, lV none 0 0, lV none 0 0, lV none 0 0] 42)) fun C6 => ∃ n28 : Int, ∃ n29 : Int, shH (setH (setH C6 (A0 H8.size) (iV n28)) ((A0 H8.size).add 1) (iV n29)) fun C12 => ∃ n30 : Int, shH (setH C12 ((A0 H8.size).add 2) (iV n30)) fun C3 => ∃ n31 : Int, ∃ a32 : Option Addr, ∃ l32 : Nat, ∃ c32 : Nat, shH (setH (setH C3 ((A0 H8.size).add 3) (iV n31)) ((A0 H8.size).add 4) (lV a32 l32 c32)) fun C9 => ∃ a33 : Option Addr, ∃ l33 : Nat, ∃ c33 : Nat, ∃ a34 : Option Addr, ∃ l34 : Nat, ∃ c34 : Nat, shH (setH (setH C9 ((A0 H8.size).add 5) (lV a33 l33 c33)) ((A0 H8.size).add 6) (lV a34 l34 c34)) fun C1 => v27 = .agg #[iV n28, iV n29, iV n30, iV n31, lV a32 l32 c32, lV a33 l33 c33, lV a34 l34 c34] ∧ Wr C6 (A0 H8.size) ∧ Wr (setH C6 (A0 H8.size) (iV n28)) ((A0 H8.size).add 1) ∧ Wr C12 ((A0 H8.size).add 2) ∧ Wr C3 ((A0 H8.size).add 3) ∧ Wr (setH C3 ((A0 H8.size).add 3) (iV n31)) ((A0 H8.size).add 4) ∧ Wr C9 ((A0 H8.size).add 5) ∧ Wr (setH C9 ((A0 H8.size).add 5) (lV a33 l33 c33)) ((A0 H8.size).add 6) ∧ ∃ J35 : IT, (∃ n36, cellH C1 (A0 H7.size) = some (iV n36) ∧ cond (n36 == 1) (∃ s37, cellH C1 ((A0 H7.size).add 3) = some (sV s37) ∧ ∃ s38, cellH C1 ((A0 H7.size).add 4) = some (sV s38) ∧ ∃ a39 l39 c39, cellH C1 ((A0 H7.size).add 5) = some (lV a39 l39 c39) ∧ cS 17 #[pV p5, sV s37, sV s38, lV a39 l39 c39] (fun v40 H9 => ∃ n41 n42, v40 = .tuple #[iV n41, iV n42] ∧ J35 [iV n41, iV n42] H9) C1) (cond (n36 == 2) (∃ s43, cellH C1 ((A0 H7.size).add 3) = some (sV s43) ∧ cS 18 #[pV p5, sV s43] (fun v44 H10 => ∃ n45, v44 = iV n45 ∧ J35 [iV 0, iV n45] H10) C1) (cond (n36 == 5) (∃ n46, cellH C1 ((A0 H7.size).add 1) = some (iV n46) ∧ cS 19 #[pV p5] (fun v47 H11 => ∃ p48, v47 = pV p48 ∧ ((cellH H11 ((A0 H7.size).add 1) = some (iV n46) ∧ True) ∧ True) ∧ cS 20 #[pV p48] (fun v49 H12 => ∃ p50, v49 = pV p50 ∧ ((cellH H12 ((A0 H7.size).add 1) = some (iV n46) ∧ True) ∧ True) ∧ cS 21 #[pV p50, iV n46] (fun v51 H13 => ∃ n52, v51 = iV n52 ∧ True ∧ I17 [iV (wW (n19 + 1))] H13 ∧ μ17 [iV (wW (n19 + 1))] H13 < μ17 w18 H7) H12) H11) C1) (I17 [iV (wW (n19 + 1))] C1 ∧ μ17 [iV (wW (n19 + 1))] C1 < μ17 w18 H7)))) ∧ ∀ w53 H14, J35 w53 H14 → ∀ _g : Nat → Value, ∃ n54 n55, w53 = [iV n54, iV n55] ∧ cS 16 #[pV p5] (fun v56 H15 => shH (H15.push (.cells #[iV 0, iV 0, iV 0, iV 0, lV none 0 0, lV none 0 0, lV none 0 0] 42)) fun C5 => ∃ n57 : Int, ∃ n58 : Int, shH (setH (setH C5 (A0 H15.size) (iV n57)) ((A0 H15.size).add 1) (iV n58)) fun C11 => ∃ n59 : Int, shH (setH C11 ((A0 H15.size).add 2) (iV n59)) fun C2 => ∃ n60 : Int, ∃ a61 : Option Addr, ∃ l61 : Nat, ∃ c61 : Nat, shH (setH (setH C2 ((A0 H15.size).add 3) (iV n60)) ((A0 H15.size).add 4) (lV a61 l61 c61)) fun C8 => ∃ a62 : Option Addr, ∃ l62 : Nat, ∃ c62 : Nat, shH (setH C8 ((A0 H15.size).add 5) (lV a62 l62 c62)) fun C13 => ∃ a63 l63 c63, v56 = .agg #[iV n57, iV n58, iV n59, iV n60, lV a61 l61 c61, lV a62 l62 c62, lV a63 l63 c63] ∧ Wr C5 (A0 H15.size) ∧ Wr (setH C5 (A0 H15.size) (iV n57)) ((A0 H15.size).add 1) ∧ Wr C11 ((A0 H15.size).add 2) ∧ Wr C2 ((A0 H15.size).add 3) ∧ Wr (setH C2 ((A0 H15.size).add 3) (iV n60)) ((A0 H15.size).add 4) ∧ Wr C8 ((A0 H15.size).add 5) ∧ Wr C13 ((A0 H15.size).add 6) ∧ cS 12 #[iV n55] (fun v64 H16 => ∃ n65, v64 = iV n65 ∧ cond (n65 != 0) (cond (n54 != 0) (Q (.bool false) H16) (∃ n66, cellH H16 (A0 H8.size) = some (iV n66) ∧ ∃ n67, cellH H16 ((A0 H8.size).add 1) = some (iV n67) ∧ ∃ n68, cellH H16 ((A0 H8.size).add 2) = some (iV n68) ∧ ∃ n69, cellH H16 ((A0 H8.size).add 3) = some (iV n69) ∧ ∃ a70 l70 c70, cellH H16 ((A0 H8.size).add 4) = some (lV a70 l70 c70) ∧ ∃ a71 l71 c71, cellH H16 ((A0 H8.size).add 5) = some (lV a71 l71 c71) ∧ ∃ a72 l72 c72, cellH H16 ((A0 H8.size).add 6) = some (lV a72 l72 c72) ∧ ∃ n73, cellH H16 (A0 H15.size) = some (iV n73) ∧ ∃ n74, cellH H16 ((A0 H15.size).add 1) = some (iV n74) ∧ ∃ n75, cellH H16 ((A0 H15.size).add 2) = some (iV n75) ∧ ∃ n76, cellH H16 ((A0 H15.size).add 3) = some (iV n76) ∧ ∃ a77 l77 c77, cellH H16 ((A0 H15.size).add 4) = some (lV a77 l77 c77) ∧ ∃ a78 l78 c78, cellH H16 ((A0 H15.size).add 5) = some (lV a78 l78 c78) ∧ ∃ a79 l79 c79, cellH H16 ((A0 H15.size).add 6) = some (lV a79 l79 c79) ∧ cS 12 #[iV n55] (fun v80 H17 => ∃ n81, v80 = iV n81 ∧ ((cellH H17 (A0 H15.size) = some (iV n73) ∧ (cellH H17 ((A0 H15.size).add 1) = some (iV n74) ∧ (cellH H17 ((A0 H15.size).add 2) = some (iV n75) ∧ (cellH H17 ((A0 H15.size).add 3) = some (iV n76) ∧ (cellH H17 ((A0 H15.size).add 4) = some (lV a77 l77 c77) ∧ (cellH H17 ((A0 H15.size).add 5) = some (lV a78 l78 c78) ∧ (cellH H17 ((A0 H15.size).add 6) = some (lV a79 l79 c79) ∧ True))))))) ∧ ((cellH H17 (A0 H8.size) = some (iV n66) ∧ (cellH H17 ((A0 H8.size).add 1) = some (iV n67) ∧ (cellH H17 ((A0 H8.size).add 2) = some (iV n68) ∧ (cellH H17 ((A0 H8.size).add 3) = some (iV n69) ∧ (cellH H17 ((A0 H8.size).add 4) = some (lV a70 l70 c70) ∧ (cellH H17 ((A0 H8.size).add 5) = some (lV a71 l71 c71) ∧ (cellH H17 ((A0 H8.size).add 6) = some (lV a72 l72 c72) ∧ True))))))) ∧ True)) ∧ cS 22 #[.agg #[iV n66, iV n67, iV n68, iV n69, lV a70 l70 c70, lV a71 l71 c71, lV a72 l72 c72], .agg #[iV n73, iV n74, iV n75, iV n76, lV a77 l77 c77, lV a78 l78 c78, lV a79 l79 c79], .bool (n81 == 24)] (fun v82 H18 => ∃ b83, v82 = .bool b83 ∧ True ∧ cond (!b83) (Q (.bool false) H18) (cS 12 #[iV n55] (fun v84 H19 => ∃ n85, v84 = iV n85 ∧ True ∧ cond (n85 == 24) (∃ n86, cellH H19 ((A0 H15.size).add 3) = some (iV n86) ∧ cond (n86 != 0) (Q (.bool false) H19) (I17 [iV (wW (n19 + 1))] H19 ∧ μ17 [iV (wW (n19 + 1))] H19 < μ17 w18 H7)) (I17 [iV (wW (n19 + 1))] H19 ∧ μ17 [iV (wW (n19 + 1))] H19 < μ17 w18 H7)) H18)) H17) H16)) (∃ n87, cellH H16 (A0 H7.size) = some (iV n87) ∧ cond (n87 == 1) (∃ n88, cellH H16 (A0 H8.size) = some (iV n88) ∧ ∃ n89, cellH H16 ((A0 H8.size).add 1) = some (iV n89) ∧ ∃ n90, cellH H16 ((A0 H8.size).add 2) = some (iV n90) ∧ ∃ n91, cellH H16 ((A0 H8.size).add 3) = some (iV n91) ∧ ∃ a92 l92 c92, cellH H16 ((A0 H8.size).add 4) = some (lV a92 l92 c92) ∧ ∃ a93 l93 c93, cellH H16 ((A0 H8.size).add 5) = some (lV a93 l93 c93) ∧ ∃ a94 l94 c94, cellH H16 ((A0 H8.size).add 6) = some (lV a94 l94 c94) ∧ ∃ n95, cellH H16 (A0 H15.size) = some (iV n95) ∧ ∃ n96, cellH H16 ((A0 H15.size).add 1) = some (iV n96) ∧ ∃ n97, cellH H16 ((A0 H15.size).add 2) = some (iV n97) ∧ ∃ n98, cellH H16 ((A0 H15.size).add 3) = some (iV n98) ∧ ∃ a99 l99 c99, cellH H16 ((A0 H15.size).add 4) = some (lV a99 l99 c99) ∧ ∃ a100 l100 c100, cellH H16 ((A0 H15.size).add 5) = some (lV a100 l100 c100) ∧ ∃ a101 l101 c101, cellH H16 ((A0 H15.size).add 6) = some (lV a101 l101 c101) ∧ ∃ n102, cellH H16 (A0 H7.size) = some (iV n102) ∧ ∃ n103, cellH H16 ((A0 H7.size).add 1) = some (iV n103) ∧ ∃ n104, cellH H16 ((A0 H7.size).add 2) = some (iV n104) ∧ ∃ s105, cellH H16 ((A0 H7.size).add 3) = some (sV s105) ∧ ∃ s106, cellH H16 ((A0 H7.size).add 4) = some (sV s106) ∧ ∃ a107 l107 c107, cellH H16 ((A0 H7.size).add 5) = some (lV a107 l107 c107) ∧ cS 23 #[pV p5, .agg #[iV n88, iV n89, iV n90, iV n91, lV a92 l92 c92, lV a93 l93 c93, lV a94 l94 c94], .agg #[iV n95, iV n96, iV n97, iV n98, lV a99 l99 c99, lV a100 l100 c100, lV a101 l101 c101], .agg #[iV n102, iV n103, iV n104, sV s105, sV s106, lV a107 l107 c107], iV n54] (fun v108 H20 => ∃ b109, v108 = .bool b109 ∧ True ∧ cond (!b109) (Q (.bool false) H20) (∃ n110, cellH H20 (A0 H7.size) = some (iV n110) ∧ cond (n110 == 2) (∃ a111 l111 c111, cellH H20 ((A0 H15.size).add 5) = some (lV a111 l111 c111) ∧ ∃ a112 l112 c112, cellH H20 ((A0 H8.size).add 5) = some (lV a112 l112 c112) ∧ cond ((l111 : Int) != (wW ((l112 : Int) + 1))) (Q (.bool false) H20) (∃ a113 l113 c113, cellH H20 ((A0 H15.size).add 5) = some (lV a113 l113 c113) ∧ ∃ a114 l114 c114, cellH H20 ((A0 H8.size).add 5) = some (lV a114 l114 c114) ∧ ((0 : Int) ≤ (l114 : Int) ∧ (l114 : Int) < (l113 : Int)) ∧ ∃ q115, a113 = some q115 ∧ ∃ s116, cellH H20 (q115.add (Int.toNat (l114 : Int) * 1)) = some (sV s116) ∧ ∃ s117, cellH H20 ((A0 H7.size).add 3) = some (sV s117) ∧ cond (!(strEq s116 s117)) (Q (.bool false) H20) (∃ n118, cellH H20 ((A0 H15.size).add 2) = some (iV n118) ∧ ∃ n119, cellH H20 ((A0 H8.size).add 2) = some (iV n119) ∧ cond (n118 != n119) (Q (.bool false) H20) (I17 [iV (wW (n19 + 1))] H20 ∧ μ17 [iV (wW (n19 + 1))] H20 < μ17 w18 H7)))) (I17 [iV (wW (n19 + 1))] H20 ∧ μ17 [iV (wW (n19 + 1))] H20 < μ17 w18 H7))) H16) (∃ n120, cellH H16 (A0 H7.size) = some (iV n120) ∧ cond (n120 == 2) (∃ a121 l121 c121, cellH H16 ((A0 H15.size).add 5) = some (lV a121 l121 c121) ∧ ∃ a122 l122 c122, cellH H16 ((A0 H8.size).add 5) = some (lV a122 l122 c122) ∧ cond ((l121 : Int) != (wW ((l122 : Int) + 1))) (Q (.bool false) H16) (∃ a123 l123 c123, cellH H16 ((A0 H15.size).add 5) = some (lV a123 l123 c123) ∧ ∃ a124 l124 c124, cellH H16 ((A0 H8.size).add 5) = some (lV a124 l124 c124) ∧ ((0 : Int) ≤ (l124 : Int) ∧ (l124 : Int) < (l123 : Int)) ∧ ∃ q125, a123 = some q125 ∧ ∃ s126, cellH H16 (q125.add (Int.toNat (l124 : Int) * 1)) = some (sV s126) ∧ ∃ s127, cellH H16 ((A0 H7.size).add 3) = some (sV s127) ∧ cond (!(strEq s126 s127)) (Q (.bool false) H16) (∃ n128, cellH H16 ((A0 H15.size).add 2) = some (iV n128) ∧ ∃ n129, cellH H16 ((A0 H8.size).add 2) = some (iV n129) ∧ cond (n128 != n129) (Q (.bool false) H16) (I17 [iV (wW (n19 + 1))] H16 ∧ μ17 [iV (wW (n19 + 1))] H16 < μ17 w18 H7)))) (I17 [iV (wW (n19 + 1))] H16 ∧ μ17 [iV (wW (n19 + 1))] H16 < μ17 w18 H7)))) (setH C13 ((A0 H15.size).add 6) (lV a63 l63 c63))) H14) (setH (setH C10 ((A0 H7.size).add 4) (sV s25)) ((A0 H7.size).add 5) (lV a26 l26 c26))) (cS 3 #[iV n1, iV n2] (fun v130 H21 => ∃ b131, v130 = .bool b131 ∧ Q (.bool b131) H21) H7)) (cS 3 #[iV n1, iV n2] (fun v132 H22 => ∃ b133, v132 = .bool b133 ∧ Q (.bool b133) H22) H7))) H1)) H
theorem k4_ok {n1 : Int} {n2 : Int} {a3 : Option Addr} {l3 : Nat} {c3 : Nat} (h : k4 n1 n2 a3 l3 c3 Q H) : callS PP 4 #[.int .i64 n1, .int .i64 n2, .slice a3 l3 c3] Q H :=
 callS_of good Tryz.func4 rfl (Ls := fun | 5 => some [(9, 3)] | 1018 => some [(12, 3), (13, 23)] | _ => none) (by kernel_rfl) h
abbrev n_k12 : Nat := 12
def k12 (n1 : Int) (Q : QT) (H : Heap) : Prop :=
 Q (iV n1) H
theorem k12_ok {n1 : Int} (h : k12 n1 Q H) : callS PP 12 #[.int .i64 n1] Q H :=
 okF Tryz.func12 rfl h
abbrev n_k13 : Nat := 13
def k13  (Q : QT) (H : Heap) : Prop :=
 callS PP 66 #[pV none, sV (⟨#[79, 98, 106, 101, 99, 116]⟩ : ByteArray)] (fun v1 H1 => ∃ n2 n3, v1 = .tuple #[iV n2, iV n3] ∧ cS 17 #[pV none, sV (⟨#[65]⟩ : ByteArray), sV (⟨#[79, 98, 106, 101, 99, 116]⟩ : ByteArray), lV none 0 0] (fun v4 H2 => ∃ n5 n6, v4 = .tuple #[iV n5, iV n6] ∧ cS 67 #[pV none, iV 4] (fun v7 H3 => shH (H3.push (.cells #[sV (⟨#[]⟩ : ByteArray), sV (⟨#[]⟩ : ByteArray), lV none 0 0, iV 0] 121)) fun C3 => ∃ s8 : ByteArray, shH (setH C3 (A0 H3.size) (sV s8)) fun C1 => ∃ s9 : ByteArray, ∃ a10 : Option Addr, ∃ l10 : Nat, ∃ c10 : Nat, shH (setH (setH C1 ((A0 H3.size).add 1) (sV s9)) ((A0 H3.size).add 2) (lV a10 l10 c10)) fun C2 => ∃ n11 n12, v7 = .tuple #[.agg #[sV s8, sV s9, lV a10 l10 c10, iV n11], iV n12] ∧ Wr C3 (A0 H3.size) ∧ Wr C1 ((A0 H3.size).add 1) ∧ Wr (setH C1 ((A0 H3.size).add 1) (sV s9)) ((A0 H3.size).add 2) ∧ Wr C2 ((A0 H3.size).add 3) ∧ cS 68 #[pV none, iV 0] (fun v13 H4 => ∃ n14 n15, v13 = .tuple #[iV n14, iV n15] ∧ cS 25 #[pV none, pV none] (fun v16 H5 => ∃ p17 n18, v16 = .tuple #[pV p17, iV n18] ∧ cS 18 #[pV none, sV (⟨#[71]⟩ : ByteArray)] (fun v19 H6 => ∃ n20, v19 = iV n20 ∧ cS 69 #[pV none, iV 0, iV 3] (fun v21 H7 => ∃ n22, v21 = iV n22 ∧ ∃ (I23 : IT) (μ23 : MT), I23 [iV 0] (H7.push (.cells #[iV n3, iV n6, iV n12, iV n15, iV n18, iV n20, iV n22] 23)) ∧ ∀ w24 H8, I23 w24 H8 → ∀ _g : Nat → Value, ∃ n25, w24 = [iV n25] ∧ cond (decide (n25 < (7 : Int))) (((0 : Int) ≤ n25 ∧ n25 < (7 : Int)) ∧ ∃ q26, (some (A0 H7.size)) = some q26 ∧ ∃ n27, cellH H8 (q26.add (Int.toNat n25 * 1)) = some (iV n27) ∧ cS 12 #[iV n27] (fun v28 H9 => ∃ n29, v28 = iV n29 ∧ cond (n29 != 2) (Q (.bool false) H9) (I23 [iV (wW (n25 + 1))] H9 ∧ μ23 [iV (wW (n25 + 1))] H9 < μ23 w24 H8)) H8) (cond (n2 == 0) (cond (n5 == 0) (∃ s30, cellH H8 (A0 H3.size) = some (sV s30) ∧ cond (strEq s30 (⟨#[]⟩ : ByteArray)) (cond (n14 == 0) (cond (Option.isNone p17) (cS 70 #[pV none] (fun v31 H10 => ∃ n32, v31 = iV n32 ∧ cond (n32 == 0) (cS 71 #[pV none] (fun v33 H11 => ∃ a34 l34 c34, v33 = lV a34 l34 c34 ∧ cond ((l34 : Int) == 0) (cS 72 #[pV none, iV 4] (fun v35 H12 => ∃ a36 l36 c36, v35 = lV a36 l36 c36 ∧ cond ((l36 : Int) == 0) (cS 19 #[pV none] (fun v37 H13 => ∃ p38, v37 = pV p38 ∧ cond (Option.isNone p38) (cS 26 #[pV none] (fun v39 H14 => ∃ p40, v39 = pV p40 ∧ Q (.bool (Option.isNone p40)) H14) H13) (Q (.bool false) H13)) H12) (Q (.bool false) H12)) H11) (Q (.bool false) H11)) H10) (Q (.bool false) H10)) H8) (Q (.bool false) H8)) (Q (.bool false) H8)) (Q (.bool false) H8)) (Q (.bool false) H8)) (Q (.bool false) H8))) H6) H5) H4) (setH C2 ((A0 H3.size).add 3) (iV n11))) H2) H1) H
theorem k13_ok  (h : k13  Q H) : callS PP 13 #[] Q H :=
 callS_of good Tryz.func13 rfl (Ls := fun | 9 => some [(13, 3)] | _ => none) (by kernel_rfl) h
abbrev n_k15 : Nat := 15
def k15 (p1 : Option Addr) (p2 : Option Addr) (Q : QT) (H : Heap) : Prop :=
 callS PP 40 #[pV p2] (fun v3 H1 => ∃ a4 l4 c4, v3 = lV a4 l4 c4 ∧ cS 70 #[pV p1] (fun v5 H2 => ∃ n6, v5 = iV n6 ∧ True ∧ cond (n6 != (l4 : Int)) (Q (.bool false) H2) (cS 71 #[pV p1] (fun v7 H3 => ∃ a8 l8 c8, v7 = lV a8 l8 c8 ∧ True ∧ cS 78 #[pV p2] (fun v9 H4 => ∃ a10 l10 c10, v9 = lV a10 l10 c10 ∧ True ∧ cS 77 #[lV a8 l8 c8, lV a10 l10 c10] (fun v11 H5 => ∃ b12, v11 = .bool b12 ∧ True ∧ cond (!b12) (Q (.bool false) H5) (∃ q13, p2 = some q13 ∧ ∃ p14, cellH H5 (q13.add 1) = some (pV p14) ∧ cS 26 #[pV p1] (fun v15 H6 => ∃ p16, v15 = pV p16 ∧ ((cellH H6 (q13.add 1) = some (pV p14) ∧ True) ∧ True) ∧ cS 79 #[pV p16] (fun v17 H7 => ∃ a18 l18 c18, v17 = lV a18 l18 c18 ∧ ((cellH H7 (q13.add 1) = some (pV p14) ∧ True) ∧ True) ∧ cS 80 #[pV p14] (fun v19 H8 => ∃ a20 l20 c20, v19 = lV a20 l20 c20 ∧ True ∧ cS 77 #[lV a18 l18 c18, lV a20 l20 c20] (fun v21 H9 => ∃ b22, v21 = .bool b22 ∧ True ∧ cond (!b22) (Q (.bool false) H9) (∃ q23, p2 = some q23 ∧ ∃ p24, cellH H9 q23 = some (pV p24) ∧ ∃ q25, p24 = some q25 ∧ ∃ p26, cellH H9 q25 = some (pV p26) ∧ cS 19 #[pV p1] (fun v27 H10 => ∃ p28, v27 = pV p28 ∧ ((cellH H10 q25 = some (pV p26) ∧ True) ∧ ((cellH H10 q23 = some (pV p24) ∧ True) ∧ True)) ∧ cS 20 #[pV p28] (fun v29 H11 => ∃ p30, v29 = pV p30 ∧ ((cellH H11 q25 = some (pV p26) ∧ True) ∧ ((cellH H11 q23 = some (pV p24) ∧ True) ∧ True)) ∧ cS 81 #[pV p30] (fun v31 H12 => ∃ n32, v31 = iV n32 ∧ ((cellH H12 q25 = some (pV p26) ∧ True) ∧ ((cellH H12 q23 = some (pV p24) ∧ True) ∧ True)) ∧ cS 82 #[pV p26] (fun v33 H13 => ∃ n34, v33 = iV n34 ∧ True ∧ cond (n32 != n34) (Q (.bool false) H13) (cS 19 #[pV p1] (fun v35 H14 => ∃ p36, v35 = pV p36 ∧ True ∧ cS 83 #[pV p36] (fun v37 H15 => ∃ a38 l38 c38, v37 = lV a38 l38 c38 ∧ True ∧ cond ((l38 : Int) != 0) (Q (.bool false) H15) (∃ (I39 : IT) (μ39 : MT), I39 [iV 0] H15 ∧ ∀ w40 H16, I39 w40 H16 → ∀ _g : Nat → Value, ∃ n41, w40 = [iV n41] ∧ cond (decide (n41 < (l4 : Int))) (((0 : Int) ≤ n41 ∧ n41 < (l4 : Int)) ∧ ∃ q42, a4 = some q42 ∧ ∃ n43, cellH H16 (q42.add (Int.toNat n41 * 1)) = some (iV n43) ∧ cS 84 #[pV p1, pV p2, iV n43] (fun v44 H17 => ∃ b45, v44 = .bool b45 ∧ cond (!b45) (Q (.bool false) H17) (I39 [iV (wW (n41 + 1))] H17 ∧ μ39 [iV (wW (n41 + 1))] H17 < μ39 w40 H16)) H16) (cS 19 #[pV p1] (fun v46 H18 => ∃ p47, v46 = pV p47 ∧ cS 85 #[pV p47] (fun v48 H19 => ∃ n49 n50, v48 = .tuple #[iV n49, iV n50] ∧ ∃ q51, p2 = some q51 ∧ ∃ p52, cellH H19 q51 = some (pV p52) ∧ cS 86 #[pV p52] (fun v53 H20 => ∃ n54 n55, v53 = .tuple #[iV n54, iV n55] ∧ cond (n49 == n54) (Q (.bool (n50 == n55)) H20) (Q (.bool false) H20)) H19) H18) H16))) H14) H13)) H12) H11) H10) H9)) H8) H7) H6) H5)) H4) H3) H2)) H1) H
theorem k15_ok {p1 : Option Addr} {p2 : Option Addr} (h : k15 p1 p2 Q H) : callS PP 15 #[.pointer p1, .pointer p2] Q H :=
 callS_of good Tryz.func15 rfl (Ls := fun | 5 => some [(6, 3)] | _ => none) (by kernel_rfl) h
abbrev n_k16 : Nat := 16
def k16 (p1 : Option Addr) (Q : QT) (H : Heap) : Prop :=
 callS PP 19 #[pV p1] (fun v2 H1 => ∃ p3, v2 = pV p3 ∧ cS 85 #[pV p3] (fun v4 H2 => ∃ n5 n6, v4 = .tuple #[iV n5, iV n6] ∧ cS 70 #[pV p1] (fun v7 H3 => ∃ n8, v7 = iV n8 ∧ cS 19 #[pV p1] (fun v9 H4 => ∃ p10, v9 = pV p10 ∧ cS 20 #[pV p10] (fun v11 H5 => ∃ p12, v11 = pV p12 ∧ cS 81 #[pV p12] (fun v13 H6 => ∃ n14, v13 = iV n14 ∧ cS 26 #[pV p1] (fun v15 H7 => ∃ p16, v15 = pV p16 ∧ cS 79 #[pV p16] (fun v17 H8 => ∃ a18 l18 c18, v17 = lV a18 l18 c18 ∧ cS 71 #[pV p1] (fun v19 H9 => shH (H9.push (.cells #[iV 0, iV 0, iV 0, iV 0, lV none 0 0, lV none 0 0, lV none 0 0] 42)) fun C6 => shH (setH (setH C6 (A0 H9.size) (iV n5)) ((A0 H9.size).add 1) (iV n6)) fun C12 => shH (setH C12 ((A0 H9.size).add 2) (iV n8)) fun C3 => shH (setH (setH C3 ((A0 H9.size).add 3) (iV n14)) ((A0 H9.size).add 4) (lV a18 l18 c18)) fun C7 => ∃ a20 l20 c20, v19 = lV a20 l20 c20 ∧ Wr C6 (A0 H9.size) ∧ Wr (setH C6 (A0 H9.size) (iV n5)) ((A0 H9.size).add 1) ∧ Wr C12 ((A0 H9.size).add 2) ∧ Wr C3 ((A0 H9.size).add 3) ∧ Wr (setH C3 ((A0 H9.size).add 3) (iV n14)) ((A0 H9.size).add 4) ∧ Wr C7 ((A0 H9.size).add 5) ∧ Wr (setH C7 ((A0 H9.size).add 5) (lV a20 l20 c20)) ((A0 H9.size).add 6) ∧ ∃ (I21 : IT) (μ21 : MT), I21 [iV 1] (setH (setH C7 ((A0 H9.size).add 5) (lV a20 l20 c20)) ((A0 H9.size).add 6) (lV none 0 0)) ∧ ∀ w22 H10, I21 w22 H10 → ∀ _g : Nat → Value, ∃ n23, w22 = [iV n23] ∧ ∃ n24, cellH H10 ((A0 H9.size).add 2) = some (iV n24) ∧ cond (decide (n23 ≤ n24)) (cS 14 #[pV p1, iV n23] (fun v25 H11 => ∃ n26 n27, v25 = .tuple #[iV n26, iV n27] ∧ cS 67 #[pV p1, iV n26] (fun v28 H12 => shH (H12.push (.cells #[sV (⟨#[]⟩ : ByteArray), sV (⟨#[]⟩ : ByteArray), lV none 0 0, iV 0] 121)) fun C11 => ∃ s29 : ByteArray, shH (setH C11 (A0 H12.size) (sV s29)) fun C5 => ∃ s30 : ByteArray, ∃ a31 : Option Addr, ∃ l31 : Nat, ∃ c31 : Nat, shH (setH (setH C5 ((A0 H12.size).add 1) (sV s30)) ((A0 H12.size).add 2) (lV a31 l31 c31)) fun C10 => ∃ n32 : Int, shH (setH C10 ((A0 H12.size).add 3) (iV n32)) fun C2 => ∃ n33, v28 = .tuple #[.agg #[sV s29, sV s30, lV a31 l31 c31, iV n32], iV n33] ∧ Wr C11 (A0 H12.size) ∧ Wr C5 ((A0 H12.size).add 1) ∧ Wr (setH C5 ((A0 H12.size).add 1) (sV s30)) ((A0 H12.size).add 2) ∧ Wr C10 ((A0 H12.size).add 3) ∧ ∃ a34 l34 c34, cellH C2 ((A0 H9.size).add 6) = some (lV a34 l34 c34) ∧ ∃ s35, cellH C2 (A0 H12.size) = some (sV s35) ∧ ∃ s36, cellH C2 ((A0 H12.size).add 1) = some (sV s36) ∧ ∃ a37 l37 c37, cellH C2 ((A0 H12.size).add 2) = some (lV a37 l37 c37) ∧ ∃ n38, cellH C2 ((A0 H12.size).add 3) = some (iV n38) ∧ evS PP (Builtin.append_ #[40, 40] 40 #[lV a34 l34 c34, lV (some (A0 C2.size)) 1 1]) (fun v39 H13 => ∃ a40 : Option Addr, ∃ l40 : Nat, ∃ c40 : Nat, shH (setH H13 ((A0 H9.size).add 6) (lV a40 l40 c40)) fun C13 => v39 = lV a40 l40 c40 ∧ Wr H13 ((A0 H9.size).add 6) ∧ I21 [iV (wW (n23 + 1))] C13 ∧ μ21 [iV (wW (n23 + 1))] C13 < μ21 w22 H10) (C2.push (.cells #[sV s35, sV s36, lV a37 l37 c37, iV n38] 121))) H11) H10) (∃ n41, cellH H10 (A0 H9.size) = some (iV n41) ∧ ∃ n42 : Int, shH (setH (setH H10 (A0 H.size) (iV n41)) ((A0 H.size).add 1) (iV n42)) fun C8 => cellH H10 ((A0 H9.size).add 1) = some (iV n42) ∧ ∃ n43, cellH H10 ((A0 H9.size).add 2) = some (iV n43) ∧ ∃ n44 : Int, shH (setH (setH C8 ((A0 H.size).add 2) (iV n43)) ((A0 H.size).add 3) (iV n44)) fun C4 => cellH H10 ((A0 H9.size).add 3) = some (iV n44) ∧ ∃ a45 l45 c45, cellH H10 ((A0 H9.size).add 4) = some (lV a45 l45 c45) ∧ ∃ a46 : Option Addr, ∃ l46 : Nat, ∃ c46 : Nat, shH (setH (setH C4 ((A0 H.size).add 4) (lV a45 l45 c45)) ((A0 H.size).add 5) (lV a46 l46 c46)) fun C9 => cellH H10 ((A0 H9.size).add 5) = some (lV a46 l46 c46) ∧ ∃ a47 : Option Addr, ∃ l47 : Nat, ∃ c47 : Nat, shH (setH C9 ((A0 H.size).add 6) (lV a47 l47 c47)) fun C1 => cellH H10 ((A0 H9.size).add 6) = some (lV a47 l47 c47) ∧ Wr H10 (A0 H.size) ∧ Wr (setH H10 (A0 H.size) (iV n41)) ((A0 H.size).add 1) ∧ Wr C8 ((A0 H.size).add 2) ∧ Wr (setH C8 ((A0 H.size).add 2) (iV n43)) ((A0 H.size).add 3) ∧ Wr C4 ((A0 H.size).add 4) ∧ Wr (setH C4 ((A0 H.size).add 4) (lV a45 l45 c45)) ((A0 H.size).add 5) ∧ Wr C9 ((A0 H.size).add 6) ∧ ∃ n48, cellH C1 (A0 H.size) = some (iV n48) ∧ ∃ n49, cellH C1 ((A0 H.size).add 1) = some (iV n49) ∧ ∃ n50, cellH C1 ((A0 H.size).add 2) = some (iV n50) ∧ ∃ n51, cellH C1 ((A0 H.size).add 3) = some (iV n51) ∧ ∃ a52 l52 c52, cellH C1 ((A0 H.size).add 4) = some (lV a52 l52 c52) ∧ ∃ a53 l53 c53, cellH C1 ((A0 H.size).add 5) = some (lV a53 l53 c53) ∧ ∃ a54 l54 c54, cellH C1 ((A0 H.size).add 6) = some (lV a54 l54 c54) ∧ Q (.agg #[iV n48, iV n49, iV n50, iV n51, lV a52 l52 c52, lV a53 l53 c53, lV a54 l54 c54]) C1)) H8) H7) H6) H5) H4) H3) H2) H1) (H.push (.cells #[iV 0, iV 0, iV 0, iV 0, lV none 0 0, lV none 0 0, lV none 0 0] 42))
theorem k16_ok {p1 : Option Addr} (h : k16 p1 Q H) : callS PP 16 #[.pointer p1] Q H :=
 callS_of good Tryz.func16 rfl (Ls := fun | 4 => some [(6, 3)] | _ => none) (by kernel_rfl) h
abbrev n_k22 : Nat := 22
def k22 (n1 : Int) (n2 : Int) (n3 : Int) (n4 : Int) (a5 : Option Addr) (l5 : Nat) (c5 : Nat) (a6 : Option Addr) (l6 : Nat) (c6 : Nat) (a7 : Option Addr) (l7 : Nat) (c7 : Nat) (n8 : Int) (n9 : Int) (n10 : Int) (n11 : Int) (a12 : Option Addr) (l12 : Nat) (c12 : Nat) (a13 : Option Addr) (l13 : Nat) (c13 : Nat) (a14 : Option Addr) (l14 : Nat) (c14 : Nat) (b15 : Bool) (Q : QT) (H : Heap) : Prop :=
 shH (H.push (.cells #[iV n1, iV n2, iV n3, iV n4, lV a5 l5 c5, lV a6 l6 c6, lV a7 l7 c7] 42)) fun C2 => shH (C2.push (.cells #[iV n8, iV n9, iV n10, iV n11, lV a12 l12 c12, lV a13 l13 c13, lV a14 l14 c14] 42)) fun C1 => ∃ n16, cellH C1 (A0 H.size) = some (iV n16) ∧ ∃ n17, cellH C1 (A0 C2.size) = some (iV n17) ∧ cond (n16 != n17) (Q (.bool false) C1) (∃ n18, cellH C1 ((A0 H.size).add 1) = some (iV n18) ∧ ∃ n19, cellH C1 ((A0 C2.size).add 1) = some (iV n19) ∧ cond (n18 != n19) (Q (.bool false) C1) (∃ n20, cellH C1 ((A0 H.size).add 2) = some (iV n20) ∧ ∃ n21, cellH C1 ((A0 C2.size).add 2) = some (iV n21) ∧ cond (n20 != n21) (Q (.bool false) C1) (∃ a22 l22 c22, cellH C1 ((A0 H.size).add 4) = some (lV a22 l22 c22) ∧ ∃ a23 l23 c23, cellH C1 ((A0 C2.size).add 4) = some (lV a23 l23 c23) ∧ cS 77 #[lV a22 l22 c22, lV a23 l23 c23] (fun v24 H1 => ∃ b25, v24 = .bool b25 ∧ cond (!b25) (Q (.bool false) H1) (∃ a26 l26 c26, cellH H1 ((A0 H.size).add 5) = some (lV a26 l26 c26) ∧ ∃ a27 l27 c27, cellH H1 ((A0 C2.size).add 5) = some (lV a27 l27 c27) ∧ cS 77 #[lV a26 l26 c26, lV a27 l27 c27] (fun v28 H2 => ∃ b29, v28 = .bool b29 ∧ cond (!b29) (Q (.bool false) H2) (∃ a30 l30 c30, cellH H2 ((A0 H.size).add 6) = some (lV a30 l30 c30) ∧ ∃ a31 l31 c31, cellH H2 ((A0 C2.size).add 6) = some (lV a31 l31 c31) ∧ cond ((l30 : Int) != (l31 : Int)) (Q (.bool false) H2) (∃ (I32 : IT) (μ32 : MT), I32 [iV 0] H2 ∧ ∀ w33 H3, I32 w33 H3 → ∀ _g : Nat → Value, ∃ n34, w33 = [iV n34] ∧ ∃ a35 l35 c35, cellH H3 ((A0 H.size).add 6) = some (lV a35 l35 c35) ∧ cond (decide (n34 < (l35 : Int))) (∃ a36 l36 c36, cellH H3 ((A0 H.size).add 6) = some (lV a36 l36 c36) ∧ ((0 : Int) ≤ n34 ∧ n34 < (l36 : Int)) ∧ ∃ q37, a36 = some q37 ∧ ∃ s38, cellH H3 (q37.add (Int.toNat n34 * 4)) = some (sV s38) ∧ ∃ s39, cellH H3 ((q37.add (Int.toNat n34 * 4)).add 1) = some (sV s39) ∧ ∃ a40 l40 c40, cellH H3 ((q37.add (Int.toNat n34 * 4)).add 2) = some (lV a40 l40 c40) ∧ ∃ n41, cellH H3 ((q37.add (Int.toNat n34 * 4)).add 3) = some (iV n41) ∧ ∃ a42 l42 c42, cellH H3 ((A0 C2.size).add 6) = some (lV a42 l42 c42) ∧ ((0 : Int) ≤ n34 ∧ n34 < (l42 : Int)) ∧ ∃ q43, a42 = some q43 ∧ ∃ s44, cellH H3 (q43.add (Int.toNat n34 * 4)) = some (sV s44) ∧ ∃ s45, cellH H3 ((q43.add (Int.toNat n34 * 4)).add 1) = some (sV s45) ∧ ∃ a46 l46 c46, cellH H3 ((q43.add (Int.toNat n34 * 4)).add 2) = some (lV a46 l46 c46) ∧ ∃ n47, cellH H3 ((q43.add (Int.toNat n34 * 4)).add 3) = some (iV n47) ∧ cS 100 #[.agg #[sV s38, sV s39, lV a40 l40 c40, iV n41], .agg #[sV s44, sV s45, lV a46 l46 c46, iV n47]] (fun v48 H4 => ∃ b49, v48 = .bool b49 ∧ True ∧ cond (!b49) (Q (.bool false) H4) (I32 [iV (wW (n34 + 1))] H4 ∧ μ32 [iV (wW (n34 + 1))] H4 < μ32 w33 H3)) H3) (cond b15 (Q (.bool true) H3) (∃ n50, cellH H3 ((A0 H.size).add 3) = some (iV n50) ∧ ∃ n51, cellH H3 ((A0 C2.size).add 3) = some (iV n51) ∧ Q (.bool (n50 == n51)) H3))))) H1)) C1)))
theorem k22_ok {n1 : Int} {n2 : Int} {n3 : Int} {n4 : Int} {a5 : Option Addr} {l5 : Nat} {c5 : Nat} {a6 : Option Addr} {l6 : Nat} {c6 : Nat} {a7 : Option Addr} {l7 : Nat} {c7 : Nat} {n8 : Int} {n9 : Int} {n10 : Int} {n11 : Int} {a12 : Option Addr} {l12 : Nat} {c12 : Nat} {a13 : Option Addr} {l13 : Nat} {c13 : Nat} {a14 : Option Addr} {l14 : Nat} {c14 : Nat} {b15 : Bool} (h : k22 n1 n2 n3 n4 a5 l5 c5 a6 l6 c6 a7 l7 c7 n8 n9 n10 n11 a12 l12 c12 a13 l13 c13 a14 l14 c14 b15 Q H) : callS PP 22 #[.agg #[.int .i64 n1, .int .i64 n2, .int .i64 n3, .int .i64 n4, .slice a5 l5 c5, .slice a6 l6 c6, .slice a7 l7 c7], .agg #[.int .i64 n8, .int .i64 n9, .int .i64 n10, .int .i64 n11, .slice a12 l12 c12, .slice a13 l13 c13, .slice a14 l14 c14], .bool b15] Q H :=
 callS_of good Tryz.func22 rfl (Ls := fun | 4 => some [(7, 3)] | _ => none) (by kernel_rfl) h
abbrev n_k23 : Nat := 23
def k23 (p1 : Option Addr) (n2 : Int) (n3 : Int) (n4 : Int) (n5 : Int) (a6 : Option Addr) (l6 : Nat) (c6 : Nat) (a7 : Option Addr) (l7 : Nat) (c7 : Nat) (a8 : Option Addr) (l8 : Nat) (c8 : Nat) (n9 : Int) (n10 : Int) (n11 : Int) (n12 : Int) (a13 : Option Addr) (l13 : Nat) (c13 : Nat) (a14 : Option Addr) (l14 : Nat) (c14 : Nat) (a15 : Option Addr) (l15 : Nat) (c15 : Nat) (n16 : Int) (n17 : Int) (n18 : Int) (s19 : ByteArray) (s20 : ByteArray) (a21 : Option Addr) (l21 : Nat) (c21 : Nat) (n22 : Int) (Q : QT) (H : Heap) : Prop :=
 shH (H.push (.cells #[iV n2, iV n3, iV n4, iV n5, lV a6 l6 c6, lV a7 l7 c7, lV a8 l8 c8] 42)) fun C2 => shH (C2.push (.cells #[iV n9, iV n10, iV n11, iV n12, lV a13 l13 c13, lV a14 l14 c14, lV a15 l15 c15] 42)) fun C1 => shH (C1.push (.cells #[iV n16, iV n17, iV n18, sV s19, sV s20, lV a21 l21 c21] 39)) fun C3 => ∃ s23, cellH C3 ((A0 C1.size).add 4) = some (sV s23) ∧ cS 66 #[pV p1, sV s23] (fun v24 H1 => ∃ n25 n26, v24 = .tuple #[iV n25, iV n26] ∧ cS 101 #[pV p1, iV n22] (fun v27 H2 => ∃ a28 l28, ∃ c28 n29, v27 = .tuple #[lV a28 l28 c28, iV n29] ∧ cS 101 #[pV p1, iV n25] (fun v30 H3 => ∃ a31 l31, ∃ c31 n32, v30 = .tuple #[lV a31 l31 c31, iV n32] ∧ ∃ n33, cellH H3 ((A0 C2.size).add 2) = some (iV n33) ∧ cS 14 #[pV p1, iV n33] (fun v34 H4 => ∃ n35 n36, v34 = .tuple #[iV n35, iV n36] ∧ cS 12 #[iV n26] (fun v37 H5 => ∃ n38, v37 = iV n38 ∧ cond (n38 != 0) (Q (.bool false) H5) (cS 12 #[iV n29] (fun v39 H6 => ∃ n40, v39 = iV n40 ∧ cond (n40 != 0) (Q (.bool false) H6) (cS 12 #[iV n32] (fun v41 H7 => ∃ n42, v41 = iV n42 ∧ cond (n42 != 0) (Q (.bool false) H7) (cS 12 #[iV n36] (fun v43 H8 => ∃ n44, v43 = iV n44 ∧ cond (n44 != 0) (Q (.bool false) H8) (∃ n45, cellH H8 ((A0 C2.size).add 2) = some (iV n45) ∧ ∃ n46, cellH H8 ((A0 H.size).add 2) = some (iV n46) ∧ cond (n45 != (wW (n46 + 1))) (Q (.bool false) H8) (cond (n35 != n22) (Q (.bool false) H8) (∃ a47 l47 c47, cellH H8 ((A0 C1.size).add 5) = some (lV a47 l47 c47) ∧ cond ((l28 : Int) != (wW ((l31 : Int) + (l47 : Int)))) (Q (.bool false) H8) (((0 : Int) ≤ (l31 : Int) ∧ (l31 : Int) ≤ (c28 : Int)) ∧ cS 77 #[lV a28 (Int.toNat (l31 : Int)) c28, lV a31 l31 c31] (fun v48 H9 => ∃ b49, v48 = .bool b49 ∧ True ∧ cond b49 (((0 : Int) ≤ (l31 : Int) ∧ (l31 : Int) ≤ (l28 : Int)) ∧ ∃ a50 l50 c50, cellH H9 ((A0 C1.size).add 5) = some (lV a50 l50 c50) ∧ cS 77 #[lV (offA a28 c28 (l31 : Int) 1) (l28 - Int.toNat (l31 : Int)) (c28 - Int.toNat (l31 : Int)), lV a50 l50 c50] (fun v51 H10 => ∃ b52, v51 = .bool b52 ∧ True ∧ Q (.bool b52) H10) H9) (Q (.bool false) H9)) H8))))) H7)) H6)) H5)) H4) H3) H2) H1) C3
theorem k23_ok {p1 : Option Addr} {n2 : Int} {n3 : Int} {n4 : Int} {n5 : Int} {a6 : Option Addr} {l6 : Nat} {c6 : Nat} {a7 : Option Addr} {l7 : Nat} {c7 : Nat} {a8 : Option Addr} {l8 : Nat} {c8 : Nat} {n9 : Int} {n10 : Int} {n11 : Int} {n12 : Int} {a13 : Option Addr} {l13 : Nat} {c13 : Nat} {a14 : Option Addr} {l14 : Nat} {c14 : Nat} {a15 : Option Addr} {l15 : Nat} {c15 : Nat} {n16 : Int} {n17 : Int} {n18 : Int} {s19 : ByteArray} {s20 : ByteArray} {a21 : Option Addr} {l21 : Nat} {c21 : Nat} {n22 : Int} (h : k23 p1 n2 n3 n4 n5 a6 l6 c6 a7 l7 c7 a8 l8 c8 n9 n10 n11 n12 a13 l13 c13 a14 l14 c14 a15 l15 c15 n16 n17 n18 s19 s20 a21 l21 c21 n22 Q H) : callS PP 23 #[.pointer p1, .agg #[.int .i64 n2, .int .i64 n3, .int .i64 n4, .int .i64 n5, .slice a6 l6 c6, .slice a7 l7 c7, .slice a8 l8 c8], .agg #[.int .i64 n9, .int .i64 n10, .int .i64 n11, .int .i64 n12, .slice a13 l13 c13, .slice a14 l14 c14, .slice a15 l15 c15], .agg #[.int .i64 n16, .int .i64 n17, .int .i64 n18, .string s19, .string s20, .slice a21 l21 c21], .int .i64 n22] Q H :=
 okF Tryz.func23 rfl h
abbrev n_k77 : Nat := 77
def k77 (a1 : Option Addr) (l1 : Nat) (_c1 : Nat) (a2 : Option Addr) (l2 : Nat) (_c2 : Nat) (Q : QT) (H : Heap) : Prop :=
 cond ((l1 : Int) != (l2 : Int)) (Q (.bool false) H) (∃ (I3 : IT) (μ3 : MT), I3 [iV 0] H ∧ ∀ w4 H1, I3 w4 H1 → ∀ _g : Nat → Value, ∃ n5, w4 = [iV n5] ∧ cond (decide (n5 < (l1 : Int))) (((0 : Int) ≤ n5 ∧ n5 < (l1 : Int)) ∧ ∃ q6, a1 = some q6 ∧ ∃ s7, cellH H1 (q6.add (Int.toNat n5 * 1)) = some (sV s7) ∧ ((0 : Int) ≤ n5 ∧ n5 < (l2 : Int)) ∧ ∃ q8, a2 = some q8 ∧ ∃ s9, cellH H1 (q8.add (Int.toNat n5 * 1)) = some (sV s9) ∧ cond (!(strEq s7 s9)) (Q (.bool false) H1) (I3 [iV (wW (n5 + 1))] H1 ∧ μ3 [iV (wW (n5 + 1))] H1 < μ3 w4 H1)) (Q (.bool true) H1))
theorem k77_ok {a1 : Option Addr} {l1 : Nat} {c1 : Nat} {a2 : Option Addr} {l2 : Nat} {c2 : Nat} (h : k77 a1 l1 c1 a2 l2 c2 Q H) : callS PP 77 #[.slice a1 l1 c1, .slice a2 l2 c2] Q H :=
 callS_of good Tryz.func77 rfl (Ls := fun | 4 => some [(5, 3)] | _ => none) (by kernel_rfl) h
abbrev n_k84 : Nat := 84
def k84 (p1 : Option Addr) (p2 : Option Addr) (n3 : Int) (Q : QT) (H : Heap) : Prop :=
 callS PP 67 #[pV p1, iV n3] (fun v4 H1 => shH (H1.push (.cells #[sV (⟨#[]⟩ : ByteArray), sV (⟨#[]⟩ : ByteArray), lV none 0 0, iV 0] 121)) fun C5 => ∃ s5 : ByteArray, shH (setH C5 (A0 H1.size) (sV s5)) fun C2 => ∃ s6 : ByteArray, ∃ a7 : Option Addr, ∃ l7 : Nat, ∃ c7 : Nat, shH (setH (setH C2 ((A0 H1.size).add 1) (sV s6)) ((A0 H1.size).add 2) (lV a7 l7 c7)) fun C4 => ∃ n8 n9, v4 = .tuple #[.agg #[sV s5, sV s6, lV a7 l7 c7, iV n8], iV n9] ∧ Wr C5 (A0 H1.size) ∧ Wr C2 ((A0 H1.size).add 1) ∧ Wr (setH C2 ((A0 H1.size).add 1) (sV s6)) ((A0 H1.size).add 2) ∧ Wr C4 ((A0 H1.size).add 3) ∧ cS 124 #[pV p2, iV n3] (fun v10 H2 => shH (H2.push (.cells #[sV (⟨#[]⟩ : ByteArray), sV (⟨#[]⟩ : ByteArray), lV none 0 0, iV 0] 121)) fun C6 => ∃ s11 : ByteArray, shH (setH C6 (A0 H2.size) (sV s11)) fun C1 => ∃ s12 : ByteArray, ∃ a13 : Option Addr, ∃ l13 : Nat, ∃ c13 : Nat, shH (setH (setH C1 ((A0 H2.size).add 1) (sV s12)) ((A0 H2.size).add 2) (lV a13 l13 c13)) fun C3 => ∃ n14 n15, v10 = .tuple #[.agg #[sV s11, sV s12, lV a13 l13 c13, iV n14], iV n15] ∧ Wr C6 (A0 H2.size) ∧ Wr C1 ((A0 H2.size).add 1) ∧ Wr (setH C1 ((A0 H2.size).add 1) (sV s12)) ((A0 H2.size).add 2) ∧ Wr C3 ((A0 H2.size).add 3) ∧ cS 12 #[iV n9] (fun v16 H3 => ∃ n17, v16 = iV n17 ∧ cond (n17 != n15) (Q (.bool false) H3) (∃ s18, cellH H3 (A0 H1.size) = some (sV s18) ∧ ∃ s19, cellH H3 ((A0 H1.size).add 1) = some (sV s19) ∧ ∃ a20 l20 c20, cellH H3 ((A0 H1.size).add 2) = some (lV a20 l20 c20) ∧ ∃ n21, cellH H3 ((A0 H1.size).add 3) = some (iV n21) ∧ ∃ s22, cellH H3 (A0 H2.size) = some (sV s22) ∧ ∃ s23, cellH H3 ((A0 H2.size).add 1) = some (sV s23) ∧ ∃ a24 l24 c24, cellH H3 ((A0 H2.size).add 2) = some (lV a24 l24 c24) ∧ ∃ n25, cellH H3 ((A0 H2.size).add 3) = some (iV n25) ∧ cS 100 #[.agg #[sV s18, sV s19, lV a20 l20 c20, iV n21], .agg #[sV s22, sV s23, lV a24 l24 c24, iV n25]] (fun v26 H4 => ∃ b27, v26 = .bool b27 ∧ cond (!b27) (Q (.bool false) H4) (cS 188 #[pV p1, iV n3] (fun v28 H5 => ∃ n29 n30, v28 = .tuple #[iV n29, iV n30] ∧ cS 189 #[pV p2, iV n3] (fun v31 H6 => ∃ n32 n33, v31 = .tuple #[iV n32, iV n33] ∧ cond (n29 != n32) (Q (.bool false) H6) (cS 12 #[iV n30] (fun v34 H7 => ∃ n35, v34 = iV n35 ∧ cond (n35 != n33) (Q (.bool false) H7) (cS 190 #[pV p1, iV n3] (fun v36 H8 => ∃ n37 n38, v36 = .tuple #[iV n37, iV n38] ∧ cS 191 #[pV p2, iV n3] (fun v39 H9 => ∃ n40 n41, v39 = .tuple #[iV n40, iV n41] ∧ cond (n37 != n40) (Q (.bool false) H9) (cS 12 #[iV n38] (fun v42 H10 => ∃ n43, v42 = iV n43 ∧ cond (n43 != n41) (Q (.bool false) H10) (cS 192 #[pV p1, iV n3] (fun v44 H11 => ∃ n45 n46, v44 = .tuple #[iV n45, iV n46] ∧ cS 193 #[pV p2, iV n3] (fun v47 H12 => ∃ n48 n49, v47 = .tuple #[iV n48, iV n49] ∧ cond (n45 != n48) (Q (.bool false) H12) (cS 12 #[iV n46] (fun v50 H13 => ∃ n51, v50 = iV n51 ∧ cond (n51 != n49) (Q (.bool false) H13) (cS 101 #[pV p1, iV n3] (fun v52 H14 => ∃ a53 l53, ∃ c53 n54, v52 = .tuple #[lV a53 l53 c53, iV n54] ∧ cS 125 #[pV p2, iV n3] (fun v55 H15 => ∃ a56 l56, ∃ c56 n57, v55 = .tuple #[lV a56 l56 c56, iV n57] ∧ cS 12 #[iV n54] (fun v58 H16 => ∃ n59, v58 = iV n59 ∧ cond (n59 == n57) (cS 77 #[lV a53 l53 c53, lV a56 l56 c56] (fun v60 H17 => ∃ b61, v60 = .bool b61 ∧ cond b61 (cS 72 #[pV p1, iV n3] (fun v62 H18 => ∃ a63 l63 c63, v62 = lV a63 l63 c63 ∧ cS 126 #[pV p2, iV n3] (fun v64 H19 => ∃ a65 l65 c65, v64 = lV a65 l65 c65 ∧ cS 127 #[lV a63 l63 c63, lV a65 l65 c65] (fun v66 H20 => ∃ b67, v66 = .bool b67 ∧ Q (.bool b67) H20) H19) H18) H17) (Q (.bool false) H17)) H16) (Q (.bool false) H16)) H15) H14) H13)) H12)) H11) H10)) H9)) H8) H7)) H6)) H5) H4)) H3)) (setH C3 ((A0 H2.size).add 3) (iV n14))) (setH C4 ((A0 H1.size).add 3) (iV n8))) H
theorem k84_ok {p1 : Option Addr} {p2 : Option Addr} {n3 : Int} (h : k84 p1 p2 n3 Q H) : callS PP 84 #[.pointer p1, .pointer p2, .int .i64 n3] Q H :=
 okF Tryz.func84 rfl h
abbrev n_k100 : Nat := 100
def k100 (s1 : ByteArray) (s2 : ByteArray) (a3 : Option Addr) (l3 : Nat) (c3 : Nat) (n4 : Int) (s5 : ByteArray) (s6 : ByteArray) (a7 : Option Addr) (l7 : Nat) (c7 : Nat) (n8 : Int) (Q : QT) (H : Heap) : Prop :=
 shH (H.push (.cells #[sV s1, sV s2, lV a3 l3 c3, iV n4] 121)) fun C2 => shH (C2.push (.cells #[sV s5, sV s6, lV a7 l7 c7, iV n8] 121)) fun C1 => ∃ s9, cellH C1 (A0 H.size) = some (sV s9) ∧ ∃ s10, cellH C1 (A0 C2.size) = some (sV s10) ∧ cond (strEq s9 s10) (∃ s11, cellH C1 ((A0 H.size).add 1) = some (sV s11) ∧ ∃ s12, cellH C1 ((A0 C2.size).add 1) = some (sV s12) ∧ cond (strEq s11 s12) (∃ n13, cellH C1 ((A0 H.size).add 3) = some (iV n13) ∧ ∃ n14, cellH C1 ((A0 C2.size).add 3) = some (iV n14) ∧ cond (n13 == n14) (∃ a15 l15 c15, cellH C1 ((A0 H.size).add 2) = some (lV a15 l15 c15) ∧ ∃ a16 l16 c16, cellH C1 ((A0 C2.size).add 2) = some (lV a16 l16 c16) ∧ cS 77 #[lV a15 l15 c15, lV a16 l16 c16] (fun v17 H1 => ∃ b18, v17 = .bool b18 ∧ Q (.bool b18) H1) C1) (Q (.bool false) C1)) (Q (.bool false) C1)) (Q (.bool false) C1)
theorem k100_ok {s1 : ByteArray} {s2 : ByteArray} {a3 : Option Addr} {l3 : Nat} {c3 : Nat} {n4 : Int} {s5 : ByteArray} {s6 : ByteArray} {a7 : Option Addr} {l7 : Nat} {c7 : Nat} {n8 : Int} (h : k100 s1 s2 a3 l3 c3 n4 s5 s6 a7 l7 c7 n8 Q H) : callS PP 100 #[.agg #[.string s1, .string s2, .slice a3 l3 c3, .int .i64 n4], .agg #[.string s5, .string s6, .slice a7 l7 c7, .int .i64 n8]] Q H :=
 okF Tryz.func100 rfl h
abbrev n_k127 : Nat := 127
def k127 (a1 : Option Addr) (l1 : Nat) (_c1 : Nat) (a2 : Option Addr) (l2 : Nat) (_c2 : Nat) (Q : QT) (H : Heap) : Prop :=
 cond ((l1 : Int) != (l2 : Int)) (Q (.bool false) H) (∃ (I3 : IT) (μ3 : MT), I3 [iV 0] H ∧ ∀ w4 H1, I3 w4 H1 → ∀ _g : Nat → Value, ∃ n5, w4 = [iV n5] ∧ cond (decide (n5 < (l1 : Int))) (((0 : Int) ≤ n5 ∧ n5 < (l1 : Int)) ∧ ∃ q6, a1 = some q6 ∧ ∃ n7, cellH H1 (q6.add (Int.toNat n5 * 1)) = some (iV n7) ∧ ((0 : Int) ≤ n5 ∧ n5 < (l2 : Int)) ∧ ∃ q8, a2 = some q8 ∧ ∃ n9, cellH H1 (q8.add (Int.toNat n5 * 1)) = some (iV n9) ∧ cond (n7 != n9) (Q (.bool false) H1) (I3 [iV (wW (n5 + 1))] H1 ∧ μ3 [iV (wW (n5 + 1))] H1 < μ3 w4 H1)) (Q (.bool true) H1))
theorem k127_ok {a1 : Option Addr} {l1 : Nat} {c1 : Nat} {a2 : Option Addr} {l2 : Nat} {c2 : Nat} (h : k127 a1 l1 c1 a2 l2 c2 Q H) : callS PP 127 #[.slice a1 l1 c1, .slice a2 l2 c2] Q H :=
 callS_of good Tryz.func127 rfl (Ls := fun | 4 => some [(5, 3)] | _ => none) (by kernel_rfl) h
end Go.Proofs.YtmkdkplipbocjaaGreatDoor
namespace Go.Proofs.YtmkdkplipbocjaaGreatDoor
open Kw
section
variable {H : Heap} {Q : QT}
theorem num1_c {n : Int} (h : Q (.int .i64 n) H) : callS PP n_k12 #[.int .i64 n] Q H := by
 apply k12_ok
 unfold k12 iV
 exact h
theorem same_c {a1 a2 : Option Addr} {l1 l2 c1 c2 : Nat} {xs ys : List ByteArray} (h1 : Rd 1 H a1 l1 (strsV xs)) (h2 : Rd 1 H a2 l2 (strsV ys)) (hb : l1 ≤ 1000000000000000) (h : Q (.bool (decide (xs = ys))) H) : callS PP n_k77 #[.slice a1 l1 c1, .slice a2 l2 c2] Q H := by
 have e1 : l1 = xs.length := by have := h1.1; simpa [strsV] using this.symm
 have e2 : l2 = ys.length := by have := h2.1; simpa [strsV] using this.symm
 apply k77_ok
 unfold k77 iV wW sV
 have no : xs ≠ ys → Q (.bool false) H := fun hn => by rw [decide_eq_false hn] at h; exact h
 rw [bneI, cond_dec]
 refine ite_i (fun hne => no fun e => hne (by rw [e1, e2, e])) fun hne => ?_
 have hlen : l1 = l2 := by omega
 refine ⟨fun w H' => H' = H ∧ ∃ i : Nat, w = [.int .i64 i] ∧ i ≤ l1 ∧ xs.take i = ys.take i, fun w _ => match w with
   | [.int _ i] => (l1 - i).toNat
   | _ => 0, ⟨rfl, 0, rfl, Nat.zero_le _, rfl⟩, ?_⟩
 rintro w H1 ⟨rfl, i, rfl, hi, hall⟩ _
 refine ⟨_, rfl, ?_⟩
 rw [cond_dec]
 refine ite_i (fun hlt => ?_) fun hlt => ?_
 · obtain ⟨p, hp2, rfl, hc1⟩ := h1.str (i := (i : Int)) (by omega) (by omega)
   obtain ⟨q, hq2, rfl, hc2⟩ := h2.str (i := (i : Int)) (by omega) (by omega)
   simp only [Int.toNat_natCast] at hc1 hp2 hc2 hq2
   have e : IntKind.wrap .i64 ((i : Int) + 1) = ((i + 1 : Nat) : Int) := by rw [wrap64_id (by omega) (by omega)]; omega
   refine ⟨⟨by omega, by omega⟩, _, rfl, _, by rw [Int.toNat_natCast, Nat.mul_one]; exact hc1, ⟨by omega, by omega⟩, _, rfl, _, by rw [Int.toNat_natCast, Nat.mul_one]; exact hc2, ?_⟩
   rw [strEq_dec, ← decide_not, cond_dec]
   refine ite_i (fun he => no fun e => he (by subst e; rfl)) fun he => ?_
   rw [e]
   have he' : xs[i] = ys[i] := Classical.byContradiction he
   refine ⟨⟨rfl, i + 1, rfl, by omega, ?_⟩, by simp; omega⟩
   rw [List.take_add_one, List.take_add_one, List.getElem?_eq_getElem hp2, List.getElem?_eq_getElem hq2, hall, he']
 · have hil : i = l1 := by omega
   subst hil
   rw [List.take_of_length_le (by omega), List.take_of_length_le (by omega)] at hall
   rw [decide_eq_true hall] at h
   exact h
theorem sameInts_c {a1 a2 : Option Addr} {l1 l2 c1 c2 : Nat} {xs ys : List Int} (h1 : Rd 1 H a1 l1 (intsV xs)) (h2 : Rd 1 H a2 l2 (intsV ys)) (hb : l1 ≤ 1000000000000000) (h : Q (.bool (decide (xs = ys))) H) : callS PP n_k127 #[.slice a1 l1 c1, .slice a2 l2 c2] Q H := by
 have e1 : l1 = xs.length := by have := h1.1; simpa [intsV] using this.symm
 have e2 : l2 = ys.length := by have := h2.1; simpa [intsV] using this.symm
 apply k127_ok
 unfold k127 iV wW
 have no : xs ≠ ys → Q (.bool false) H := fun hn => by rw [decide_eq_false hn] at h; exact h
 rw [bneI, cond_dec]
 refine ite_i (fun hne => no fun e => hne (by rw [e1, e2, e])) fun hne => ?_
 have hlen : l1 = l2 := by omega
 refine ⟨fun w H' => H' = H ∧ ∃ i : Nat, w = [.int .i64 i] ∧ i ≤ l1 ∧ xs.take i = ys.take i, fun w _ => match w with
   | [.int _ i] => (l1 - i).toNat
   | _ => 0, ⟨rfl, 0, rfl, Nat.zero_le _, rfl⟩, ?_⟩
 rintro w H1 ⟨rfl, i, rfl, hi, hall⟩ _
 refine ⟨_, rfl, ?_⟩
 rw [cond_dec]
 refine ite_i (fun hlt => ?_) fun hlt => ?_
 · obtain ⟨p, rfl, hc1, hp2⟩ := h1.int (i := (i : Int)) (by omega) (by omega)
   obtain ⟨q, rfl, hc2, hq2⟩ := h2.int (i := (i : Int)) (by omega) (by omega)
   simp only [Int.toNat_natCast] at hc1 hp2 hc2 hq2
   have hx : xs.getD i 0 = xs[i] := by simp [hp2]
   have hy : ys.getD i 0 = ys[i] := by simp [hq2]
   rw [hx] at hc1
   rw [hy] at hc2
   have e : IntKind.wrap .i64 ((i : Int) + 1) = ((i + 1 : Nat) : Int) := by rw [wrap64_id (by omega) (by omega)]; omega
   refine ⟨⟨by omega, by omega⟩, _, rfl, _, by rw [Int.toNat_natCast, Nat.mul_one]; exact hc1, ⟨by omega, by omega⟩, _, rfl, _, by rw [Int.toNat_natCast, Nat.mul_one]; exact hc2, ?_⟩
   rw [bneI, cond_dec]
   refine ite_i (fun he => no fun e => he (by subst e; rfl)) fun he => ?_
   rw [e]
   have he' : xs[i] = ys[i] := Classical.byContradiction he
   refine ⟨⟨rfl, i + 1, rfl, by omega, ?_⟩, by simp; omega⟩
   rw [List.take_add_one, List.take_add_one, List.getElem?_eq_getElem hp2, List.getElem?_eq_getElem hq2, hall, he']
 · have hil : i = l1 := by omega
   subst hil
   rw [List.take_of_length_le (by omega), List.take_of_length_le (by omega)] at hall
   rw [decide_eq_true hall] at h
   exact h
theorem sameInfo_c {x : CI} {a1 a2 : Option Addr} {l1 l2 c1 c2 : Nat} (h1 : Rd 1 H a1 l1 (strsV x.own)) (h2 : Rd 1 H a2 l2 (strsV x.own)) (hb : l1 ≤ 1000000000000000) (h : ∀ H', Fr [] H H' → Q (.bool true) H') :
   callS PP n_k100 #[.agg #[.string x.name, .string x.sup, .slice a1 l1 c1, .int .i64 x.lay], .agg #[.string x.name, .string x.sup, .slice a2 l2 c2, .int .i64 x.lay]] Q H := by
 apply k100_ok
 unfold k100 A0 iV sV lV cS; dsimp only [shH]
 have f1 := Fr.push [] H (.cells #[.string x.name, .string x.sup, .slice a1 l1 c1, .int .i64 x.lay] 121)
 have hB1 := Blk.new H #[.string x.name, .string x.sup, .slice a1 l1 c1, .int .i64 x.lay] 121
 generalize (H.push (.cells #[.string x.name, .string x.sup, .slice a1 l1 c1, .int .i64 x.lay] 121)) = G1 at f1 hB1 ⊢
 have f2 := Fr.push [] G1 (.cells #[.string x.name, .string x.sup, .slice a2 l2 c2, .int .i64 x.lay] 121)
 have hB2 := Blk.new G1 #[.string x.name, .string x.sup, .slice a2 l2 c2, .int .i64 x.lay] 121
 have hB1' := hB1.fr f2 (by simp)
 generalize (G1.push (.cells #[.string x.name, .string x.sup, .slice a2 l2 c2, .int .i64 x.lay] 121)) = G2 at f2 hB2 hB1' ⊢
 have f12 := f1.trans f2
 refine ⟨_, hB1'.cell 0, _, hB2.cell 0, ?_⟩
 rw [strEq_dec, cond_dec, if_pos rfl]
 refine ⟨_, hB1'.cell 1, _, hB2.cell 1, ?_⟩
 rw [strEq_dec, cond_dec, if_pos rfl]
 refine ⟨_, hB1'.cell 3, _, hB2.cell 3, ?_⟩
 rw [beqI, cond_dec, if_pos rfl]
 refine ⟨_, _, _, hB1'.cell 2, _, _, _, hB2.cell 2, same_c (h1.fr' f12 (by simp)) (h2.fr' f12 (by simp)) hb ⟨_, rfl, ?_⟩⟩
 rw [decide_eq_true rfl]
 exact h _ f12
end
section
variable {H : Heap} {bp br : Nat} {Fp Fq : Foot} {s : SP} {t : TB} {v : KV} {Q : QT}
theorem infoK_len (hv : KAll s t v) {i : Nat} (hi : i < v.cls.length) : (infoK v t i).own.length ≤ 8192 := by
 have := ((hv.ks.view.own hi).bnd hv.ks.wf.h).2.2.1
 rw [(infoK_name hi).2]; simpa using this
theorem asked2 (hP : PK H bp Fp s t) (hR : RK H br Fq s t) (hv : KAll s t v) {o : Int} (h : ∀ H', Fr [] H H' → Q (.bool true) H') :
   callS PP 188 #[.pointer (some ⟨bp, 0, none⟩ : Option Addr), .int .i64 o] (fun v28 H5 => ∃ n29 : Int, ∃ o0 : Int, v28 = .tuple #[.int .i64 n29, .int .i64 o0] ∧ callS PP 189 #[.pointer (some ⟨br, 0, none⟩ : Option Addr), .int .i64 o] (fun v31 H6 => ∃ o2 : Int, ∃ o3 : Int, v31 = .tuple #[.int .i64 o2, .int .i64 o3] ∧ cond (n29 != o2) (Q (.bool false) H6) (callS PP 12 #[.int .i64 o0] (fun v34 H7 => ∃ o5 : Int, v34 = .int .i64 o5 ∧ cond (o5 != o3) (Q (.bool false) H7) (callS PP 190 #[.pointer (some ⟨bp, 0, none⟩ : Option Addr), .int .i64 o] (fun v36 H8 => ∃ o7 : Int, ∃ o8 : Int, v36 = .tuple #[.int .i64 o7, .int .i64 o8] ∧ callS PP 191 #[.pointer (some ⟨br, 0, none⟩ : Option Addr), .int .i64 o] (fun v39 H9 => ∃ n40 : Int, ∃ n41 : Int, v39 = .tuple #[.int .i64 n40, .int .i64 n41] ∧ cond (o7 != n40) (Q (.bool false) H9) (callS PP 12 #[.int .i64 o8] (fun v42 H10 => ∃ n43 : Int, v42 = .int .i64 n43 ∧ cond (n43 != n41) (Q (.bool false) H10) (callS PP 192 #[.pointer (some ⟨bp, 0, none⟩ : Option Addr), .int .i64 o] (fun v44 H11 => ∃ n45 : Int, ∃ n46 : Int, v44 = .tuple #[.int .i64 n45, .int .i64 n46] ∧ callS PP 193 #[.pointer (some ⟨br, 0, none⟩ : Option Addr), .int .i64 o] (fun v47 H12 => ∃ n48 : Int, ∃ n49 : Int, v47 = .tuple #[.int .i64 n48, .int .i64 n49] ∧ cond (n45 != n48) (Q (.bool false) H12) (callS PP 12 #[.int .i64 n46] (fun v50 H13 => ∃ n51 : Int, v50 = .int .i64 n51 ∧ cond (n51 != n49) (Q (.bool false) H13) (callS PP 101 #[.pointer (some ⟨bp, 0, none⟩ : Option Addr), .int .i64 o] (fun v52 H14 => ∃ a53 : Option Addr, ∃ l53 : Nat, ∃ c53 : Nat, ∃ n54 : Int, v52 = .tuple #[.slice a53 l53 c53, .int .i64 n54] ∧ callS PP 125 #[.pointer (some ⟨br, 0, none⟩ : Option Addr), .int .i64 o] (fun v55 H15 => ∃ a56 : Option Addr, ∃ l56 : Nat, ∃ c56 : Nat, ∃ n57 : Int, v55 = .tuple #[.slice a56 l56 c56, .int .i64 n57] ∧ callS PP 12 #[.int .i64 n54] (fun v58 H16 => ∃ n59 : Int, v58 = .int .i64 n59 ∧ cond (n59 == n57) (callS PP 77 #[.slice a53 l53 c53, .slice a56 l56 c56] (fun v60 H17 => ∃ b61 : Bool, v60 = .bool b61 ∧ cond b61 (callS PP 72 #[.pointer (some ⟨bp, 0, none⟩ : Option Addr), .int .i64 o] (fun v62 H18 => ∃ a63 : Option Addr, ∃ l63 : Nat, ∃ c63 : Nat, v62 = .slice a63 l63 c63 ∧ callS PP 126 #[.pointer (some ⟨br, 0, none⟩ : Option Addr), .int .i64 o] (fun v64 H19 => ∃ a65 : Option Addr, ∃ l65 : Nat, ∃ c65 : Nat, v64 = .slice a65 l65 c65 ∧ callS PP 127 #[.slice a63 l63 c63, .slice a65 l65 c65] (fun v66 H20 => ∃ b67 : Bool, v66 = .bool b67 ∧ Q (.bool b67) H20) H19) H18) H17) (Q (.bool false) H17)) H16) (Q (.bool false) H16)) H15) H14) H13)) H12)) H11) H10)) H9)) H8) H7)) H6)) H5) H := by
 have hm1 := hv.ks.shape.many1
 refine number_k hP hv fun H1 f1 => ?_
 have F1 := f1
 obtain ⟨nn, ne, e1⟩ : ∃ nn ne : Int, (match plK v o with | some i => Value.tuple #[.int .i64 ((i : Int) + 1), .int .i64 0] | none => .tuple #[.int .i64 0, .int .i64 130]) = .tuple #[.int .i64 nn, .int .i64 ne] := by
   cases plK v o with
   | none => exact ⟨_, _, rfl⟩
   | some i => exact ⟨_, _, rfl⟩
 refine ⟨nn, ne, e1, number_r (hR.nil F1) hv fun H2 f2 => ?_⟩
 have F2 := F1.trans f2
 refine ⟨nn, ne, e1, ?_⟩
 rw [bneI, cond_dec, if_neg (fun hn => hn rfl)]
 refine num1_c ⟨_, rfl, ?_⟩
 rw [bneI, cond_dec, if_neg (fun hn => hn rfl)]
 refine ksuper_k (hP.nil F2) hv fun H3 f3 => ?_
 have F3 := F2.trans f3
 obtain ⟨sn, se, e2⟩ : ∃ nn ne : Int, (match plK v o with | some i => Value.tuple #[.int .i64 (superK v i), .int .i64 0] | none => .tuple #[.int .i64 0, .int .i64 130]) = .tuple #[.int .i64 nn, .int .i64 ne] := by
   cases plK v o with
   | none => exact ⟨_, _, rfl⟩
   | some i => exact ⟨_, _, rfl⟩
 refine ⟨sn, se, e2, super_r (hR.nil F3) hv fun H4 f4 => ?_⟩
 have F4 := F3.trans f4
 refine ⟨sn, se, e2, ?_⟩
 rw [bneI, cond_dec, if_neg (fun hn => hn rfl)]
 refine num1_c ⟨_, rfl, ?_⟩
 rw [bneI, cond_dec, if_neg (fun hn => hn rfl)]
 refine layout_k (hP.nil F4) hv fun H5 f5 => ?_
 have F5 := F4.trans f5
 obtain ⟨ln, le, e3⟩ : ∃ nn ne : Int, (match plK v o with | some i => Value.tuple #[.int .i64 (infoK v t i).lay, .int .i64 0] | none => .tuple #[.int .i64 0, .int .i64 130]) = .tuple #[.int .i64 nn, .int .i64 ne] := by
   cases plK v o with
   | none => exact ⟨_, _, rfl⟩
   | some i => exact ⟨_, _, rfl⟩
 refine ⟨ln, le, e3, layout_r (hR.nil F5) hv fun H6 f6 => ?_⟩
 have F6 := F5.trans f6
 refine ⟨ln, le, e3, ?_⟩
 rw [bneI, cond_dec, if_neg (fun hn => hn rfl)]
 refine num1_c ⟨_, rfl, ?_⟩
 rw [bneI, cond_dec, if_neg (fun hn => hn rfl)]
 have fin : ∀ (H9 : Heap), Fr [] H H9 → callS PP n_k72 #[.pointer (some ⟨bp, 0, none⟩), .int .i64 o] (fun v62 H18 => ∃ a63 : Option Addr, ∃ l63 : Nat, ∃ c63 : Nat, v62 = .slice a63 l63 c63 ∧ callS PP n_k126 #[.pointer (some ⟨br, 0, none⟩), .int .i64 o] (fun v64 H19 => ∃ a65 : Option Addr, ∃ l65 : Nat, ∃ c65 : Nat, v64 = .slice a65 l65 c65 ∧ callS PP n_k127 #[.slice a63 l63 c63, .slice a65 l65 c65] (fun v66 H20 => ∃ b67 : Bool, v66 = .bool b67 ∧ Q (.bool b67) H20) H19) H18) H9 := by
   intro H9 F9
   have rdnil : ∀ {H' : Heap}, Rd 1 H' none 0 (intsV []) := fun {H'} => (Own.nil 1 H').rd
   cases hp : plK v o with
   | none =>
     refine under_k (hP.nil F9) hv (fun i hp' => by rw [hp] at hp'; cases hp') fun _ H10 f10 => ⟨_, _, _, rfl, ?_⟩
     refine under_r (hR.nil (F9.trans f10)) hv (fun i hp' => by rw [hp] at hp'; cases hp') fun _ H11 f11 => ⟨_, _, _, rfl, ?_⟩
     refine sameInts_c rdnil rdnil (by decide) ⟨_, rfl, ?_⟩
     rw [decide_eq_true rfl]; exact h _ ((F9.trans f10).trans f11)
   | some i =>
     have hul : (underK v o).length ≤ v.cls.length := by
       unfold underK
       rw [List.length_map]
       exact Nat.le_trans (List.length_filter_le _ _) (by simp)
     refine under_k (hP.nil F9) hv (fun i _ a l c G H10 ho f10 hG => ⟨_, _, _, rfl, ?_⟩) fun hp' => by rw [hp] at hp'; cases hp'
     have hl : l = (underK v o).length := by have := ho.len; simpa [intsV] using this.symm
     refine under_r (hR.nil (F9.trans f10)) hv (fun i _ a2 l2 c2 G2 H11 ho2 f11 hG2 => ⟨_, _, _, rfl, ?_⟩) fun hp' => by rw [hp] at hp'; cases hp'
     refine sameInts_c (ho.fr f11 (by simp)).rd ho2.rd (by omega) ⟨_, rfl, ?_⟩
     rw [decide_eq_true rfl]; exact h _ ((F9.trans f10).trans f11)
 cases hp : plK v o with
 | none =>
   refine kfields_k (hP.nil F6) hv (fun i hp' => by rw [hp] at hp'; cases hp') fun _ H7 f7 => ⟨_, _, _, _, rfl, ?_⟩
   have F7 := F6.trans f7
   refine fields_r (hR.nil F7) hv (fun i hp' => by rw [hp] at hp'; cases hp') fun _ H8 f8 => ⟨_, _, _, _, rfl, num1_c ⟨_, rfl, ?_⟩⟩
   rw [beqI, cond_dec, if_pos rfl]
   have rdnil : Rd 1 H8 none 0 (strsV []) := (Own.nil 1 H8).rd
   refine same_c rdnil rdnil (by decide) ⟨_, rfl, ?_⟩
   rw [decide_eq_true rfl]
   exact fin H8 (F7.trans f8)
 | some i =>
   obtain ⟨hi, _⟩ := plK_some hp
   have hfl := fields_len hv.ks i hi
   refine kfields_k (hP.nil F6) hv (fun i' hp' a l c G H7 ho f7 hG => ?_) fun hp' => by rw [hp] at hp'; cases hp'
   rw [hp] at hp'; cases hp'
   refine ⟨_, _, _, _, rfl, ?_⟩
   have F7 := F6.trans f7
   have hl : l = (fieldsK v i).length := by have := ho.len; simpa [strsV] using this.symm
   refine fields_r (hR.nil F7) hv (fun i' hp' a2 l2 c2 G2 H8 ho2 f8 hG2 => ?_) fun hp' => by rw [hp] at hp'; cases hp'
   rw [hp] at hp'; cases hp'
   refine ⟨_, _, _, _, rfl, num1_c ⟨_, rfl, ?_⟩⟩
   rw [beqI, cond_dec, if_pos rfl]
   refine same_c (ho.fr f8 (by simp)).rd ho2.rd (by omega) ⟨_, rfl, ?_⟩
   rw [decide_eq_true rfl]
   exact fin H8 (F7.trans f8)
end
section
variable {H : Heap} {bp br : Nat} {Fp Fq : Foot} {s : SP} {t : TB} {v : KV} {Q : QT}
theorem asked_c (hP : PK H bp Fp s t) (hR : RK H br Fq s t) (hv : KAll s t v) {o : Int} (h : ∀ H', Fr [] H H' → Q (.bool true) H') : callS PP n_k84 #[.pointer (some ⟨bp, 0, none⟩), .pointer (some ⟨br, 0, none⟩), .int .i64 o] Q H := by
 apply k84_ok
 unfold k84 A0 iV pV sV lV cS; dsimp only [shH]
 have go : ∀ (x : CI) (e : Int) (a1 : Option Addr) (l1 c1 : Nat) (H1 : Heap), Fr [] H H1 → Rd 1 H1 a1 l1 (strsV x.own) → l1 ≤ 8192 →
     (∀ {H2 : Heap}, Fr [] H H2 → ∀ {Q' : Value → Heap → Prop}, (∀ a2 l2 c2 H3, Fr [] H2 H3 → Rd 1 H3 a2 l2 (strsV x.own) → Q' (.tuple #[.agg #[.string x.name, .string x.sup, .slice a2 l2 c2, .int .i64 x.lay], .int .i64 e]) H3) → callS PP n_k124 #[.pointer (some ⟨br, 0, none⟩), .int .i64 o] Q' H2) →
     ∃ s5 : ByteArray, ∃ s6 : ByteArray, ∃ a7 : Option Addr, ∃ l7 : Nat, ∃ c7 : Nat, ∃ n8 : Int, ∃ n9 : Int, (Value.tuple #[.agg #[.string x.name, .string x.sup, .slice a1 l1 c1, .int .i64 x.lay], .int .i64 e]) = .tuple #[.agg #[.string s5, .string s6, .slice a7 l7 c7, .int .i64 n8], .int .i64 n9] ∧ Wr (H1.push (.cells #[.string (⟨#[]⟩ : ByteArray), .string (⟨#[]⟩ : ByteArray), .slice none 0 0, .int .i64 0] 121)) (⟨H1.size, 0, none⟩ : Addr) ∧ Wr (setH (H1.push (.cells #[.string (⟨#[]⟩ : ByteArray), .string (⟨#[]⟩ : ByteArray), .slice none 0 0, .int .i64 0] 121)) (⟨H1.size, 0, none⟩ : Addr) (.string s5)) ((⟨H1.size, 0, none⟩ : Addr).add 1) ∧ Wr (setH (setH (H1.push (.cells #[.string (⟨#[]⟩ : ByteArray), .string (⟨#[]⟩ : ByteArray), .slice none 0 0, .int .i64 0] 121)) (⟨H1.size, 0, none⟩ : Addr) (.string s5)) ((⟨H1.size, 0, none⟩ : Addr).add 1) (.string s6)) ((⟨H1.size, 0, none⟩ : Addr).add 2) ∧ Wr (setH (setH (setH (H1.push (.cells #[.string (⟨#[]⟩ : ByteArray), .string (⟨#[]⟩ : ByteArray), .slice none 0 0, .int .i64 0] 121)) (⟨H1.size, 0, none⟩ : Addr) (.string s5)) ((⟨H1.size, 0, none⟩ : Addr).add 1) (.string s6)) ((⟨H1.size, 0, none⟩ : Addr).add 2) (.slice a7 l7 c7)) ((⟨H1.size, 0, none⟩ : Addr).add 3) ∧ callS PP 124 #[.pointer (some ⟨br, 0, none⟩ : Option Addr), .int .i64 o] (fun v10 H2 => ∃ s11 : ByteArray, ∃ s12 : ByteArray, ∃ a13 : Option Addr, ∃ l13 : Nat, ∃ c13 : Nat, ∃ n14 : Int, ∃ n15 : Int, v10 = .tuple #[.agg #[.string s11, .string s12, .slice a13 l13 c13, .int .i64 n14], .int .i64 n15] ∧ Wr (H2.push (.cells #[.string (⟨#[]⟩ : ByteArray), .string (⟨#[]⟩ : ByteArray), .slice none 0 0, .int .i64 0] 121)) (⟨H2.size, 0, none⟩ : Addr) ∧ Wr (setH (H2.push (.cells #[.string (⟨#[]⟩ : ByteArray), .string (⟨#[]⟩ : ByteArray), .slice none 0 0, .int .i64 0] 121)) (⟨H2.size, 0, none⟩ : Addr) (.string s11)) ((⟨H2.size, 0, none⟩ : Addr).add 1) ∧ Wr (setH (setH (H2.push (.cells #[.string (⟨#[]⟩ : ByteArray), .string (⟨#[]⟩ : ByteArray), .slice none 0 0, .int .i64 0] 121)) (⟨H2.size, 0, none⟩ : Addr) (.string s11)) ((⟨H2.size, 0, none⟩ : Addr).add 1) (.string s12)) ((⟨H2.size, 0, none⟩ : Addr).add 2) ∧ Wr (setH (setH (setH (H2.push (.cells #[.string (⟨#[]⟩ : ByteArray), .string (⟨#[]⟩ : ByteArray), .slice none 0 0, .int .i64 0] 121)) (⟨H2.size, 0, none⟩ : Addr) (.string s11)) ((⟨H2.size, 0, none⟩ : Addr).add 1) (.string s12)) ((⟨H2.size, 0, none⟩ : Addr).add 2) (.slice a13 l13 c13)) ((⟨H2.size, 0, none⟩ : Addr).add 3) ∧ callS PP 12 #[.int .i64 n9] (fun v16 H3 => ∃ n17 : Int, v16 = .int .i64 n17 ∧ cond (n17 != n15) (Q (.bool false) H3) (∃ s18 : ByteArray, cellH H3 (⟨H1.size, 0, none⟩ : Addr) = some (.string s18) ∧ ∃ s19 : ByteArray, cellH H3 ((⟨H1.size, 0, none⟩ : Addr).add 1) = some (.string s19) ∧ ∃ a20 : Option Addr, ∃ l20 : Nat, ∃ c20 : Nat, cellH H3 ((⟨H1.size, 0, none⟩ : Addr).add 2) = some (.slice a20 l20 c20) ∧ ∃ n21 : Int, cellH H3 ((⟨H1.size, 0, none⟩ : Addr).add 3) = some (.int .i64 n21) ∧ ∃ s22 : ByteArray, cellH H3 (⟨H2.size, 0, none⟩ : Addr) = some (.string s22) ∧ ∃ s23 : ByteArray, cellH H3 ((⟨H2.size, 0, none⟩ : Addr).add 1) = some (.string s23) ∧ ∃ a24 : Option Addr, ∃ l24 : Nat, ∃ c24 : Nat, cellH H3 ((⟨H2.size, 0, none⟩ : Addr).add 2) = some (.slice a24 l24 c24) ∧ ∃ n25 : Int, cellH H3 ((⟨H2.size, 0, none⟩ : Addr).add 3) = some (.int .i64 n25) ∧ callS PP 100 #[.agg #[.string s18, .string s19, .slice a20 l20 c20, .int .i64 n21], .agg #[.string s22, .string s23, .slice a24 l24 c24, .int .i64 n25]] (fun v26 H4 => ∃ b27 : Bool, v26 = .bool b27 ∧ cond (!b27) (Q (.bool false) H4) (callS PP 188 #[.pointer (some ⟨bp, 0, none⟩ : Option Addr), .int .i64 o] (fun v28 H5 => ∃ n29 : Int, ∃ o0 : Int, v28 = .tuple #[.int .i64 n29, .int .i64 o0] ∧ callS PP 189 #[.pointer (some ⟨br, 0, none⟩ : Option Addr), .int .i64 o] (fun v31 H6 => ∃ o2 : Int, ∃ o3 : Int, v31 = .tuple #[.int .i64 o2, .int .i64 o3] ∧ cond (n29 != o2) (Q (.bool false) H6) (callS PP 12 #[.int .i64 o0] (fun v34 H7 => ∃ o5 : Int, v34 = .int .i64 o5 ∧ cond (o5 != o3) (Q (.bool false) H7) (callS PP 190 #[.pointer (some ⟨bp, 0, none⟩ : Option Addr), .int .i64 o] (fun v36 H8 => ∃ o7 : Int, ∃ o8 : Int, v36 = .tuple #[.int .i64 o7, .int .i64 o8] ∧ callS PP 191 #[.pointer (some ⟨br, 0, none⟩ : Option Addr), .int .i64 o] (fun v39 H9 => ∃ n40 : Int, ∃ n41 : Int, v39 = .tuple #[.int .i64 n40, .int .i64 n41] ∧ cond (o7 != n40) (Q (.bool false) H9) (callS PP 12 #[.int .i64 o8] (fun v42 H10 => ∃ n43 : Int, v42 = .int .i64 n43 ∧ cond (n43 != n41) (Q (.bool false) H10) (callS PP 192 #[.pointer (some ⟨bp, 0, none⟩ : Option Addr), .int .i64 o] (fun v44 H11 => ∃ n45 : Int, ∃ n46 : Int, v44 = .tuple #[.int .i64 n45, .int .i64 n46] ∧ callS PP 193 #[.pointer (some ⟨br, 0, none⟩ : Option Addr), .int .i64 o] (fun v47 H12 => ∃ n48 : Int, ∃ n49 : Int, v47 = .tuple #[.int .i64 n48, .int .i64 n49] ∧ cond (n45 != n48) (Q (.bool false) H12) (callS PP 12 #[.int .i64 n46] (fun v50 H13 => ∃ n51 : Int, v50 = .int .i64 n51 ∧ cond (n51 != n49) (Q (.bool false) H13) (callS PP 101 #[.pointer (some ⟨bp, 0, none⟩ : Option Addr), .int .i64 o] (fun v52 H14 => ∃ a53 : Option Addr, ∃ l53 : Nat, ∃ c53 : Nat, ∃ n54 : Int, v52 = .tuple #[.slice a53 l53 c53, .int .i64 n54] ∧ callS PP 125 #[.pointer (some ⟨br, 0, none⟩ : Option Addr), .int .i64 o] (fun v55 H15 => ∃ a56 : Option Addr, ∃ l56 : Nat, ∃ c56 : Nat, ∃ n57 : Int, v55 = .tuple #[.slice a56 l56 c56, .int .i64 n57] ∧ callS PP 12 #[.int .i64 n54] (fun v58 H16 => ∃ n59 : Int, v58 = .int .i64 n59 ∧ cond (n59 == n57) (callS PP 77 #[.slice a53 l53 c53, .slice a56 l56 c56] (fun v60 H17 => ∃ b61 : Bool, v60 = .bool b61 ∧ cond b61 (callS PP 72 #[.pointer (some ⟨bp, 0, none⟩ : Option Addr), .int .i64 o] (fun v62 H18 => ∃ a63 : Option Addr, ∃ l63 : Nat, ∃ c63 : Nat, v62 = .slice a63 l63 c63 ∧ callS PP 126 #[.pointer (some ⟨br, 0, none⟩ : Option Addr), .int .i64 o] (fun v64 H19 => ∃ a65 : Option Addr, ∃ l65 : Nat, ∃ c65 : Nat, v64 = .slice a65 l65 c65 ∧ callS PP 127 #[.slice a63 l63 c63, .slice a65 l65 c65] (fun v66 H20 => ∃ b67 : Bool, v66 = .bool b67 ∧ Q (.bool b67) H20) H19) H18) H17) (Q (.bool false) H17)) H16) (Q (.bool false) H16)) H15) H14) H13)) H12)) H11) H10)) H9)) H8) H7)) H6)) H5) H4)) H3)) (setH (setH (setH (setH (H2.push (.cells #[.string (⟨#[]⟩ : ByteArray), .string (⟨#[]⟩ : ByteArray), .slice none 0 0, .int .i64 0] 121)) (⟨H2.size, 0, none⟩ : Addr) (.string s11)) ((⟨H2.size, 0, none⟩ : Addr).add 1) (.string s12)) ((⟨H2.size, 0, none⟩ : Addr).add 2) (.slice a13 l13 c13)) ((⟨H2.size, 0, none⟩ : Addr).add 3) (.int .i64 n14))) (setH (setH (setH (setH (H1.push (.cells #[.string (⟨#[]⟩ : ByteArray), .string (⟨#[]⟩ : ByteArray), .slice none 0 0, .int .i64 0] 121)) (⟨H1.size, 0, none⟩ : Addr) (.string s5)) ((⟨H1.size, 0, none⟩ : Addr).add 1) (.string s6)) ((⟨H1.size, 0, none⟩ : Addr).add 2) (.slice a7 l7 c7)) ((⟨H1.size, 0, none⟩ : Addr).add 3) (.int .i64 n8)) := by
   intro x e a1 l1 c1 H1 f1 h1 hl1 hInfo
   have fp := Fr.push [] H1 (.cells #[.string (⟨#[]⟩ : ByteArray), .string (⟨#[]⟩ : ByteArray), .slice none 0 0, .int .i64 0] 121)
   have hB := Blk.new H1 #[.string (⟨#[]⟩ : ByteArray), .string (⟨#[]⟩ : ByteArray), .slice none 0 0, .int .i64 0] 121
   refine ⟨_, _, _, _, _, _, _, rfl, ?_⟩
   generalize (H1.push (.cells #[.string (⟨#[]⟩ : ByteArray), .string (⟨#[]⟩ : ByteArray), .slice none 0 0, .int .i64 0] 121)) = G1 at fp hB ⊢
   obtain ⟨w0, w1, w2, w3, hB1, hf1⟩ := st4 hB (o := 0) (by simp) (.string x.name) (.string x.sup) (.slice a1 l1 c1) (.int .i64 x.lay)
   have F1 := (Up.fresh (f1.trans fp) (F := [H1.size]) (F' := [H1.size]) ⟨hf1, fun _ h => .inl h⟩ (by have := f1.1; simpa using this)).1
   have h1' := (h1.fr' fp (by simp))
   refine ⟨w0, w1, w2, w3, hInfo F1 fun a2 l2 c2 H2 f2 h2 => ?_⟩
   have hL1 : Blk _ H1.size #[.string x.name, .string x.sup, .slice a1 l1 c1, .int .i64 x.lay] := hB1
   have h1b := h1.fr' (Up.fresh fp (F := [H1.size]) (F' := [H1.size]) ⟨hf1, fun _ h => .inl h⟩ (by simp)).1 (by simp)
   have h1c := h1b.fr' f2 (by simp)
   have hL1' := hL1.fr f2 (by simp)
   have F2 := F1.trans f2
   have hs12 : H1.size < H2.size := hL1'.lt
   refine ⟨_, _, _, _, _, _, _, rfl, ?_⟩
   have fp2 := Fr.push [] H2 (.cells #[.string (⟨#[]⟩ : ByteArray), .string (⟨#[]⟩ : ByteArray), .slice none 0 0, .int .i64 0] 121)
   have hB2 := Blk.new H2 #[.string (⟨#[]⟩ : ByteArray), .string (⟨#[]⟩ : ByteArray), .slice none 0 0, .int .i64 0] 121
   generalize (H2.push (.cells #[.string (⟨#[]⟩ : ByteArray), .string (⟨#[]⟩ : ByteArray), .slice none 0 0, .int .i64 0] 121)) = G2 at fp2 hB2 ⊢
   obtain ⟨u0, u1, u2, u3, hB3, hf3⟩ := st4 hB2 (o := 0) (by simp) (.string x.name) (.string x.sup) (.slice a2 l2 c2) (.int .i64 x.lay)
   have F3 := (Up.fresh (F2.trans fp2) (F := [H2.size]) (F' := [H2.size]) ⟨hf3, fun _ h => .inl h⟩ (by have := F2.1; simpa using this)).1
   have hL2 : Blk _ H2.size #[.string x.name, .string x.sup, .slice a2 l2 c2, .int .i64 x.lay] := hB3
   have hL1'' := (hL1'.fr fp2 (by simp)).fr hf3 (by simp; omega)
   have lim : ∀ {a : Option Addr} {l : Nat} {ys : List ByteArray}, Rd 1 H2 a l (strsV ys) → Rd 1 (setH (setH (setH (setH G2 ⟨H2.size, 0, none⟩ (.string x.name)) ⟨H2.size, 0 + 1, none⟩ (.string x.sup)) ⟨H2.size, 0 + 2, none⟩ (.slice a2 l2 c2)) ⟨H2.size, 0 + 3, none⟩ (.int .i64 x.lay)) a l (strsV ys) := by
     intro a l ys hr
     exact hr.fr' (Up.fresh fp2 (F := [H2.size]) (F' := [H2.size]) ⟨hf3, fun _ h => .inl h⟩ (by simp)).1 (by simp)
   refine ⟨u0, u1, u2, u3, num1_c ⟨_, rfl, ?_⟩⟩
   rw [bneI, cond_dec, if_neg (fun hn => hn rfl)]
   refine ⟨_, hL1''.cell 0, _, hL1''.cell 1, _, _, _, hL1''.cell 2, _, hL1''.cell 3, _, hL2.cell 0, _, hL2.cell 1, _, _, _, hL2.cell 2, _, hL2.cell 3, sameInfo_c (lim h1c) (lim h2) (by omega) fun H4 f4 => ⟨_, rfl, ?_⟩⟩
   simp only [Bool.not_true, cond_false]
   have F4 := F3.trans f4
   exact asked2 (hP.nil F4) (hR.nil F4) hv fun H' f' => h H' (F4.trans f')
 cases hp : plK v o with
 | none =>
   refine kinfo_k hP hv (fun i hp' => by rw [hp] at hp'; cases hp') fun _ H1 f1 => ?_
   exact go ⟨⟨#[]⟩, ⟨#[]⟩, [], 0⟩ 130 none 0 0 H1 f1 (Own.nil 1 H1).rd (by decide) fun {H2} F2 {Q'} hq => info_r (hR.nil F2) hv (fun i hp' => by rw [hp] at hp'; cases hp') fun _ H3 f3 => hq none 0 0 H3 f3 (Own.nil 1 H3).rd
 | some i =>
   obtain ⟨hi, _⟩ := plK_some hp
   have hol := infoK_len hv (t := t) hi
   refine kinfo_k hP hv (fun i' hp' a l c G H1 ho f1 hG => ?_) fun hp' => by rw [hp] at hp'; cases hp'
   rw [hp] at hp'; cases hp'
   have hl : l = (infoK v t i).own.length := by have := ho.len; simpa [strsV] using this.symm
   refine go (infoK v t i) 0 a l c H1 f1 ho.rd (by omega) fun {H2} F2 {Q'} hq => info_r (hR.nil F2) hv (fun i' hp' a2 l2 c2 G2 H3 ho2 f3 hG2 => ?_) fun hp' => by rw [hp] at hp'; cases hp'
   rw [hp] at hp'; cases hp'
   exact hq a2 l2 c2 H3 f3 ho2.rd
end
section
variable {H : Heap} {bp br : Nat} {Fp Fq : Foot} {s : SP} {t : TB} {v : KV} {Q : QT}
theorem seen_c (hP : PK H bp Fp s t) (hR : RK H br Fq s t) (hv : KAll s t v) (h : ∀ H', Fr [] H H' → Q (.bool true) H') : callS PP n_k15 #[.pointer (some ⟨bp, 0, none⟩), .pointer (some ⟨br, 0, none⟩)] Q H := by
 have hm1 := hv.ks.shape.many1
 have hg := hv.ks.shape.globs
 have hw1 := hv.names.wf.m1
 have hw2 := hv.names.wf.len
 apply k15_ok
 unfold k15 iV wW pV lV cS
 refine all_r hR hv.ks fun al ll cl Gl H1 hol f1 hGl => ⟨_, _, _, rfl, ?_⟩
 have hll : ll = v.cls.length := by have := hol.len; simpa [intsV, oopsK] using this.symm
 refine count_k (hP.nil f1) hv fun H2 f2 => ⟨_, rfl, trivial, ?_⟩
 have F2 := f1.trans f2
 rw [bneI, cond_dec, if_neg (by omega)]
 refine globals_k (hP.nil F2) hv fun ag lg cg Gg H3 hog f3 hGg => ⟨_, _, _, rfl, trivial, ?_⟩
 have F3 := F2.trans f3
 have hlg : lg = v.glob.length := by have := hog.len; simpa [strsV, globsK] using this.symm
 refine globals_r (hR.nil F3) hv fun ag2 lg2 cg2 Gg2 H4 hog2 f4 hGg2 => ⟨_, _, _, rfl, trivial, ?_⟩
 have F4 := F3.trans f4
 refine same_c (hog.fr f4 (by simp)).rd hog2.rd (by omega) ⟨_, rfl, trivial, ?_⟩
 rw [decide_eq_true rfl]
 simp only [Bool.not_true, cond_false]
 obtain ⟨tb, Ft, hct, hT, _⟩ := (hR.nil F4).tb
 refine ⟨_, rfl, _, hct, ksymbols_k (hP.nil F4) fun tbp Ftp hctp hTp => ⟨_, rfl, ⟨⟨hct, trivial⟩, trivial⟩, ptAll_c hTp fun aS ls cs Gs H5 hos f5 hGs => ⟨_, _, _, rfl, ⟨⟨(cell_fr f5 (by simp) (cell_lt hct)).trans hct, trivial⟩, trivial⟩, ?_⟩⟩⟩
 have F5 := F4.trans f5
 have hls : ls = t.texts.length := by have := hos.len; simpa [strsV] using this.symm
 refine tall_c (hT.fr f5 (Disj.nil_right _)) fun aS2 ls2 cs2 Gs2 H6 hos2 f6 hGs2 => ⟨_, _, _, rfl, trivial, ?_⟩
 have F6 := F5.trans f6
 refine same_c (hos.fr f6 (by simp)).rd hos2.rd (by omega) ⟨_, rfl, trivial, ?_⟩
 rw [decide_eq_true rfl]
 simp only [Bool.not_true, cond_false]
 obtain ⟨sb, hb, Fh, hcs, hch, hRR, _⟩ := (hR.nil F6).hp
 refine ⟨_, rfl, _, hcs, _, rfl, _, hch, kspace_k (hP.nil F6) fun sbp Fsp hcsp hSp _ _ _ => ⟨_, rfl, ⟨⟨hch, trivial⟩, ⟨hcs, trivial⟩, trivial⟩, psHeap_c hSp fun hbp Fhp hRp _ _ => ⟨_, rfl, ⟨⟨hch, trivial⟩, ⟨hcs, trivial⟩, trivial⟩, hmarked_c hRp ⟨_, rfl, ⟨⟨hch, trivial⟩, ⟨hcs, trivial⟩, trivial⟩, rmarked_c hRR ⟨_, rfl, trivial, ?_⟩⟩⟩⟩⟩
 rw [bneI, cond_dec, if_neg (fun hn => hn rfl)]
 refine kspace_k (hP.nil F6) fun sbp Fsp hcsp hSp _ _ _ => ⟨_, rfl, trivial, psKept_c hSp fun ak ck H7 _ f7 => ⟨_, _, _, rfl, trivial, ?_⟩⟩
 have F7 := F6.trans f7
 have hst : s.stack.length = 0 := by rw [hv.stack]; rfl
 rw [bneI, cond_dec, if_neg (by omega)]
 refine ⟨fun w H' => ∃ i : Nat, w = [.int .i64 i] ∧ i ≤ ll ∧ Fr [] H7 H', fun w _ => match w with
   | [.int _ i] => (ll - i).toNat
   | _ => 0, ⟨0, rfl, Nat.zero_le _, Fr.refl _ _⟩, ?_⟩
 rintro w H8 ⟨i, rfl, hi, f8⟩ _
 have F8 := F7.trans f8
 refine ⟨_, rfl, ?_⟩
 rw [cond_dec]
 refine ite_i (fun hlt => ?_) fun hlt => ?_
 · have hlt' : i < v.cls.length := by omega
   have e : IntKind.wrap .i64 ((i : Int) + 1) = ((i + 1 : Nat) : Int) := by rw [wrap64_id (by omega) (by omega)]; omega
   have f18 : Fr [] H1 H8 := ((((((f2.trans f3).trans f4).trans f5).trans f6).trans f7).trans f8)
   obtain ⟨p, rfl, hcell⟩ := rd_oops hol f18 hlt'
   refine ⟨⟨by omega, hlt⟩, _, rfl, _, by rw [Int.toNat_natCast]; exact hcell, asked_c (hP.nil F8) (hR.nil F8) hv fun H9 f9 => ⟨_, rfl, ?_⟩⟩
   simp only [Bool.not_true, cond_false]
   rw [e]
   exact ⟨⟨i + 1, rfl, by omega, f8.trans f9⟩, by simp; omega⟩
 · refine kspace_k (hP.nil F8) fun sbp Fsp hcsp hSp _ _ _ => ⟨_, rfl, psRoom_c hSp fun H9 f9 => ⟨_, _, rfl, ?_⟩⟩
   have F9 := F8.trans f9
   obtain ⟨sb2, Fs2, hc2, hS2, _⟩ := (hR.nil F9).sp
   refine ⟨_, rfl, _, hc2, rsRoom_c hS2 fun H10 f10 => ⟨_, _, rfl, ?_⟩⟩
   rw [beqI, cond_dec, if_pos rfl, beqI, decide_eq_true rfl]
   exact h _ (F9.trans f10)
end
section
variable {H : Heap} {Q : QT}
theorem none_c (h : ∀ H', Fr [] H H' → Q (.bool true) H') : callS PP n_k13 #[] Q H := by
 apply k13_ok
 unfold k13 A0 iV wW pV sV lV cS; dsimp only [shH]
 refine kfind_nil ⟨_, _, rfl, kdefine_nil ⟨_, _, rfl, kinfo_nil fun H3 f3 => ⟨_, _, _, _, _, _, _, rfl, ?_⟩⟩⟩
 have fp := Fr.push [] H3 (.cells #[.string (⟨#[]⟩ : ByteArray), .string (⟨#[]⟩ : ByteArray), .slice none 0 0, .int .i64 0] 121)
 have hB := Blk.new H3 #[.string (⟨#[]⟩ : ByteArray), .string (⟨#[]⟩ : ByteArray), .slice none 0 0, .int .i64 0] 121
 generalize (H3.push (.cells #[.string (⟨#[]⟩ : ByteArray), .string (⟨#[]⟩ : ByteArray), .slice none 0 0, .int .i64 0] 121)) = G at fp hB ⊢
 obtain ⟨w0, w1, w2, w3, hB1, hf1⟩ := st4 hB (o := 0) (by simp) (.string ⟨#[]⟩) (.string ⟨#[]⟩) (.slice none 0 0) (.int .i64 0)
 have F1 := (Up.fresh (f3.trans fp) (F := [H3.size]) (F' := [H3.size]) ⟨hf1, fun _ h => .inl h⟩ (by have := f3.1; simpa using this)).1
 refine ⟨w0, w1, w2, w3, value_nil ⟨_, _, rfl, over_nil ⟨_, _, rfl, kglobal_nil ⟨_, rfl, setValue_nil ⟨_, rfl, ?_⟩⟩⟩⟩⟩
 rw [add_none, add_none, add_none]
 show ∃ (I23 : List Value → Heap → Prop) (μ23 : List Value → Heap → Nat), I23 [.int .i64 0] ((setH (setH (setH (setH G ⟨H3.size, 0, none⟩ (.string ⟨#[]⟩)) ⟨H3.size, 0 + 1, none⟩ (.string ⟨#[]⟩)) ⟨H3.size, 0 + 2, none⟩ (.slice none 0 0)) ⟨H3.size, 0 + 3, none⟩ (.int .i64 0)).push (.cells (intsV [2, 2, 2, 2, 2, 2, 2]).toArray 23)) ∧ _
 generalize (setH (setH (setH (setH G ⟨H3.size, 0, none⟩ (.string ⟨#[]⟩)) ⟨H3.size, 0 + 1, none⟩ (.string ⟨#[]⟩)) ⟨H3.size, 0 + 2, none⟩ (.slice none 0 0)) ⟨H3.size, 0 + 3, none⟩ (.int .i64 0)) = G1 at hB1 hf1 F1 ⊢
 have fq := Fr.push [] G1 (.cells (intsV [2, 2, 2, 2, 2, 2, 2]).toArray 23)
 have hr : Rd 1 (G1.push (.cells (intsV [2, 2, 2, 2, 2, 2, 2]).toArray 23)) (some ⟨G1.size, 0, none⟩) 7 (intsV [2, 2, 2, 2, 2, 2, 2]) := rd_new (cs := [2, 2, 2, 2, 2, 2, 2])
 have hB2 := hB1.fr fq (by simp)
 generalize (G1.push (.cells (intsV [2, 2, 2, 2, 2, 2, 2]).toArray 23)) = G2 at fq hr hB2 ⊢
 have F2 := F1.trans fq
 refine ⟨fun w H' => H' = G2 ∧ ∃ i : Nat, w = [.int .i64 i] ∧ i ≤ 7, fun w _ => match w with
   | [.int _ i] => (7 - i).toNat
   | _ => 0, ⟨rfl, 0, rfl, by decide⟩, ?_⟩
 rintro w H8 ⟨rfl, i, rfl, hi⟩ _
 refine ⟨_, rfl, ?_⟩
 rw [cond_dec]
 refine ite_i (fun hlt => ?_) fun hlt => ?_
 · obtain ⟨p, hp, hcell, hlt3⟩ := hr.int (i := (i : Int)) (by omega) (by omega)
   cases hp
   rw [Int.toNat_natCast] at hcell hlt3
   have hx : ([2, 2, 2, 2, 2, 2, 2] : List Int).getD i 0 = 2 := by
     rcases i with _ | _ | _ | _ | _ | _ | _ | i
     all_goals first | rfl | omega
   rw [hx] at hcell
   have e : IntKind.wrap .i64 ((i : Int) + 1) = ((i + 1 : Nat) : Int) := by rw [wrap64_id (by omega) (by omega)]; omega
   refine ⟨⟨by omega, hlt⟩, _, rfl, _, by rw [Int.toNat_natCast, Nat.mul_one]; exact hcell, num1_c ⟨_, rfl, ?_⟩⟩
   rw [bneI, cond_dec, if_neg (fun hn => hn rfl), e]
   exact ⟨⟨rfl, i + 1, rfl, by omega⟩, by simp; omega⟩
 · rw [beqI, cond_dec, if_pos rfl, cond_dec, if_pos rfl]
   refine ⟨_, hB2.cell 0, ?_⟩
   rw [strEq_dec, cond_dec, if_pos rfl, cond_dec, if_pos rfl]
   simp only [Option.isNone_none, cond_true]
   refine count_nil ⟨_, rfl, ?_⟩
   rw [beqI, cond_dec, if_pos rfl]
   refine globals_nil ⟨_, _, _, rfl, ?_⟩
   rw [beqI, cond_dec, if_pos (by decide)]
   refine under_nil fun H9 f9 => ⟨_, _, _, rfl, ?_⟩
   rw [beqI, cond_dec, if_pos (by decide)]
   refine kspace_nil ⟨_, rfl, ?_⟩
   simp only [Option.isNone_none, cond_true]
   exact ksymbols_nil ⟨_, rfl, h _ (F2.trans f9)⟩
end
end Go.Proofs.YtmkdkplipbocjaaGreatDoor
namespace Kw
open Go
structure Tight (W O : Int) (r : RH) : Prop where
 words : r.words = W
 oops : r.oops = O
 cls : ∀ x ∈ r.objs, ∃ c : Int, 4 ≤ c ∧ c ≤ 17 ∧ x.cls = 4 * c
theorem alloc_tight {W O : Int} {r : RH} (h : Tight W O r) {c : Int} (hc : 4 ≤ c ∧ c ≤ 17) (n f : Int) : Tight W O (r.alloc (4 * c) n f).2 := by
 unfold RH.alloc
 split
 · exact h
 split
 · exact h
 split
 · exact h
 split
 · exact ⟨h.words, h.oops, h.cls⟩
 · refine ⟨h.words, h.oops, fun o ho => ?_⟩
   simp only [List.mem_append, List.mem_singleton] at ho
   rcases ho with ho | rfl
   · exact h.cls o ho
   · exact ⟨c, hc.1, hc.2, rfl⟩
theorem put_tight {W O : Int} {r : RH} (h : Tight W O r) (k i w : Int) : Tight W O (r.put k i w).2 := by
 unfold RH.put
 split
 · exact h
 split
 · exact h
 split
 · exact h
 · refine ⟨h.words, h.oops, fun o ho => ?_⟩
   simp only [updO, List.mem_map] at ho
   obtain ⟨x, hx, rfl⟩ := ho
   split
   · exact h.cls x hx
   · exact h.cls x hx
theorem marks_tight {W O : Int} {r : RH} (h : Tight W O r) (k : Int) : Tight W O (r.marks k).2 := by
 unfold RH.marks; split
 · exact ⟨h.words, h.oops, h.cls⟩
 · exact h
theorem keep_tight {W O : Int} {r : RH} (h : Tight W O r) (l : List Int) : Tight W O (r.keep l).2 := by
 unfold RH.keep
 split
 · exact h
 · refine ⟨h.words, h.oops, fun o ho => ?_⟩
   obtain ⟨x, hx, e, _⟩ := slide_mem ho
   have := h.cls x (List.mem_filter.1 hx).1
   rw [e]; exact this
theorem lay_tight {W O : Int} {r : RH} (h : Tight W O r) (o i : Int) (l : List Int) : Tight W O (r.lay o i l) := by
 induction l generalizing r i with
 | nil => exact h
 | cons w l ih => exact ih (put_tight h _ _ _) _
theorem salloc_tight {W O : Int} {s : SP} (h : Tight W O s.h) {c : Int} (hc : 4 ≤ c ∧ c ≤ 17) (n f : Int) : Tight W O (s.alloc (4 * c) n f).2.h := by
 unfold SP.alloc
 split
 · exact alloc_tight h hc _ _
 · exact alloc_tight (keep_tight h _) hc _ _
theorem keepW_h (s : SP) (ws : List Int) : (s.keepW ws).2.h = s.h := by
 unfold SP.keepW
 split
 · rfl
 split <;> rfl
theorem drop_h (s : SP) (n : Int) : (s.drop n).2.h = s.h := by
 unfold SP.drop
 split <;> rfl
theorem make_tight {W O : Int} {s : SP} (h : Tight W O s.h) {c : Int} (hc : 4 ≤ c ∧ c ≤ 17) (ws : List Int) : Tight W O (s.make c ws).2.h := by
 have ha := salloc_tight h hc ws.length 0
 unfold SP.make
 split
 · exact ha
 · rw [keepW_h]
   exact lay_tight ha _ _ _
theorem array_tight {W O : Int} {s : SP} (h : Tight W O s.h) (ws : List Int) : Tight W O (s.array ws).2.h := by
 unfold SP.array
 split
 · exact h
 · exact make_tight h ⟨by decide, by decide⟩ _
theorem setRoot_tight {W O : Int} {s : SP} (h : Tight W O s.h) (i w : Int) : Tight W O (s.setRoot i w).2.h := put_tight h _ _ _
theorem kDef_tight {W O : Int} {s : SP} (h : Tight W O s.h) (t : TB) (cw : List Int) (name : ByteArray) (up : Int) (own : List ByteArray) : Tight W O (kDef s t cw name up own).2.1.h := by
 unfold kDef
 split
 · exact h
 split
 · exact h
 unfold kDef1
 split
 · exact array_tight h _
 unfold kDef2
 split
 · exact make_tight (array_tight h _) ⟨by decide, by decide⟩ _
 unfold kDef3
 split
 · exact array_tight (make_tight (array_tight h _) ⟨by decide, by decide⟩ _) _
 · exact setRoot_tight (array_tight (make_tight (array_tight h _) ⟨by decide, by decide⟩ _) _) _ _
theorem kGlob_tight {W O : Int} {s : SP} (h : Tight W O s.h) (t : TB) (gw : List Int) (name : ByteArray) : Tight W O (kGlob s t gw name).2.1.h := by
 unfold kGlob
 split
 · exact h
 unfold kGlob1
 split
 · exact array_tight h _
 · exact setRoot_tight (array_tight h _) _ _
theorem kEnd_tight {W O : Int} {s : SP} (h : Tight W O s.h) (t : TB) (m c k e : Int) : Tight W O (kEnd s t m c k e).1.h := by
 unfold kEnd
 split
 · rw [drop_h]; exact h
 · show Tight W O (if e = 24 then s.h else (s.h.marks m).2)
   split
   · exact h
   · exact marks_tight h _
theorem add_not24 (t : TB) (x : ByteArray) : (t.add x).1.2 ≠ 24 := by
 unfold TB.add
 split
 · simp
 split
 · simp
 split <;> simp
theorem addAll_not24 (own : List ByteArray) : ∀ (t : TB) (ns : List Int), (t.addAll ns own).1.2 ≠ 24 := by
 induction own with
 | nil => intro t ns; unfold TB.addAll; simp
 | cons x l ih =>
   intro t ns
   unfold TB.addAll
   split
   · exact add_not24 t x
   · exact ih _ _
theorem alloc_24 {r : RH} {c n f : Int} (h : (r.alloc c n f).1.2 = 24) : (r.alloc c n f).2.mark = 0 := by
 unfold RH.alloc at h ⊢
 split
 · rename_i h1; rw [if_pos h1] at h; cases h
 rename_i h1
 rw [if_neg h1] at h
 split
 · rename_i h2; rw [if_pos h2] at h; cases h
 rename_i h2
 rw [if_neg h2] at h
 split
 · rename_i h3; rw [if_pos h3] at h; cases h
 rename_i h3
 rw [if_neg h3] at h
 split
 · rfl
 · rename_i h4; rw [if_neg h4] at h; cases h
theorem salloc_24 {s : SP} {c n f : Int} (h : (s.alloc c n f).1.2 = 24) : (s.alloc c n f).2.h.mark = 0 := by
 unfold SP.alloc at h ⊢
 split
 · rename_i h1; rw [if_pos h1] at h; exact alloc_24 h
 · rename_i h1; rw [if_neg h1] at h; exact alloc_24 h
theorem keepW_not24 (s : SP) (ws : List Int) : (s.keepW ws).1 ≠ 24 := by
 unfold SP.keepW
 split
 · simp
 split <;> simp
theorem make_24 {s : SP} {c : Int} {ws : List Int} (h : (s.make c ws).1.2 = 24) : (s.make c ws).2.h.mark = 0 := by
 unfold SP.make at h ⊢
 split
 · rename_i h1; rw [if_pos h1] at h; exact salloc_24 h
 · rename_i h1; rw [if_neg h1] at h; exact absurd h (keepW_not24 _ _)
theorem array_24 {s : SP} {ws : List Int} (h : (s.array ws).1.2 = 24) : (s.array ws).2.h.mark = 0 := by
 unfold SP.array at h ⊢
 split
 · rename_i h1; rw [if_pos h1] at h; cases h
 · rename_i h1; rw [if_neg h1] at h; exact make_24 h
theorem kDef_24 {s : SP} {t : TB} {cw : List Int} {name : ByteArray} {up : Int} {own : List ByteArray} (h : (kDef s t cw name up own).1.2 = 24) : (kDef s t cw name up own).2.1.h.mark = 0 := by
 unfold kDef at h ⊢
 split
 · rename_i h1; rw [if_pos h1] at h; exact absurd h (add_not24 _ _)
 rename_i h1
 rw [if_neg h1] at h
 split
 · rename_i h2; rw [if_pos h2] at h; exact absurd h (addAll_not24 _ _ _)
 rename_i h2
 rw [if_neg h2] at h
 unfold kDef1 at h ⊢
 split
 · rename_i h3; rw [if_pos h3] at h; exact array_24 h
 rename_i h3
 rw [if_neg h3] at h
 unfold kDef2 at h ⊢
 split
 · rename_i h4; rw [if_pos h4] at h; exact make_24 h
 rename_i h4
 rw [if_neg h4] at h
 unfold kDef3 at h ⊢
 split
 · rename_i h5; rw [if_pos h5] at h; exact array_24 h
 · rename_i h5; rw [if_neg h5] at h; cases h
theorem kGlob_24 {s : SP} {t : TB} {gw : List Int} {name : ByteArray} (h : (kGlob s t gw name).1 = 24) : (kGlob s t gw name).2.1.h.mark = 0 := by
 unfold kGlob at h ⊢
 split
 · rename_i h1; rw [if_pos h1] at h; exact absurd h (add_not24 _ _)
 rename_i h1
 rw [if_neg h1] at h
 unfold kGlob1 at h ⊢
 split
 · rename_i h2; rw [if_pos h2] at h; exact array_24 h
 · rename_i h2; rw [if_neg h2] at h; cases h
theorem marks_mark {r : RH} (h : WFH r) (r' : RH) : (r'.marks r.mark).2.mark = r.mark := by
 unfold RH.marks
 rw [if_pos ⟨h.m0, h.m1⟩]
structure Tame (v : KV) : Prop where
 rest : v.rest = [72, 72, 4, 8, 12, 4]
 glob : ∀ p ∈ v.glob, p.2 = 4
 cls : ∀ c ∈ v.cls, c.selA = 18 ∧ c.metA = 18 ∧ c.sels = [] ∧ c.mets = []
def KV.roles2 (v : KV) : List Role := (2, []) :: (3, []) :: v.roles
structure K2 (W O : Int) (s : SP) (t : TB) (v : KV) : Prop where
 all : KAll s t v
 tame : Tame v
 tight : Tight W O s.h
 o2 : Arr s.h 2 []
 o3 : Arr s.h 3 []
theorem K2.view {W O : Int} {s : SP} {t : TB} {v : KV} (h : K2 W O s t v) : ∀ p ∈ v.roles2, Arr s.h p.1 p.2 := fun p hp => by
 simp only [KV.roles2, List.mem_cons] at hp
 rcases hp with rfl | rfl | hp
 · exact h.o2
 · exact h.o3
 · exact h.all.ks.view p hp
theorem cls_role {v : KV} {i : Nat} (hi : i < v.cls.length) : ((v.cls[i]).oop, (v.cls[i]).slots i) ∈ v.roles2 := by
 simp only [KV.roles2, KV.roles, List.mem_cons]
 exact .inr (.inr (.inr (.inr (.inr (.inr (.inr (mem_croles hi (by simp [crole]))))))))
theorem own_role {v : KV} {i : Nat} (hi : i < v.cls.length) : ((v.cls[i]).ownA, (v.cls[i]).own.map symW) ∈ v.roles2 := by
 simp only [KV.roles2, KV.roles, List.mem_cons]
 exact .inr (.inr (.inr (.inr (.inr (.inr (.inr (mem_croles hi (by simp [crole]))))))))
theorem sym_kind (n : Nat) : kindW (symW n) ≠ 3 := by
 unfold symW; have := kind_cases (4 * (n : Int) + 2); omega
theorem globW_mem {l : List (Nat × Int)} {w : Int} (h : w ∈ globW l) : (∃ n, w = symW n) ∨ ∃ p ∈ l, w = p.2 := by
 induction l with
 | nil => cases h
 | cons p l ih =>
   obtain ⟨n, x⟩ := p
   simp only [globW, List.mem_cons] at h
   rcases h with rfl | rfl | h
   · exact .inl ⟨n, rfl⟩
   · exact .inr ⟨(n, w), by simp, rfl⟩
   · rcases ih h with h | ⟨p, hp, e⟩
     · exact .inl h
     · exact .inr ⟨p, by simp [hp], e⟩
theorem roles_closed {v : KV} (hs : KShape v) (ht : Tame v) {p : Role} (hp : p ∈ v.roles2) {w : Int} (hw : w ∈ p.2) (hk : kindW w = 3) : ∃ q ∈ v.roles2, q.1 = w / 4 := by
 have r1 : ((1, []) : Role) ∈ v.roles2 := by simp [KV.roles2, KV.roles]
 have r18 : ((18, []) : Role) ∈ v.roles2 := by simp [KV.roles2, KV.roles]
 have r2 : ((2, []) : Role) ∈ v.roles2 := by simp [KV.roles2]
 have r3 : ((3, []) : Role) ∈ v.roles2 := by simp [KV.roles2]
 simp only [KV.roles2, KV.roles, List.mem_cons] at hp
 rcases hp with rfl | rfl | rfl | rfl | rfl | rfl | rfl | hp
 · cases hw
 · cases hw
 · simp only [KV.rootW, ht.rest, List.mem_cons, List.not_mem_nil, or_false] at hw
   rcases hw with rfl | rfl | rfl | rfl | rfl | rfl | rfl | rfl
   · exact ⟨(v.clsA, v.clsW), by simp [KV.roles2, KV.roles], by show v.clsA = _; omega⟩
   · exact ⟨(v.globA, globW v.glob), by simp [KV.roles2, KV.roles], by show v.globA = _; omega⟩
   · exact ⟨_, r18, rfl⟩
   · exact ⟨_, r18, rfl⟩
   · exact ⟨_, r1, rfl⟩
   · exact ⟨_, r2, rfl⟩
   · exact ⟨_, r3, rfl⟩
   · exact ⟨_, r1, rfl⟩
 · simp only [KV.clsW, List.mem_map] at hw
   obtain ⟨c, hc, rfl⟩ := hw
   obtain ⟨i, hi, rfl⟩ := List.getElem_of_mem hc
   exact ⟨_, cls_role hi, by show (v.cls[i]).oop = _; omega⟩
 · rcases globW_mem hw with ⟨n, rfl⟩ | ⟨p, hp, rfl⟩
   · exact absurd hk (sym_kind n)
   · rw [ht.glob p hp]
     exact ⟨_, r1, rfl⟩
 · cases hw
 · cases hw
 · obtain ⟨i, hi, hp⟩ := of_croles hp
   rw [Nat.zero_add] at hp
   obtain ⟨t1, t2, t3, t4⟩ := ht.cls _ (List.getElem_mem hi)
   simp only [crole, List.mem_cons, List.not_mem_nil, or_false] at hp
   rcases hp with rfl | rfl | rfl | rfl
   · simp only [CV.slots, List.mem_cons, List.not_mem_nil, or_false] at hw
     rcases hw with rfl | rfl | rfl | rfl | rfl | rfl | rfl
     · exact absurd hk (sym_kind _)
     · by_cases h0 : 0 < i
       · obtain ⟨j, hj, _, e⟩ := hs.ups i hi h0
         exact ⟨_, cls_role hj, by show (v.cls[j]).oop = _; omega⟩
       · have h00 : i = 0 := by omega
         subst h00
         refine ⟨_, r1, ?_⟩
         have := (hs.up0 hi).1
         show (1 : Int) = _
         omega
     · exact ⟨_, own_role hi, by show (v.cls[i]).ownA = _; omega⟩
     · rw [t1]; exact ⟨_, r18, rfl⟩
     · rw [t2]; exact ⟨_, r18, rfl⟩
     · exfalso
       have := kind_cases (2 * (v.cls[i]).lay + 1); omega
     · exfalso
       have := kind_cases (2 * ((i : Int) + 1) + 1); omega
   · simp only [List.mem_map] at hw
     obtain ⟨n, _, rfl⟩ := hw
     exact absurd hk (sym_kind n)
   · rw [t3] at hw; cases hw
   · rw [t4] at hw; cases hw
theorem named_ne {r : RH} {w : Int} (h : namedO r w ≠ 0) : kindW w = 3 ∧ namedO r w = w / 4 := by
 unfold namedO at *
 split at h
 · rename_i hc; rw [if_pos hc]; exact ⟨hc.1, rfl⟩
 · exact absurd rfl h
theorem reach_role {W O : Int} {s : SP} {t : TB} {v : KV} (h : K2 W O s t v) {k : Int} (hr : Reaches s.h s.roots k) : ∃ p ∈ v.roles2, p.1 = k := by
 have hs := h.all.ks.shape
 have hro : s.roots = [76] := by rw [h.all.ks.roots, h.all.stack]
 induction hr with
 | root hw hn =>
   rw [hro] at hw
   simp only [List.mem_singleton] at hw
   subst hw
   rw [(named_ne hn).2]
   exact ⟨(19, v.rootW), by simp [KV.roles2, KV.roles], rfl⟩
 | @cls o _ ho hn _ =>
   rw [(named_ne hn).2]
   obtain ⟨c, h1, h2, e⟩ := h.tight.cls o ho
   have hm := hs.many0
   have hi : (c - 4).toNat < v.cls.length := by omega
   have := hs.kern _ hi (by omega)
   exact ⟨_, cls_role hi, by show (v.cls[(c - 4).toNat]).oop = _; rw [this]; omega⟩
 | @slot o w _ ho hf hw hn ih =>
   rw [(named_ne hn).2]
   obtain ⟨p, hp, e⟩ := ih
   obtain ⟨x, h1, _, h3⟩ := h.view p hp
   rw [e, objAt_mem h.all.ks.wf.h.objs ho] at h1
   cases h1
   rw [h3] at hw
   exact roles_closed hs h.tame hp hw (named_ne hn).1
theorem role_reach {W O : Int} {s : SP} {t : TB} {v : KV} (h : K2 W O s t v) {p : Role} (hp : p ∈ v.roles2) : Reaches s.h s.roots p.1 := by
 have hr := h.all.ks.reach
 have hroot := hr (19, v.rootW) (by simp [KV.roles])
 simp only [KV.roles2, List.mem_cons] at hp
 rcases hp with rfl | rfl | hp
 · exact hroot.arr h.all.ks.view.root (by decide) (by decide) h.o2.there (by simp [KV.rootW, h.tame.rest])
 · exact hroot.arr h.all.ks.view.root (by decide) (by decide) h.o3.there (by simp [KV.rootW, h.tame.rest])
 · exact hr p hp
theorem reach_eq (r : RH) (ws : List Int) : r.reach ws = ((List.range (r.oops + 1).toNat).map fun i : Nat => (i : Int)).filter fun k => decide (Reaches r ws k) := by
 unfold RH.reach RH.all RH.upto
 rw [List.filter_filter]
 refine List.filter_congr fun k _ => ?_
 by_cases h : Reaches r ws k
 · have := h.there
   cases ho : objAt r.objs k with
   | none => exact absurd ho this
   | some x => simp [h]
 · simp [h]
theorem room_same {W O : Int} {s s' : SP} {t t' : TB} {v : KV} (h : K2 W O s t v) (h' : K2 W O s' t' v) : s'.room = s.room := by
 have hiff : ∀ k, Reaches s'.h s'.roots k ↔ Reaches s.h s.roots k := fun k =>
   ⟨fun hr => by obtain ⟨p, hp, rfl⟩ := reach_role h' hr; exact role_reach h hp, fun hr => by obtain ⟨p, hp, rfl⟩ := reach_role h hr; exact role_reach h' hp⟩
 have hre : s'.reach = s.reach := by
   unfold SP.reach
   rw [reach_eq, reach_eq, h.tight.oops, h'.tight.oops]
   refine List.filter_congr fun k _ => ?_
   simp only [hiff k]
 unfold SP.room
 rw [hre, h.tight.words, h'.tight.words, h.tight.oops, h'.tight.oops]
 refine Prod.ext ?_ rfl
 show W - _ = W - _
 congr 2
 refine List.map_congr_left fun k hk => ?_
 obtain ⟨p, hp, rfl⟩ := reach_role h ((RH.mem_reach h.all.ks.wf.h).1 hk)
 obtain ⟨x, h1, h2, h3⟩ := h.view p hp
 obtain ⟨y, g1, g2, g3⟩ := h'.view p hp
 rw [h1, g1]
 show y.len = x.len
 unfold RO.len
 rw [h2, g2, h3, g3]
theorem K2.marks {W O : Int} {s : SP} {t : TB} {v : KV} (h : K2 W O s t v) (k : Int) : K2 W O { s with h := (s.h.marks k).2 } t v :=
 ⟨h.all.marks k, h.tame, marks_tight h.tight k, h.o2.keep (marks_keeps k) trivial, h.o3.keep (marks_keeps k) trivial⟩
theorem K2.both {W O : Int} {s : SP} {t : TB} {v : KV} (h : K2 W O s t v) {r' : RH} (hk : KeepsB s.h r' fun k => Reaches s.h s.roots k ∧ k ≠ 19) : Arr r' 2 [] ∧ Arr r' 3 [] :=
 ⟨h.o2.keep hk ⟨role_reach h (p := (2, [])) (by simp [KV.roles2]), by decide⟩, h.o3.keep hk ⟨role_reach h (p := (3, [])) (by simp [KV.roles2]), by decide⟩⟩
theorem kEnd_keep {s : SP} {r : RH} {P : Int → Prop} (h : KeepsB r s.h P) (t : TB) (m c k e : Int) : KeepsB r (kEnd s t m c k e).1.h P := by
 unfold kEnd
 split
 · rw [drop_h]; exact h
 · show KeepsB r (if e = 24 then s.h else (s.h.marks m).2) P
   split
   · exact h
   · exact h.trans ((marks_keeps m).mono fun _ _ => trivial)
theorem ownE_not24 (inh : List ByteArray) (own : List ByteArray) : ∀ pre, ownE inh pre own ≠ 24 := by
 induction own with
 | nil => intro pre; unfold ownE; decide
 | cons x l ih =>
   intro pre
   unfold ownE
   split
   · decide
   split
   · decide
   split
   · decide
   · exact ih _
theorem defK_not24 {s : SP} {v : KV} {t : TB} (name sup : ByteArray) (own : List ByteArray) : (defK v t name sup own).2 ≠ 24 := by
 unfold defK
 split
 · decide
 split
 · decide
 split
 · rcases findK_cases v t sup with ⟨e, _⟩ | ⟨j, hj, e, _⟩ <;> rw [e] <;> simp
 split
 · decide
 split
 · decide
 split
 · exact ownE_not24 _ _ _
 split
 · decide
 split <;> simp
theorem define_two {W O : Int} {s : SP} {t : TB} {v : KV} (h : K2 W O s t v) (name sup : ByteArray) (own : List ByteArray) :
   ((kDefineAll s v t name sup own).1.2 ≠ 0 → (kDefineAll s v t name sup own).1.1 = 0 ∧ K2 W O (kDefineAll s v t name sup own).2.1 t v ∧ (kDefineAll s v t name sup own).2.2 = t ∧
     ((kDefineAll s v t name sup own).1.2 ≠ 24 → (kDefineAll s v t name sup own).2.1.h.mark = s.h.mark) ∧ ((kDefineAll s v t name sup own).1.2 = 24 → (kDefineAll s v t name sup own).2.1.h.mark = 0)) ∧
   ((kDefineAll s v t name sup own).1.2 = 0 → ∃ j, ∃ hj : j < v.cls.length, ∃ n ns l d, findK v t sup = ((v.cls[j]).oop, 0) ∧
     K2 W O (kDefineAll s v t name sup own).2.1 (kDefineAll s v t name sup own).2.2 (v.addC ⟨(kDefineAll s v t name sup own).1.1, n, (v.cls[j]).oop, ns, l, 18, 18, [], [], 0⟩ d) ∧
     (∃ m, (kDefineAll s v t name sup own).2.2.texts = t.texts ++ m) ∧ tx (kDefineAll s v t name sup own).2.2 n = name ∧ ns.map (tx (kDefineAll s v t name sup own).2.2) = own) := by
 unfold kDefineAll
 by_cases hd : (defK v t name sup own).2 = 0
 · rw [if_neg (by simpa using hd)]
   obtain ⟨j, hj, ej, hlt, hno, hf, _⟩ := defK_ok h.all hd
   rw [ej]
   have D := kDef_ok h.all.ks (by rw [h.all.stack]; simp) hj hlt h.all.names.wf name own
   have A := kDefine_ok h.all hj hlt (name := name) (own := own) hno
   have T := kDef_tight h.tight t v.clsW name (v.cls[j]).oop own
   have M := @kDef_24 s t v.clsW name (v.cls[j]).oop own
   have e2 : (kDefine s t v.clsW name (v.cls[j]).oop own).1.2 = (kDef s t v.clsW name (v.cls[j]).oop own).1.2 := rfl
   have ht : Tight W O (kDefine s t v.clsW name (v.cls[j]).oop own).2.1.h := kEnd_tight T _ _ _ _ _
   have hb := h.both (r' := (kDefine s t v.clsW name (v.cls[j]).oop own).2.1.h) (kEnd_keep D.keep _ _ _ _ _)
   refine ⟨fun he => ?_, fun he => ?_⟩
   · obtain ⟨a1, a2, a3, _⟩ := A.1 he
     have a2' := a2
     rw [a3] at a2'
     refine ⟨a1, ⟨a2', h.tame, ht, hb.1, hb.2⟩, a3, fun h24 => ?_, fun h24 => ?_⟩
     · rw [e2] at he h24
       unfold kDefine kEnd
       simp only
       rw [if_neg he, if_neg h24]
       exact marks_mark h.all.ks.wf.h _
     · rw [e2] at he h24
       have := M h24
       unfold kDefine kEnd
       simp only
       rw [if_neg he, if_pos h24]
       exact this
   · obtain ⟨n, ns, l, d, a1, a2, a3, a4⟩ := A.2 he
     refine ⟨j, hj, n, ns, l, d, hf, ⟨a1, ⟨h.tame.rest, h.tame.glob, fun c hc => ?_⟩, ht, hb.1, hb.2⟩, a2, a3, a4⟩
     simp only [KV.addC, List.mem_append, List.mem_singleton] at hc
     rcases hc with hc | rfl
     · exact h.tame.cls c hc
     · exact ⟨rfl, rfl, rfl, rfl⟩
 · rw [if_pos hd]
   exact ⟨fun _ => ⟨rfl, h, rfl, fun _ => rfl, fun h24 => absurd h24 (defK_not24 (s := s) _ _ _)⟩, fun he => absurd he hd⟩
theorem global_two {W O : Int} {s : SP} {t : TB} {v : KV} (h : K2 W O s t v) (name : ByteArray) :
   ((kGlobalAll s v t name).1 ≠ 0 → K2 W O (kGlobalAll s v t name).2.1 t v ∧ (kGlobalAll s v t name).2.2 = t ∧
     ((kGlobalAll s v t name).1 ≠ 24 → (kGlobalAll s v t name).2.1.h.mark = s.h.mark) ∧ ((kGlobalAll s v t name).1 = 24 → (kGlobalAll s v t name).2.1.h.mark = 0)) ∧
   ((kGlobalAll s v t name).1 = 0 → ∃ n d, K2 W O (kGlobalAll s v t name).2.1 (kGlobalAll s v t name).2.2 (v.addG n d) ∧ (∃ m, (kGlobalAll s v t name).2.2.texts = t.texts ++ m) ∧ tx (kGlobalAll s v t name).2.2 n = name) := by
 unfold kGlobalAll
 by_cases hd : globK v t name = 0
 · rw [if_neg (by simpa using hd)]
   have hlt : v.glob.length < 256 := by
     unfold globK at hd
     split at hd
     · cases hd
     split at hd
     · cases hd
     split at hd
     · cases hd
     · omega
   have D := kGlob_ok h.all.ks (by rw [h.all.stack]; simp) hlt h.all.names.wf name
   have A := kGlobal_ok h.all hlt (name := name)
   have T := kGlob_tight h.tight t (globW v.glob) name
   have M := @kGlob_24 s t (globW v.glob) name
   have e2 : (kGlobal s t (globW v.glob) name).1 = (kGlob s t (globW v.glob) name).1 := rfl
   have ht : Tight W O (kGlobal s t (globW v.glob) name).2.1.h := kEnd_tight T _ _ _ _ _
   have hb := h.both (r' := (kGlobal s t (globW v.glob) name).2.1.h) (kEnd_keep D.keep _ _ _ _ _)
   refine ⟨fun he => ?_, fun he => ?_⟩
   · obtain ⟨a2, a3, _⟩ := A.1 he
     have a2' := a2
     rw [a3] at a2'
     refine ⟨⟨a2', h.tame, ht, hb.1, hb.2⟩, a3, fun h24 => ?_, fun h24 => ?_⟩
     · rw [e2] at he h24
       unfold kGlobal kEnd
       simp only
       rw [if_neg he, if_neg h24]
       exact marks_mark h.all.ks.wf.h _
     · rw [e2] at he h24
       have := M h24
       unfold kGlobal kEnd
       simp only
       rw [if_neg he, if_pos h24]
       exact this
   · obtain ⟨n, d, a1, a2, a3⟩ := A.2 he
     refine ⟨n, d, ⟨a1, ⟨h.tame.rest, fun p hp => ?_, h.tame.cls⟩, ht, hb.1, hb.2⟩, a2, a3⟩
     simp only [KV.addG, List.mem_append, List.mem_singleton] at hp
     rcases hp with hp | rfl
     · exact h.tame.glob p hp
     · rfl
 · rw [if_pos hd]
   refine ⟨fun _ => ⟨h, rfl, fun _ => rfl, fun h24 => ?_⟩, fun he => absurd he hd⟩
   exfalso
   simp only at h24
   unfold globK at h24
   split at h24
   · cases h24
   split at h24
   · cases h24
   split at h24 <;> cases h24
theorem bootH_cls (w o m b t : Int) : ((bootH ⟨w, o, m, b, t, bootL⟩).objs.all fun x => decide (4 ≤ x.cls / 4) && decide (x.cls / 4 ≤ 17) && decide (x.cls = 4 * (x.cls / 4))) = true := by kernel_rfl
theorem bootH_same (w o m b t : Int) : (bootH ⟨w, o, m, b, t, bootL⟩).words = w ∧ (bootH ⟨w, o, m, b, t, bootL⟩).oops = o := ⟨by kernel_rfl, by kernel_rfl⟩
theorem boot_tight {words oops : Int} (h : ((bootR0 words oops).allocAll bootPlan).1 = 0) : Tight words oops (bootRH words oops) := by
 have e : ((bootR0 words oops).allocAll bootPlan).2 = ⟨words, oops, 0, 20, 0, bootL⟩ := by
   rw [allocAll_grow bootPlan (r := bootR0 words oops) rfl h]
   kernel_rfl
 unfold bootRH
 rw [e]
 have hs := bootH_same words oops 0 20 0
 refine ⟨hs.1, hs.2, fun x hx => ?_⟩
 have := List.all_eq_true.1 (bootH_cls words oops 0 20 0) x hx
 simp only [Bool.and_eq_true, decide_eq_true_eq] at this
 exact ⟨x.cls / 4, this.1.1, this.1.2, this.2⟩
attribute [local irreducible] bootRH
theorem boot_two {words oops : Int} (h0 : 0 ≤ words) (h1 : words ≤ 1048576) (h2 : 0 ≤ oops) (h3 : oops ≤ 65536) (h : ((bootR0 words oops).allocAll bootPlan).1 = 0) : K2 words oops (bootS words oops) bootT bootV := by
 have hw : WFH (bootRH words oops) := bootRH_wf h0 h1 h2 h3
 refine ⟨boot_ok h0 h1 h2 h3 h, ⟨rfl, fun p hp => (by cases hp), fun c hc => ?_⟩, boot_tight h, bootArr hw h (p := (2, [])) (by simp [bootO]), bootArr hw h (p := (3, [])) (by simp [bootO])⟩
 simp only [bootV, List.mem_map] at hc
 obtain ⟨i, _, rfl⟩ := hc
 exact ⟨rfl, rfl, rfl, rfl⟩
end Kw
namespace Go.Proofs.YtmkdkplipbocjaaGreatDoor
open Kw
attribute [local irreducible] bootRH bootH bootL
section
variable {H : Heap} {Q : QT}
theorem boot160 : ((bootR0 160 20).allocAll bootPlan).1 = 0 := by kernel_rfl
theorem sound_c (hk : Kinds H) {Q : QT} (h : ∀ b F H', PK H' b F (bootS 160 20) bootT → Fr [] H H' → (∀ x ∈ F, H.size ≤ x) → Q (.tuple #[.pointer (some ⟨b, 0, none⟩), .int .i64 0]) H') : callS PP n_k10 #[.int .i64 160, .int .i64 20] Q H :=
 kboot_k hk (fun hb => absurd ⟨by decide, by decide, by decide, by decide⟩ hb) (fun _ he => absurd boot160 he) fun _ _ => h
theorem classBoots_c {words oops : Int} (hk : Kinds H) (hN : NamesAt H) (h : ∀ H', Fr [] H H' → Q (.bool true) H') : callS PP n_k3 #[.int .i64 words, .int .i64 oops] Q H := by
 apply k3_ok
 unfold k3 iV pV cS
 have nok : ∀ (H3 : Heap), Fr [] H H3 → callS PP n_k10 #[.int .i64 160, .int .i64 20] (fun v11 H4 => ∃ p12 : Option Addr, ∃ n13 : Int, v11 = .tuple #[.pointer p12, .int .i64 n13] ∧ cond (!(Option.isNone p12)) (callS PP n_k12 #[.int .i64 n13] (fun v14 H5 => ∃ n15 : Int, v14 = .int .i64 n15 ∧ cond (n15 == 0) (callS PP n_k13 #[] (fun v16 H6 => ∃ b17 : Bool, v16 = .bool b17 ∧ Q (.bool b17) H6) H5) (Q (.bool false) H5)) H4) (Q (.bool false) H4)) H3 := by
   intro H3 F3
   refine sound_c (hk.fr F3 (by simp)) fun b F H4 _ f4 _ => ⟨_, _, rfl, ?_⟩
   simp only [Option.isNone_some, Bool.not_false, cond_true]
   refine num1_c ⟨_, rfl, ?_⟩
   rw [beqI, cond_dec, if_pos rfl]
   exact none_c fun H5 f5 => ⟨_, rfl, h _ ((F3.trans f4).trans f5)⟩
 have bad : ∀ (e : Int) (H2 : Heap), Fr [] H H2 → (∀ {Q' : Value → Heap → Prop} (_ : ∀ H3, Fr [] H2 H3 → Q' (.tuple #[.pointer none, .int .i64 e]) H3), callS PP n_k11 #[.int .i64 words, .int .i64 oops] Q' H2) →
     callS PP 11 #[.int .i64 words, .int .i64 oops] (fun v6 H2 => ∃ p7 : Option Addr, ∃ n8 : Int, v6 = .tuple #[.pointer p7, .int .i64 n8] ∧ callS PP 12 #[.int .i64 e] (fun v9 H3 => ∃ words0 : Int, v9 = .int .i64 words0 ∧ cond (words0 != n8) (Q (.bool false) H3) (cond (!((Option.isNone (none : Option Addr)) == (Option.isNone p7))) (Q (.bool false) H3) (cond (Option.isNone (none : Option Addr)) (callS PP 10 #[.int .i64 160, .int .i64 20] (fun v11 H4 => ∃ p12 : Option Addr, ∃ words3 : Int, v11 = .tuple #[.pointer p12, .int .i64 words3] ∧ cond (!(Option.isNone p12)) (callS PP 12 #[.int .i64 words3] (fun v14 H5 => ∃ words5 : Int, v14 = .int .i64 words5 ∧ cond (words5 == 0) (callS PP 13 #[] (fun v16 H6 => ∃ b17 : Bool, v16 = .bool b17 ∧ Q (.bool b17) H6) H5) (Q (.bool false) H5)) H4) (Q (.bool false) H4)) H3) (callS PP 14 #[.pointer (none : Option Addr), .int .i64 14] (fun v18 H7 => ∃ words9 : Int, ∃ oops0 : Int, v18 = .tuple #[.int .i64 words9, .int .i64 oops0] ∧ callS PP 15 #[.pointer (none : Option Addr), .pointer p7] (fun v21 H8 => ∃ b22 : Bool, v21 = .bool b22 ∧ cond b22 (cond (words9 == 17) (callS PP 12 #[.int .i64 oops0] (fun v23 H9 => ∃ oops4 : Int, v23 = .int .i64 oops4 ∧ cond (oops4 == 0) (callS PP 13 #[] (fun v25 H20 => ∃ b26 : Bool, v25 = .bool b26 ∧ Q (.bool b26) H20) H9) (Q (.bool false) H9)) H8) (Q (.bool false) H8)) (Q (.bool false) H8)) H7) H3)))) H2) H2 := by
   intro e H2 F2 hR
   refine hR fun H3 f3 => ⟨_, _, rfl, num1_c ⟨_, rfl, ?_⟩⟩
   rw [bneI, cond_dec, if_neg (fun hn => hn rfl)]
   simp only [Option.isNone_none, beq_self_eq_true, Bool.not_true, cond_false, cond_true]
   exact nok H3 (F2.trans f3)
 refine kboot_k hk (fun hb => ?_) (fun hg he H1 f1 => ?_) fun hg hz b F H1 hP f1 hF => ?_
 · refine ⟨_, _, rfl, bad 1 H (Fr.refl _ _) fun {Q'} hq => boot_r hN (fun _ => hq H (Fr.refl _ _)) (fun hg => absurd hg hb) fun hg => absurd hg hb⟩
 · refine ⟨_, _, rfl, bad _ H1 f1 fun {Q'} hq => boot_r (hN.fr f1 (by simp)) (fun hb => absurd hg hb) (fun _ _ H3 f3 => hq H3 f3) fun _ hz => absurd hz he⟩
 · refine ⟨_, _, rfl, boot_r (hN.fr f1 (by simp)) (fun hb => absurd hg hb) (fun _ he => absurd hz he) fun _ _ b2 F2 H2 hR f2 hF2 => ⟨_, _, rfl, num1_c ⟨_, rfl, ?_⟩⟩⟩
   rw [bneI, cond_dec, if_neg (fun hn => hn rfl)]
   simp only [Option.isNone_some, beq_self_eq_true, Bool.not_true, cond_false]
   have hv := boot_ok hg.1 hg.2.1 hg.2.2.1 hg.2.2.2 hz
   have F12 := f1.trans f2
   refine numbered_k (hP.nil f2) hv fun H3 f3 => ⟨_, _, rfl, ?_⟩
   have e14 : numberedK bootV 14 = (17, 0) := by kernel_rfl
   rw [e14]
   refine seen_c ((hP.nil f2).nil f3) (hR.nil f3) hv fun H4 f4 => ⟨_, rfl, ?_⟩
   simp only [cond_true]
   rw [beqI, cond_dec, if_pos rfl]
   refine num1_c ⟨_, rfl, ?_⟩
   rw [beqI, cond_dec, if_pos rfl]
   exact none_c fun H5 f5 => ⟨_, rfl, h _ (((F12.trans f3).trans f4).trans f5)⟩
end
end Go.Proofs.YtmkdkplipbocjaaGreatDoor
namespace Kw
open Go
theorem keptBut_of {W W' : World} {may : MemPlace → Prop} (hf : Fr [] W.heap W'.heap) (ho : W'.os = W.os) (hout : W'.output = W.output) : W.keptBut W' may := by
 refine ⟨ho, hout, fun i hi => ?_⟩
 rw [hf.2 i hi (by simp)]
 cases h : W.heap[i]? with
 | none => trivial
 | some o => cases o <;> first | exact ⟨rfl, rfl, rfl, fun _ _ => rfl⟩ | exact .inr ⟨rfl, rfl⟩ | rfl
theorem post_law {H : Type} {enc : TypeId × Value → H} {P : Program} {f : Func} {s : ChangeSpec} {apart fresh handsOn : Bool} {W W' : World} {args : Array Value} {v : Value} {ds gs : List (DataW H)} {before pa pv : List MemPlace}
   (hW : DataW.Whole enc P f.params.toList s.vars apart W args.toList ds gs before)
   (hres : ∀ (b : Nat) (sp : Nat → Bool) (hd : Bool), DataW.TrodAll enc P W' b sp hd f.resultTypes.toList (v.resultList f.resultTypes.size) (s.fn H (ds ++ gs)).results [])
   (hargs : ∀ sp : Nat → Bool, (∀ p ∈ before, sp p.block = true) → DataW.TrodAll enc P W' 0 sp true f.params.toList args.toList (s.fn H (ds ++ gs)).args pa)
   (hvars : ∀ sp : Nat → Bool, (∀ p ∈ before, sp p.block = true) → DataW.TrodVars enc P W' sp s.vars (s.fn H (ds ++ gs)).vars pv)
   (hf : Fr [] W.heap W'.heap) (ho : W'.os = W.os) (hout : W'.output = W.output) : s.post enc P f apart fresh handsOn false W args v W' :=
 ⟨ds, gs, before, [], pa, pv, hW, hres _ _ _, hargs _ (fun p hp => by simpa using hW.lt p hp), hvars _ (fun p hp => by simpa using hW.lt p hp), keptBut_of hf ho hout, fun h => by cases h⟩
end Kw
namespace Go.Proofs.YtmkdkplipbocjaaGreatDoor
open Kw
theorem ownK : ownKnob Tryz.prog.godebug = none := by kernel_rfl
theorem gNames : Tryz.prog.globalNamed "kiln/kilnref13.Names" = some g_kilnref13_Names := by kernel_rfl
theorem gKinds : Tryz.prog.globalNamed "kiln/word.kinds" = some g_word_kinds := by kernel_rfl
theorem gNamesT : (Tryz.prog.globals[g_kilnref13_Names]?).map (·.type) = some 115 := by kernel_rfl
theorem gKindsT : (Tryz.prog.globals[g_word_kinds]?).map (·.type) = some 284 := by kernel_rfl
theorem uNames : Tryz.prog.underlying 115 = some (.array 14 9) := by kernel_rfl
theorem uKinds : Tryz.prog.underlying 284 = some (.array 4 3) := by kernel_rfl
theorem uInt : Tryz.prog.underlying 3 = some (.int .i64) := by kernel_rfl
theorem uStr : Tryz.prog.underlying 9 = some .string := by kernel_rfl
theorem cInt : Tryz.prog.cellsOf 3 = 1 := by kernel_rfl
theorem cStr : Tryz.prog.cellsOf 9 = 1 := by kernel_rfl
theorem cell_var {W : World} {n : String} {g : Nat} {cs : Array Value} {i : Nat} {v : Value} (hg : PP.globalNamed n = some g) (hv : W.var? PP n = some cs) (h : cs[i]? = some v) : cellH W.heap ⟨g, i, none⟩ = some v := by
 have := World.var?_cell hg hv i
 rw [h] at this
 exact this
open Go.Lib in
theorem names_of_laid {W : World} (h : laidMet PP Rows.classBootsRow.laid W) : NamesAt W.heap := by
 obtain ⟨g, t, cs, fuel, p, hg, ht, hv, hd⟩ := laidMet.reads h (n := "kiln/kilnref13.Names") (d := Rows.laid_kiln_kilnref13_Names) (by simp [Rows.classBootsRow])
 obtain rfl := Option.some.inj (gNames.symm.trans hg)
 obtain rfl := Option.some.inj (gNamesT.symm.trans ht)
 intro i hi
 have h14 : i < 14 := hi
 obtain ⟨fuel', d, q, he, hd'⟩ := array_elem uNames hd i h14
 rw [cStr, Nat.mul_one] at hd'
 obtain ⟨s, hcs, hx, _⟩ := DataW.trod_string uStr hd'
 obtain ⟨hdx, _⟩ := Prod.mk.inj hx
 have hc : cs.toList[i]? = some (.string s) := by
   have := congrArg (·[0]?) hcs
   simpa [List.getElem?_take, List.getElem?_drop] using this
 have hs : s = kNames[i] := by
   have e : some d = some (.lit (.string (kNames[i]).data.toList) : DataW Unit) := by
     rw [← he]
     rcases i with _ | _ | _ | _ | _ | _ | _ | _ | _ | _ | _ | _ | _ | _ | i
     all_goals first | rfl | omega
   rw [hdx] at e
   have e2 : s.data.toList = (kNames[i]).data.toList := by simpa using e
   cases s with
   | mk sd =>
     have e3 : sd = (kNames[i]).data := Array.ext' e2
     rw [e3]
 have hf := cell_var gNames hv (i := i) (v := .string s) (by rw [← hc]; simp)
 rw [hs] at hf
 exact hf
open Go.Lib in
theorem kinds_of_laid {W : World} (h : laidMet PP Rows.classBootsRow.laid W) : Kinds W.heap := by
 obtain ⟨g, t, cs, fuel, p, hg, ht, hv, hd⟩ := laidMet.reads h (n := "kiln/word.kinds") (d := Rows.laid_kiln_word_kinds) (by simp [Rows.classBootsRow])
 obtain rfl := Option.some.inj (gKinds.symm.trans hg)
 obtain rfl := Option.some.inj (gKindsT.symm.trans ht)
 have one : ∀ i (k : Int), i < 4 → ([3, 1, 2, 1] : List Int)[i]? = some k → cellH W.heap ⟨g_word_kinds, i, none⟩ = some (.int .i64 k) := by
   intro i k hi hk
   obtain ⟨fuel', d, q, he, hd'⟩ := array_elem uKinds hd i hi
   rw [cInt, Nat.mul_one] at hd'
   obtain ⟨n, hcs, hx, _⟩ := DataW.trod_int uInt hd'
   obtain ⟨hdx, _⟩ := Prod.mk.inj hx
   have hc : cs.toList[i]? = some (.int .i64 n) := by
     have := congrArg (·[0]?) hcs
     simpa [List.getElem?_take, List.getElem?_drop] using this
   have hs : n = k := by
     have e : some d = some (.lit (.int .i64 k) : DataW Unit) := by
       rw [← he]
       rcases i with _ | _ | _ | _ | i
       all_goals first | omega | (cases hk; rfl)
     rw [hdx] at e
     simpa using e
   have hf := cell_var gKinds hv (i := i) (v := .int .i64 n) (by rw [← hc]; simp)
   rw [hs] at hf
   exact hf
 exact ⟨one 0 3 (by decide) rfl, one 1 1 (by decide) rfl, one 2 2 (by decide) rfl, one 3 1 (by decide) rfl⟩
end Go.Proofs.YtmkdkplipbocjaaGreatDoor
namespace Go.Proofs.YtmkdkplipbocjaaGreatDoor
open Kw
section
variable {H : Heap} {bp br : Nat} {Fp Fq : Foot} {s : SP} {t : TB} {v : KV} {Q : QT}
theorem blkA {b : Nat} {cs : Array Value} (h : Blk H b cs) (j : Nat) {v : Value} (hv : cs[j]? = some v) : cellH H ((⟨b, 0, none⟩ : Addr).add j) = some v := by
 rw [add_none, Nat.zero_add, h.cell j]; exact hv
theorem Outs.more {H H' : Heap} {a : Option Addr} {l : Nat} {F : Foot} (h : Outs H a l F) (hs : H.size ≤ H'.size) : Outs H' a l F := h.imp id fun h p hp => ⟨Nat.lt_of_lt_of_le (h p hp).1 hs, (h p hp).2⟩
theorem rd_prefix {a : Option Addr} {l l' : Nat} {xs ys : List Value} (h : Rd 1 H a l' (xs ++ ys)) (hl : l = xs.length) : Rd 1 H a l xs := by
 have h1 := h.1
 simp only [List.length_append] at h1
 refine ⟨by omega, fun ha => by have := h.2.1 ha; omega, fun p hp i hi => ?_⟩
 rw [h.2.2 p hp i (by omega), List.getElem?_append_left (by omega)]
end
theorem condI {a b : Int} {A B : Prop} (h1 : a = b → A) (h2 : a ≠ b → B) : cond (a == b) A B := by
 rw [beqI, cond_dec]
 exact ite_i h1 h2
section
variable {H : Heap} {bp br : Nat} {Fp Fq : Foot} {s : SP} {t : TB} {v : KV} {Q : QT}
end
attribute [local irreducible] bootRH bootH bootL
structure StepV where
 kind : Int
 i : Int
 word : Int
 name : ByteArray
 other : ByteArray
 names : List ByteArray
def StepV.vals (x : StepV) (a : Option Addr) (l c : Nat) : List Value := [.int .i64 x.kind, .int .i64 x.i, .int .i64 x.word, .string x.name, .string x.other, .slice a l c]
def StepV.ok (H : Heap) (x : StepV) (a : Option Addr) (l c : Nat) : Prop := Rd 1 H a l (strsV x.names) ∧ l ≤ c ∧ l ≤ 10000000000000 ∧ (l = 0 ∨ ∀ q, a = some q → q.block < H.size)
def StepAt (H : Heap) (p : Addr) (x : StepV) : Prop := ∃ a l c, (∀ j v, (x.vals a l c)[j]? = some v → cellH H (p.add j) = some v) ∧ x.ok H a l c
def StepsAt (H : Heap) (a : Option Addr) (n : Nat) (xs : List StepV) : Prop := xs.length = n ∧ ∀ i x, xs[i]? = some x → ∃ p, a = some p ∧ StepAt H (p.add (i * 6)) x
theorem cell_lt' {H : Heap} {a : Addr} {v : Value} (h : cellH H a = some v) : a.block < H.size := by
 unfold cellH at h
 rcases Nat.lt_or_ge a.block H.size with h1 | h1
 · exact h1
 · rw [Array.getElem?_eq_none h1] at h; cases h
theorem cell_keep {H H' : Heap} (hf : Fr [] H H') {a : Addr} {v : Value} (h : cellH H a = some v) : cellH H' a = some v := by
 have hb := cell_lt' h
 unfold cellH at h ⊢
 rw [hf.2 _ hb (by simp)]
 exact h
theorem StepAt.fr {H H' : Heap} (hf : Fr [] H H') {p : Addr} {x : StepV} (h : StepAt H p x) : StepAt H' p x := by
 obtain ⟨a, l, c, h1, h2, h3, h4, h5⟩ := h
 exact ⟨a, l, c, fun j v hv => cell_keep hf (h1 j v hv), h2.fr' hf (fun _ _ => by simp), h3, h4, h5.imp id fun h5 q hq => Nat.lt_of_lt_of_le (h5 q hq) hf.1⟩
theorem StepsAt.fr {H H' : Heap} (hf : Fr [] H H') {a : Option Addr} {n : Nat} {xs : List StepV} (h : StepsAt H a n xs) : StepsAt H' a n xs :=
 ⟨h.1, fun i x hx => by obtain ⟨p, hp, h1⟩ := h.2 i x hx; exact ⟨p, hp, h1.fr hf⟩⟩
section
variable {H : Heap} {Q : QT}
theorem condD {P : Prop} [Decidable P] {A B : Prop} (h1 : P → A) (h2 : ¬ P → B) : cond (decide P) A B := by
 rw [cond_dec]; exact ite_i h1 h2
end
end Go.Proofs.YtmkdkplipbocjaaGreatDoor
namespace Go.Proofs.YtmkdkplipbocjaaGreatDoor
open Kw Go.Deep
noncomputable def stepFs : Array Field := match PP.underlying 39 with
 | some (.struct fs) => fs
 | _ => #[]
theorem uStep : PP.underlying 39 = some (.struct stepFs) := by kernel_rfl
theorem uSteps : PP.underlying 35 = some (.slice 39) := by kernel_rfl
theorem uStrs : PP.underlying 37 = some (.slice 9) := by kernel_rfl
theorem uWord : PP.underlying 36 = some (.int .i64) := by kernel_rfl
theorem cWord : PP.cellsOf 36 = 1 := by kernel_rfl
theorem cStrs : PP.cellsOf 37 = 1 := by kernel_rfl
theorem cStep : PP.cellsOf 39 = 6 := by kernel_rfl
theorem bStr : PP.bytesOf 9 = 16 := by kernel_rfl
theorem bStep : PP.bytesOf 39 = 80 := by kernel_rfl
theorem stepF0 : (stepFs[0]?).map (fun f => (f.type, f.offset)) = some (3, 0) := by kernel_rfl
theorem stepF1 : (stepFs[1]?).map (fun f => (f.type, f.offset)) = some (3, 1) := by kernel_rfl
theorem stepF2 : (stepFs[2]?).map (fun f => (f.type, f.offset)) = some (36, 2) := by kernel_rfl
theorem stepF3 : (stepFs[3]?).map (fun f => (f.type, f.offset)) = some (9, 3) := by kernel_rfl
theorem stepF4 : (stepFs[4]?).map (fun f => (f.type, f.offset)) = some (9, 4) := by kernel_rfl
theorem stepF5 : (stepFs[5]?).map (fun f => (f.type, f.offset)) = some (37, 5) := by kernel_rfl
theorem field_open {Hh : Type} {enc : TypeId × Value → Hh} {W : World} {n : Nat} {fs : Array Field} {cs : List Value} {xs : List (DataW Hh × List MemPlace)} (hlen : xs.length = fs.size)
   (h : ∀ (i : Nat) (f : Field), fs[i]? = some f → DataW.trod enc PP W 0 (fun _ => true) true n f.type ((cs.drop f.offset).take (PP.cellsOf f.type)) = xs[i]?) {j : Nat} {t : TypeId} {off : Nat}
   (hf : (fs[j]?).map (fun f => (f.type, f.offset)) = some (t, off)) (hc : PP.cellsOf t = 1) : ∃ y, xs[j]? = some y ∧ DataW.trod enc PP W 0 (fun _ => true) true n t ((cs.drop off).take 1) = some y := by
 obtain ⟨f, hf1, hf2⟩ := Option.map_eq_some_iff.1 hf
 obtain ⟨rfl, rfl⟩ := Prod.mk.inj hf2
 have hj : j < fs.size := by
   rcases Nat.lt_or_ge j fs.size with h1 | h1
   · exact h1
   · rw [Array.getElem?_eq_none h1] at hf1; cases hf1
 have hx : xs[j]? = some (xs[j]'(by omega)) := List.getElem?_eq_getElem (by omega)
 refine ⟨_, hx, ?_⟩
 have := h j f hf1
 rw [hc, hx] at this
 exact this
theorem step_open {Hh : Type} {enc : TypeId × Value → Hh} {W : World} {n : Nat} {cs : List Value} {x : DataW Hh × List MemPlace} (h : DataW.trod enc PP W 0 (fun _ => true) true n 39 cs = some x) :
   ∃ y a l c, cs = StepV.vals y a l c ∧ Rd 1 W.heap a l (strsV y.names) ∧ l ≤ c ∧ (l = 0 ∨ ∃ m, (l + m) * 16 ∈ x.1.weights PP 39) := by
 obtain ⟨xs, n', _, rfl, hl, hxl, hx⟩ := DataW.trod_struct uStep h
 rw [cStep] at hl
 obtain ⟨y0, e0, t0⟩ := field_open hxl hx stepF0 cInt
 obtain ⟨y1, e1, t1⟩ := field_open hxl hx stepF1 cInt
 obtain ⟨y2, e2, t2⟩ := field_open hxl hx stepF2 cWord
 obtain ⟨y3, e3, t3⟩ := field_open hxl hx stepF3 cStr
 obtain ⟨y4, e4, t4⟩ := field_open hxl hx stepF4 cStr
 obtain ⟨y5, e5, t5⟩ := field_open hxl hx stepF5 cStrs
 obtain ⟨k0, v0, _, _⟩ := DataW.trod_int uInt t0
 obtain ⟨k1, v1, _, _⟩ := DataW.trod_int uInt t1
 obtain ⟨k2, v2, _, _⟩ := DataW.trod_int uWord t2
 obtain ⟨s3, v3, _⟩ := DataW.trod_string uStr t3
 obtain ⟨s4, v4, _⟩ := DataW.trod_string uStr t4
 have hcs : ∀ v5, (cs.drop 5).take 1 = [v5] → cs = [.int .i64 k0, .int .i64 k1, .int .i64 k2, .string s3, .string s4, v5] := fun v5 h5 => by
   match cs, hl with
   | [a, b, c, d, e, f], _ =>
     simp at v0 v1 v2 v3 v4 h5
     subst v0; subst v1; subst v2; subst v3; subst v4; subst h5
     rfl
 rcases open_strs uStrs uStr cStr t5 with ⟨h5, _⟩ | ⟨a, len, cap, m, Sx, h5, _, hlc, _, hm, hy, hS⟩
 · exact ⟨⟨k0, k1, k2, s3, s4, []⟩, none, 0, 0, hcs _ h5, ⟨rfl, fun _ => rfl, fun p hp => by cases hp⟩, Nat.le_refl _, .inl rfl⟩
 · refine ⟨⟨k0, k1, k2, s3, s4, (List.range len).map Sx⟩, some a, len, cap, hcs _ h5, ⟨by simp [strsV], fun h => (by cases h), fun p hp i hi => ?_⟩, hlc, .inr ⟨m - len, ?_⟩⟩
   · cases hp
     have hlm : len ≤ m := by rw [hm]; simpa using hlc
     have := (hS i (by omega)).1
     have hi' : i < len := by omega
     show W.cell? (a.add i) = _
     rw [this]
     simp [strsV, hi']
   · simp only [DataW.weights, uStep]
     have hj : (stepFs.toList.map (·.type))[5]? = some 37 := by
       obtain ⟨f, hf1, hf2⟩ := Option.map_eq_some_iff.1 stepF5
       obtain ⟨hf3, _⟩ := Prod.mk.inj hf2
       rw [List.getElem?_map, Array.getElem?_toList, hf1]
       simp [hf3]
     refine DataW.weights_mem_each hj (d := y5.1) (by rw [List.getElem?_map, e5]; rfl) _ ?_
     rw [hy]
     simp [DataW.weights, uStrs, bStr]
theorem weightsAll_mem {Hh : Type} {P : Program} {e : TypeId} {d : DataW Hh} : ∀ {ds : List (DataW Hh)}, d ∈ ds → ∀ n ∈ d.weights P e, n ∈ DataW.weightsAll P e ds
 | [], h, _, _ => by cases h
 | _ :: _, h, n, hn => by
   simp only [DataW.weightsAll, List.mem_append]
   rcases List.mem_cons.1 h with rfl | h
   · exact Or.inl hn
   · exact Or.inr (weightsAll_mem h n hn)
theorem addr_lt {q : Addr} {n m : Nat} (h : (q.add n).block < m) : q.block < m := by
 have e : (q.add n).block = q.block := by unfold Addr.add; split <;> rfl
 rw [e] at h
 exact h
theorem steps_open {Hh : Type} {enc : TypeId × Value → Hh} {W : World} {v : Value} {d : DataW Hh} {p : List MemPlace} (h : DataW.Trod enc PP W 0 (fun _ => true) true 35 v d p)
   (hv : ∃ a l c, v = .slice a l c) (hz : ∀ n ∈ d.weights PP 35, n ≤ reachBytes) : ∃ a l c xs, v = .slice a l c ∧ StepsAt W.heap a l xs ∧ l ≤ 10000000000000 := by
 obtain ⟨a0, l0, c0, rfl⟩ := hv
 obtain ⟨fuel, h⟩ := h
 rcases open_slice uSteps h with ⟨h0, _⟩ | ⟨a, len, cap, m, n, D, Pl, hcs, _, hlc, _, hm, hx, hel⟩
 · have e : Value.slice a0 l0 c0 = .slice none 0 0 := by simpa [Value.cells] using h0
   cases e
   exact ⟨none, 0, 0, [], rfl, ⟨rfl, fun i x hx => by simp at hx⟩, by omega⟩
 have e : Value.slice a0 l0 c0 = .slice (some a) len cap := by simpa [Value.cells] using hcs
 cases e
 obtain ⟨hd, _⟩ := Prod.mk.inj hx
 subst hd
 have hlm : l0 ≤ m := by rw [hm]; simpa using hlc
 simp only [DataW.weights, uSteps, List.length_map, List.length_range, bStep] at hz
 have hb : reachBytes = 140737488351232 := by decide
 have hlen : l0 ≤ 10000000000000 := by
   have := hz _ (List.mem_cons_self ..)
   rw [hb] at this
   omega
 have each : ∀ i, i < l0 → ∃ y, StepAt W.heap (a.add (i * 6)) y := fun i hi => by
   obtain ⟨cs', h1, h2⟩ := hel i (by omega)
   rw [cStep] at h1
   obtain ⟨y, b, l, c, rfl, h3, h4, h5⟩ := step_open h2
   obtain ⟨_, _, hc⟩ := World.cells?_some h1
   refine ⟨y, b, l, c, fun j v hv => ?_, h3, h4, ?_, ?_⟩
   · have hj : j < 6 := by
       rcases Nat.lt_or_ge j 6 with h | h
       · exact h
       · rw [List.getElem?_eq_none (by simpa [StepV.vals] using h)] at hv; cases hv
     have := hc j hj
     rw [hv] at this
     exact this
   · rcases h5 with h5 | ⟨m', h5⟩
     · omega
     · have := hz ((l + m') * 16) (List.mem_cons_of_mem _ (List.mem_append_left _ (weightsAll_mem (List.mem_map.2 ⟨i, by simpa using hi, rfl⟩) _ h5)))
       rw [hb] at this
       omega
   · by_cases hl : l = 0
     · exact .inl hl
     · refine .inr fun q hq => ?_
       have h6 := h3.2.2 q hq 0 (by omega)
       have h7 := h3.1
       rw [List.getElem?_eq_getElem (by omega)] at h6
       exact addr_lt (cell_lt' h6)
 obtain ⟨Y, hY⟩ : ∃ Y : Nat → StepV, ∀ i, i < l0 → StepAt W.heap (a.add (i * 6)) (Y i) := by
   refine ⟨fun i => if hi : i < l0 then Classical.choose (each i hi) else ⟨0, 0, 0, ⟨#[]⟩, ⟨#[]⟩, []⟩, fun i hi => ?_⟩
   simp only [dif_pos hi]
   exact Classical.choose_spec (each i hi)
 refine ⟨some a, l0, c0, (List.range l0).map Y, rfl, ⟨by simp, fun i x hx => ⟨a, rfl, ?_⟩⟩, hlen⟩
 have hi : i < l0 := by
   rcases Nat.lt_or_ge i l0 with h | h
   · exact h
   · rw [List.getElem?_eq_none (by simpa using h)] at hx; cases hx
 have : x = Y i := by simpa [hi] using hx.symm
 rw [this]
 exact hY i hi
theorem laidOut : laidOutB PP = true := by kernel_rfl
theorem old_same {W W' : World} (hf : Fr [] W.heap W'.heap) {x : MemPlace} (hx : x.block < W.heap.size) : W.sameAt W' x := by
 cases x with
 | cell b off =>
   show cellH W'.heap ⟨b, off, none⟩ = cellH W.heap ⟨b, off, none⟩
   have e : W'.heap[b]? = W.heap[b]? := hf.2 b hx (by simp)
   unfold cellH
   dsimp only
   rw [e]
 | map b => exact hf.2 _ hx (by simp)
theorem arg_stays {Hh : Type} {enc : TypeId × Value → Hh} {W W' : World} (hf : Fr [] W.heap W'.heap) {t : TypeId} (hr : PP.readableRec t = true) (hrow : t < PP.types.size) {v : Value} {d : DataW Hh} {p : List MemPlace}
   (h : DataW.Trod enc PP W 0 (fun _ => true) true t v d p) {sp : Nat → Bool} (hs : ∀ x ∈ p, sp x.block = true) : DataW.Trod enc PP W' 0 sp true t v d p := by
 have hlt : ∀ x ∈ p, x.block < W.heap.size := fun x hx => by
   obtain ⟨n, hn⟩ := h
   exact DataW.trod_lt n _ _ _ hn x hx
 exact WideElems.Trod_stays laidOut hr hrow h (fun x hx => old_same hf (hlt x hx)) hs
end Go.Proofs.YtmkdkplipbocjaaGreatDoor
namespace Kw
open Go
theorem joined_of {P : Program} {f : FuncId} {fn : Func} {s : ChangeSpec} {c : OpenClaim} (h1 : c.wf (OpenSpec.ofChange s) = true) (h2 : laidOutB P = true) (h3 : mapsRowed P = true) (h4 : fn.params.all (P.readableRec ·) = true) (h5 : namedTie P c.named s.vars = true)
   (h6 : (c.stops == []) = true) (h7 : (P.stops == []) = true) (h8 : (c.knobs == []) = true) (h9 : (P.stopKnobs == []) = true) (h10 : (c.inPlace == P.inPlace f) = true) (h11 : (c.unfollowed == P.unfollowed f) = true) (h12 : (c.recurses == P.recurses f) = true) (h13 : (c.named == P.varsNamed f) = true)
   (h14 : (c.maps == (fn.params.toList ++ s.plain.varTypes P).any (P.mapsRec ·)) = true) (h15 : (c.ifaces == (fn.params.toList ++ s.plain.varTypes P).any (P.ifacesRec ·)) = true) (h16 : (c.mapsOut == P.mapsAmong fn.resultTypes.toList) = true)
   (h17 : (c.loops == (fn.params.toList ++ s.plain.varTypes P).any (P.loopsFrom ·)) = true) (h18 : (c.wideKeys == (fn.params.toList ++ s.plain.varTypes P ++ fn.resultTypes.toList).any (P.wideKeysFrom ·)) = true)
   (h19 : s.vars.all (P.varReadable ·) = true) (h20 : fn.resultTypes.all (fun t => P.readableRec t && decide (t < P.types.size)) = true) (h21 : (c.ifacesOut == fn.resultTypes.toList.any (P.ifacesRec ·)) = true) (h22 : (c.loopsOut == fn.resultTypes.toList.any (P.loopsFrom ·)) = true) (h23 : (c.plainKeys == P.plainKeys) = true) (h24 : c.shortTexts.isNone = true) (h25 : P.stopsHeard = true)
   (h28 : P.mayEnter = true) (h29 : (c.lifted == P.liftsFinal) = true) (h30 : (P.make == some c.make) = true) (h31 : c.domain = []) (h33 : c.kinds = []) (h32 : (c.pinned == c.pinnedBy) = true)
   (h26 : (c.veiled == (fn.params.toList ++ s.plain.varTypes P ++ fn.resultTypes.toList).any (P.veiledRec ·)) = true) (h27 : c.veiledFits P fn.params.toList (fn.params.toList ++ s.plain.varTypes P ++ fn.resultTypes.toList) = true) : joinedFacts P f fn s c = true := by
 unfold joinedFacts
 simp only [h1, h2, h3, h4, h5, h6, h7, h8, h9, h10, h11, h12, h13, h14, h15, h16, h17, h18, h19, h20, h21, h22, h23, h24, h25, h26, h27, h28, h29, h30, h32, Bool.and_self, h31, h33, List.isEmpty_nil, if_true, beq_self_eq_true]
end Kw
namespace Go.Proofs.YtmkdkplipbocjaaGreatDoor
open Kw
section
variable {H : Heap} {b : Nat} {cs : Array Value} {v0 v1 v2 v3 v4 v5 v6 : Value}
theorem blk_setA (h : Blk H b cs) (j : Nat) (v : Value) : Blk (setH H ((⟨b, 0, none⟩ : Addr).add j) v) b (cs.setIfInBounds j v) := by rw [add_none, Nat.zero_add]; exact h.set j v
theorem blk_wrA (h : Blk H b cs) {j : Nat} (hj : j < cs.size) : Wr H ((⟨b, 0, none⟩ : Addr).add j) := by rw [add_none, Nat.zero_add]; exact h.wr hj
theorem fr_setA (j : Nat) (v : Value) : Fr [b] H (setH H ((⟨b, 0, none⟩ : Addr).add j) v) := by rw [add_none]; exact Fr.set (by simp)
def fill4 (H : Heap) (b : Nat) (v0 v1 v2 v3 : Value) : Heap := setH (setH (setH (setH H (⟨b, 0, none⟩ : Addr) v0) ((⟨b, 0, none⟩ : Addr).add 1) v1) ((⟨b, 0, none⟩ : Addr).add 2) v2) ((⟨b, 0, none⟩ : Addr).add 3) v3
def fill6 (H : Heap) (b : Nat) (v0 v1 v2 v3 v4 v5 : Value) : Heap := setH (setH (fill4 H b v0 v1 v2 v3) ((⟨b, 0, none⟩ : Addr).add 4) v4) ((⟨b, 0, none⟩ : Addr).add 5) v5
def fill7 (H : Heap) (b : Nat) (v0 v1 v2 v3 v4 v5 v6 : Value) : Heap := setH (fill6 H b v0 v1 v2 v3 v4 v5) ((⟨b, 0, none⟩ : Addr).add 6) v6
theorem fill4_def : setH (setH (setH (setH H (⟨b, 0, none⟩ : Addr) v0) ((⟨b, 0, none⟩ : Addr).add 1) v1) ((⟨b, 0, none⟩ : Addr).add 2) v2) ((⟨b, 0, none⟩ : Addr).add 3) v3 = fill4 H b v0 v1 v2 v3 := rfl
theorem fill6_def : setH (setH (setH (setH (setH (setH H (⟨b, 0, none⟩ : Addr) v0) ((⟨b, 0, none⟩ : Addr).add 1) v1) ((⟨b, 0, none⟩ : Addr).add 2) v2) ((⟨b, 0, none⟩ : Addr).add 3) v3) ((⟨b, 0, none⟩ : Addr).add 4) v4) ((⟨b, 0, none⟩ : Addr).add 5) v5 = fill6 H b v0 v1 v2 v3 v4 v5 := rfl
theorem fill7_def : setH (setH (setH (setH (setH (setH (setH H (⟨b, 0, none⟩ : Addr) v0) ((⟨b, 0, none⟩ : Addr).add 1) v1) ((⟨b, 0, none⟩ : Addr).add 2) v2) ((⟨b, 0, none⟩ : Addr).add 3) v3) ((⟨b, 0, none⟩ : Addr).add 4) v4) ((⟨b, 0, none⟩ : Addr).add 5) v5) ((⟨b, 0, none⟩ : Addr).add 6) v6 = fill7 H b v0 v1 v2 v3 v4 v5 v6 := rfl
theorem wr4 {R : Prop} (hB : Blk H b cs) (hs : cs.size = 4) (hR : R) : Wr H (⟨b, 0, none⟩ : Addr) ∧ Wr (setH H (⟨b, 0, none⟩ : Addr) v0) ((⟨b, 0, none⟩ : Addr).add 1) ∧ Wr (setH (setH H (⟨b, 0, none⟩ : Addr) v0) ((⟨b, 0, none⟩ : Addr).add 1) v1) ((⟨b, 0, none⟩ : Addr).add 2) ∧
   Wr (setH (setH (setH H (⟨b, 0, none⟩ : Addr) v0) ((⟨b, 0, none⟩ : Addr).add 1) v1) ((⟨b, 0, none⟩ : Addr).add 2) v2) ((⟨b, 0, none⟩ : Addr).add 3) ∧ R :=
 ⟨hB.wr (by omega), blk_wrA (hB.set 0 v0) (by simp; omega), blk_wrA (blk_setA (hB.set 0 v0) 1 v1) (by simp; omega), blk_wrA (blk_setA (blk_setA (hB.set 0 v0) 1 v1) 2 v2) (by simp; omega), hR⟩
theorem wr6 {R : Prop} (hB : Blk H b cs) (hs : cs.size = 6) (hR : R) : Wr H (⟨b, 0, none⟩ : Addr) ∧ Wr (setH H (⟨b, 0, none⟩ : Addr) v0) ((⟨b, 0, none⟩ : Addr).add 1) ∧ Wr (setH (setH H (⟨b, 0, none⟩ : Addr) v0) ((⟨b, 0, none⟩ : Addr).add 1) v1) ((⟨b, 0, none⟩ : Addr).add 2) ∧
   Wr (setH (setH (setH H (⟨b, 0, none⟩ : Addr) v0) ((⟨b, 0, none⟩ : Addr).add 1) v1) ((⟨b, 0, none⟩ : Addr).add 2) v2) ((⟨b, 0, none⟩ : Addr).add 3) ∧
   Wr (setH (setH (setH (setH H (⟨b, 0, none⟩ : Addr) v0) ((⟨b, 0, none⟩ : Addr).add 1) v1) ((⟨b, 0, none⟩ : Addr).add 2) v2) ((⟨b, 0, none⟩ : Addr).add 3) v3) ((⟨b, 0, none⟩ : Addr).add 4) ∧
   Wr (setH (setH (setH (setH (setH H (⟨b, 0, none⟩ : Addr) v0) ((⟨b, 0, none⟩ : Addr).add 1) v1) ((⟨b, 0, none⟩ : Addr).add 2) v2) ((⟨b, 0, none⟩ : Addr).add 3) v3) ((⟨b, 0, none⟩ : Addr).add 4) v4) ((⟨b, 0, none⟩ : Addr).add 5) ∧ R := by
 have h0 := hB.set 0 v0
 have h1 := blk_setA h0 1 v1
 have h2 := blk_setA h1 2 v2
 have h3 := blk_setA h2 3 v3
 have h4 := blk_setA h3 4 v4
 exact ⟨hB.wr (by omega), blk_wrA h0 (by simp; omega), blk_wrA h1 (by simp; omega), blk_wrA h2 (by simp; omega), blk_wrA h3 (by simp; omega), blk_wrA h4 (by simp; omega), hR⟩
theorem wr7 {R : Prop} (hB : Blk H b cs) (hs : cs.size = 7) (hR : R) : Wr H (⟨b, 0, none⟩ : Addr) ∧ Wr (setH H (⟨b, 0, none⟩ : Addr) v0) ((⟨b, 0, none⟩ : Addr).add 1) ∧ Wr (setH (setH H (⟨b, 0, none⟩ : Addr) v0) ((⟨b, 0, none⟩ : Addr).add 1) v1) ((⟨b, 0, none⟩ : Addr).add 2) ∧
   Wr (setH (setH (setH H (⟨b, 0, none⟩ : Addr) v0) ((⟨b, 0, none⟩ : Addr).add 1) v1) ((⟨b, 0, none⟩ : Addr).add 2) v2) ((⟨b, 0, none⟩ : Addr).add 3) ∧
   Wr (setH (setH (setH (setH H (⟨b, 0, none⟩ : Addr) v0) ((⟨b, 0, none⟩ : Addr).add 1) v1) ((⟨b, 0, none⟩ : Addr).add 2) v2) ((⟨b, 0, none⟩ : Addr).add 3) v3) ((⟨b, 0, none⟩ : Addr).add 4) ∧
   Wr (setH (setH (setH (setH (setH H (⟨b, 0, none⟩ : Addr) v0) ((⟨b, 0, none⟩ : Addr).add 1) v1) ((⟨b, 0, none⟩ : Addr).add 2) v2) ((⟨b, 0, none⟩ : Addr).add 3) v3) ((⟨b, 0, none⟩ : Addr).add 4) v4) ((⟨b, 0, none⟩ : Addr).add 5) ∧
   Wr (setH (setH (setH (setH (setH (setH H (⟨b, 0, none⟩ : Addr) v0) ((⟨b, 0, none⟩ : Addr).add 1) v1) ((⟨b, 0, none⟩ : Addr).add 2) v2) ((⟨b, 0, none⟩ : Addr).add 3) v3) ((⟨b, 0, none⟩ : Addr).add 4) v4) ((⟨b, 0, none⟩ : Addr).add 5) v5) ((⟨b, 0, none⟩ : Addr).add 6) ∧ R := by
 have h0 := hB.set 0 v0
 have h1 := blk_setA h0 1 v1
 have h2 := blk_setA h1 2 v2
 have h3 := blk_setA h2 3 v3
 have h4 := blk_setA h3 4 v4
 have h5 := blk_setA h4 5 v5
 exact ⟨hB.wr (by omega), blk_wrA h0 (by simp; omega), blk_wrA h1 (by simp; omega), blk_wrA h2 (by simp; omega), blk_wrA h3 (by simp; omega), blk_wrA h4 (by simp; omega), blk_wrA h5 (by simp; omega), hR⟩
theorem fill4_fr : Fr [b] H (fill4 H b v0 v1 v2 v3) := (((Fr.set (by simp)).trans (fr_setA 1 v1)).trans (fr_setA 2 v2)).trans (fr_setA 3 v3)
theorem fill6_fr : Fr [b] H (fill6 H b v0 v1 v2 v3 v4 v5) := (fill4_fr.trans (fr_setA 4 v4)).trans (fr_setA 5 v5)
theorem fill7_fr : Fr [b] H (fill7 H b v0 v1 v2 v3 v4 v5 v6) := fill6_fr.trans (fr_setA 6 v6)
theorem fill4_blk (hB : Blk H b cs) (hs : cs.size = 4) : Blk (fill4 H b v0 v1 v2 v3) b #[v0, v1, v2, v3] := by
 have e : ((((cs.setIfInBounds 0 v0).setIfInBounds 1 v1).setIfInBounds 2 v2).setIfInBounds 3 v3) = #[v0, v1, v2, v3] := by
   obtain ⟨l⟩ := cs
   match l, hs with
   | [_, _, _, _], _ => rfl
 rw [← e]
 exact blk_setA (blk_setA (blk_setA (hB.set 0 v0) 1 v1) 2 v2) 3 v3
theorem fill6_blk (hB : Blk H b cs) (hs : cs.size = 6) : Blk (fill6 H b v0 v1 v2 v3 v4 v5) b #[v0, v1, v2, v3, v4, v5] := by
 have e : ((((((cs.setIfInBounds 0 v0).setIfInBounds 1 v1).setIfInBounds 2 v2).setIfInBounds 3 v3).setIfInBounds 4 v4).setIfInBounds 5 v5) = #[v0, v1, v2, v3, v4, v5] := by
   obtain ⟨l⟩ := cs
   match l, hs with
   | [_, _, _, _, _, _], _ => rfl
 rw [← e]
 exact blk_setA (blk_setA (blk_setA (blk_setA (blk_setA (hB.set 0 v0) 1 v1) 2 v2) 3 v3) 4 v4) 5 v5
theorem fill7_blk (hB : Blk H b cs) (hs : cs.size = 7) : Blk (fill7 H b v0 v1 v2 v3 v4 v5 v6) b #[v0, v1, v2, v3, v4, v5, v6] := by
 have e : (((((((cs.setIfInBounds 0 v0).setIfInBounds 1 v1).setIfInBounds 2 v2).setIfInBounds 3 v3).setIfInBounds 4 v4).setIfInBounds 5 v5).setIfInBounds 6 v6) = #[v0, v1, v2, v3, v4, v5, v6] := by
   obtain ⟨l⟩ := cs
   match l, hs with
   | [_, _, _, _, _, _, _], _ => rfl
 rw [← e]
 exact blk_setA (blk_setA (blk_setA (blk_setA (blk_setA (blk_setA (hB.set 0 v0) 1 v1) 2 v2) 3 v3) 4 v4) 5 v5) 6 v6
end
def Bef (H : Heap) (lo : Nat) (t : TB) (v : KV) (a1 : Option Addr) (l1 : Nat) (a2 : Option Addr) (l2 : Nat) (a3 : Option Addr) (l3 c3 : Nat) : Prop :=
 ∃ G1 G2 G3 c1 c2, Own 1 H a1 l1 c1 (strsV t.texts) G1 ∧ Own 1 H a2 l2 c2 (strsV (globsK v t)) G2 ∧ LRep 4 InfoR H a3 l3 c3 (infosK v t) G3 ∧ ∀ x ∈ G1 ++ (G2 ++ G3), lo ≤ x
theorem Bef.fr {H H' : Heap} {lo : Nat} {t : TB} {v : KV} {a1 : Option Addr} {l1 : Nat} {a2 : Option Addr} {l2 : Nat} {a3 : Option Addr} {l3 c3 : Nat} {F : Foot} (h : Bef H lo t v a1 l1 a2 l2 a3 l3 c3) (hf : Fr F H H') (hF : ∀ x ∈ F, x < lo ∨ H.size ≤ x) : Bef H' lo t v a1 l1 a2 l2 a3 l3 c3 := by
 obtain ⟨G1, G2, G3, c1, c2, h1, h2, h3, h4⟩ := h
 have e1 := h1.lt
 have e2 := h2.lt
 have e3 := h3.lt InfoR.lt
 refine ⟨G1, G2, G3, c1, c2, h1.fr hf fun x hx hm => ?_, h2.fr hf fun x hx hm => ?_, h3.fr InfoR.fr InfoR.lt hf fun x hx hm => ?_, h4⟩
 · have := h4 x (by simp [hx]); have := e1 x hx; have := hF x hm; omega
 · have := h4 x (by simp [hx]); have := e2 x hx; have := hF x hm; omega
 · have := h4 x (by simp [hx]); have := e3 x hx; have := hF x hm; omega
section
variable {H : Heap} {b : Nat} {F : Foot} {s : SP} {t : TB} {v : KV} {Q : QT}
theorem taken_c (hP : PK H b F s t) (hv : KAll s t v)
   (h : ∀ H' a1 l1 c1 a2 l2 c2 a3 l3 c3, Bef H' H.size t v a1 l1 a2 l2 a3 l3 c3 → Fr [] H H' → Q (.agg #[.int .i64 s.room.1, .int .i64 s.room.2, .int .i64 (v.cls.length : Int), .int .i64 s.h.mark, .slice a1 l1 c1, .slice a2 l2 c2, .slice a3 l3 c3]) H') :
   callS PP n_k16 #[.pointer (some ⟨b, 0, none⟩)] Q H := by
 have hs1 : sliceInfo PP 40 = some (4, 64, some (.agg #[.string (⟨#[]⟩ : ByteArray), .string (⟨#[]⟩ : ByteArray), .slice none 0 0, .int .i64 0])) := by kernel_rfl
 have hm1 := hv.ks.shape.many1
 have hlt := hP.lt
 have hgk := cell_lt hP.kinds.1
 apply k16_ok
 unfold k16 A0 iV wW pV sV lV cS; dsimp only [shH]
 have f0 := Fr.push [] H (.cells #[.int .i64 0, .int .i64 0, .int .i64 0, .int .i64 0, .slice none 0 0, .slice none 0 0, .slice none 0 0] 42)
 have hB0 := Blk.new H #[.int .i64 0, .int .i64 0, .int .i64 0, .int .i64 0, .slice none 0 0, .slice none 0 0, .slice none 0 0] 42
 generalize (H.push (.cells #[.int .i64 0, .int .i64 0, .int .i64 0, .int .i64 0, .slice none 0 0, .slice none 0 0, .slice none 0 0] 42)) = H0 at f0 hB0 ⊢
 refine kspace_k (hP.nil f0) fun sb F1 _ hS _ _ _ => ⟨_, rfl, psRoom_c hS fun H2 f2 => ⟨_, _, rfl, ?_⟩⟩
 have g2 := f0.trans f2
 refine count_k (hP.nil g2) hv fun H3 f3 => ⟨_, rfl, ?_⟩
 have g3 := g2.trans f3
 refine kspace_k (hP.nil g3) fun sb2 F2 _ hS2 _ _ _ => ⟨_, rfl, psHeap_c hS2 fun hb Fh hR _ _ => ⟨_, rfl, hmarked_c hR ⟨_, rfl, ksymbols_k (hP.nil g3) fun tb Ft _ hT => ⟨_, rfl, ptAll_c hT fun aS ls cs Gs H8 hos f8 hGs => ⟨_, _, _, rfl, ?_⟩⟩⟩⟩⟩
 have g8 := g3.trans f8
 refine globals_k (hP.nil g8) hv fun ag lg cg Gg H9 hog f9 hGg => ⟨_, _, _, rfl, ?_⟩
 have g9 := g8.trans f9
 have hB0' : Blk H9 H.size _ := hB0.fr (((f2.trans f3).trans f8).trans f9) (by simp)
 have f10 := Fr.push [] H9 (.cells #[.int .i64 0, .int .i64 0, .int .i64 0, .int .i64 0, .slice none 0 0, .slice none 0 0, .slice none 0 0] 42)
 have hB9 := Blk.new H9 #[.int .i64 0, .int .i64 0, .int .i64 0, .int .i64 0, .slice none 0 0, .slice none 0 0, .slice none 0 0] 42
 have hB0'' := hB0'.fr f10 (by simp)
 have hos9 : Own 1 _ aS ls cs (strsV t.texts) Gs := (hos.fr f9 (by simp)).fr f10 (by simp)
 have hog9 : Own 1 _ ag lg cg (strsV (globsK v t)) Gg := hog.fr f10 (by simp)
 have g10 := g9.trans f10
 have hsz : H9.size < (H9.push (.cells #[.int .i64 0, .int .i64 0, .int .i64 0, .int .i64 0, .slice none 0 0, .slice none 0 0, .slice none 0 0] 42)).size := by simp
 generalize (H9.push (.cells #[.int .i64 0, .int .i64 0, .int .i64 0, .int .i64 0, .slice none 0 0, .slice none 0 0, .slice none 0 0] 42)) = H10 at f10 hB9 hB0'' hos9 hog9 g10 hsz ⊢
 have hle9 : H.size ≤ H9.size := g9.1
 have hlt0 : H.size < H9.size := hB0'.lt
 have hltS := hos.lt
 have hltG := hog.lt
 generalize hbb : H9.size = bb at *
 refine wr7 hB9 rfl ?_
 rw [fill7_def]
 have hBA := fill7_blk (v0 := .int .i64 s.room.1) (v1 := .int .i64 s.room.2) (v2 := .int .i64 (v.cls.length : Int)) (v3 := .int .i64 s.h.mark) (v4 := .slice aS ls cs) (v5 := .slice ag lg cg) (v6 := .slice none 0 0) hB9 rfl
 have fA := fill7_fr (H := H10) (b := bb) (v0 := .int .i64 s.room.1) (v1 := .int .i64 s.room.2) (v2 := .int .i64 (v.cls.length : Int)) (v3 := .int .i64 s.h.mark) (v4 := .slice aS ls cs) (v5 := .slice ag lg cg) (v6 := .slice none 0 0)
 generalize fill7 H10 bb (.int .i64 s.room.1) (.int .i64 s.room.2) (.int .i64 (v.cls.length : Int)) (.int .i64 s.h.mark) (.slice aS ls cs) (.slice ag lg cg) (.slice none 0 0) = HA at hBA fA ⊢
 have hlen : (infosK v t).length = v.cls.length := by simp [infosK]
 refine ⟨fun w H' => ∃ (k : Nat) (ai : Option Addr) (li ci : Nat) (G : Foot), w = [.int .i64 ((k : Int) + 1)] ∧ k ≤ v.cls.length ∧ Fr [bb] H10 H' ∧ Blk H' bb #[.int .i64 s.room.1, .int .i64 s.room.2, .int .i64 (v.cls.length : Int), .int .i64 s.h.mark, .slice aS ls cs, .slice ag lg cg, .slice ai li ci] ∧ LRep 4 InfoR H' ai li ci ((infosK v t).take k) G ∧ ∀ x ∈ G, H10.size ≤ x, fun w _ => match w with
   | [.int _ i] => (v.cls.length + 1 - i).toNat
   | _ => 0, ⟨0, none, 0, 0, [], rfl, Nat.zero_le _, fA, hBA, by simpa using LRep.nil, by simp⟩, ?_⟩
 rintro w H11 ⟨k, ai, li, ci, G, rfl, hk, fB, hBB, hL, hG⟩ _
 have hsz1 := fB.1
 have hPB : PK H11 b F s t := (hP.nil g10).fr fB (fun x hx hm => by have := hlt x hx; simp at hm; omega) (by simp; omega)
 refine ⟨_, rfl, _, blkA hBB 2 rfl, ?_⟩
 rw [cond_dec]
 refine ite_i (fun hle => ?_) fun hle => ?_
 · have hk' : k < v.cls.length := by omega
   have en : numberedK v ((k : Int) + 1) = ((v.cls[k]).oop, 0) := by
     unfold numberedK
     rw [dif_pos ⟨by omega, by omega⟩]
     have : ((k : Int) + 1 - 1).toNat = k := by omega
     simp only [this]
   refine numbered_k hPB hv fun H12 f12 => ⟨_, _, rfl, ?_⟩
   rw [en]
   have hpl := hv.ks.idx hk'
   refine kinfo_k (hPB.nil f12) hv (fun i hi ax lx cx Gx H13 hox f13 hGx => ?_) fun hn => by rw [hpl] at hn; cases hn
   have hi' : i = k := by rw [hpl] at hi; exact (Option.some.inj hi).symm
   subst hi'
   refine ⟨_, _, _, _, _, _, _, rfl, ?_⟩
   have hB4 := Blk.new H13 #[.string (⟨#[]⟩ : ByteArray), .string (⟨#[]⟩ : ByteArray), .slice none 0 0, .int .i64 0] 121
   have f14 := Fr.push [] H13 (.cells #[.string (⟨#[]⟩ : ByteArray), .string (⟨#[]⟩ : ByteArray), .slice none 0 0, .int .i64 0] 121)
   have hle13 : H11.size ≤ H13.size := (f12.trans f13).1
   have hltG1 := hL.lt InfoR.lt
   refine wr4 hB4 rfl ?_
   rw [fill4_def]
   have hBC := fill4_blk (v0 := .string (infoK v t i).name) (v1 := .string (infoK v t i).sup) (v2 := .slice ax lx cx) (v3 := .int .i64 (infoK v t i).lay) hB4 rfl
   have fC : Fr [] H13 (fill4 (H13.push (.cells #[.string (⟨#[]⟩ : ByteArray), .string (⟨#[]⟩ : ByteArray), .slice none 0 0, .int .i64 0] 121)) H13.size (.string (infoK v t i).name) (.string (infoK v t i).sup) (.slice ax lx cx) (.int .i64 (infoK v t i).lay)) :=
     (Up.mid (F1 := []) (Up.of_nil f14) fill4_fr (by simp)).1
   generalize fill4 (H13.push (.cells #[.string (⟨#[]⟩ : ByteArray), .string (⟨#[]⟩ : ByteArray), .slice none 0 0, .int .i64 0] 121)) H13.size (.string (infoK v t i).name) (.string (infoK v t i).sup) (.slice ax lx cx) (.int .i64 (infoK v t i).lay) = HC at hBC fC ⊢
   have f1C := (f12.trans f13).trans fC
   have hBB' := hBB.fr f1C (by simp)
   refine ⟨_, _, _, blkA hBB' 6 rfl, _, hBC.cell 0, _, blkA hBC 1 rfl, _, _, _, blkA hBC 2 rfl, _, blkA hBC 3 rfl, ?_⟩
   have htk : (infosK v t).take (i + 1) = (infosK v t).take i ++ [infoK v t i] := by
     rw [List.take_add_one, List.getElem?_eq_getElem (by omega)]; simp [infosK]
   have hli : li = i := by have := hL.len; simp only [List.length_take] at this; omega
   refine LRep.snoc (x := infoK v t i) (G := Gx) InfoR.fr InfoR.lt hs1 rfl (by kernel_rfl) (hL.fr InfoR.fr InfoR.lt f1C (Disj.nil_right _)) ⟨ax, lx, cx, rfl, hox.fr fC (by simp)⟩ rfl (fun x hx hx2 => ?_) (by simp [oneC]) (by omega) (by decide) (by decide) fun a' c' F' H14 q1 q2 q3 => ⟨_, _, _, rfl, ?_⟩
   · have := hltG1 x hx; have := hGx x hx2; have := f12.1; omega
   have fG : Fr G H11 H14 := (f1C.of_nil).trans q2
   have hbG : bb ∉ G := fun hm => by have := hG _ hm; omega
   have hB14 := hBB.fr fG hbG
   have hle14 := fG.1
   have e : IntKind.wrap .i64 ((i : Int) + 1 + 1) = (((i + 1 : Nat) : Int) + 1) := by rw [wrap64_id (by omega) (by omega)]; omega
   rw [e]
   refine ⟨blk_wrA hB14 (by simp), ⟨i + 1, a', li + 1, c', F', rfl, by omega, ?_, ?_, ?_, fun x hx => ?_⟩, by simp; omega⟩
   · refine ⟨?_, fun x hx hn => ?_⟩
     · rw [setH_size]; omega
     · have hxb : x ≠ bb := by simpa using hn
       rw [(fr_setA (b := bb) 6 (.slice a' (li + 1) c')).2 x (by omega) (by simpa using hxb), fG.2 x (by omega) (fun hm => by have := hG x hm; omega), fB.2 x hx hn]
   · have := blk_setA hB14 6 (.slice a' (li + 1) c')
     simpa using this
   · rw [htk]
     refine q1.fr InfoR.fr InfoR.lt (fr_setA 6 _) fun x hx hm => ?_
     have hxb : x = bb := by simpa using hm
     rcases q3 x hx with h5 | h5 | h5
     · exact hbG (hxb ▸ h5)
     · have := hGx x h5; have := f12.1; omega
     · have := fC.1; omega
   · rcases q3 x hx with h5 | h5 | h5
     · exact hG x h5
     · have := hGx x h5; have := f12.1; omega
     · have := fC.1; omega
 · have hk' : k = v.cls.length := by omega
   refine ⟨_, hBB.cell 0, _, blkA hBB 1 rfl, _, blkA hBB 2 rfl, _, blkA hBB 3 rfl, _, _, _, blkA hBB 4 rfl, _, _, _, blkA hBB 5 rfl, _, _, _, blkA hBB 6 rfl, ?_⟩
   have hBR := hB0''.fr fB (by simp; omega)
   refine wr7 hBR rfl ?_
   rw [fill7_def]
   have hBZ := fill7_blk (v0 := .int .i64 s.room.1) (v1 := .int .i64 s.room.2) (v2 := .int .i64 (v.cls.length : Int)) (v3 := .int .i64 s.h.mark) (v4 := .slice aS ls cs) (v5 := .slice ag lg cg) (v6 := .slice ai li ci) hBR rfl
   have fZ := fill7_fr (H := H11) (b := H.size) (v0 := .int .i64 s.room.1) (v1 := .int .i64 s.room.2) (v2 := .int .i64 (v.cls.length : Int)) (v3 := .int .i64 s.h.mark) (v4 := .slice aS ls cs) (v5 := .slice ag lg cg) (v6 := .slice ai li ci)
   generalize fill7 H11 H.size (.int .i64 s.room.1) (.int .i64 s.room.2) (.int .i64 (v.cls.length : Int)) (.int .i64 s.h.mark) (.slice aS ls cs) (.slice ag lg cg) (.slice ai li ci) = HZ at hBZ fZ ⊢
   refine ⟨_, hBZ.cell 0, _, blkA hBZ 1 rfl, _, blkA hBZ 2 rfl, _, blkA hBZ 3 rfl, _, _, _, blkA hBZ 4 rfl, _, _, _, blkA hBZ 5 rfl, _, _, _, blkA hBZ 6 rfl, ?_⟩
   rw [hk', List.take_of_length_le (by omega)] at hL
   have hle3 : H.size < H3.size := by have := hB0.lt; have := (f2.trans f3).1; omega
   have hle8 : H.size < H8.size := by have := f8.1; omega
   refine h HZ aS ls cs ag lg cg ai li ci ⟨Gs, Gg, G, cs, cg, (hos9.fr fB ?_).fr fZ ?_, (hog9.fr fB ?_).fr fZ ?_, hL.fr InfoR.fr InfoR.lt fZ ?_, fun x hx => ?_⟩ ⟨?_, fun x hx _ => ?_⟩
   · intro x hx hm; have := hltS x hx; have := f9.1; simp at hm; omega
   · intro x hx hm; have := hGs x hx; simp at hm; omega
   · intro x hx hm; have := hltG x hx; simp at hm; omega
   · intro x hx hm; have := hGg x hx; simp at hm; omega
   · intro x hx hm; have := hG x hx; simp at hm; omega
   · simp only [List.mem_append] at hx
     rcases hx with hx | hx | hx
     · have := hGs x hx; omega
     · have := hGg x hx; omega
     · have := hG x hx; omega
   · have := fZ.1; have := g10.1; omega
   · have := g10.1
     rw [fZ.2 x (by omega) (by simp; omega), fB.2 x (by omega) (by simp; omega), g10.2 x hx (by simp)]
end
section
variable {H : Heap} {t : TB} {v : KV} {Q : QT}
theorem condN {a b : Int} {A B : Prop} (he : a = b) (h : B) : cond (a != b) A B := by
 rw [bneI, cond_dec, if_neg (fun hn => hn he)]; exact h
theorem Bef.lens {lo : Nat} {a1 : Option Addr} {l1 : Nat} {a2 : Option Addr} {l2 : Nat} {a3 : Option Addr} {l3 c3 : Nat} (h : Bef H lo t v a1 l1 a2 l2 a3 l3 c3) : l1 = t.texts.length ∧ l2 = v.glob.length ∧ l3 = v.cls.length := by
 obtain ⟨G1, G2, G3, c1, c2, h1, h2, h3, _⟩ := h
 refine ⟨?_, ?_, ?_⟩
 · have := h1.len; simpa [strsV] using this.symm
 · have := h2.len; simpa [strsV, globsK] using this.symm
 · have := h3.len; simpa [infosK] using this
theorem info_get3 {a : Option Addr} {l c : Nat} {G : Foot} (hL : LRep 4 InfoR H a l c (infosK v t) G) {i : Nat} (hi : i < v.cls.length) : ∃ p a2 l2 c2 G2, a = some p ∧ cellH H (p.add (i * 4)) = some (.string (infoK v t i).name) ∧ cellH H ((p.add (i * 4)).add 1) = some (.string (infoK v t i).sup) ∧
   cellH H ((p.add (i * 4)).add 2) = some (.slice a2 l2 c2) ∧ cellH H ((p.add (i * 4)).add 3) = some (.int .i64 (infoK v t i).lay) ∧ Own 1 H a2 l2 c2 (strsV (infoK v t i).own) G2 := by
 obtain ⟨p, ys, G2, hp, hsp, hoff, hcell, hyl, ⟨a2, l2, c2, e, ho⟩, hsub⟩ := hL.get (i := i) (by simpa [infosK] using hi)
 have ei : (infosK v t)[i]'(by simpa [infosK] using hi) = infoK v t i := by simp [infosK]
 rw [ei] at e ho
 subst e
 obtain ⟨pb, po, ps⟩ := p
 simp only at hsp hoff
 subst hsp hoff
 have h0 := hcell 0 (by decide)
 have h1 := hcell 1 (by decide)
 have h2 := hcell 2 (by decide)
 have h3 := hcell 3 (by decide)
 refine ⟨_, a2, l2, c2, G2, hp, ?_, ?_, ?_, ?_, ho⟩
 · rw [add_none, Nat.zero_add]; exact h0
 · rw [add_none, add_none, Nat.zero_add]; exact h1
 · rw [add_none, add_none, Nat.zero_add]; exact h2
 · rw [add_none, add_none, Nat.zero_add]; exact h3
theorem before_is_c (hm : v.cls.length ≤ 256) (hg : v.glob.length ≤ 256) (ht : t.texts.length ≤ 4096) (hlen : ∀ i, i < v.cls.length → (infoK v t i).own.length ≤ 8192) {w o cn mk mk2 : Int} {lo lo2 : Nat} {a1 : Option Addr} {l1 c1 : Nat} {a2 : Option Addr} {l2 c2 : Nat} {a3 : Option Addr} {l3 c3 : Nat} {e1 : Option Addr} {m1 d1 : Nat} {e2 : Option Addr} {m2 d2 : Nat} {e3 : Option Addr} {m3 d3 : Nat}
   (h1 : Bef H lo t v a1 l1 a2 l2 a3 l3 c3) (h2 : Bef H lo2 t v e1 m1 e2 m2 e3 m3 d3) {bm : Bool} (hb : bm = true ∨ mk = mk2) (h : ∀ H', Fr [] H H' → Q (.bool true) H') :
   callS PP n_k22 #[.agg #[.int .i64 w, .int .i64 o, .int .i64 cn, .int .i64 mk, .slice a1 l1 c1, .slice a2 l2 c2, .slice a3 l3 c3], .agg #[.int .i64 w, .int .i64 o, .int .i64 cn, .int .i64 mk2, .slice e1 m1 d1, .slice e2 m2 d2, .slice e3 m3 d3], .bool bm] Q H := by
 have hl1 := h1.lens
 have hl2 := h2.lens
 apply k22_ok
 unfold k22 A0 iV wW sV lV cS; dsimp only [shH]
 have f0 := Fr.push [] H (.cells #[.int .i64 w, .int .i64 o, .int .i64 cn, .int .i64 mk, .slice a1 l1 c1, .slice a2 l2 c2, .slice a3 l3 c3] 42)
 have hB0 := Blk.new H #[.int .i64 w, .int .i64 o, .int .i64 cn, .int .i64 mk, .slice a1 l1 c1, .slice a2 l2 c2, .slice a3 l3 c3] 42
 generalize (H.push (.cells #[.int .i64 w, .int .i64 o, .int .i64 cn, .int .i64 mk, .slice a1 l1 c1, .slice a2 l2 c2, .slice a3 l3 c3] 42)) = H0 at f0 hB0 ⊢
 have f1 := Fr.push [] H0 (.cells #[.int .i64 w, .int .i64 o, .int .i64 cn, .int .i64 mk2, .slice e1 m1 d1, .slice e2 m2 d2, .slice e3 m3 d3] 42)
 have hB1 := Blk.new H0 #[.int .i64 w, .int .i64 o, .int .i64 cn, .int .i64 mk2, .slice e1 m1 d1, .slice e2 m2 d2, .slice e3 m3 d3] 42
 have hA := hB0.fr f1 (by simp)
 generalize (H0.push (.cells #[.int .i64 w, .int .i64 o, .int .i64 cn, .int .i64 mk2, .slice e1 m1 d1, .slice e2 m2 d2, .slice e3 m3 d3] 42)) = H1 at f1 hB1 hA ⊢
 have f01 := f0.trans f1
 have q1 := h1.fr f01 (by simp)
 have q2 := h2.fr f01 (by simp)
 generalize H0.size = b1 at hB1 ⊢
 generalize H.size = b0 at hB0 hA ⊢
 obtain ⟨G1, G2, G3, k1, k2, g1, g2, g3, _⟩ := q1
 obtain ⟨E1, E2, E3, j1, j2, x1, x2, x3, _⟩ := q2
 refine ⟨_, hA.cell 0, _, hB1.cell 0, condN rfl ⟨_, blkA hA 1 rfl, _, blkA hB1 1 rfl, condN rfl ⟨_, blkA hA 2 rfl, _, blkA hB1 2 rfl, condN rfl ⟨_, _, _, blkA hA 4 rfl, _, _, _, blkA hB1 4 rfl, same_c g1.rd x1.rd (by omega) ⟨_, rfl, ?_⟩⟩⟩⟩⟩
 rw [decide_eq_true rfl]
 simp only [Bool.not_true, cond_false]
 refine ⟨_, _, _, blkA hA 5 rfl, _, _, _, blkA hB1 5 rfl, same_c g2.rd x2.rd (by omega) ⟨_, rfl, ?_⟩⟩
 rw [decide_eq_true rfl]
 simp only [Bool.not_true, cond_false]
 refine ⟨_, _, _, blkA hA 6 rfl, _, _, _, blkA hB1 6 rfl, condN (by omega) ?_⟩
 refine ⟨fun w H' => ∃ i : Nat, w = [.int .i64 i] ∧ i ≤ l3 ∧ Fr [] H1 H', fun w _ => match w with
   | [.int _ i] => (l3 - i).toNat
   | _ => 0, ⟨0, rfl, Nat.zero_le _, Fr.refl _ _⟩, ?_⟩
 rintro w H2 ⟨i, rfl, hi, f2⟩ _
 have hA2 := hA.fr f2 (by simp)
 have hB2 := hB1.fr f2 (by simp)
 refine ⟨_, rfl, _, _, _, blkA hA2 6 rfl, ?_⟩
 rw [cond_dec]
 refine ite_i (fun hlt => ?_) fun hlt => ?_
 · have hiv : i < v.cls.length := by omega
   have e : IntKind.wrap .i64 ((i : Int) + 1) = ((i + 1 : Nat) : Int) := by rw [wrap64_id (by omega) (by omega)]; omega
   obtain ⟨p, pa, pl, pc, pG, rfl, p1, p2, p3, p4, po⟩ := info_get3 (g3.fr InfoR.fr InfoR.lt f2 (Disj.nil_right _)) hiv
   obtain ⟨y, ya, yl, yc, yG, rfl, y1, y2, y3, y4, yo⟩ := info_get3 (x3.fr InfoR.fr InfoR.lt f2 (Disj.nil_right _)) hiv
   refine ⟨_, _, _, blkA hA2 6 rfl, ⟨by omega, hlt⟩, _, rfl, _, by rw [Int.toNat_natCast]; exact p1, _, by rw [Int.toNat_natCast]; exact p2, _, _, _, by rw [Int.toNat_natCast]; exact p3, _, by rw [Int.toNat_natCast]; exact p4, _, _, _, blkA hB2 6 rfl, ⟨by omega, by omega⟩, _, rfl, _, by rw [Int.toNat_natCast]; exact y1, _, by rw [Int.toNat_natCast]; exact y2, _, _, _, by rw [Int.toNat_natCast]; exact y3, _, by rw [Int.toNat_natCast]; exact y4, ?_⟩
   refine sameInfo_c po.rd yo.rd ?_ fun H3 f3 => ⟨_, rfl, trivial, ?_⟩
   · have h5 := po.len
     have h6 := hlen i hiv
     simp only [strsV, List.length_map] at h5
     omega
   simp only [Bool.not_true, cond_false]
   rw [e]
   exact ⟨⟨i + 1, rfl, by omega, f2.trans f3⟩, by simp; omega⟩
 · cases bm with
   | true => simp only [cond_true]; exact h _ (f01.trans f2)
   | false =>
     simp only [cond_false]
     rcases hb with hb | hb
     · cases hb
     · subst hb
       refine ⟨_, blkA hA2 3 rfl, _, blkA hB2 3 rfl, ?_⟩
       rw [beqI, decide_eq_true rfl]
       exact h _ (f01.trans f2)
end
theorem findIdx_congr {α : Type} {p q : α → Bool} : ∀ {l : List α}, (∀ c ∈ l, p c = q c) → l.findIdx? p = l.findIdx? q
 | [], _ => rfl
 | x :: l, h => by
   rw [List.findIdx?_cons, List.findIdx?_cons, h x (by simp), findIdx_congr fun c hc => h c (by simp [hc])]
theorem findK_add {v : KV} {t t' : TB} {name : ByteArray} (hn : KNames v t) (hpre : ∃ m, t'.texts = t.texts ++ m) {c0 : CV} {d o : Int} (h : findK v t name = (o, 0)) : findK (v.addC c0 d) t' name = (o, 0) := by
 have e : v.cls.findIdx? (fun c => decide (tx t' c.name = name)) = v.cls.findIdx? (fun c => decide (tx t c.name = name)) := findIdx_congr fun c hc => by rw [tx_pre hpre (hn.name c hc)]
 unfold findK at h ⊢
 show (match (v.cls ++ [c0]).findIdx? (fun c => decide (tx t' c.name = name)) with
   | some i => (((v.cls ++ [c0]).getD i ⟨0, 0, 0, [], 0, 0, 0, [], [], 0⟩).oop, (0 : Int))
   | none => (0, 130)) = (o, 0)
 rw [List.findIdx?_append, e]
 cases hx : v.cls.findIdx? (fun c => decide (tx t c.name = name)) with
 | none => rw [hx] at h; simp at h
 | some i =>
   rw [hx] at h
   simp only [Option.some_or]
   have hi : i < v.cls.length := (List.findIdx?_eq_some_iff_getElem.1 hx).1
   simp only [List.getD_eq_getElem?_getD] at h ⊢
   rw [List.getElem?_append_left hi]
   exact h
theorem rd_suffix {H : Heap} {a : Option Addr} {l c k : Nat} {G : Foot} {xs ys : List Value} (h : Own 1 H a l c (xs ++ ys) G) (hk : k = xs.length) : Rd 1 H (offA a c (k : Int) 1) (l - k) ys := by
 have h1 := h.len
 have hlc := h.2.1
 simp only [List.length_append] at h1
 have hr := h.rd
 refine ⟨by omega, fun ha => ?_, fun p hp i hi => ?_⟩
 · rcases h.2.2 with ⟨rfl, _⟩ | ⟨b, cs, rfl, _⟩
   · have := hr.2.1 rfl; omega
   · unfold offA at ha
     split at ha <;> simp at ha
 · rcases h.2.2 with ⟨rfl, _⟩ | ⟨b, cs, rfl, _⟩
   · have := hr.2.1 rfl; omega
   · rw [offA_lt (by omega)] at hp
     cases hp
     have := hr.2.2 _ rfl (k + i) (by omega)
     rw [add_none] at this ⊢
     simp only [Int.toNat_natCast, Nat.zero_add] at this ⊢
     rw [this, List.getElem?_append_right (by omega)]
     congr 1
     omega
section
variable {H : Heap} {b : Nat} {F : Foot} {s : SP} {t t' : TB} {v : KV} {Q : QT}
theorem grown_c {o l0 d : Int} {nm : Nat} {ns : List Nat} {j : Nat} {hj : j < v.cls.length} (hP : PK H b F s t') (hn : KNames v t) (hv : KAll s t' (v.addC ⟨o, nm, (v.cls[j]).oop, ns, l0, 18, 18, [], [], 0⟩ d)) (hpre : ∃ m, t'.texts = t.texts ++ m)
   {other : ByteArray} (hf : findK v t other = ((v.cls[j]).oop, 0)) {names : List ByteArray} (hns : ns.map (tx t') = names) {a8 : Option Addr} {l8 c8 : Nat} (hr : Rd 1 H a8 l8 (strsV names))
   {w0 w1 w3 x0 x1 x3 kind i word : Int} {name : ByteArray} {a1 a2 a3 e1 e2 e3 : Option Addr} {l1 c1 l2 c2 l3 c3 m1 d1 m2 d2 m3 d3 : Nat} (h : ∀ H', Fr [] H H' → Q (.bool true) H') :
   callS PP n_k23 #[.pointer (some ⟨b, 0, none⟩), .agg #[.int .i64 w0, .int .i64 w1, .int .i64 (v.cls.length : Int), .int .i64 w3, .slice a1 l1 c1, .slice a2 l2 c2, .slice a3 l3 c3], .agg #[.int .i64 x0, .int .i64 x1, .int .i64 ((v.cls.length + 1 : Nat) : Int), .int .i64 x3, .slice e1 m1 d1, .slice e2 m2 d2, .slice e3 m3 d3],
     .agg #[.int .i64 kind, .int .i64 i, .int .i64 word, .string name, .string other, .slice a8 l8 c8], .int .i64 o] Q H := by
 have hm1 := hv.ks.shape.many1
 have hm0 := hv.ks.shape.many0
 have hlv : (v.addC ⟨o, nm, (v.cls[j]).oop, ns, l0, 18, 18, [], [], 0⟩ d).cls.length = v.cls.length + 1 := by simp [KV.addC]
 rw [hlv] at hm1 hm0
 have hnl : l8 = names.length := by have := hr.1; simpa [strsV] using this.symm
 have hil : v.cls.length < (v.addC ⟨o, nm, (v.cls[j]).oop, ns, l0, 18, 18, [], [], 0⟩ d).cls.length := by omega
 have hjl : j < (v.addC ⟨o, nm, (v.cls[j]).oop, ns, l0, 18, 18, [], [], 0⟩ d).cls.length := by omega
 have ec : (v.addC ⟨o, nm, (v.cls[j]).oop, ns, l0, 18, 18, [], [], 0⟩ d).cls[v.cls.length] = ⟨o, nm, (v.cls[j]).oop, ns, l0, 18, 18, [], [], 0⟩ := by simp [KV.addC]
 have ej : (v.addC ⟨o, nm, (v.cls[j]).oop, ns, l0, 18, 18, [], [], 0⟩ d).cls[j] = v.cls[j] := by simp [KV.addC, List.getElem_append_left hj]
 have ic := hv.ks.idx hil
 have ij := hv.ks.idx hjl
 have hfl := fields_len hv.ks _ hil
 have hfd : fieldsK (v.addC ⟨o, nm, (v.cls[j]).oop, ns, l0, 18, 18, [], [], 0⟩ d) v.cls.length = fieldsK (v.addC ⟨o, nm, (v.cls[j]).oop, ns, l0, 18, 18, [], [], 0⟩ d) j ++ ns := by
   rcases hv.ks.upI hil with ⟨h0, _⟩ | ⟨j', hj', _, _, eu, e⟩
   · omega
   · have := hv.ks.idx hj'
     rw [← eu, ec] at this
     rw [ej] at ij
     simp only at this
     rw [ij] at this
     cases this
     have := hv.ks.fieldsS hil hj e
     rw [ec] at this
     exact this
 have hfk := findK_add hn hpre hf (c0 := ⟨o, nm, (v.cls[j]).oop, ns, l0, 18, 18, [], [], 0⟩) (d := d)
 have en : numberedK (v.addC ⟨o, nm, (v.cls[j]).oop, ns, l0, 18, 18, [], [], 0⟩ d) ((v.cls.length + 1 : Nat) : Int) = (o, 0) := by
   unfold numberedK
   rw [dif_pos ⟨by omega, by omega⟩]
   have e : (((v.cls.length + 1 : Nat) : Int) - 1).toNat = v.cls.length := by omega
   simp only [e, ec]
 rw [ec] at ic
 simp only at ic
 rw [ej] at ij
 generalize (v.addC ⟨o, nm, (v.cls[j]).oop, ns, l0, 18, 18, [], [], 0⟩ d) = v' at *
 apply k23_ok
 unfold k23 A0 iV wW pV sV lV cS; dsimp only [shH]
 have f0 := Fr.push [] H (.cells #[.int .i64 w0, .int .i64 w1, .int .i64 (v.cls.length : Int), .int .i64 w3, .slice a1 l1 c1, .slice a2 l2 c2, .slice a3 l3 c3] 42)
 have hB0 := Blk.new H #[.int .i64 w0, .int .i64 w1, .int .i64 (v.cls.length : Int), .int .i64 w3, .slice a1 l1 c1, .slice a2 l2 c2, .slice a3 l3 c3] 42
 generalize (H.push (.cells #[.int .i64 w0, .int .i64 w1, .int .i64 (v.cls.length : Int), .int .i64 w3, .slice a1 l1 c1, .slice a2 l2 c2, .slice a3 l3 c3] 42)) = H0 at f0 hB0 ⊢
 have f1 := Fr.push [] H0 (.cells #[.int .i64 x0, .int .i64 x1, .int .i64 ((v.cls.length + 1 : Nat) : Int), .int .i64 x3, .slice e1 m1 d1, .slice e2 m2 d2, .slice e3 m3 d3] 42)
 have hB1 := Blk.new H0 #[.int .i64 x0, .int .i64 x1, .int .i64 ((v.cls.length + 1 : Nat) : Int), .int .i64 x3, .slice e1 m1 d1, .slice e2 m2 d2, .slice e3 m3 d3] 42
 have hA1 := hB0.fr f1 (by simp)
 generalize (H0.push (.cells #[.int .i64 x0, .int .i64 x1, .int .i64 ((v.cls.length + 1 : Nat) : Int), .int .i64 x3, .slice e1 m1 d1, .slice e2 m2 d2, .slice e3 m3 d3] 42)) = H1 at f1 hB1 hA1 ⊢
 have f2 := Fr.push [] H1 (.cells #[.int .i64 kind, .int .i64 i, .int .i64 word, .string name, .string other, .slice a8 l8 c8] 39)
 have hS := Blk.new H1 #[.int .i64 kind, .int .i64 i, .int .i64 word, .string name, .string other, .slice a8 l8 c8] 39
 have hA2 := hA1.fr f2 (by simp)
 have hB2 := hB1.fr f2 (by simp)
 generalize (H1.push (.cells #[.int .i64 kind, .int .i64 i, .int .i64 word, .string name, .string other, .slice a8 l8 c8] 39)) = H2 at f2 hS hA2 hB2 ⊢
 have g2 := (f0.trans f1).trans f2
 generalize H1.size = b2 at hS ⊢
 generalize H0.size = b1 at hB1 hB2 ⊢
 generalize H.size = b0 at hB0 hA1 hA2 ⊢
 refine ⟨_, blkA hS 4 rfl, kfind_k (hP.nil g2) hv fun H3 f3 => ⟨_, _, rfl, ?_⟩⟩
 rw [hfk]
 have g3 := g2.trans f3
 refine kfields_k (hP.nil g3) hv (fun i1 hi1 aL lL cL GL H4 hoL f4 hGL => ⟨_, _, _, _, rfl, ?_⟩) fun hne => by rw [ic] at hne; cases hne
 rw [ic] at hi1
 cases hi1
 have g4 := g3.trans f4
 refine kfields_k (hP.nil g4) hv (fun i2 hi2 aM lM cM GM H5 hoM f5 hGM => ⟨_, _, _, _, rfl, ?_⟩) fun hne => by rw [ij] at hne; cases hne
 rw [ij] at hi2
 cases hi2
 have g5 := g4.trans f5
 have f35 := (f3.trans f4).trans f5
 refine ⟨_, blkA (hB2.fr f35 (by simp)) 2 rfl, numbered_k (hP.nil g5) hv fun H6 f6 => ⟨_, _, rfl, ?_⟩⟩
 rw [en]
 have g6 := g5.trans f6
 have f36 := f35.trans f6
 refine num1_c ⟨_, rfl, condN rfl (num1_c ⟨_, rfl, condN rfl (num1_c ⟨_, rfl, condN rfl (num1_c ⟨_, rfl, condN rfl ⟨_, blkA (hB2.fr f36 (by simp)) 2 rfl, _, blkA (hA2.fr f36 (by simp)) 2 rfl, condN ?_ (condN rfl ⟨_, _, _, blkA (hS.fr f36 (by simp)) 5 rfl, ?_⟩)⟩⟩)⟩)⟩)⟩
 · rw [wrap64_id (by omega) (by omega)]; omega
 rw [hfd, List.map_append, hns, strsV_append] at hoL
 have hlL : lL = lM + l8 := by
   have h1 := hoL.len
   have h2 := hoM.len
   simp only [strsV, List.length_append, List.length_map] at h1 h2
   omega
 have hlM : lM = (strsV ((fieldsK v' j).map (tx t'))).length := by have := hoM.len; omega
 have hb : lL ≤ 3000000 := by
   have h1 := hoL.len
   rw [hfd] at hfl
   have h5 : names.length = ns.length := by rw [← hns]; simp
   simp only [strsV, List.length_append, List.length_map] at h1 hfl
   omega
 have hlc := hoL.2.1
 refine condN (by rw [wrap64_id (by omega) (by omega)]; omega) ⟨⟨by omega, by omega⟩, ?_⟩
 rw [Int.toNat_natCast]
 have hoL6 := (hoL.fr f5 (by simp)).fr f6 (by simp)
 have hoM6 := hoM.fr f6 (by simp)
 refine same_c (rd_prefix hoL6.rd hlM) hoM6.rd (by omega) ⟨_, rfl, trivial, ?_⟩
 rw [decide_eq_true rfl]
 simp only [cond_true]
 refine ⟨⟨by omega, by omega⟩, _, _, _, blkA (hS.fr f36 (by simp)) 5 rfl, same_c (rd_suffix hoL6 hlM) (hr.fr' g6 (by simp)) (by omega) ⟨_, rfl, trivial, ?_⟩⟩
 rw [decide_eq_true rfl]
 exact h _ g6
end
end Go.Proofs.YtmkdkplipbocjaaGreatDoor
