/- What the functions that PlanNames reaches answer. -/
import Derived.Test.YtdbbbjhefjlkiaaKwLib
import Derived.Test.YtdbbbjhefjlkiaaF
namespace Go.Proofs.Ytdbbbjhefjlkiaa
open Kw

def letB (c : Int) : Bool := (decide (97 ≤ c) && decide (c ≤ 122)) || (decide (65 ≤ c) && decide (c ≤ 90))
def okB (c : Int) : Bool := letB c || (decide (48 ≤ c) && decide (c ≤ 57))
/-- Byte number i. -/
def at0 (s : ByteArray) (i : Nat) : Int := ((s[i]?.getD 0).toNat : Int)
def allB (s : ByteArray) (n : Nat) : Bool := (List.range n).all fun i => okB (at0 s i)

theorem allB_succ (s : ByteArray) (n : Nat) : allB s (n + 1) = (allB s n && okB (at0 s n)) := by
  simp [allB, List.range_succ]
theorem allB_not {s : ByteArray} {k n : Nat} (hk : k < n) (h : okB (at0 s k) = false) : allB s n = false := by
  unfold allB
  rw [List.all_eq_false]
  exact ⟨k, by simpa using hk, by simp [h]⟩
theorem at_some {s : ByteArray} {i : Nat} (h : i < s.size) : ∃ u : UInt8, s[i]? = some u ∧ (u.toNat : Int) = at0 s i :=
  ⟨s[i], by simp [h], by simp [at0, h]⟩

theorem letter_c {n : Int} {Q : Value → Heap → Prop} {H : Heap} (h : Q (.bool (letB n)) H) : callS PP 13 #[.int .u8 n] Q H := by
  apply kilnref20_letter_ok
  unfold kilnref20_letter
  simp only [cond_dec]
  by_cases h1 : n ≥ 97
  · by_cases h2 : n ≤ 122
    · rw [if_pos h1, if_pos h2]; simpa [letB, h1, h2] using h
    · have h3 : ¬ n ≤ 90 := by omega
      rw [if_pos h1, if_neg h2, if_pos (by omega)]; simpa [letB, h1, h2, h3] using h
  · have h3 : ¬ 97 ≤ n := by omega
    rw [if_neg h1]
    by_cases h4 : n ≥ 65
    · rw [if_pos h4]; simpa [letB, h3, h4] using h
    · have h5 : ¬ 65 ≤ n := by omega
      rw [if_neg h4]; simpa [letB, h3, h5] using h

def plainB (s : ByteArray) : Bool := decide (1 ≤ s.size) && decide (s.size ≤ 32) && letB (at0 s 0) && allB s s.size

theorem plain_c {s : ByteArray} {Q : Value → Heap → Prop} {H : Heap} (h : Q (.bool (plainB s)) H) : callS PP 11 #[.string s] Q H := by
  apply kilnref20_plain_ok
  unfold kilnref20_plain
  simp only [cond_dec]
  split
  · rename_i h1; have : ¬ 1 ≤ s.size := by omega
    simpa [plainB, this] using h
  rename_i h1
  split
  · rename_i h2; have : ¬ s.size ≤ 32 := by omega
    simpa [plainB, this] using h
  rename_i h2
  have e1 : 1 ≤ s.size := by omega
  have e2 : s.size ≤ 32 := by omega
  obtain ⟨u, hu, hu'⟩ := at_some (s := s) (i := 0) (by omega)
  refine ⟨u, ⟨by omega, hu⟩, letter_c ⟨_, rfl, ?_⟩⟩
  rw [hu']
  cases hl : letB (at0 s 0)
  · simpa [plainB, hl] using h
  · have hp : plainB s = allB s s.size := by simp [plainB, e1, e2, hl]
    rw [hp] at h
    refine ⟨fun w H' => ∃ k : Nat, w = [.int .i64 k] ∧ H' = H ∧ k ≤ s.size ∧ allB s k = true, fun w _ => match w with | [.int _ n] => s.size - n.toNat | _ => 0, ⟨0, rfl, rfl, Nat.zero_le _, rfl⟩, ?_⟩
    rintro w H' ⟨k, rfl, rfl, hk, hall⟩ _
    refine ⟨k, rfl, ?_⟩
    by_cases hlt : k < s.size
    · rw [if_pos (by omega)]
      obtain ⟨v, hv, hv'⟩ := at_some hlt
      have hw : IntKind.wrap .i64 ((k : Int) + 1) = ((k + 1 : Nat) : Int) := by rw [wrap64_id (by omega) (by omega)]; rfl
      have next : allB s (k + 1) = true → (∃ k' : Nat, [Value.int .i64 (IntKind.wrap .i64 ((k : Int) + 1))] = [.int .i64 k'] ∧ H' = H' ∧ k' ≤ s.size ∧ allB s k' = true) ∧ s.size - (IntKind.wrap .i64 ((k : Int) + 1)).toNat < s.size - ((k : Int)).toNat := by
        intro ha
        rw [hw]
        exact ⟨⟨k + 1, rfl, rfl, hlt, ha⟩, by simp; omega⟩
      refine ⟨v, ⟨by omega, hv⟩, letter_c ⟨_, rfl, ?_⟩⟩
      rw [hv']
      have hs := allB_succ s k
      rw [hall, Bool.true_and] at hs
      cases hlk : letB (at0 s k)
      · refine ⟨v, ⟨by omega, hv⟩, ?_⟩
        rw [hv']
        split
        · rename_i h48
          have : ¬ 48 ≤ at0 s k := by omega
          rw [allB_not hlt (by simp [okB, hlk, this])] at h; exact h
        · rename_i h48
          refine ⟨v, ⟨by omega, hv⟩, ?_⟩
          rw [hv']
          split
          · rename_i h57
            have : ¬ at0 s k ≤ 57 := by omega
            rw [allB_not hlt (by simp [okB, hlk, this])] at h; exact h
          · rename_i h57
            have h4 : 48 ≤ at0 s k := by omega
            have h5 : at0 s k ≤ 57 := by omega
            exact next (by rw [hs]; simp [okB, h4, h5])
      · exact next (by rw [hs]; simp [okB, hlk])
    · rw [if_neg (by omega)]
      have : k = s.size := by omega
      subst this
      rw [hall] at h; exact h

def namedB (s : ByteArray) (a b : Int) : Bool := decide (1 ≤ s.size) && decide (s.size ≤ 32) && (decide (a ≤ at0 s 0) && decide (at0 s 0 ≤ b)) && allB s s.size

theorem okB_iff (c : Int) : okB c = true ↔ (97 ≤ c ∧ c ≤ 122) ∨ (65 ≤ c ∧ c ≤ 90) ∨ (48 ≤ c ∧ c ≤ 57) := by
  simp [okB, letB]
  omega

theorem size_zero {s : ByteArray} (h : s.size = 0) : s = (⟨#[]⟩ : ByteArray) := by
  obtain ⟨d⟩ := s
  congr
  exact Array.eq_empty_of_size_eq_zero h

theorem named_c {s : ByteArray} {a b : Int} {Q : Value → Heap → Prop} {H : Heap} (h : ∀ H', Fr [] H H' → Q (.bool (namedB s a b)) H') : callS PP 8 #[.string s, .int .u8 a, .int .u8 b] Q H := by
  apply plan_named_ok
  unfold plan_named
  simp only [cond_dec]
  refine cond_intro (fun h0 => ?_) (fun h0 => ?_)
  · have := strEq_iff.1 h0
    have e : namedB s a b = false := by subst this; rfl
    rw [e] at h; exact h _ (Fr.refl _ _)
  have e1 : 1 ≤ s.size := by
    rcases Nat.eq_zero_or_pos s.size with h1 | h1
    · rw [strEq_dec] at h0; exact absurd (size_zero h1) (of_decide_eq_false h0)
    · exact h1
  split
  · rename_i h2; have : ¬ s.size ≤ 32 := by omega
    have e : namedB s a b = false := by simp [namedB, this]
    rw [e] at h; exact h _ (Fr.refl _ _)
  rename_i h2
  have e2 : s.size ≤ 32 := by omega
  obtain ⟨u, hu, hu'⟩ := at_some (s := s) (i := 0) (by omega)
  refine ⟨u, ⟨by omega, hu⟩, ?_⟩
  rw [hu']
  split
  · rename_i h3; have : ¬ a ≤ at0 s 0 := by omega
    have e : namedB s a b = false := by simp [namedB, this]
    rw [e] at h; exact h _ (Fr.refl _ _)
  rename_i h3
  refine ⟨u, ⟨by omega, hu⟩, ?_⟩
  rw [hu']
  split
  · rename_i h4; have : ¬ at0 s 0 ≤ b := by omega
    have e : namedB s a b = false := by simp [namedB, this]
    rw [e] at h; exact h _ (Fr.refl _ _)
  rename_i h4
  have hn : namedB s a b = allB s s.size := by
    have : a ≤ at0 s 0 := by omega
    have h5 : at0 s 0 ≤ b := by omega
    simp [namedB, e1, e2, this, h5]
  rw [hn] at h
  refine evS_bytes (e := 5) (by kernel_rfl) (by kernel_rfl) (by kernel_rfl) fun cap H1 hfr hc => ?_
  refine ⟨_, _, _, rfl, fun w H' => ∃ k : Nat, w = [.int .i64 k] ∧ H' = H1 ∧ k ≤ s.size ∧ allB s k = true, fun w _ => match w with | [.int _ n] => s.size - n.toNat | _ => 0, ⟨0, rfl, rfl, Nat.zero_le _, rfl⟩, ?_⟩
  rintro w H' ⟨k, rfl, rfl, hk, hall⟩ _
  refine ⟨k, rfl, ?_⟩
  by_cases hlt : k < s.size
  · rw [if_pos (by omega)]
    have hw : IntKind.wrap .i64 ((k : Int) + 1) = ((k + 1 : Nat) : Int) := by rw [wrap64_id (by omega) (by omega)]; rfl
    have hs := allB_succ s k
    rw [hall, Bool.true_and] at hs
    have next : okB (at0 s k) = true → (∃ k' : Nat, [Value.int .i64 (IntKind.wrap .i64 ((k : Int) + 1))] = [.int .i64 k'] ∧ H' = H' ∧ k' ≤ s.size ∧ allB s k' = true) ∧ s.size - (IntKind.wrap .i64 ((k : Int) + 1)).toNat < s.size - ((k : Int)).toNat := by
      intro ha
      rw [hw]
      exact ⟨⟨k + 1, rfl, rfl, hlt, by rw [hs, ha]⟩, by simp; omega⟩
    have stop : okB (at0 s k) = false → Q (.bool false) H' := fun ho => by rw [allB_not hlt ho] at h; exact h _ hfr
    refine ⟨⟨by omega, by omega⟩, _, rfl, at0 s k, ?_, ?_⟩
    · have := hc k hlt; simpa [at0] using this
    · have ok := okB_iff (at0 s k)
      have nok : ¬ ((97 ≤ at0 s k ∧ at0 s k ≤ 122) ∨ (65 ≤ at0 s k ∧ at0 s k ≤ 90) ∨ (48 ≤ at0 s k ∧ at0 s k ≤ 57)) → okB (at0 s k) = false := fun hn => by
        cases ho : okB (at0 s k) with
        | false => rfl
        | true => exact absurd (ok.1 ho) hn
      repeat' split
      all_goals first
        | exact next (ok.2 (by omega))
        | exact stop (nok (by omega))
  · rw [if_neg (by omega)]
    have : k = s.size := by omega
    subst this
    rw [hall] at h; exact h _ hfr

/-- The five words that are no field's name. -/
def words : List ByteArray := [⟨#[115, 101, 108, 102]⟩, ⟨#[115, 117, 112, 101, 114]⟩, ⟨#[110, 105, 108]⟩, ⟨#[116, 114, 117, 101]⟩, ⟨#[102, 97, 108, 115, 101]⟩]

def inW (s : ByteArray) : Bool := words.any fun x => decide (x = s)
theorem inW_iff (s : ByteArray) : inW s = true ↔ s ∈ words := by simp [inW]

theorem index_c {b n c : Nat} {x : ByteArray} {l : List ByteArray} {Q : Value → Heap → Prop} {H : Heap} (hl : l.length = n) (hn : n < 1000) (hb : ∀ i, i < n → cellH H ⟨b, i, none⟩ = some (.string (l.getD i ByteArray.empty)))
    (h : ∀ r : Int, (0 ≤ r ↔ x ∈ l) → Q (.int .i64 r) H) : callS PP 12 #[.slice (some ⟨b, 0, none⟩) n c, .string x] Q H := by
  apply slices_Index_string_ok
  unfold slices_Index_string
  simp only [cond_dec]
  refine ⟨fun w H' => ∃ k : Nat, w = [.int .i64 k] ∧ H' = H ∧ k ≤ n ∧ ∀ i, i < k → l.getD i ByteArray.empty ≠ x, fun w _ => match w with | [.int _ m] => n - m.toNat | _ => 0, ⟨0, rfl, rfl, Nat.zero_le _, by simp⟩, ?_⟩
  rintro w H' ⟨k, rfl, rfl, hk, hall⟩ _
  refine ⟨k, rfl, ?_⟩
  by_cases hlt : k < n
  · rw [if_pos (by omega)]
    have hw : IntKind.wrap .i64 ((k : Int) + 1) = ((k + 1 : Nat) : Int) := by rw [wrap64_id (by omega) (by omega)]; rfl
    refine ⟨⟨by omega, by omega⟩, _, rfl, l.getD k ByteArray.empty, by simpa using hb k hlt, cond_intro (fun he => ?_) (fun he => ?_)⟩
    · have he := strEq_iff.1 he
      refine h k ⟨fun _ => ?_, fun _ => by omega⟩
      rw [he, List.getD_eq_getElem?_getD, List.getElem?_eq_getElem (by omega)]
      exact List.getElem_mem _
    · rw [hw]
      refine ⟨⟨k + 1, rfl, rfl, hlt, fun i hi => ?_⟩, by simp; omega⟩
      rcases Nat.lt_succ_iff_lt_or_eq.1 hi with h1 | rfl
      · exact hall i h1
      · rintro rfl
        rw [strEq_dec] at he; simp at he
  · rw [if_neg (by omega)]
    refine h (-1) ⟨fun h => by omega, fun hm => ?_⟩
    obtain ⟨i, hi, he⟩ := List.mem_iff_getElem.1 hm
    exact absurd (by rw [List.getD_eq_getElem?_getD, List.getElem?_eq_getElem hi]; exact he) (hall i (by omega))

theorem field_c {s : ByteArray} {Q : Value → Heap → Prop} {H : Heap} (h : ∀ H', Fr [] H H' → Q (.bool (namedB s 97 122 && !inW s)) H') : callS PP 4 #[.string s] Q H := by
  apply plan_FieldName_ok
  unfold plan_FieldName
  refine named_c fun H1 hf1 => ⟨_, rfl, cond_intro (fun hn => ?_) (fun hn => ?_)⟩
  · rw [hn] at h
    apply plan_reserved_ok
    unfold plan_reserved
    refine ⟨_, _, _, rfl, ?_⟩
    apply slices_Contains_string_ok
    unfold slices_Contains_string
    refine index_c (l := words) rfl (by omega) (fun i hi => ?_) fun r hr => ⟨r, rfl, ?_⟩
    · rw [(Blk.new _ _ _).cell]
      match i, hi with
      | 0, _ | 1, _ | 2, _ | 3, _ | 4, _ => rfl
    · refine ⟨_, rfl, ?_⟩
      have e : (decide (r ≥ 0)) = inW s := by
        rw [Bool.eq_iff_iff, inW_iff]; simp only [decide_eq_true_eq]; exact hr
      rw [e]
      simpa using h _ (hf1.trans (Fr.push _ _ _))
  · rw [hn] at h; exact h _ hf1

theorem refField_c {s : ByteArray} {Q : Value → Heap → Prop} {H : Heap} (h : Q (.bool (plainB s && decide (97 ≤ at0 s 0) && !inW s)) H) : callS PP 5 #[.string s] Q H := by
  apply kilnref20_FieldName_ok
  unfold kilnref20_FieldName
  refine plain_c ⟨_, rfl, cond_intro (fun hp => ?_) (fun hp => ?_)⟩
  · have hz : 1 ≤ s.size := by
      simp [plainB] at hp; exact hp.1.1.1
    obtain ⟨u, hu, hu'⟩ := at_some (s := s) (i := 0) (by omega)
    refine ⟨u, ⟨by omega, hu⟩, ?_⟩
    rw [hp] at h
    rw [hu']
    simp only [cond_dec, strEq_dec]
    have e : inW s = (decide (s = ⟨#[115, 101, 108, 102]⟩) || decide (s = ⟨#[115, 117, 112, 101, 114]⟩) || decide (s = ⟨#[110, 105, 108]⟩) || decide (s = ⟨#[116, 114, 117, 101]⟩) || decide (s = ⟨#[102, 97, 108, 115, 101]⟩)) := by
      rw [Bool.eq_iff_iff, inW_iff]; simp [words, or_assoc]
    rw [e] at h
    split
    · rename_i h97
      have h97' : decide (97 ≤ at0 s 0) = true := by simpa using h97
      rw [h97'] at h
      simp only [cond_iff]
      refine ⟨fun h1 => ⟨fun h2 => ⟨fun h3 => ⟨fun h4 => ?_, fun h4 => ?_⟩, fun h3 => ?_⟩, fun h2 => ?_⟩, fun h1 => ?_⟩ <;> simp_all
    · rename_i h97
      have h97' : decide (97 ≤ at0 s 0) = false := by simpa using h97
      rw [h97'] at h
      simpa using h
  · rw [hp] at h; simpa using h

theorem class_c {s : ByteArray} {Q : Value → Heap → Prop} {H : Heap} (h : ∀ H', Fr [] H H' → Q (.bool (namedB s 65 90)) H') : callS PP 6 #[.string s] Q H := by
  apply plan_ClassName_ok
  exact named_c fun H1 hf1 => ⟨_, rfl, h _ hf1⟩

theorem refClass_c {s : ByteArray} {Q : Value → Heap → Prop} {H : Heap} (h : Q (.bool (plainB s && decide (at0 s 0 ≤ 90))) H) : callS PP 7 #[.string s] Q H := by
  apply kilnref20_ClassName_ok
  unfold kilnref20_ClassName
  refine plain_c ⟨_, rfl, cond_intro (fun hp => ?_) (fun hp => ?_)⟩
  · have hz : 1 ≤ s.size := by
      simp [plainB] at hp; exact hp.1.1.1
    obtain ⟨u, hu, hu'⟩ := at_some (s := s) (i := 0) (by omega)
    refine ⟨u, ⟨by omega, hu⟩, ?_⟩
    rw [hu']; rw [hp] at h; simpa using h
  · rw [hp] at h; simpa using h

/-! ### The law -/
theorem field_eq (s : ByteArray) : (namedB s 97 122 && !inW s) = (plainB s && decide (97 ≤ at0 s 0) && !inW s) := by
  congr 1
  rw [Bool.eq_iff_iff]
  simp [namedB, plainB, letB]
  constructor
  · rintro ⟨⟨⟨h1, h2⟩, h3, h4⟩, h5⟩; exact ⟨⟨⟨⟨h1, h2⟩, .inl ⟨h3, h4⟩⟩, h5⟩, h3⟩
  · rintro ⟨⟨⟨⟨h1, h2⟩, h3⟩, h4⟩, h5⟩; exact ⟨⟨⟨h1, h2⟩, h5, by omega⟩, h4⟩
theorem class_eq (s : ByteArray) : namedB s 65 90 = (plainB s && decide (at0 s 0 ≤ 90)) := by
  rw [Bool.eq_iff_iff]
  simp [namedB, plainB, letB]
  constructor
  · rintro ⟨⟨⟨h1, h2⟩, h3, h4⟩, h5⟩; exact ⟨⟨⟨⟨h1, h2⟩, .inr ⟨h3, h4⟩⟩, h5⟩, h4⟩
  · rintro ⟨⟨⟨⟨h1, h2⟩, h3⟩, h4⟩, h5⟩; exact ⟨⟨⟨h1, h2⟩, by omega, h5⟩, h4⟩

theorem law_c (s : ByteArray) (H : Heap) : callS PP 3 #[.string s] (fun v H' => v = .bool true ∧ Fr [] H H') H := by
  apply kilnlaw20_PlanNames_ok
  unfold kilnlaw20_PlanNames
  refine field_c fun H1 f1 => ⟨_, rfl, refField_c ⟨_, rfl, ?_⟩⟩
  rw [field_eq, beq_self_eq_true, cond_true]
  refine class_c fun H2 f2 => ⟨_, rfl, refClass_c ⟨_, rfl, ?_⟩⟩
  rw [class_eq, beq_self_eq_true, cond_true]
  refine field_c fun H3 f3 => ⟨_, rfl, ?_⟩
  rw [show (namedB ⟨#[120]⟩ 97 122 && !inW ⟨#[120]⟩) = true by decide +kernel, cond_true]
  refine class_c fun H4 f4 => ⟨_, rfl, ?_⟩
  rw [show namedB ⟨#[88]⟩ 65 90 = true by decide +kernel]
  exact ⟨rfl, ((f1.trans f2).trans f3).trans f4⟩
end Go.Proofs.Ytdbbbjhefjlkiaa
