/- Soundness: regions that draw their order. -/
import Derived.Test.YtdbbbjhefjlkiaaKwSound2
namespace Kw
open Go

section
variable {P : Program} {ops : Array Oper} {Q : Exit → Act → World → Prop}

abbrev md : Region.Mode := .any

inductive Path (ops : Array Oper) : Nat → Nat → Prop where
  | one {i j : Nat} (h : j ∈ preds ops i) : Path ops i j
  | more {i j k : Nat} (h : j ∈ preds ops i) (h' : Path ops j k) : Path ops i k

theorem Path.snoc {i j k : Nat} (h : Path ops i j) (h' : k ∈ preds ops j) : Path ops i k := by
  induction h with
  | one h => exact .more h (.one h')
  | more h _ ih => exact .more h (ih h')

theorem ancGo_path {i : Nat} : ∀ (p : Nat) (acc : List Nat), (∀ x ∈ acc, Path ops i x) → ∀ x ∈ ancGo ops p acc, Path ops i x
  | 0, _, h => h
  | p + 1, acc, h => by
    unfold ancGo
    refine ancGo_path p _ ?_
    split
    · rename_i hp
      intro x hx
      rcases List.mem_append.1 hx with hx | hx
      · exact (h p (by simpa using hp)).snoc hx
      · exact h x hx
    · exact h
theorem anc_path {i x : Nat} (h : x ∈ anc ops i) : Path ops i x := ancGo_path i _ (fun _ hx => .one hx) x h

/-- What is listed has all listed that it waits for. -/
def Closed (ops : Array Oper) (listed : Array Bool) : Prop := ∀ l, listed.getD l false = true → ∀ p ∈ preds ops l, listed.getD p false = true

theorem preds_listed {j : Nat} {listed : Array Bool} (hj : j ∈ Region.ready md ops listed) : ∀ p ∈ preds ops j, listed.getD p false = true := by
  obtain ⟨_, o, ho, hall⟩ := mem_ready.1 hj
  intro p hp
  simp only [preds, ho, List.mem_map, List.mem_filter] at hp
  obtain ⟨e, ⟨he, hb⟩, rfl⟩ := hp
  exact hall e (by simpa using he) hb

theorem path_listed {listed : Array Bool} (hc : Closed ops listed) {i j : Nat} (h : Path ops i j) : (∀ p ∈ preds ops i, listed.getD p false = true) → listed.getD j false = true := by
  induction h with
  | one h => exact fun hi => hi _ h
  | more h _ ih => exact fun hi => ih (hc _ (hi _ h))

theorem Closed.step {listed : Array Bool} (hc : Closed ops listed) {j : Nat} (hj : j ∈ Region.ready md ops listed) : Closed ops (listed.setIfInBounds j true) := by
  intro l hl p hp
  by_cases h : j = l
  · subst h; exact getD_set_true (preds_listed hj p hp)
  · rw [getD_set_ne false h] at hl; exact getD_set_true (hc l hl p hp)

abbrev Ob := List (Nat × (World → Prop))
def dropped (ops : Array Oper) (O : Ob) (i : Nat) : Ob := O.filter fun p => !(anc ops i).contains p.1
def Obl (O : Ob) (w : World) : Prop := ∀ p ∈ O, p.2 w

theorem dropped_sub {O : Ob} {i : Nat} : ∀ p ∈ dropped ops O i, p ∈ O := fun _ hp => (List.mem_filter.1 hp).1

/-- Whatever order is picked from here on; behind each operation what is promised still holds. -/
def wpAnyO (P : Program) (ops : Array Oper) (Q : Exit → Act → World → Prop) : Nat → Ob → Array Bool → Act → World → Prop
  | 0, _, listed, a, w => Region.ready md ops listed = [] ∧ Q .normal a w
  | fuel + 1, O, listed, a, w =>
    (Region.ready md ops listed = [] → Q .normal a w) ∧
    ∀ i ∈ Region.ready md ops listed, wpOp P ops Q i (fun a' w' => Obl (dropped ops O i) w' ∧ wpAnyO P ops Q fuel (dropped ops O i) (listed.setIfInBounds i true) a' w') a w

theorem wpAny_of_O : ∀ (fuel : Nat) (O : Ob) (listed : Array Bool) (a : Act) (w : World), wpAnyO P ops Q fuel O listed a w → wpAny P md ops Q fuel listed a w
  | 0, _, _, _, _, h => h
  | fuel + 1, _, _, _, _, h => ⟨h.1, fun i hi => wpOp_mono (fun a' w' h' => wpAny_of_O fuel _ _ a' w' h'.2) (h.2 i hi)⟩

theorem wpAnyO_mono : ∀ (fuel : Nat) (O O' : Ob) (listed : Array Bool) (a : Act) (w : World), (∀ p ∈ O', p ∈ O) → wpAnyO P ops Q fuel O listed a w → wpAnyO P ops Q fuel O' listed a w
  | 0, _, _, _, _, _, _, h => h
  | fuel + 1, O, O', listed, a, w, hs, h => by
    have hs' : ∀ i, ∀ p ∈ dropped ops O' i, p ∈ dropped ops O i := fun i p hp => by
      obtain ⟨h1, h2⟩ := List.mem_filter.1 hp
      exact List.mem_filter.2 ⟨hs p h1, h2⟩
    exact ⟨h.1, fun i hi => wpOp_mono (fun a' w' h' => ⟨fun p hp => h'.1 p (hs' i p hp), wpAnyO_mono fuel _ _ _ a' w' (hs' i) h'.2⟩) (h.2 i hi)⟩

theorem wpAnyO_first {i : Nat} {oi : Oper} {v : Value} {S : World → Prop} (hi : ops[i]? = some oi) (hsel : ∀ (j : Nat) (o : Oper) cs b, ops[j]? = some o → o.op ≠ .select cs b)
    (hQ : ∀ c a w, Q (.panic c) (a.put oi.dst v) w → Q (.panic c) a w) :
    ∀ (fuel : Nat) (O : Ob) (listed : Array Bool) (a : Act) (w : World),
      (∀ j oj, ops[j]? = some oj → j ≠ i → listed.getD j true = false → (∀ e ∈ oj.after, Region.binds md e = true → e.on ≠ i) → oi.apart ops oj = true) →
      Closed ops listed → i ∈ Region.ready md ops listed → YieldsIf P ops S oi v a → S w → Obl O w →
      wpAnyO P ops Q fuel ((i, S) :: O) (listed.setIfInBounds i true) (a.put oi.dst v) w → wpAnyO P ops Q (fuel + 1) O listed a w := by
  intro fuel
  induction fuel with
  | zero =>
    intro O listed a w _ _ hr hy hS hO H
    refine ⟨fun h => (by rw [h] at hr; cases hr), fun j hj => ?_⟩
    by_cases hji : j = i
    · subst hji; exact hy.wpOp hi hS ⟨fun p hp => hO p (dropped_sub p hp), H⟩
    · have := ready_mono hj hji
      rw [H.1] at this
      cases this
  | succ fuel ih =>
    intro O listed a w hfree hcl hr hy hS hO H
    refine ⟨fun h => (by rw [h] at hr; cases hr), fun j hj => ?_⟩
    by_cases hji : j = i
    · subst hji; exact hy.wpOp hi hS ⟨fun p hp => hO p (dropped_sub p hp), wpAnyO_mono _ _ _ _ _ _ (fun p hp => List.mem_cons_of_mem _ (dropped_sub p hp)) H⟩
    · have h1 := H.2 j (ready_mono hj hji)
      obtain ⟨hjun, oj, hoj, hall⟩ := mem_ready.1 hj
      have hiun : listed.getD i false = false := by
        have h0 := (mem_ready.1 hr).1
        rcases Nat.lt_or_ge i listed.size with h' | h'
        · simp [h'] at h0 ⊢; exact h0
        · simp [Array.getElem?_eq_none h']
      have hnot : ∀ e ∈ oj.after, Region.binds md e = true → e.on ≠ i := fun e he hb heq => by
        have h1 := hall e he hb
        rw [heq, hiun] at h1
        cases h1
      have hnp : (anc ops j).contains i = false := by
        cases hc : (anc ops j).contains i with
        | false => rfl
        | true =>
          have := path_listed hcl (anc_path (by simpa using hc)) (preds_listed hj)
          rw [hiun] at this
          cases this
      have hdr : dropped ops ((i, S) :: O) j = (i, S) :: dropped ops O j := by
        unfold dropped
        rw [List.filter_cons_of_pos (by simpa using hnp)]
      rw [hdr] at h1
      have h2 := wpOp_putIf hoj (hfree j oj hoj hji hjun hnot) (fun cs b => hsel i oi cs b hi) (fun cs b => hsel j oj cs b hoj) hQ hy h1
      have hfree' : ∀ k ok, ops[k]? = some ok → k ≠ i → (listed.setIfInBounds j true).getD k true = false →
          (∀ e ∈ ok.after, Region.binds md e = true → e.on ≠ i) → oi.apart ops ok = true := fun k ok hk hki hun hno => by
        refine hfree k ok hk hki ?_ hno
        by_cases hjk : j = k
        · subst hjk; exact hjun
        · rw [getD_set_ne true hjk] at hun; exact hun
      refine wpOp_mono (fun a' w' h3 => ?_) h2
      have hob : Obl (dropped ops O j) w' := fun p hp => h3.2.1 p (List.mem_cons_of_mem _ hp)
      refine ⟨hob, ih (dropped ops O j) (listed.setIfInBounds j true) a' w' hfree' (hcl.step hj) (ready_mono hr (Ne.symm hji)) h3.1 (h3.2.1 (i, S) (by simp)) hob ?_⟩
      rw [Array.setIfInBounds_comm _ _ hji]
      exact h3.2.2

/-- What is held, as promises. -/
def obs (held : List (Nat × List (Addr × Value))) : Ob := held.map fun h => (h.1, fun w => HoldsL h.2 w.heap)

theorem obs_drop (held : List (Nat × List (Addr × Value))) (i : Nat) : dropped ops (obs held) i = obs (heldOn ops i held) := by
  unfold dropped obs heldOn
  rw [List.filter_map]
  rfl

theorem Obl_obs {held : List (Nat × List (Addr × Value))} {w : World} : Holds held w.heap ↔ Obl (obs held) w := by
  induction held with
  | nil => exact ⟨fun _ p hp => by simp [obs] at hp, fun _ => trivial⟩
  | cons h r ih =>
    obtain ⟨i, l⟩ := h
    constructor
    · rintro ⟨h1, h2⟩ p hp
      rcases List.mem_cons.1 hp with rfl | hp
      · exact h1
      · exact ih.1 h2 p hp
    · intro h
      exact ⟨h _ (List.mem_cons_self ..), ih.2 fun p hp => h p (List.mem_cons_of_mem _ hp)⟩

theorem andAll_mem : ∀ {l : List Nat} {p : Nat → Prop}, andAll l p → ∀ i ∈ l, p i
  | [], _, _, _, hi => by simp at hi
  | [i], _, h, j, hj => by simp at hj; subst hj; exact h
  | i :: k :: r, _, h, j, hj => by
    rcases List.mem_cons.1 hj with rfl | hj
    · exact h.1
    · exact andAll_mem h.2 j hj

theorem addTrue {P : Program} {ops : Array Oper} {Q' : Exit → Act → World → Prop} {i : Nat} : ∀ (n : Nat) (O : Ob) (listed : Array Bool) (a : Act) (w : World), wpAnyO P ops Q' n O listed a w → wpAnyO P ops Q' n ((i, fun _ => True) :: O) listed a w
  | 0, _, _, _, _, h => h
  | n + 1, O, listed, a, w, h => by
    refine ⟨h.1, fun j hj => wpOp_mono (fun a' w' h' => ?_) (h.2 j hj)⟩
    have hsub : ∀ p ∈ dropped ops ((i, fun _ => True) :: O) j, p ∈ (i, fun _ => True) :: dropped ops O j := fun p hp => by
      obtain ⟨h1, h2⟩ := List.mem_filter.1 hp
      rcases List.mem_cons.1 h1 with rfl | h1
      · exact List.mem_cons_self ..
      · exact List.mem_cons_of_mem _ (List.mem_filter.2 ⟨h1, h2⟩)
    refine ⟨fun p hp => ?_, wpAnyO_mono _ _ _ _ _ _ hsub (addTrue n _ _ a' w' h'.2)⟩
    rcases List.mem_cons.1 (hsub p hp) with rfl | hp
    · trivial
    · exact h'.1 p hp

theorem evDraw_sound {P : Program} (hP : Good P) {ops : Array Oper} {Q : Act → Heap → Prop} {Q' : Exit → Act → World → Prop} {ws : List Nat} (hws : ∀ (i : Nat) (o : Oper), ops[i]? = some o → ∀ d, o.dst = some d → d ∈ ws)
    (hsel : Region.noSelect ops = true) (hQ : ∀ c a w, ¬ Q' (.panic c) a w) : ∀ (n : Nat) (listed : Array Bool) (held : List (Nat × List (Addr × Value))) (a : Act) (w : World),
    Closed ops listed → Holds held w.heap → evDraw P ops Q n listed held a w.heap → (∀ a' w', Q a' w'.heap → Same w w' → Keeps ws a a' → Q' .normal a' w') → wpAnyO P ops Q' n (obs held) listed a w
  | 0, listed, held, a, w, _, _, h, hk => by
    simp only [evDraw] at h
    split at h
    · rename_i hr; exact ⟨by simpa using hr, hk a w h (Same.refl w) (Keeps.refl ws a)⟩
    · exact h.elim
  | n + 1, listed, held, a, w, hcl, hheld, h, hk => by
    simp only [evDraw] at h
    split at h
    · rename_i i hq
      split at h
      · rename_i o hfree ho
        have hd : ∀ d, o.dst = some d → d ∈ ws := hws i o ho
        have hir : i ∈ Region.ready md ops listed := List.mem_of_find?_eq_some hq
        have take : ∀ (v : Value) (S : World → Prop) (held' : List (Nat × List (Addr × Value))), (∀ p ∈ obs held', p ∈ (i, S) :: obs held) → wpAnyO P ops Q' n ((i, S) :: obs held) (listed.setIfInBounds i true) (a.put o.dst v) w → YieldsIf P ops S o v a → S w → wpAnyO P ops Q' (n + 1) (obs held) listed a w :=
          fun v S held' _ H hy hS => wpAnyO_first ho (Region.noSelect_spec hsel) (fun c a w h => (hQ c _ w h).elim) n (obs held) listed a w (Region.free_spec ho hfree) hcl hir hy hS (Obl_obs.1 hheld) H
        have rest : ∀ (v : Value) (held' : List (Nat × List (Addr × Value))), Holds held' w.heap → evDraw P ops Q n (listed.setIfInBounds i true) held' (a.put o.dst v) w.heap → wpAnyO P ops Q' n (obs held') (listed.setIfInBounds i true) (a.put o.dst v) w :=
          fun v held' hh hv => evDraw_sound hP hws hsel hQ n _ held' _ w (hcl.step hir) hh hv fun a' w'' hq hs hkeep => hk a' w'' hq hs ((Keeps.put hd).trans hkeep)
        -- an operation whose value does not look at the heap
        have plain : ∀ (v : Value), YieldsIf P ops (fun _ => True) o v a → evDraw P ops Q n (listed.setIfInBounds i true) held (a.put o.dst v) w.heap → wpAnyO P ops Q' (n + 1) (obs held) listed a w := by
          intro v hy hv
          refine take v (fun _ => True) ((i, []) :: held) (fun p hp => ?_) ?_ hy trivial
          · rcases List.mem_cons.1 hp with rfl | hp
            · exact List.mem_cons_self ..
            · exact List.mem_cons_of_mem _ hp
          · have := evDraw_sound hP hws hsel hQ n (listed.setIfInBounds i true) held (a.put o.dst v) w (hcl.step hir) hheld hv fun a' w'' hq hs hkeep => hk a' w'' hq hs ((Keeps.put hd).trans hkeep)
            exact addTrue n (obs held) (listed.setIfInBounds i true) _ w this
        rcases evGuard_elim h with ⟨hw, hy⟩ | ⟨hw, hn⟩
        · split at hy
          · obtain ⟨v, hv, hr⟩ := evPure_sound hy
            exact plain v (.inl ⟨hw, fun w _ => hr w⟩) hv
          · rename_i hpure
            split at hy
            · rename_i t x hop
              split at hy
              · rename_i ad hx
                obtain ⟨v, cs, hv, hc, hr⟩ := evLoad_elim hy
                refine take v (fun w => HoldsL cs w.heap) ((i, cs) :: held) (fun p hp => hp) (rest v ((i, cs) :: held) ⟨hc, hheld⟩ hv) (.inl ⟨hw, fun w' hw' => ?_⟩) hc
                obtain ⟨dst, op, type, pos, after, guard⟩ := o
                simp only at hop
                subst hop
                refine run_v ?_
                simp only [hx, Instr.loadAt, Instr.sureAddr, Sem.run_bind, Sem.run_pure, Result.andThen_ok]
                exact hr w' hw'
              · exact hy.elim
            · exact hy.elim
        · exact plain undef (.inr ⟨hw, rfl⟩) hn
      · exact h.elim
    · split at h
      · rename_i hr
        refine ⟨fun _ => hk a w h (Same.refl w) (Keeps.refl ws a), fun i hi => ?_⟩
        rw [show Region.ready md ops listed = [] from hr] at hi
        cases hi
      · rename_i hne
        refine ⟨fun hr => absurd hr hne, fun i hi => ?_⟩
        have hi' := andAll_mem h i hi
        have hcl' := hcl.step hi
        split at hi'
        · rename_i o ho
          have hd : ∀ d, o.dst = some d → d ∈ ws := hws i o ho
          rw [obs_drop]
          unfold wpOp
          simp only [ho]
          rcases evGuard_elim hi' with ⟨hw, hy⟩ | ⟨hw, hn⟩
          · rw [if_pos hw]
            refine .inl (evOp_sound hP hy fun v w' hv hs => ?_)
            exact ⟨Obl_obs.1 hv.1, evDraw_sound hP hws hsel hQ n _ _ _ w' hcl' hv.1 hv.2 fun a' w'' hq hs' hkeep => hk a' w'' hq (hs.trans hs') ((Keeps.put hd).trans hkeep)⟩
          · rw [if_neg (by simp [hw])]
            have hh : Holds (heldOn ops i held) w.heap := Obl_obs.2 fun p hp => Obl_obs.1 hheld p (by rw [← obs_drop] at hp; exact dropped_sub p hp)
            exact ⟨Obl_obs.1 hh, evDraw_sound hP hws hsel hQ n _ _ _ w hcl' hh hn fun a' w'' hq hs' hkeep => hk a' w'' hq hs' ((Keeps.put hd).trans hkeep)⟩
        · exact hi'.elim
end
end Kw
