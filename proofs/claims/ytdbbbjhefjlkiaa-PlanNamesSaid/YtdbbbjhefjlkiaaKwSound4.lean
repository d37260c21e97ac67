/- Soundness: code, functions. -/
import Derived.Test.YtdbbbjhefjlkiaaKwSound3
namespace Kw
open Go

def noPanic : Exit → Prop
  | .panic _ | .outgrown => False
  | _ => True

def postOf (Q : Post) (ws : List Nat) (a : Act) (w : World) : Exit → Act → World → Prop := fun e a' w' => noPanic e ∧ Q e a' w'.heap ∧ Same w w' ∧ Keeps ws a a'

theorem Act.ext' {a b : Act} (h1 : a.tmps = b.tmps) (h2 : a.defers = b.defers) : a = b := by
  cases a; cases b; simp only at h1 h2; subst h1; subst h2; rfl

theorem getD_eq {a : Act} {i : Nat} (h : i < a.tmps.size) : a.tmps[i]? = some (a.tmps.getD i undef) := by
  simp [h]

theorem putAll_tmps {ws : List Nat} {a' : Act} : ∀ (l : List Nat) (b : Act), (∀ i ∈ l, i ∈ ws) → Keeps ws a' b →
    Keeps ws a' (putAll b l fun i => a'.tmps.getD i undef) ∧ ∀ i, (i ∈ l ∨ b.tmps[i]? = a'.tmps[i]?) → (putAll b l fun i => a'.tmps.getD i undef).tmps[i]? = a'.tmps[i]?
  | [], b, _, hk => ⟨hk, fun i hi => hi.resolve_left (by simp)⟩
  | j :: l, b, hl, hk => by
    have hk' : Keeps ws a' (b.put (some j) (a'.tmps.getD j undef)) := hk.trans (Keeps.put (by rintro d ⟨⟩; exact hl j (by simp)))
    obtain ⟨h1, h2⟩ := putAll_tmps l (b.put (some j) (a'.tmps.getD j undef)) (fun i hi => hl i (by simp [hi])) hk'
    refine ⟨h1, fun i hi => h2 i ?_⟩
    by_cases hij : i = j
    · subst hij
      right
      simp only [Act.put]
      by_cases hlt : i < a'.tmps.size
      · rw [Array.getElem?_setIfInBounds_self_of_lt (by rw [hk.1]; exact hlt)]; exact (getD_eq hlt).symm
      · have e1 : a'.tmps[i]? = none := Array.getElem?_eq_none (by omega)
        have e2 : (b.tmps.setIfInBounds i (a'.tmps.getD i undef))[i]? = none := Array.getElem?_eq_none (by rw [Array.size_setIfInBounds, hk.1]; omega)
        rw [e1]; exact e2
    · rcases hi with hi | hi
      · rcases List.mem_cons.1 hi with rfl | hi
        · exact absurd rfl hij
        · exact .inl hi
      · right
        simp only [Act.put]
        rw [Array.getElem?_setIfInBounds_ne (Ne.symm hij)]
        exact hi

theorem putAll_eq {ws : List Nat} {a a' : Act} (h : Keeps ws a a') : putAll a ws (fun i => a'.tmps.getD i undef) = a' := by
  have hk : Keeps ws a' a := ⟨h.1.symm, h.2.1.symm, fun i hi => (h.2.2 i hi).symm⟩
  obtain ⟨h1, h2⟩ := putAll_tmps (a' := a') ws a (fun _ hi => hi) hk
  refine Act.ext' ?_ h1.2.1
  apply Array.ext_getElem?
  intro i
  by_cases hi : i ∈ ws
  · exact h2 i (.inl hi)
  · exact h2 i (.inr (h.2.2 i hi).symm)

theorem putPairs_eq {a : Act} : ∀ {ps : List (Nat × Value)}, (∀ p ∈ ps, p.2 = a.tmps.getD p.1 undef) → putPairs a ps = a
  | [], _ => rfl
  | (t, v) :: r, h => by
    have h0 : v = a.tmps.getD t undef := h (t, v) (by simp)
    have : a.put (some t) v = a := by
      by_cases ht : t < a.tmps.size
      · exact put_same (by rw [h0]; exact getD_eq ht)
      · refine Act.ext' ?_ rfl
        simp only [Act.put, Array.setIfInBounds]
        rw [dif_neg ht]
    show putPairs (a.put (some t) v) r = a
    rw [this]
    exact putPairs_eq fun p hp => h p (by simp [hp])

theorem exSlots_elim {P : Program} : ∀ {L : List (Nat × TypeId)} {k : List (Nat × Value) → Prop}, exSlots P L k → ∃ ps, ps.map (·.1) = L.map (·.1) ∧ k ps
  | [], _, h => ⟨[], rfl, h⟩
  | (t, ty) :: r, k, h => by
    obtain ⟨v, h⟩ := exV_elim h
    obtain ⟨ps, hp, h⟩ := exSlots_elim h
    exact ⟨_, by simp [hp], h⟩

theorem pairs_slots {a' : Act} : ∀ {L : List (Nat × TypeId)} {ps : List (Nat × Value)}, ps.map (·.1) = L.map (·.1) → slotsOf a' L = ps.map (·.2) → ∀ p ∈ ps, p.2 = a'.tmps.getD p.1 undef
  | [], [], _, _, p, hp => by simp at hp
  | _ :: _, [], h, _, _, _ => by simp at h
  | [], _ :: _, h, _, _, _ => by simp at h
  | (t, ty) :: L, (s, v) :: ps, h, h', p, hp => by
    simp only [List.map_cons, List.cons.injEq] at h
    simp only [slotsOf, List.map_cons, List.cons.injEq] at h'
    rcases List.mem_cons.1 hp with rfl | hp
    · simp only [h.1, h'.1]
    · exact pairs_slots h.2 h'.2 p hp

theorem fromJoin_elim {P : Program} {ws : List Nat} {L : List (Nat × TypeId)} {a a' : Act} {K : Act → Heap → Prop} {H : Heap} (h : fromJoin P ws L a K (slotsOf a' L) H) (hk : Keeps ws a a') : K a' H := by
  obtain ⟨ps, hp, hs, h⟩ := exSlots_elim (h fun i => a'.tmps.getD i undef)
  rw [putAll_eq hk, putPairs_eq (pairs_slots hp hs)] at h
  exact h

theorem ev_sound {P : Program} (hP : Good P) {Ls : Live} : ∀ (c : Code) (Q : Post) (a : Act) (w : World), ev P Ls c Q a w.heap → c.wp P (postOf Q (writes c) a w) a w
  | .skip, Q, a, w, h => wp_skip ⟨trivial, h, Same.refl w, Keeps.refl _ a⟩
  | .label l, Q, a, w, h => wp_label ⟨trivial, h, Same.refl w, Keeps.refl _ a⟩
  | .region id ops draw, Q, a, w, h => by
    have hws : ∀ (i : Nat) (o : Oper), ops[i]? = some o → ∀ d, o.dst = some d → d ∈ writes (.region id ops draw) := fun i o ho d hd =>
      List.mem_filterMap.2 ⟨o, by simpa using Array.mem_of_getElem? ho, hd⟩
    simp only [ev] at h
    split at h
    · refine wp_region_list (evOps_sound hP ops.toList a w (fun o ho d hd => List.mem_filterMap.2 ⟨o, ho, hd⟩) h ?_)
      exact fun a' w' hq hs hk => ⟨trivial, hq, hs, hk⟩
    · split at h
      · rename_i hsel
        refine wp_region_any hP.mixed (wpAny_of_O _ (obs []) _ _ _ ?_)
        refine evDraw_sound hP hws hsel (fun c a w h => h.1) ops.size _ [] a { w with drawn := w.drawn + 1 } ?_ trivial h ?_
        · intro l hl
          by_cases hlt : l < ops.size <;> simp [hlt] at hl
        · exact fun a' w' hq hs hk => ⟨trivial, hq, hs, hk⟩
      · exact h.elim
  | .seq x y, Q, a, w, h => by
    have hx : ∀ i ∈ writes x, i ∈ writes (.seq x y) := fun i hi => List.mem_append_left _ hi
    have hy : ∀ i ∈ writes y, i ∈ writes (.seq x y) := fun i hi => List.mem_append_right _ hi
    simp only [ev] at h
    split at h
    · refine wp_seq (wp_mono (ev_sound hP x _ a w h) ?_)
      rintro e a' w' ⟨hp, hq, hs, hk⟩
      cases e with
      | normal =>
        refine wp_mono (ev_sound hP y Q a' w' hq) ?_
        rintro e a'' w'' ⟨hp', hq', hs', hk'⟩
        exact ⟨hp', hq', hs.trans hs', (hk.mono hx).trans (hk'.mono hy)⟩
      | panic c => exact hp.elim
      | outgrown => exact hp.elim
      | _ => exact ⟨trivial, hq, hs, hk.mono hx⟩
    · rename_i L hL
      obtain ⟨J, h1, h2⟩ := h
      refine wp_seq (wp_mono (ev_sound hP x _ a w h1) ?_)
      rintro e a' w' ⟨hp, hq, hs, hk⟩
      cases e with
      | normal =>
        have hq' := fromJoin_elim (h2 _ _ hq) hk
        refine wp_mono (ev_sound hP y Q a' w' hq') ?_
        rintro e a'' w'' ⟨hp', hq', hs', hk'⟩
        exact ⟨hp', hq', hs.trans hs', (hk.mono hx).trans (hk'.mono hy)⟩
      | panic c => exact hp.elim
      | outgrown => exact hp.elim
      | _ => exact ⟨trivial, hq, hs, hk.mono hx⟩
  | .cond c x y, Q, a, w, h => by
    have hx : ∀ i ∈ writes x, i ∈ writes (.cond c x y) := fun i hi => List.mem_append_left _ hi
    have hy : ∀ i ∈ writes y, i ∈ writes (.cond c x y) := fun i hi => List.mem_append_right _ hi
    simp only [ev] at h
    split at h
    · rename_i b hb
      have same : ∀ t, c = .tmp t → a.put (some t) (.bool b) = a := by
        rintro t rfl
        refine put_same ?_
        simp only [Act.eval] at hb
        by_cases ht : t < a.tmps.size
        · rw [getD_eq ht, hb]
        · have : a.tmps.getD t undef = undef := by simp [ht]
          rw [this] at hb; cases hb
      have h : cond b (ev P Ls x Q a w.heap) (ev P Ls y Q a w.heap) := by
        cases c with
        | tmp t =>
          have e := same t rfl
          cases b
          · simp only [e, cond_false] at h ⊢; exact h
          · simp only [e, cond_true] at h ⊢; exact h
        | _ => exact h
      cases b
      · exact wp_cond_false hb (wp_mono (ev_sound hP y Q a w h) fun e a' w' ⟨h1, h2, h3, h4⟩ => ⟨h1, h2, h3, h4.mono hy⟩)
      · exact wp_cond_true hb (wp_mono (ev_sound hP x Q a w h) fun e a' w' ⟨h1, h2, h3, h4⟩ => ⟨h1, h2, h3, h4.mono hx⟩)
    · exact h.elim
  | .block id b, Q, a, w, h => by
    simp only [ev] at h
    refine wp_block (wp_mono (ev_sound hP b _ a w h) ?_)
    rintro e a' w' ⟨hp, hq, hs, hk⟩
    cases e with
    | exit id' =>
      simp only [inBlockQ] at hq
      simp only [Exit.inBlock]
      split at hq
      · rename_i hid; rw [if_pos (of_decide_eq_true hid)]; exact ⟨trivial, hq, hs, hk⟩
      · rename_i hid; rw [if_neg (of_decide_eq_false hid)]; exact ⟨trivial, hq, hs, hk⟩
    | panic c => exact hp.elim
    | outgrown => exact hp.elim
    | _ => exact ⟨trivial, hq, hs, hk⟩
  | .loop b, Q, a, w, h => by
    simp only [ev] at h
    split at h
    · exact h.elim
    · rename_i L hL
      obtain ⟨I, μ, h0, h⟩ := h
      refine wp_loop (fun a' w' => I (slotsOf a' L) w'.heap ∧ Same w w' ∧ Keeps (writes b) a a') (fun a' w' => μ (slotsOf a' L) w'.heap) ⟨h0, Same.refl w, Keeps.refl _ a⟩ ?_
      rintro a' w' ⟨hI, hs, hk⟩
      have hb := fromJoin_elim (h _ _ hI) hk
      refine wp_mono (ev_sound hP b _ a' w' hb) ?_
      rintro e a'' w'' ⟨hp', hq', hs', hk'⟩
      cases e with
      | normal => exact ⟨⟨hq'.1, hs.trans hs', hk.trans hk'⟩, hq'.2⟩
      | panic c => exact hp'.elim
      | outgrown => exact hp'.elim
      | _ => exact ⟨trivial, hq', hs.trans hs', hk.trans hk'⟩
  | .exit id, Q, a, w, h => wp_exit ⟨trivial, h, Same.refl w, Keeps.refl _ a⟩
  | .ret, Q, a, w, h => wp_ret ⟨trivial, h, Same.refl w, Keeps.refl _ a⟩
  | .rangeFunc .., _, _, _, h => h.elim
  | .scope _, _, _, _, h => h.elim
  | .goto _, _, _, _, h => h.elim
  | .refuse _, _, _, _, h => h.elim

def resSem (tmps : Array Value) : ResultVar → Sem Value
  | .tmp t => pure (tmps.getD t undef)
  | .cell a t => do loadVar t (← asAddr (tmps.getD a undef))

theorem resL_elim {P : Program} {a : Act} {w : World} : ∀ {l : List ResultVar} {k : List Value → Prop}, resL P a w.heap l k → ∃ vs, k vs ∧ (l.mapM (resSem a.tmps)).run P w = .ok vs w
  | [], _, h => ⟨[], h, rfl⟩
  | .tmp t :: r, k, h => by
    obtain ⟨vs, hk, hr⟩ := resL_elim (l := r) h
    exact ⟨_, hk, by simp [List.mapM_cons, resSem, hr]⟩
  | .cell x t :: r, k, h => by
    simp only [resL] at h
    split at h
    · rename_i ad hx
      obtain ⟨v, cs, h, hc, hr1⟩ := evLoad_elim h
      obtain ⟨vs, hk, hr⟩ := resL_elim (l := r) h
      refine ⟨_, hk, ?_⟩
      rw [List.mapM_cons]
      simp only [Sem.run_bind, resSem, hx, asAddr, Sem.run_pure, Result.andThen_ok, hr1 w hc, hr]
    · exact h.elim

theorem results_run {P : Program} {fn : Func} {a : Act} {w : World} {k : Value → Prop} (h : resL P a w.heap fn.results.toList fun vs => match vs with
    | [v] => k v
    | vs => k (.tuple vs.toArray)) : ∃ v, k v ∧ (results fn a.tmps).run P w = .ok v w := by
  obtain ⟨vs, hk, hr⟩ := resL_elim h
  have e : (results fn a.tmps) = (do let vs ← fn.results.mapM (resSem a.tmps); pure (if h : vs.size = 1 then vs[0] else .tuple vs)) := by
    unfold results
    congr 1
  rw [e, Array.mapM_eq_mapM_toList]
  simp only [Sem.run_bind, Sem.run_map, hr, Result.andThen_ok, Sem.run_pure]
  match vs, hk with
  | [], hk => exact ⟨_, hk, by simp⟩
  | [v], hk => exact ⟨_, hk, by simp⟩
  | v :: u :: r, hk => exact ⟨_, hk, by simp⟩

theorem callS_of {P : Program} (hP : Good P) {f : FuncId} {fn : Func} (hf : P.funcs[f]? = some fn) {c : Code} (hc : fn.body = some c) {Ls : Live} {args : Array Value} {Q : Value → Heap → Prop} {H : Heap} {X : Prop}
    (hX : X = ev P Ls c (fnQ P fn Q) (enterA fn args) H) (h : X) : callS P f args Q H := by
  refine ⟨⟨fn, hf, by rw [hc]; rfl⟩, fun w hw => ?_⟩
  subst hw
  rw [hX] at h
  refine calls_of_wp hf hc (wp_mono (ev_sound hP c _ _ w h) ?_)
  rintro e a' w' ⟨hp, hq, hs, hk⟩
  have main : resL P a' w'.heap fn.results.toList (fun vs => match vs with
    | [v] => Q v w'.heap
    | vs => Q (.tuple vs.toArray) w'.heap) → a'.defers = [] ∧ ∃ v, (results fn a'.tmps).run P w' = .ok v w' ∧ (∃ v_1, Ending.returned v = .returned v_1 ∧ Q v_1 w'.heap ∧ w'.tape = w.tape ∧ w'.os = w.os ∧ w'.output = w.output) := by
    intro hq
    obtain ⟨v, hv, hr⟩ := results_run (k := fun v => Q v w'.heap) hq
    exact ⟨hk.2.1, v, hr, v, rfl, hv, hs.1, hs.2.1, hs.2.2⟩
  cases e with
  | normal => exact main hq
  | ret => exact main hq
  | panic c => exact hp.elim
  | outgrown => exact hp.elim
  | exit id => exact hq.elim
  | goto l => exact hq.elim

theorem callS_mono {P : Program} {f : FuncId} {args : Array Value} {Q Q' : Value → Heap → Prop} {H : Heap} (h : callS P f args Q H) (hq : ∀ v H', Q v H' → Q' v H') : callS P f args Q' H :=
  ⟨h.1, fun w hw => (h.2 w hw).mono fun _ _ ⟨v, he, hv, hs⟩ => ⟨v, he, hq _ _ hv, hs⟩⟩
end Kw
