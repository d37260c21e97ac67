/- Soundness: operations, lists of operations. -/
import Derived.Test.YtdbbbjhefjlkiaaKwSound
import Derived.Tactics
namespace Kw
open Go

theorem upon_value {P : Program} {o : Oper} {a : Act} {next : Act → World → Prop} {Q : Exit → Act → World → Prop} {r : Result Next} {v : Value} {w : World} (hr : r = .ok (.value v) w) (h : next (a.put o.dst v) w) : o.upon P a next Q r := by
  subst hr; exact h
theorem upon_skip {P : Program} {o : Oper} {a : Act} {next : Act → World → Prop} {Q : Exit → Act → World → Prop} {r : Result Next} {w : World} (hr : r = .ok .skip w) (h : next (a.put o.dst undef) w) : o.upon P a next Q r := by
  subst hr; exact h

theorem run_v {P : Program} {m : Sem Value} {w w' : World} {v : Value} (h : m.run P w = .ok v w') : (do pure (Next.value (← m)) : Sem Next).run P w = .ok (.value v) w' := by
  simp only [Sem.run_bind, h, Result.andThen_ok, Sem.run_pure]
theorem run_u {P : Program} {m : Sem Unit} {w w' : World} (h : m.run P w = .ok () w') : (do m; pure Next.skip : Sem Next).run P w = .ok .skip w' := by
  simp only [Sem.run_bind, h, Result.andThen_ok, Sem.run_pure]

theorem evS_value {P : Program} {o : Oper} {a : Act} {next : Act → World → Prop} {Q : Exit → Act → World → Prop} {m : Sem Value} {k : Value → Heap → Prop} {w : World}
    (he : execOp a.eval o = (do pure (Next.value (← m)))) (h : evS P m k w.heap) (hk : ∀ v w', k v w'.heap → Same w w' → next (a.put o.dst v) w') : o.wp P a w next Q := by
  obtain ⟨v, w', hr, hq, hs⟩ := evS_sound P m k w h
  unfold Oper.wp
  rw [he]
  exact upon_value (run_v hr) (hk v w' hq hs)

theorem evS_unit {P : Program} {o : Oper} {a : Act} {next : Act → World → Prop} {Q : Exit → Act → World → Prop} {m : Sem Unit} {k : Heap → Prop} {w : World}
    (he : execOp a.eval o = (do m; pure Next.skip)) (h : evS P m (fun _ => k) w.heap) (hk : ∀ w', k w'.heap → Same w w' → next (a.put o.dst undef) w') : o.wp P a w next Q := by
  obtain ⟨v, w', hr, hq, hs⟩ := evS_sound P m _ w h
  unfold Oper.wp
  rw [he]
  exact upon_skip (run_u hr) (hk w' hq hs)

theorem run_callFunc {P : Program} (hP : Good P) {g : FuncId} {fn : Func} (hf : P.funcs[g]? = some fn) (hb : fn.body.isSome = true) (args : Array Value) (w : World) :
    (callFunc g args).run P w = .ok (.enter g args) w := by
  have hn : (fn.name == "runtime.NumGoroutine") = false := by
    have := Array.all_eq_true_iff_forall_mem.1 hP.names fn (Array.mem_of_getElem? hf)
    simpa using this
  have hb' : fn.body.isNone = false := by cases h : fn.body <;> simp [h] at hb ⊢
  simp only [callFunc, Sem.run_bind, run_program, Result.andThen_ok, hf, hn, hb', Bool.false_eq_true, if_false, Sem.run_pure]

theorem evOp_sound {P : Program} (hP : Good P) {o : Oper} {a : Act} {k : Value → Heap → Prop} {w : World} {next : Act → World → Prop} {Q : Exit → Act → World → Prop}
    (h : evOp P o a k w.heap) (hk : ∀ v w', k v w'.heap → Same w w' → next (a.put o.dst v) w') : o.wp P a w next Q := by
  unfold evOp at h
  split at h
  · obtain ⟨v, hv, hr⟩ := evPure_sound h
    unfold Oper.wp
    exact upon_value (hr w) (hk v w hv (Same.refl w))
  · rename_i hpure; clear hpure
    obtain ⟨dst, op, type, pos, after, guard⟩ := o
    have hkt : ∀ v w', tyV P type v (fun x => k x w'.heap) → Same w w' → next (a.put dst v) w' := fun v w' h hs => hk v w' (tyV_elim h) hs
    cases op <;> simp only [] at h
    case load t x =>
      split at h
      · rename_i ad hx
        obtain ⟨v, cs, hv, hc, hr⟩ := evLoad_elim h
        unfold Oper.wp
        refine upon_value (v := v) (w := w) ?_ (hk v w hv (Same.refl w))
        refine run_v ?_
        simp only [hx, Instr.loadAt, Instr.sureAddr, Sem.run_bind, Sem.run_pure, Result.andThen_ok]
        exact hr w hc
      · exact h.elim
    case store t x v =>
      split at h
      · rename_i ad hx
        obtain ⟨w', hr, hq, hs⟩ := evStore_elim h
        unfold Oper.wp
        refine upon_skip (w := w') ?_ (hk undef w' hq hs)
        refine run_u ?_
        simp only [hx, Instr.storeAt, Instr.sureAddr, Sem.run_bind, Sem.run_pure, Result.andThen_ok]
        exact hr
      · exact h.elim
    case alloc e =>
      split at h
      · rename_i z hz
        obtain ⟨i, hi, hiz⟩ : ∃ i, P.info? e = some i ∧ i.zero = some z := by
          cases hi : P.info? e with
          | none => simp [hi] at hz
          | some i => simp [hi] at hz; exact ⟨i, rfl, hz⟩
        unfold Oper.wp
        refine upon_value (v := .pointer (some ⟨w.heap.size, 0, none⟩)) (w := { w with heap := w.heap.push (.cells z.cells e) }) ?_ (hk _ _ h ⟨rfl, rfl, rfl⟩)
        refine run_v ?_
        simp only [Instr.alloc, zeroValue, Sem.run_bind, run_typeInfo' hi, Result.andThen_ok, hiz, Sem.run_pure, newVar, newRow, run_newObj]
      · exact h.elim
    case box e x =>
      unfold Oper.wp
      refine upon_value (v := .pointer (some ⟨w.heap.size, 0, none⟩)) (w := { w with heap := w.heap.push (.cells (a.eval x).cells e) }) ?_ (hk _ _ h ⟨rfl, rfl, rfl⟩)
      refine run_v ?_
      simp only [Instr.box, Sem.run_bind, Result.andThen_ok, Sem.run_pure, newVar, newRow, run_newObj]
    case buildSlice t len parts => exact evS_value rfl h hk
    case makeMap t r =>
      cases r with
      | some r => exact h.elim
      | none =>
        unfold Oper.wp
        refine upon_value (v := .map (some w.heap.size)) (w := { w with heap := w.heap.push (.map #[] 0) }) ?_ (hk _ _ h ⟨rfl, rfl, rfl⟩)
        rfl
    case makeSlice t l c => exact evS_value rfl h hkt
    case lookup t m key ok => exact evS_value rfl h hkt
    case mapUpdate t m key x => exact evS_unit rfl h (hk undef)
    case insert t m key x => exact evS_unit rfl h (hk undef)
    case mapEntry t m key => exact evS_value rfl h hk
    case entryStore t m s x => exact evS_unit rfl h (hk undef)
    case range t x => exact evS_value rfl h hk
    case next it s => exact evS_value rfl h hk
    case convert src dst x => exact evS_value rfl h hkt
    case binOp op t x y u => exact evS_value rfl h hkt
    case call c =>
      obtain ⟨callee, args, argTypes⟩ := c
      cases callee <;> simp only [] at h
      case value f =>
        split at h
        · rename_i g first cap hf
          obtain ⟨⟨fn, hfn, hb⟩, hc⟩ := h
          have hrun : (execOp a.eval ⟨dst, .call ⟨.value f, args, argTypes⟩, type, pos, after, guard⟩).run P w = .ok (.enter g ((first ++ args.map a.eval) ++ cap)) w := by
            show Sem.run P (do let d ← resolve a.eval ⟨.value f, args, argTypes⟩ type; invoke d.target d.args) w = _
            simp only [resolve, hf, Deferred.ofValue, Sem.run_bind, Sem.run_pure, Result.andThen_ok, invoke]
            exact run_callFunc hP hfn hb _ w
          unfold Oper.wp
          rw [hrun, Oper.upon_enter]
          refine (hc w rfl).mono ?_
          rintro e w' ⟨v, rfl, hv, hs⟩
          exact hkt v w' hv hs
        · exact h.elim
      case builtin b =>
        cases b <;> simp only [] at h
        case append => exact evS_value rfl h hkt
        case copy => exact evS_value rfl h hkt
        case len => exact evS_value rfl h hkt
        case clear => exact evS_value rfl h hk
        case delete => exact evS_value rfl h hk
        all_goals exact h.elim
    all_goals exact h.elim

/-! ### Guards, lists of operations -/
def Keeps (ws : List Nat) (a a' : Act) : Prop := a'.tmps.size = a.tmps.size ∧ a'.defers = a.defers ∧ ∀ i, i ∉ ws → a'.tmps[i]? = a.tmps[i]?
theorem Keeps.refl (ws : List Nat) (a : Act) : Keeps ws a a := ⟨rfl, rfl, fun _ _ => rfl⟩
theorem Keeps.trans {ws : List Nat} {a a' a'' : Act} (h : Keeps ws a a') (h' : Keeps ws a' a'') : Keeps ws a a'' :=
  ⟨h'.1.trans h.1, h'.2.1.trans h.2.1, fun i hi => (h'.2.2 i hi).trans (h.2.2 i hi)⟩
theorem Keeps.mono {ws ws' : List Nat} {a a' : Act} (h : Keeps ws a a') (hs : ∀ i ∈ ws, i ∈ ws') : Keeps ws' a a' :=
  ⟨h.1, h.2.1, fun i hi => h.2.2 i fun hm => hi (hs i hm)⟩
theorem Keeps.put {ws : List Nat} {a : Act} {dst : Option Tmp} {v : Value} (h : ∀ d, dst = some d → d ∈ ws) : Keeps ws a (a.put dst v) := by
  cases dst with
  | none => exact Keeps.refl ws a
  | some d =>
    refine ⟨by simp [Act.put], rfl, fun i hi => ?_⟩
    have : d ≠ i := fun e => hi (e ▸ h d rfl)
    simp [Act.put, Array.getElem?_setIfInBounds_ne this]

theorem put_same {a : Act} {d : Nat} {v : Value} (h : a.tmps[d]? = some v) : a.put (some d) v = a := by
  obtain ⟨tmps, defers⟩ := a
  simp only [Act.put] at h ⊢
  congr 1
  obtain ⟨hd, hv⟩ := Array.getElem?_eq_some_iff.1 h
  apply Array.ext (by simp)
  intro i h1 h2
  rw [Array.getElem_setIfInBounds (by simpa using h2)]
  split
  · rename_i e; subst e; exact hv.symm
  · rfl

theorem evGuard_elim {ops : Array Oper} {o : Oper} {a : Act} {yes no : Act → Prop} (h : evGuard ops o a yes no) :
    (Region.wanted o (yielded ops a.tmps) = true ∧ yes a) ∨ (Region.wanted o (yielded ops a.tmps) = false ∧ no a) := by
  unfold evGuard at h
  unfold Region.wanted
  split at h
  · rename_i hg; rw [hg]; exact .inl ⟨rfl, h⟩
  · rename_i j want hg
    rw [hg]
    dsimp only
    split at h
    · rename_i hd
      refine .inr ⟨?_, h⟩
      simp [yielded, hd]
    · rename_i d hd
      have hy : yielded ops a.tmps j = match a.tmps[d]? with | some (.bool b) => some b | _ => none := by
        unfold yielded; rw [hd]; rfl
      split at h
      · rename_i b hb
        rw [hy, hb]
        cases b
        · rw [cond_false] at h
          cases want
          · exact .inl ⟨rfl, by simpa only [put_same hb] using h⟩
          · exact .inr ⟨rfl, by simpa only [put_same hb] using h⟩
        · rw [cond_true] at h
          cases want
          · exact .inr ⟨rfl, by simpa only [put_same hb] using h⟩
          · exact .inl ⟨rfl, by simpa only [put_same hb] using h⟩
      · rename_i hb; rw [hy, hb]; exact .inr ⟨rfl, h⟩
      · rename_i hb; rw [hy, hb]; exact .inr ⟨rfl, h⟩
      · exact h.elim

theorem evOps_sound {P : Program} (hP : Good P) {ops : Array Oper} {Q : Act → Heap → Prop} {Q' : Exit → Act → World → Prop} {ws : List Nat} : ∀ (l : List Oper) (a : Act) (w : World),
    (∀ o ∈ l, ∀ d, o.dst = some d → d ∈ ws) → evOps P ops Q l a w.heap → (∀ a' w', Q a' w'.heap → Same w w' → Keeps ws a a' → Q' .normal a' w') → wpList P ops Q' l a w
  | [], a, w, _, h, hk => hk a w h (Same.refl w) (Keeps.refl ws a)
  | o :: rest, a, w, hd, h, hk => by
    have hd' : ∀ d, o.dst = some d → d ∈ ws := hd o (by simp)
    have hdr : ∀ o ∈ rest, ∀ d, o.dst = some d → d ∈ ws := fun o ho => hd o (by simp [ho])
    unfold wpList
    rcases evGuard_elim h with ⟨hw, hy⟩ | ⟨hw, hn⟩
    · rw [if_pos hw]
      refine .inl (evOp_sound hP hy fun v w' hv hs => ?_)
      exact evOps_sound hP rest _ w' hdr hv fun a' w'' hq hs' hkeep => hk a' w'' hq (hs.trans hs') ((Keeps.put hd').trans hkeep)
    · rw [if_neg (by simp [hw])]
      exact evOps_sound hP rest _ w hdr hn fun a' w'' hq hs' hkeep => hk a' w'' hq hs' ((Keeps.put hd').trans hkeep)
end Kw
