/- The predicate transformer is sound for the model's code. -/
import Derived.Test.YtdbbbjhefjlkiaaKwEv
namespace Kw
open Go

def Same (w w' : World) : Prop := w'.tape = w.tape ∧ w'.os = w.os ∧ w'.output = w.output
theorem Same.refl (w : World) : Same w w := ⟨rfl, rfl, rfl⟩
theorem Same.trans {w w' w'' : World} (h : Same w w') (h' : Same w' w'') : Same w w'' := ⟨h'.1.trans h.1, h'.2.1.trans h.2.1, h'.2.2.trans h.2.2⟩

theorem evS_sound (P : Program) {α : Type} (m : Sem α) : ∀ (Q : α → Heap → Prop) (w : World), evS P m Q w.heap → ∃ a w', m.run P w = .ok a w' ∧ Q a w'.heap ∧ Same w w' := by
  induction m with
  | pure a => exact fun Q w h => ⟨a, w, rfl, h, Same.refl w⟩
  | load m a k ih =>
    rintro Q w ⟨v, hv, h⟩
    obtain ⟨b, w', hr, hq⟩ := ih v Q w h
    exact ⟨b, w', by simp only [Sem.run, show w.cell? a = some v from hv]; exact hr, hq⟩
  | store m a v k ih =>
    rintro Q w ⟨h1, ⟨⟨v0, h2⟩, h3⟩, h⟩
    obtain ⟨b, w', hr, hq, hs⟩ := ih Q (w.setCell a v) h
    refine ⟨b, w', ?_, hq, hs⟩
    have e2 : w.cell? a = some v0 := h2
    have e3 : w.frozen? a = false := h3
    cases v <;> simp only [oneC, Bool.false_eq_true] at h1 <;> simp only [Sem.run, e2, e3, Bool.false_eq_true, if_false] <;> exact hr
  | new o k ih =>
    intro Q w h
    obtain ⟨b, w', hr, hq, hs⟩ := ih w.heap.size Q { w with heap := w.heap.push o } h
    exact ⟨b, w', hr, hq, hs⟩
  | shape r k ih => exact fun Q w h => ih _ Q w h
  | freeze a n k ih =>
    intro Q w h
    have hh : (w.freeze a n).heap = freezeH w.heap a n := by unfold World.freeze freezeH; split <;> rfl
    have hs' : Same w (w.freeze a n) := by unfold World.freeze; split <;> exact ⟨rfl, rfl, rfl⟩
    obtain ⟨b, w', hr, hq, hs⟩ := ih Q (w.freeze a n) (by rw [hh]; exact h)
    exact ⟨b, w', hr, hq, hs'.trans hs⟩
  | frozen a k ih => exact fun Q w h => ih _ Q w h
  | getObj r k ih =>
    rintro Q w ⟨o, h1, h2, h⟩
    obtain ⟨b, w', hr, hq⟩ := ih o Q w h
    refine ⟨b, w', ?_, hq⟩
    cases o <;> simp only [isCells, Bool.true_eq_false] at h2 <;> simp only [Sem.run, h1] <;> exact hr
  | setObj r o k ih =>
    rintro Q w ⟨⟨o', h1, h2⟩, h⟩
    obtain ⟨b, w', hr, hq, hs⟩ := ih Q { w with heap := w.heap.setIfInBounds r o } h
    refine ⟨b, w', ?_, hq, hs⟩
    cases o' <;> simp only [isCells, Bool.true_eq_false] at h2 <;> simp only [Sem.run, h1] <;> exact hr
  | choose q k ih =>
    intro Q w h
    simp only [evS] at h
    split at h
    · rename_i hf
      obtain ⟨b, w', hr, hq⟩ := ih 0 Q w h
      exact ⟨b, w', by simp only [Sem.run, hf, if_true]; exact hr, hq⟩
    · rename_i hf
      obtain ⟨b, w', hr, hq, hs⟩ := ih _ Q { w with drawn := w.drawn + 1 } (h (w.tape w.drawn q))
      exact ⟨b, w', by simp only [Sem.run, hf]; exact hr, hq, hs⟩
  | sys c k ih => exact fun Q w h => h.elim
  | program k ih => exact fun Q w h => ih P Q w h
  | mark m k ih => exact fun Q w h => ih Q w h
  | halt h => exact fun Q w h => h.elim

theorem evP_sound (P : Program) {α : Type} (m : Sem α) : ∀ (k : α → Prop), evP P m k → ∃ a, k a ∧ ∀ w, m.run P w = .ok a w := by
  induction m with
  | pure a => exact fun k h => ⟨a, h, fun _ => rfl⟩
  | program c ih => exact fun k h => ih P k h
  | mark m c ih => exact fun k h => ih k h
  | _ => exact fun k h => h.elim

theorem exLeaf_elim {d : Option TypeDesc} {k : Value → Prop} (h : exLeaf d k) : ∃ v, k v := by
  unfold exLeaf at h
  split at h
  · obtain ⟨_, h⟩ := h; exact ⟨_, h⟩
  · obtain ⟨_, h⟩ := h; exact ⟨_, h⟩
  · obtain ⟨_, h⟩ := h; exact ⟨_, h⟩
  · obtain ⟨_, h⟩ := h; exact ⟨_, h⟩
  · obtain ⟨_, _, _, h⟩ := h; exact ⟨_, h⟩
  · obtain ⟨_, h⟩ := h; exact ⟨_, h⟩
  · exact h
theorem exL_elim : ∀ {l : List (Option TypeDesc)} {k : List Value → Prop}, exL l k → ∃ vs, k vs
  | [], _, h => ⟨[], h⟩
  | _ :: _, _, h => let ⟨_, h⟩ := exLeaf_elim h; let ⟨_, h⟩ := exL_elim h; ⟨_, h⟩
theorem exV_elim {P : Program} {t : TypeId} {k : Value → Prop} (h : exV P t k) : ∃ v, k v := by
  unfold exV at h
  split at h
  · obtain ⟨_, h⟩ := exL_elim h; exact ⟨_, h⟩
  · obtain ⟨_, h⟩ := exL_elim h; exact ⟨_, h⟩
  · exact exLeaf_elim h
theorem exVs_elim {P : Program} : ∀ {l : List TypeId} {k : List Value → Prop}, exVs P l k → ∃ vs, k vs
  | [], _, h => ⟨[], h⟩
  | _ :: _, _, h => let ⟨_, h⟩ := exV_elim h; let ⟨_, h⟩ := exVs_elim h; ⟨_, h⟩
theorem tyV_elim {P : Program} {t : TypeId} {v : Value} {k : Value → Prop} (h : tyV P t v k) : k v := by
  unfold tyV at h
  split at h
  · obtain ⟨vs, hv, hk⟩ := exVs_elim h; rw [hv]; exact hk
  · obtain ⟨x, hv, hk⟩ := exV_elim h; rw [hv]; exact hk

/-! ### Loads and stores -/
theorem loadL_elim {H : Heap} {ad : Addr} : ∀ {l : List (Option TypeDesc)} {i : Nat} {k : List Value → List (Addr × Value) → Prop}, loadL H ad i l k →
    ∃ vs cs, k vs cs ∧ vs.length = l.length ∧ HoldsL cs H ∧ ∀ H', HoldsL cs H' → ∀ j v, vs[j]? = some v → cellH H' (ad.add (i + j)) = some v
  | [], _, _, h => ⟨[], [], h, rfl, trivial, fun _ _ j v hv => by simp at hv⟩
  | d :: r, i, k, h => by
    obtain ⟨v, hv, h⟩ := exLeaf_elim h
    obtain ⟨vs, cs, hk, hl, hc, hall⟩ := loadL_elim h
    refine ⟨_, _, hk, by simp [hl], ⟨hv, hc⟩, fun H' ⟨h1, h2⟩ j u hu => ?_⟩
    cases j with
    | zero => simp at hu; subst hu; exact h1
    | succ j => simp at hu; rw [show i + (j + 1) = i + 1 + j by omega]; exact hall H' h2 j u hu

theorem run_loadCellsFrom (P : Program) (a : Addr) (vs : List Value) : ∀ (i : Nat) (acc : Array Value) (w : World),
    (∀ j v, vs[j]? = some v → w.cell? (a.add (i + j)) = some v) → (loadCellsFrom a i vs.length acc).run P w = .ok (acc ++ vs.toArray) w := by
  induction vs with
  | nil => intro i acc w _; simp [loadCellsFrom]
  | cons v r ih =>
    intro i acc w h
    have h0 := h 0 v rfl
    simp only [List.length_cons, loadCellsFrom, Sem.run_bind, run_load]
    rw [show a.add i = a.add (i + 0) from rfl, h0]
    simp only [Result.andThen_ok]
    rw [ih (i + 1) (acc.push v) w (fun j u hu => by rw [show i + 1 + j = i + (j + 1) by omega]; exact h (j + 1) u (by simpa using hu))]
    simp

theorem run_underlying' {P : Program} {t : TypeId} {d : TypeDesc} (h : P.underlying t = some d) (w : World) : (underlying t).run P w = .ok d w := by
  simp [underlying, h]
theorem run_typeInfo' {P : Program} {t : TypeId} {i : TypeInfo} (h : P.info? t = some i) (w : World) : (typeInfo t).run P w = .ok i w := by
  simp [typeInfo, h]
theorem run_sizeOf' {P : Program} {t : TypeId} {i : TypeInfo} (h : P.info? t = some i) (w : World) : (Go.sizeOf t).run P w = .ok i.size w := by
  simp [Go.sizeOf, run_typeInfo' h]

theorem evLoad_elim {P : Program} {t : TypeId} {ad : Addr} {H : Heap} {k : Value → List (Addr × Value) → Prop} (h : evLoad P t ad H k) :
    ∃ v cs, k v cs ∧ HoldsL cs H ∧ ∀ w : World, HoldsL cs w.heap → (loadVar t ad).run P w = .ok v w := by
  have agg : ∀ (d : TypeDesc), P.underlying t = some d → (match d with | .struct _ | .array _ _ => true | _ => false) = true →
      (match decide ((P.info? t).map (·.size) = some (flat P 20 t).length) with
      | true => loadL H ad 0 (flat P 20 t) fun vs cs => k (.agg vs.toArray) cs
      | false => False) → ∃ v cs, k v cs ∧ HoldsL cs H ∧ ∀ w : World, HoldsL cs w.heap → (loadVar t ad).run P w = .ok v w := by
    intro d hd hag h
    split at h
    · rename_i hs
      have hs := of_decide_eq_true hs
      obtain ⟨i, hi, hsz⟩ : ∃ i, P.info? t = some i ∧ i.size = (flat P 20 t).length := by
        cases hi : P.info? t with
        | none => simp [hi] at hs
        | some i => simp [hi] at hs; exact ⟨i, rfl, hs⟩
      obtain ⟨vs, cs, hk, hl, hc, hall⟩ := loadL_elim h
      refine ⟨_, _, hk, hc, fun w hw => ?_⟩
      have hia : (isAgg t).run P w = .ok true w := by
        simp only [isAgg, Sem.run_bind, run_underlying' hd, Result.andThen_ok]
        cases d <;> simp at hag <;> rfl
      simp only [loadVar, Sem.run_bind, hia, Result.andThen_ok, if_true, run_sizeOf' hi, loadCells]
      rw [hsz, ← hl, run_loadCellsFrom P ad vs 0 #[] w (fun j v hv => hall w.heap hw j v hv)]
      simp
    · exact h.elim
  unfold evLoad at h
  split at h
  · rename_i fs hd; exact agg _ hd rfl h
  · rename_i l e hd; exact agg _ hd rfl h
  · rename_i d hnS hnA
    split at h
    · rename_i d hd
      obtain ⟨v, hv, hk⟩ := exLeaf_elim h
      refine ⟨v, _, hk, ⟨hv, trivial⟩, fun w hw => ?_⟩
      have hia : (isAgg t).run P w = .ok false w := by
        simp only [isAgg, Sem.run_bind, run_underlying' hd, Result.andThen_ok]
        cases d with
        | struct fs => exact absurd hd (by simpa using hnS fs)
        | array l e => exact absurd hd (by simpa using hnA l e)
        | _ => rfl
      have hc : w.cell? ad = some v := hw.1
      simp [loadVar, hia, hc]
    · exact h.elim

theorem storeL_elim {P : Program} {ad : Addr} : ∀ {vs : List Value} {i : Nat} {k : Heap → Prop} {w : World}, storeL ad i vs k w.heap →
    ∃ w', (storeCells ad vs i).run P w = .ok () w' ∧ k w'.heap ∧ Same w w'
  | [], _, _, w, h => ⟨w, rfl, h, Same.refl w⟩
  | v :: r, i, k, w, h => by
    simp only [storeL] at h
    split at h
    · rename_i h1
      obtain ⟨⟨⟨v0, h2⟩, h3⟩, h⟩ := h
      obtain ⟨w', hr, hk, hs⟩ := storeL_elim (P := P) (w := w.setCell (ad.add i) v) h
      refine ⟨w', ?_, hk, hs⟩
      have e2 : w.cell? (ad.add i) = some v0 := h2
      have e3 : w.frozen? (ad.add i) = false := h3
      have e1 : (store (ad.add i) v).run P w = .ok () (w.setCell (ad.add i) v) := by
        cases v <;> simp only [oneC, Bool.false_eq_true] at h1 <;> simp only [store, Sem.run, e2, e3, Bool.false_eq_true, if_false]
      simp only [storeCells, Sem.run_bind, e1, Result.andThen_ok]
      exact hr
    · exact h.elim

theorem evStore_elim {P : Program} {t : TypeId} {ad : Addr} {v : Value} {k : Heap → Prop} {w : World} (h : evStore P t ad v k w.heap) :
    ∃ w', (storeVar t ad v).run P w = .ok () w' ∧ k w'.heap ∧ Same w w' := by
  unfold evStore at h
  split at h
  · rename_i hs
    have hs := of_decide_eq_true hs
    obtain ⟨i, hi, hsz⟩ : ∃ i, P.info? t = some i ∧ i.size = v.cells.toList.length := by
      cases hi : P.info? t with
      | none => simp [hi] at hs
      | some i => simp [hi] at hs; exact ⟨i, rfl, by simpa using hs⟩
    obtain ⟨w', hr, hk, hw⟩ := storeL_elim (P := P) h
    refine ⟨w', ?_, hk, hw⟩
    simp only [storeVar, Sem.run_bind, run_sizeOf' hi, Result.andThen_ok]
    rw [if_neg (by simp [hsz])]
    exact hr
  · exact h.elim

/-! ### Operations that do not look at the heap -/
theorem run_nx (P : Program) (m : Sem Value) (w : World) : (do pure (Next.value (← m)) : Sem Next).run P w = (m.run P w).andThen fun v w' => .ok (.value v) w' := by
  simp

theorem evP_pure {P : Program} {m : Sem Next} {k : Value → Prop} (h : evP P m (nxV k)) : ∃ v, k v ∧ ∀ w, m.run P w = .ok (.value v) w := by
  obtain ⟨nx, h1, h2⟩ := evP_sound P m _ h
  cases nx <;> simp only [nxV] at h1
  exact ⟨_, h1, h2⟩

theorem isSome_info {P : Program} {e : TypeId} (h : (P.info? e).isSome = true) : ∃ i, P.info? e = some i ∧ i.size = sizeT P e := by
  cases hi : P.info? e with
  | none => simp [hi] at h
  | some i => exact ⟨i, rfl, by simp [sizeT, hi]⟩

theorem run_asIntOf (P : Program) (κ : IntKind) (n : Int) (w : World) : (asIntOf (.int κ n)).run P w = .ok (κ, n) w := rfl

theorem indexAt_slice {P : Program} {t e : TypeId} {base : Option Addr} {len cap : Nat} {κ : IntKind} {i : Int} {b : Addr} (hu : P.underlying t = some (.slice e)) (he : (P.info? e).isSome = true)
    (hi : 0 ≤ i ∧ i < len) (hb : base = some b) (w : World) : (Instr.indexAt t (.slice base len cap) (.int κ i)).run P w = .ok (.pointer (some (b.add (i.toNat * sizeT P e)))) w := by
  obtain ⟨inf, h1, h2⟩ := isSome_info he
  subst hb
  simp only [Instr.indexAt, Sem.run_bind, run_asIntOf, Result.andThen_ok, run_underlying' hu, Sem.run_pure, if_pos hi, run_sizeOf' h1, h2]

theorem indexAt_array {P : Program} {t e : TypeId} {n : Nat} {κ : IntKind} {i : Int} {b : Addr} (hu : P.underlying t = some (.array n e)) (he : (P.info? e).isSome = true)
    (hi : 0 ≤ i ∧ i < (n : Int)) (w : World) : (Instr.indexAt t (.pointer (some b)) (.int κ i)).run P w = .ok (.pointer (some (b.add (i.toNat * sizeT P e)))) w := by
  obtain ⟨inf, h1, h2⟩ := isSome_info he
  simp only [Instr.indexAt, Instr.sureAddr, Sem.run_bind, run_asIntOf, Result.andThen_ok, run_underlying' hu, Sem.run_pure, if_pos hi, run_sizeOf' h1, h2]

theorem run_sliceBound (P : Program) (κ : IntKind) (i : Int) (y : Nat) (c : BoundsCode) (h : 0 ≤ i ∧ i ≤ y) (w : World) : (Instr.sliceBound (.int κ i) y c).run P w = .ok i.toNat w := by
  simp only [Instr.sliceBound, Sem.run_bind, run_asIntOf, Result.andThen_ok, if_pos h, Sem.run_pure]

theorem addr_add_zero (a : Addr) : a.add 0 = a := rfl
theorem map_add_zero (a : Option Addr) : a.map (·.add 0) = a := by cases a <;> rfl

theorem slice_elim {P : Program} {t e : TypeId} {base : Option Addr} {len cap : Nat} {lo hi : Option Value} {k : Value → Prop} (hu : P.underlying t = some (.slice e)) (he : (P.info? e).isSome = true)
    (h : match lo, hi with
        | none, none => k (.slice base len cap)
        | none, some (.int _ h) => (0 ≤ h ∧ h ≤ (cap : Int)) ∧ k (.slice base h.toNat cap)
        | some (.int _ l), none => (0 ≤ l ∧ l ≤ (len : Int)) ∧ k (.slice (offA base cap l (sizeT P e)) (len - l.toNat) (cap - l.toNat))
        | some (.int _ l), some (.int _ h) => ((0 ≤ h ∧ h ≤ (cap : Int)) ∧ 0 ≤ l ∧ l ≤ h) ∧ k (.slice (offA base cap l (sizeT P e)) (h.toNat - l.toNat) (cap - l.toNat))
        | _, _ => False) : ∃ v, k v ∧ ∀ w, (Instr.slice t (.slice base len cap) lo hi none).run P w = .ok v w := by
  obtain ⟨inf, h1, h2⟩ := isSome_info he
  split at h
  · refine ⟨_, h, fun w => ?_⟩
    simp only [Instr.slice, Instr.sliceBounds, Sem.run_bind, run_underlying' hu, Result.andThen_ok, Sem.run_pure, run_sizeOf' h1, Nat.zero_mul, map_add_zero, ite_self, Nat.sub_zero]
  · refine ⟨_, h.2, fun w => ?_⟩
    simp only [Instr.slice, Instr.sliceBounds, Sem.run_bind, run_underlying' hu, Result.andThen_ok, Sem.run_pure, run_sizeOf' h1, Nat.zero_mul, map_add_zero, ite_self, Nat.sub_zero, run_sliceBound _ _ _ _ _ h.1]
  · refine ⟨_, h.2, fun w => ?_⟩
    simp only [Instr.slice, Instr.sliceBounds, Sem.run_bind, run_underlying' hu, Result.andThen_ok, Sem.run_pure, run_sizeOf' h1, run_sliceBound _ _ _ _ _ h.1, offA, h2]
  · rename_i l _ h'
    refine ⟨_, h.2, fun w => ?_⟩
    have hb : 0 ≤ l ∧ l ≤ ((h'.toNat : Nat) : Int) := ⟨h.1.2.1, by have := h.1.1.1; have := h.1.2.2; omega⟩
    simp only [Instr.slice, Instr.sliceBounds, Sem.run_bind, run_underlying' hu, Result.andThen_ok, Sem.run_pure, run_sizeOf' h1, run_sliceBound _ _ _ _ _ h.1.1, run_sliceBound _ _ _ _ _ hb, offA, h2]
  · exact h.elim

theorem slice_str {P : Program} {t : TypeId} {s : ByteArray} {lo hi : Option Value} {k : Value → Prop} (hu : P.underlying t = some .string)
    (h : match lo, hi with
      | none, none => k (.string (s.extract 0 s.size))
      | none, some (.int _ h) => (0 ≤ h ∧ h ≤ (s.size : Int)) ∧ k (.string (s.extract 0 h.toNat))
      | some (.int _ l), none => (0 ≤ l ∧ l ≤ (s.size : Int)) ∧ k (.string (s.extract l.toNat s.size))
      | some (.int _ l), some (.int _ h) => ((0 ≤ h ∧ h ≤ (s.size : Int)) ∧ 0 ≤ l ∧ l ≤ h) ∧ k (.string (s.extract l.toNat h.toNat))
      | _, _ => False) : ∃ v, k v ∧ ∀ w, (Instr.slice t (.string s) lo hi none).run P w = .ok v w := by
  split at h
  · refine ⟨_, h, fun w => ?_⟩
    simp only [Instr.slice, Instr.sliceBounds, Sem.run_bind, run_underlying' hu, Result.andThen_ok, Sem.run_pure, Option.isSome_none, Bool.false_eq_true, if_false]
  · refine ⟨_, h.2, fun w => ?_⟩
    simp only [Instr.slice, Instr.sliceBounds, Sem.run_bind, run_underlying' hu, Result.andThen_ok, Sem.run_pure, run_sliceBound _ _ _ _ _ h.1, Option.isSome_none, Bool.false_eq_true, if_false]
  · refine ⟨_, h.2, fun w => ?_⟩
    simp only [Instr.slice, Instr.sliceBounds, Sem.run_bind, run_underlying' hu, Result.andThen_ok, Sem.run_pure, run_sliceBound _ _ _ _ _ h.1, Option.isSome_none, Bool.false_eq_true, if_false]
  · rename_i l _ h'
    refine ⟨_, h.2, fun w => ?_⟩
    have hb : 0 ≤ l ∧ l ≤ ((h'.toNat : Nat) : Int) := ⟨h.1.2.1, by have := h.1.1.1; have := h.1.2.2; omega⟩
    simp only [Instr.slice, Instr.sliceBounds, Sem.run_bind, run_underlying' hu, Result.andThen_ok, Sem.run_pure, run_sliceBound _ _ _ _ _ h.1.1, run_sliceBound _ _ _ _ _ hb, Option.isSome_none, Bool.false_eq_true, if_false]
  · exact h.elim

def plainEq : Value → Value → Bool
  | .nilIface, .nilIface | .agg _, .agg _ => false
  | _, _ => true

theorem run_eqGuard_pp (P : Program) (op : BinOp) (t : TypeId) (x y : Operand) (a b : Value) (h : plainEq a b = true) (w : World) :
    (eqGuard op t x y a b).run P w = .ok () w := by
  unfold eqGuard
  cases op <;> simp <;> cases a <;> cases b <;> simp [plainEq] at h ⊢

theorem equal_nil_in {P : Program} {t e : TypeId} (hu : P.underlying t = some (.pointer e)) (p : Option Addr) (w : World) (d : Nat) : (Op.equalIn (d + 1) t (.pointer p) (.pointer none)).run P w = .ok p.isNone w := by
  cases p <;> simp only [Op.equalIn, Sem.run_bind, run_underlying' hu, Result.andThen_ok, Sem.run_pure, Option.isNone_none, Option.isNone_some]
theorem equal_nil {P : Program} {t e : TypeId} (hu : P.underlying t = some (.pointer e)) (p : Option Addr) (w : World) : (Op.equal t (.pointer p) (.pointer none)).run P w = .ok p.isNone w := equal_nil_in hu p w 9999
theorem equal_nilS_in {P : Program} {t e : TypeId} (hu : P.underlying t = some (.slice e)) (p : Option Addr) (l c l' c' : Nat) (w : World) (d : Nat) : (Op.equalIn (d + 1) t (.slice p l c) (.slice none l' c')).run P w = .ok p.isNone w := by
  cases p <;> simp only [Op.equalIn, Sem.run_bind, run_underlying' hu, Result.andThen_ok, Sem.run_pure, Option.isNone_none, Option.isNone_some]
theorem equal_nilS {P : Program} {t e : TypeId} (hu : P.underlying t = some (.slice e)) (p : Option Addr) (l c l' c' : Nat) (w : World) : (Op.equal t (.slice p l c) (.slice none l' c')).run P w = .ok p.isNone w := equal_nilS_in hu p l c l' c' w 9999
theorem equal_nilM_in {P : Program} {t a b : TypeId} (hu : P.underlying t = some (.map a b)) (p : Option Nat) (w : World) (d : Nat) : (Op.equalIn (d + 1) t (.map p) (.map none)).run P w = .ok p.isNone w := by
  cases p <;> simp only [Op.equalIn, Sem.run_bind, run_underlying' hu, Result.andThen_ok, Sem.run_pure, Option.isNone_none, Option.isNone_some]
theorem equal_nilM {P : Program} {t a b : TypeId} (hu : P.underlying t = some (.map a b)) (p : Option Nat) (w : World) : (Op.equal t (.map p) (.map none)).run P w = .ok p.isNone w := equal_nilM_in hu p w 9999

theorem run_eql {P : Program} {dst : Option Tmp} {type t u : TypeId} {pos : String} {after : Array Edge} {guard : Option (Nat × Bool)} {x y : Operand} {a : Act} {b : Bool} {va vb : Value} (hx : a.eval x = va) (hy : a.eval y = vb)
    (hg : plainEq va vb = true)
    (hn : Go.binOp .eql t va vb = (do pure (.bool (← Op.equal t va vb)))) (w : World) (h : (Op.equal t va vb).run P w = .ok b w) :
    (execOp a.eval ⟨dst, .binOp .eql t x y u, type, pos, after, guard⟩).run P w = .ok (.value (.bool b)) w := by
  show Sem.run P (do pure (Next.value (← (do eqGuard .eql t x y (a.eval x) (a.eval y); Go.binOp .eql t (a.eval x) (a.eval y)))) : Sem Next) w = _
  rw [hx, hy, hn]
  simp only [Sem.run_bind, run_eqGuard_pp _ _ _ _ _ _ _ hg, Result.andThen_ok, h, Sem.run_pure]
theorem run_neq {P : Program} {dst : Option Tmp} {type t u : TypeId} {pos : String} {after : Array Edge} {guard : Option (Nat × Bool)} {x y : Operand} {a : Act} {b : Bool} {va vb : Value} (hx : a.eval x = va) (hy : a.eval y = vb)
    (hg : plainEq va vb = true)
    (hn : Go.binOp .neq t va vb = (do pure (.bool (!(← Op.equal t va vb))))) (w : World) (h : (Op.equal t va vb).run P w = .ok b w) :
    (execOp a.eval ⟨dst, .binOp .neq t x y u, type, pos, after, guard⟩).run P w = .ok (.value (.bool (!b))) w := by
  show Sem.run P (do pure (Next.value (← (do eqGuard .neq t x y (a.eval x) (a.eval y); Go.binOp .neq t (a.eval x) (a.eval y)))) : Sem Next) w = _
  rw [hx, hy, hn]
  simp only [Sem.run_bind, run_eqGuard_pp _ _ _ _ _ _ _ hg, Result.andThen_ok, h, Sem.run_pure]

theorem evPure_sound {P : Program} {o : Oper} {a : Act} {k : Value → Prop} (h : evPure P o a k) : ∃ v, k v ∧ ∀ w, (execOp a.eval o).run P w = .ok (.value v) w := by
  obtain ⟨dst, op, type, pos, after, guard⟩ := o
  cases op
  case pick c x y =>
    simp only [evPure] at h
    split at h
    · rename_i b hb
      cases b
      · exact ⟨_, h, fun w => by simp [execOp, hb, asBool]⟩
      · exact ⟨_, h, fun w => by simp [execOp, hb, asBool]⟩
    · exact h.elim
  case nilCheck x =>
    simp only [evPure] at h
    split at h
    · rename_i p hp
      obtain ⟨ad, rfl, h⟩ := h
      exact ⟨_, h, fun w => by simp [execOp, hp]⟩
    · exact evP_pure h
  case indexAddr t x i =>
    simp only [evPure] at h
    split at h
    · rename_i e base len cap κ i hu hx hi
      split at h
      · rename_i he
        obtain ⟨hb, b, hbase, h⟩ := h
        exact ⟨_, h, fun w => by simp only [execOp, run_nx, hx, hi, indexAt_slice hu he hb hbase, Result.andThen_ok]⟩
      · exact h.elim
    · rename_i n e b κ i hu hx hi
      split at h
      · rename_i he
        obtain ⟨hb, h⟩ := h
        exact ⟨_, h, fun w => by simp only [execOp, run_nx, hx, hi, indexAt_array hu he hb, Result.andThen_ok]⟩
      · exact h.elim
    · exact h.elim
  case index t x i =>
    simp only [evPure] at h
    split at h
    · rename_i s κ i hu hx hi
      obtain ⟨b, ⟨h0, hb⟩, h⟩ := h
      refine ⟨_, h, fun w => ?_⟩
      simp only [execOp, hx, hi, Instr.index, Sem.run_bind, run_asIntOf, Result.andThen_ok, run_underlying' hu, if_pos h0, hb, Sem.run_pure]
    · rename_i len e cs κ i hu hx hi
      split at h
      · rename_i h1
        obtain ⟨hb, h⟩ := h
        obtain ⟨v, hv, h⟩ := exLeaf_elim h
        refine ⟨_, h, fun w => ?_⟩
        obtain ⟨d, hd, hag, inf, hi1, hi2⟩ : ∃ d, P.underlying e = some d ∧ (isAgg e).run P w = .ok false w ∧ ∃ inf, P.info? e = some inf ∧ inf.size = 1 := by
          unfold oneT at h1
          split at h1
          · cases h1
          · cases h1
          · cases h1
          · rename_i d hnS hnA hd
            have h1 := of_decide_eq_true h1
            refine ⟨d, hd, ?_, ?_⟩
            · simp only [isAgg, Sem.run_bind, run_underlying' hd, Result.andThen_ok]
              cases d with
              | struct fs => exact absurd hd (by simpa using hnS fs)
              | array l e => exact absurd hd (by simpa using hnA l e)
              | _ => rfl
            · cases hi : P.info? e with
              | none => simp [hi] at h1
              | some i => simp [hi] at h1; exact ⟨i, rfl, h1⟩
        simp only [execOp, hx, hi, Instr.index, Sem.run_bind, run_asIntOf, Result.andThen_ok, run_underlying' hu, if_pos hb, run_sizeOf' hi1, hi2, Nat.mul_one, part, hag, Bool.false_eq_true, if_false, hv, Sem.run_pure]
      · exact evP_pure h
    · exact h.elim
  case slice t x lo hi mx =>
    cases mx with
    | some m => simp only [evPure] at h; exact evP_pure h
    | none =>
      simp only [evPure] at h
      split at h
      · rename_i e base len cap hu hx
        split at h
        · rename_i he
          obtain ⟨v, hk, hr⟩ := slice_elim hu he h
          refine ⟨v, hk, fun w => ?_⟩
          simp only [execOp, hx, Instr.sliceAt, Sem.run_bind, run_underlying' hu, Result.andThen_ok, Option.map_none, hr, Sem.run_pure]
        · exact h.elim
      · rename_i s hu hx
        obtain ⟨v, hk, hr⟩ := slice_str hu h
        refine ⟨v, hk, fun w => ?_⟩
        simp only [execOp, hx, Instr.sliceAt, Sem.run_bind, run_underlying' hu, Result.andThen_ok, Option.map_none, hr, Sem.run_pure]
      · exact h.elim
  case binOp op t x y u =>
    simp only [evPure] at h
    split at h
    · rename_i e p hu hx hy; exact ⟨_, h, fun w => run_eql hx hy rfl rfl w (equal_nil hu p w)⟩
    · rename_i e p hu hx hy; exact ⟨_, h, fun w => run_neq hx hy rfl rfl w (equal_nil hu p w)⟩
    · rename_i hu hx hy; exact ⟨_, h, fun w => run_eql hx hy rfl rfl w (equal_nilS hu _ _ _ _ _ w)⟩
    · rename_i hu hx hy; exact ⟨_, h, fun w => run_neq hx hy rfl rfl w (equal_nilS hu _ _ _ _ _ w)⟩
    · rename_i hu hx hy; exact ⟨_, h, fun w => run_eql hx hy rfl rfl w (equal_nilM hu _ w)⟩
    · rename_i hu hx hy; exact ⟨_, h, fun w => run_neq hx hy rfl rfl w (equal_nilM hu _ w)⟩
    · rename_i κ x' κ' y' hx hy
      split at h
      · rename_i hk
        have hk := of_decide_eq_true hk
        subst hk
        by_cases hy0 : y' = 0
        · simp [hy0] at h
        · simp only [hy0, decide_false, cond_false] at h
          exact ⟨_, h, fun w => by simp [execOp, hx, hy, eqGuard, Go.binOp, Op.intDiv, hy0]⟩
      · exact h.elim
    · rename_i κ x' κ' y' hx hy
      split at h
      · rename_i hk
        have hk := of_decide_eq_true hk
        subst hk
        by_cases hy0 : y' = 0
        · simp [hy0] at h
        · simp only [hy0, decide_false, cond_false] at h
          exact ⟨_, h, fun w => by simp [execOp, hx, hy, eqGuard, Go.binOp, Op.intDiv, hy0]⟩
      · exact h.elim
    · rename_i κ x' κ' y' hx hy
      by_cases hy0 : y' < 0
      · simp [hy0] at h
      · simp only [hy0, decide_false, cond_false] at h
        exact ⟨_, h, fun w => by simp [execOp, hx, hy, eqGuard, Go.binOp, Op.shift, hy0, shlI]⟩
    · rename_i κ x' κ' y' hx hy
      by_cases hy0 : y' < 0
      · simp [hy0] at h
      · simp only [hy0, decide_false, cond_false] at h
        exact ⟨_, h, fun w => by simp [execOp, hx, hy, eqGuard, Go.binOp, Op.shift, hy0, shrI]⟩
    · rename_i x' y' hx hy
      by_cases hy0 : ((x'.size + y'.size : Nat) : Int) > IntKind.i64.max
      · simp only [hy0, decide_true, cond_true] at h
      · simp only [hy0, decide_false, cond_false] at h
        exact ⟨_, h, fun w => by simp only [execOp, hx, hy, Sem.run_bind, eqGuard, Go.binOp, Op.stringOp]; simp only [hy0]; simp⟩
    · exact evP_pure h
  all_goals exact evP_pure h
end Kw
