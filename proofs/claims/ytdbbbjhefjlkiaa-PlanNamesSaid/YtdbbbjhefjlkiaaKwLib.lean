/- Small laws for contracts over the heap. -/
import Derived.Test.YtdbbbjhefjlkiaaKwSound4
import Derived.Laws.Strings
namespace Kw
open Go

theorem cond_dec {p : Prop} [Decidable p] {X Y : Prop} : cond (decide p) X Y ↔ if p then X else Y := by
  by_cases h : p <;> simp [h]
theorem cond_iff {b : Bool} {X Y : Prop} : cond b X Y ↔ (b = true → X) ∧ (b = false → Y) := by cases b <;> simp
theorem cond_intro {b : Bool} {X Y : Prop} (h1 : b = true → X) (h2 : b = false → Y) : cond b X Y := by cases b <;> simp_all
theorem cond_true' {b : Bool} {X Y : Prop} (h : b = true) (hx : X) : cond b X Y := by subst h; exact hx
theorem cond_false' {b : Bool} {X Y : Prop} (h : b = false) (hy : Y) : cond b X Y := by subst h; exact hy

theorem wrap64_id {n : Int} (h1 : -9223372036854775808 ≤ n) (h2 : n ≤ 9223372036854775807) : IntKind.wrap .i64 n = n := by
  simp only [IntKind.wrap, IntKind.bits, IntKind.signed]
  simp
  omega

theorem strEq_iff {a b : ByteArray} : strEq a b = true ↔ a = b := by
  unfold strEq
  rw [beq_iff_eq, ByteArray.toList_eq, ByteArray.toList_eq]
  constructor
  · intro h
    obtain ⟨⟨a⟩⟩ := a
    obtain ⟨⟨b⟩⟩ := b
    simp only at h
    rw [h]
  · intro h; rw [h]
theorem strEq_dec (a b : ByteArray) : strEq a b = decide (a = b) := by
  rw [Bool.eq_iff_iff, strEq_iff]; simp

/-! ### Sets of blocks, frames -/
abbrev Foot := List Nat
/-- Only blocks of F have been written, others may be new. -/
def Fr (F : Foot) (H H' : Heap) : Prop := H.size ≤ H'.size ∧ ∀ b, b < H.size → b ∉ F → H'[b]? = H[b]?
theorem Fr.refl (F : Foot) (H : Heap) : Fr F H H := ⟨Nat.le_refl _, fun _ _ _ => rfl⟩
theorem Fr.trans {F : Foot} {H H' H'' : Heap} (h : Fr F H H') (h' : Fr F H' H'') : Fr F H H'' :=
  ⟨Nat.le_trans h.1 h'.1, fun b hb hn => (h'.2 b (Nat.lt_of_lt_of_le hb h.1) hn).trans (h.2 b hb hn)⟩
theorem Fr.mono {F F' : Foot} {H H' : Heap} (h : Fr F H H') (hs : ∀ b ∈ F, b ∈ F') : Fr F' H H' := ⟨h.1, fun b hb hn => h.2 b hb fun hm => hn (hs b hm)⟩
theorem Fr.of_nil {F : Foot} {H H' : Heap} (h : Fr [] H H') : Fr F H H' := h.mono (by simp)
theorem Fr.push (F : Foot) (H : Heap) (o : Obj) : Fr F H (H.push o) := ⟨by simp, fun b hb _ => by rw [Array.getElem?_push]; simp; omega⟩

/-- The footprint F of a thing becomes F': what is new in it is new. -/
def Up (F : Foot) (H : Heap) (F' : Foot) (H' : Heap) : Prop := Fr F H H' ∧ ∀ b ∈ F', b ∈ F ∨ H.size ≤ b
theorem Up.refl (F : Foot) (H : Heap) : Up F H F H := ⟨Fr.refl F H, fun _ h => .inl h⟩
theorem Up.trans {F F' F'' : Foot} {H H' H'' : Heap} (h : Up F H F' H') (h' : Up F' H' F'' H'') : Up F H F'' H'' := by
  refine ⟨⟨Nat.le_trans h.1.1 h'.1.1, fun b hb hn => ?_⟩, fun b hb => ?_⟩
  · rw [h'.1.2 b (Nat.lt_of_lt_of_le hb h.1.1) fun hm => (h.2 b hm).elim hn (fun hge => absurd hb (by omega)), h.1.2 b hb hn]
  · rcases h'.2 b hb with h1 | h1
    · exact h.2 b h1
    · exact .inr (Nat.le_trans h.1.1 h1)

/-! ### Blocks -/
def Blk (H : Heap) (b : Nat) (c : Array Value) : Prop := ∃ t, H[b]? = some (.cells c t (0, 0))

theorem Blk.lt {H : Heap} {b : Nat} {c : Array Value} (h : Blk H b c) : b < H.size := by
  obtain ⟨t, h⟩ := h; exact (Array.getElem?_eq_some_iff.1 h).1
theorem Blk.cell {H : Heap} {b : Nat} {c : Array Value} (h : Blk H b c) (o : Nat) : cellH H ⟨b, o, none⟩ = c[o]? := by
  obtain ⟨t, h⟩ := h; simp [cellH, h]
theorem Blk.frozen {H : Heap} {b : Nat} {c : Array Value} (h : Blk H b c) (o : Nat) : frozenH H ⟨b, o, none⟩ = false := by
  obtain ⟨t, h⟩ := h; simp [frozenH, h]
theorem Blk.wr {H : Heap} {b : Nat} {c : Array Value} (h : Blk H b c) {o : Nat} (ho : o < c.size) : Wr H ⟨b, o, none⟩ :=
  ⟨⟨c[o], by rw [h.cell]; simp [ho]⟩, h.frozen o⟩
theorem Blk.uniq {H : Heap} {b : Nat} {c c' : Array Value} (h : Blk H b c) (h' : Blk H b c') : c = c' := by
  obtain ⟨t, h⟩ := h; obtain ⟨t', h'⟩ := h'; rw [h] at h'; cases h'; rfl
theorem Blk.of_eq {H H' : Heap} {b : Nat} {c : Array Value} (h : Blk H b c) (he : H'[b]? = H[b]?) : Blk H' b c := by
  obtain ⟨t, h⟩ := h; exact ⟨t, he.trans h⟩
theorem Blk.fr {F : Foot} {H H' : Heap} {b : Nat} {c : Array Value} (h : Blk H b c) (hf : Fr F H H') (hb : b ∉ F) : Blk H' b c := h.of_eq (hf.2 b h.lt hb)
theorem Blk.push {H : Heap} {b : Nat} {c : Array Value} (h : Blk H b c) (o : Obj) : Blk (H.push o) b c := h.fr (Fr.push [] H o) (by simp)
theorem Blk.new (H : Heap) (c : Array Value) (t : TypeId) : Blk (H.push (.cells c t)) H.size c := ⟨t, by simp⟩

theorem setH_size (H : Heap) (a : Addr) (v : Value) : (setH H a v).size = H.size := by simp [setH]
theorem setH_ne {H : Heap} {a : Addr} {v : Value} {b : Nat} (h : b ≠ a.block) : (setH H a v)[b]? = H[b]? := by
  simp [setH, Array.getElem?_modify, Ne.symm h]
theorem Blk.set {H : Heap} {b : Nat} {c : Array Value} (h : Blk H b c) (o : Nat) (v : Value) : Blk (setH H ⟨b, o, none⟩ v) b (c.setIfInBounds o v) := by
  obtain ⟨t, h⟩ := h
  exact ⟨t, by simp [setH, Array.getElem?_modify, h]⟩
theorem Blk.set_ne {H : Heap} {b : Nat} {c : Array Value} (h : Blk H b c) {a : Addr} (hb : b ≠ a.block) (v : Value) : Blk (setH H a v) b c := h.of_eq (setH_ne hb)
theorem Fr.set {F : Foot} {H : Heap} {a : Addr} {v : Value} (h : a.block ∈ F) : Fr F H (setH H a v) :=
  ⟨by rw [setH_size]; exact Nat.le_refl _, fun b _ hn => setH_ne fun e => hn (e ▸ h)⟩

@[simp] theorem add_none (b o n : Nat) : (⟨b, o, none⟩ : Addr).add n = ⟨b, o + n, none⟩ := by
  unfold Addr.add; split <;> simp_all

/-! ### Reading slices, frozen or not -/
/-- The cells of a block from an address on. -/
def Cells (H : Heap) (a : Addr) (vs : List Value) : Prop := ∀ i, i < vs.length → cellH H (a.add i) = vs[i]?

theorem evS_bind {P : Program} {α β : Type} (m : Sem α) (f : α → Sem β) : ∀ {Q : β → Heap → Prop} {H : Heap}, evS P m (fun a H' => evS P (f a) Q H') H → evS P (m.bind f) Q H := by
  induction m with
  | pure a => exact fun h => h
  | load m a k ih => exact fun ⟨v, hv, h⟩ => ⟨v, hv, ih v h⟩
  | store m a v k ih => exact fun ⟨h1, h2, h⟩ => ⟨h1, h2, ih h⟩
  | new o k ih => exact fun {Q H} h => ih H.size h
  | shape r k ih => exact fun h => ih _ h
  | freeze a n k ih => exact fun h => ih h
  | frozen a k ih => exact fun h => ih _ h
  | getObj r k ih => exact fun ⟨o, h1, h2, h⟩ => ⟨o, h1, h2, ih o h⟩
  | setObj r o k ih => exact fun ⟨h1, h⟩ => ⟨h1, ih h⟩
  | choose q k ih =>
    intro Q H h
    simp only [Sem.bind, evS] at h ⊢
    split at h
    · rename_i hf; rw [if_pos hf]; exact ih 0 h
    · rename_i hf; rw [if_neg hf]; exact fun t => ih _ (h t)
  | sys c k ih => exact fun h => h.elim
  | program k ih => exact fun h => ih P h
  | mark m k ih => exact fun h => ih h
  | halt h => exact fun h => h.elim
theorem evS_bind' {P : Program} {α β : Type} {m : Sem α} {f : α → Sem β} {Q : β → Heap → Prop} {H : Heap} (h : evS P m (fun a H' => evS P (f a) Q H') H) : evS P (m >>= f) Q H := evS_bind m f h
theorem evS_underlying {P : Program} {t : TypeId} {d : TypeDesc} (hu : P.underlying t = some d) {Q : TypeDesc → Heap → Prop} {H : Heap} (h : Q d H) : evS P (underlying t) Q H := by
  show evS P (match P.underlying t with | some d => pure d | none => stuck "no such type") Q H
  rw [hu]; exact h
theorem evS_typeInfo {P : Program} {t : TypeId} {d : TypeInfo} (hu : P.info? t = some d) {Q : TypeInfo → Heap → Prop} {H : Heap} (h : Q d H) : evS P (typeInfo t) Q H := by
  show evS P (match P.info? t with | some d => pure d | none => stuck "no such type") Q H
  rw [hu]; exact h
theorem evS_mono {P : Program} {α : Type} (m : Sem α) : ∀ {Q Q' : α → Heap → Prop} {H : Heap}, evS P m Q H → (∀ a H', Q a H' → Q' a H') → evS P m Q' H := by
  induction m with
  | pure a => exact fun h hq => hq _ _ h
  | load m a k ih => exact fun ⟨v, hv, h⟩ hq => ⟨v, hv, ih v h hq⟩
  | store m a v k ih => exact fun ⟨h1, h2, h⟩ hq => ⟨h1, h2, ih h hq⟩
  | new o k ih => exact fun {Q Q' H} h hq => ih H.size h hq
  | shape r k ih => exact fun h hq => ih _ h hq
  | freeze a n k ih => exact fun h hq => ih h hq
  | frozen a k ih => exact fun h hq => ih _ h hq
  | getObj r k ih => exact fun ⟨o, h1, h2, h⟩ hq => ⟨o, h1, h2, ih o h hq⟩
  | setObj r o k ih => exact fun ⟨h1, h⟩ hq => ⟨h1, ih h hq⟩
  | choose q k ih =>
    intro Q Q' H h hq
    simp only [evS] at h ⊢
    split at h
    · rename_i hf; rw [if_pos hf]; exact ih 0 h hq
    · rename_i hf; rw [if_neg hf]; exact fun t => ih _ (h t) hq
  | sys c k ih => exact fun h _ => h.elim
  | program k ih => exact fun h hq => ih P h hq
  | mark m k ih => exact fun h hq => ih h hq
  | halt h => exact fun h _ => h.elim

theorem evS_bytes {P : Program} {src dst e : TypeId} {s : ByteArray} {Q : Value → Heap → Prop} {H : Heap} (h1 : P.underlying src = some .string) (h2 : P.underlying dst = some (.slice e)) (h3 : P.underlying e = some (.int .u8))
    (h : ∀ cap H', Fr [] H H' → (∀ i, i < s.size → cellH H' ⟨H.size, i, none⟩ = some (.int .u8 (((s[i]?.getD 0).toNat : Nat) : Int))) → Q (.slice (some ⟨H.size, 0, none⟩) s.size cap) H') : evS P (convert src dst (.string s)) Q H := by
  refine evS_bind' (evS_underlying h1 (evS_bind' (evS_underlying h2 (evS_bind' (evS_underlying h3 ?_)))))
  show evS P (Conv.stringToBytes e s) Q H
  unfold Conv.stringToBytes
  simp only [evS, choose, newRow, newObj, bind, Sem.bind, Question.forced, Bool.false_eq_true, if_false, pure]
  intro t
  generalize hcs : ((s.data.map fun b => Value.int .u8 b.toNat) ++ Array.replicate (Question.cut (.appendCap s.size 0 e) t - s.size) (.int .u8 0)) = cs
  have hsh : shapeH (H.push (.cells cs e)) H.size = some (e, cs.size) := by simp [shapeH]
  simp only [markStringish, bind, Sem.bind, evS, shape, hsh, freeze, pure]
  refine h _ _ ?_ ?_
  · refine ⟨by simp [freezeH], fun b hb _ => ?_⟩
    simp only [freezeH, Nat.succ_ne_self, if_false, Array.getElem?_modify]
    rw [if_neg (by omega), Array.getElem?_push, if_neg (by omega)]
  · intro i hi
    have hc : cs[i]? = some (.int .u8 (((s[i]?.getD 0).toNat : Nat) : Int)) := by
      rw [← hcs, Array.getElem?_append_left (by simpa using hi)]
      simp [hi]
      rfl
    have hb : (freezeH (H.push (.cells cs e)) ⟨H.size, cs.size, none⟩ 1)[H.size]? = some (.cells cs e (cs.size, cs.size + 1)) := by
      simp only [freezeH, Nat.succ_ne_self, if_false, Array.getElem?_modify, Array.getElem?_push_size, if_true, Option.map_some, beq_self_eq_true]
    have hb' : cellH (freezeH (H.push (.cells cs e)) ⟨H.size, cs.size, none⟩ 1) ⟨H.size, i, none⟩ = cs[i]? := by
      unfold cellH; simp only [hb]; rfl
    rw [← hc]; exact hb'
end Kw
