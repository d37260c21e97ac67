/- Lemmas for RBoots: functions of the program as predicate transformers, and their contracts. -/
import Derived.Test.YtmkdkplipbocjaaGreatDoorZB4
import Derived.ProofKit
import Derived.Test.YtmkdkplipbocjaaGreatDoorCards
import Derived.Test.YtmkdkplipbocjaaGreatDoorTie
import Derived.LaidLaws
import Derived.Handed
import Derived.Lib.LaidU8
set_option linter.all false
set_option maxRecDepth 100000
set_option maxHeartbeats 2000000
namespace Go.Proofs.YtmkdkplipbocjaaGreatDoor
open Kw
/-- A class as data, in memory. -/
def InfoR : RepT CI := fun H ys x F => ∃ a l c, ys = [.string x.name, .string x.sup, .slice a l c, .int .i64 x.lay] ∧ Own 1 H a l c (strsV x.own) F
theorem InfoR.fr : FrR InfoR := fun H H' ys x F ⟨a, l, c, e, h⟩ he => ⟨a, l, c, e, h.keep he⟩
theorem InfoR.lt : LtR InfoR := fun H ys x F ⟨a, l, c, e, h⟩ => h.lt
def infosK (v : KV) (t : TB) : List CI := (List.range v.cls.length).map (infoK v t)
section
variable {H : Heap} {b : Nat} {F : Foot} {s : SP} {t : TB} {v : KV} {Q : Value → Heap → Prop}
theorem infos_r (hK : RK H b F s t) (hv : KAll s t v) (h : ∀ a l c G H', LRep 4 InfoR H' a l c (infosK v t) G → Fr [] H H' → (∀ x ∈ G, H.size ≤ x) → Q (.slice a l c) H') : callS PP n_kilnref13_Kernel_Infos #[.pointer (some ⟨b, 0, none⟩)] Q H := by
  have hs1 : sliceInfo PP 40 = some (4, 64, some (.agg #[.string (⟨#[]⟩ : ByteArray), .string (⟨#[]⟩ : ByteArray), .slice none 0 0, .int .i64 0])) := by kernel_rfl
  have hm1 := hv.ks.shape.many1
  apply kilnref13_Kernel_Infos_ok
  unfold kilnref13_Kernel_Infos
  refine all_r hK hv.ks fun al ll cl Gl H0 hol hfl hGl => ⟨_, _, _, rfl, ?_⟩
  have hll : ll = v.cls.length := by have := hol.len; simpa [intsV, oopsK] using this.symm
  have hlen : (infosK v t).length = v.cls.length := by simp [infosK]
  refine ⟨fun w H' => ∃ (i : Nat) (a : Option Addr) (l' c : Nat) (G : Foot), w = [.slice a l' c, .int .i64 i] ∧ i ≤ v.cls.length ∧ LRep 4 InfoR H' a l' c ((infosK v t).take i) G ∧ Fr [] H0 H' ∧ (∀ x ∈ G, H0.size ≤ x), fun w _ => match w with
    | [_, .int _ i] => (v.cls.length - i).toNat
    | _ => 0, ⟨0, none, 0, 0, [], rfl, Nat.zero_le _, by simpa using LRep.nil, Fr.refl _ _, by simp⟩, ?_⟩
  rintro w H1 ⟨i, a1, l1, c1, G, rfl, hi, ho, hf1, hG⟩ _
  have hl1 : l1 = i := by have := ho.len; simp only [List.length_take] at this; omega
  refine ⟨_, _, _, _, rfl, ?_⟩
  rw [cond_dec]
  refine ite_i (fun hlt => ?_) fun hlt => ?_
  · have hlt' : i < v.cls.length := by omega
    obtain ⟨p, rfl, hcell⟩ := rd_oops hol hf1 hlt'
    have htk : (infosK v t).take (i + 1) = (infosK v t).take i ++ [infoK v t i] := by
      rw [List.take_add_one, List.getElem?_eq_getElem (by omega)]; simp [infosK]
    have e : IntKind.wrap .i64 ((i : Int) + 1) = ((i + 1 : Nat) : Int) := by rw [wrap64_id (by omega) (by omega)]; omega
    refine ⟨⟨by omega, hlt⟩, _, rfl, _, by rw [Int.toNat_natCast]; exact hcell, info0_r (hK.nil (hfl.trans hf1)) hv hlt' fun a l c G2 H2 ho2 hf2 hG2 => ⟨_, _, _, _, _, _, rfl, ?_⟩⟩
    have hlt1 := ho.lt InfoR.lt
    refine LRep.snoc (x := infoK v t i) (G := G2) InfoR.fr InfoR.lt hs1 rfl (by kernel_rfl) (ho.fr InfoR.fr InfoR.lt hf2 (Disj.nil_right _)) ⟨a, l, c, rfl, ho2⟩ rfl (fun x hx hx2 => ?_) (by simp [oneC]) (by omega) (by decide) (by decide) fun a' c' F' H3 g1 g2 g3 => ⟨_, _, _, rfl, ?_⟩
    · have := hlt1 x hx
      have := hG2 x hx2
      omega
    · rw [e]
      have hf3 : Fr [] H0 H3 := (Up.fresh (hf1.trans hf2) (F := G) (F' := G) ⟨g2, fun _ h => .inl h⟩ hG).1
      refine ⟨⟨i + 1, a', l1 + 1, c', F', rfl, by omega, by rw [htk]; exact g1, hf3, fun x hx => ?_⟩, by simp; omega⟩
      rcases g3 x hx with h5 | h5 | h5
      · exact hG x h5
      · exact Nat.le_trans hf1.1 (hG2 x h5)
      · exact Nat.le_trans (hf1.trans hf2).1 h5
  · rw [List.take_of_length_le (by omega)] at ho
    exact h _ _ _ _ H1 ho (hfl.trans hf1) fun x hx => Nat.le_trans hfl.1 (hG x hx)
/-- A part of the data is read. -/
theorem info_get {a : Option Addr} {l c : Nat} {G : Foot} (hL : LRep 4 InfoR H a l c (infosK v t) G) {i : Nat} (hi : i < v.cls.length) : ∃ p a2 l2 c2 G2, a = some p ∧ p.spot = none ∧ cellH H (p.add (i * 4)) = some (.string (infoK v t i).name) ∧ cellH H ((p.add (i * 4)).add 1) = some (.string (infoK v t i).sup) ∧
    cellH H ((p.add (i * 4)).add 2) = some (.slice a2 l2 c2) ∧ Own 1 H a2 l2 c2 (strsV (infoK v t i).own) G2 ∧ ∀ x ∈ G2, x ∈ G := by
  obtain ⟨p, ys, G2, hp, hsp, hoff, hcell, hyl, ⟨a2, l2, c2, e, ho⟩, hsub⟩ := hL.get (i := i) (by simpa [infosK] using hi)
  have ei : (infosK v t)[i]'(by simpa [infosK] using hi) = infoK v t i := by simp [infosK]
  rw [ei] at e ho
  subst e
  obtain ⟨pb, po, ps⟩ := p
  simp only at hsp hoff
  subst hsp hoff
  have h0 := hcell 0 (by decide)
  have h1 := hcell 1 (by decide)
  have h2 := hcell 2 (by decide)
  refine ⟨_, a2, l2, c2, G2, hp, rfl, ?_, ?_, ?_, ho, hsub⟩
  · rw [add_none, Nat.zero_add]; exact h0
  · rw [add_none, add_none, Nat.zero_add]; exact h1
  · rw [add_none, add_none, Nat.zero_add]; exact h2
theorem at_r {a : Option Addr} {l c : Nat} {G : Foot} (hL : LRep 4 InfoR H a l c (infosK v t) G) {n : Nat} (hn : n ≤ v.cls.length) (hm : v.cls.length ≤ 256) {x : ByteArray}
    (h1 : ∀ j, j < n → (infoK v t j).name = x → (∀ k, k < j → (infoK v t k).name ≠ x) → Q (.int .i64 j) H) (h2 : (∀ k, k < n → (infoK v t k).name ≠ x) → Q (.int .i64 (-1)) H) :
    callS PP n_kilnref20_at #[.slice a l c, .int .i64 n, .string x] Q H := by
  have hl : l = v.cls.length := by have := hL.len; simpa [infosK] using this
  apply kilnref20_at_ok
  unfold kilnref20_at
  refine ⟨fun w H' => H' = H ∧ ∃ i : Nat, w = [.int .i64 i] ∧ i ≤ n ∧ ∀ k, k < i → (infoK v t k).name ≠ x, fun w _ => match w with
    | [.int _ i] => (n - i).toNat
    | _ => 0, ⟨rfl, 0, rfl, Nat.zero_le _, fun k hk => by omega⟩, ?_⟩
  rintro w H1 ⟨rfl, i, rfl, hi, hno⟩ _
  refine ⟨_, rfl, ?_⟩
  rw [cond_dec]
  refine ite_i (fun hlt => ?_) fun hlt => ?_
  · obtain ⟨p, a2, l2, c2, G2, rfl, _, c0, _⟩ := info_get hL (i := i) (by omega)
    have e : IntKind.wrap .i64 ((i : Int) + 1) = ((i + 1 : Nat) : Int) := by rw [wrap64_id (by omega) (by omega)]; omega
    refine ⟨⟨by omega, by omega⟩, _, rfl, _, by rw [Int.toNat_natCast]; exact c0, ?_⟩
    rw [strEq_dec, cond_dec]
    refine ite_i (fun he => h1 i (by omega) he hno) fun he => ?_
    rw [e]
    refine ⟨⟨rfl, i + 1, rfl, by omega, fun k hk => ?_⟩, by simp; omega⟩
    rcases Nat.lt_or_ge k i with h5 | h5
    · exact hno k h5
    · have : k = i := by omega
      subst this; exact he
  · have : i = n := by omega
    subst this
    exact h2 hno
end
end Go.Proofs.YtmkdkplipbocjaaGreatDoor
set_option maxRecDepth 100000
set_option maxHeartbeats 2000000
namespace Go.Proofs.YtmkdkplipbocjaaGreatDoor
open Kw
/-- Where a kernel's heap stands. -/
def HB (H : Heap) (b sb hb : Nat) : Prop := cellH H ⟨b, 0, none⟩ = some (.pointer (some ⟨sb, 0, none⟩)) ∧ cellH H ⟨sb, 0, none⟩ = some (.pointer (some ⟨hb, 0, none⟩))
theorem cell_lt {H : Heap} {b o : Nat} {v : Value} (h : cellH H ⟨b, o, none⟩ = some v) : b < H.size := by
  unfold cellH at h
  rcases Nat.lt_or_ge b H.size with h1 | h1
  · exact h1
  · simp only [Array.getElem?_eq_none h1] at h; cases h
theorem HB.nil {H H' : Heap} {b sb hb : Nat} (h : HB H b sb hb) (hf : Fr [] H H') : HB H' b sb hb := by
  obtain ⟨h1, h2⟩ := h
  exact ⟨by rw [cell_fr hf (by simp) (cell_lt h1)]; exact h1, by rw [cell_fr hf (by simp) (cell_lt h2)]; exact h2⟩
section
variable {H : Heap} {b sb hb : Nat} {F : Foot} {s : SP} {t : TB} {Q : Value → Heap → Prop}
theorem PK.hp (hK : PK H b F s t) (hB : HB H b sb hb) : ∃ F1, HRep H hb F1 s.h ∧ (∀ x ∈ F1, x ∈ F) ∧ ∀ H' r', HRep H' hb F1 r' → Fr F1 H H' → PK H' b F { s with h := r' } t ∧ HB H' b sb hb := by
  obtain ⟨sb', F1, hc, hS, hsub, hbF, _, hup⟩ := hK.sp
  obtain ⟨hc1, hc2⟩ := hB
  rw [hc] at hc1
  have e : sb' = sb := by simpa using hc1
  subst e
  obtain ⟨hb', F2, hR, c0, _, _, hsub2, hnb, hup2⟩ := hS.upd
  rw [c0] at hc2
  have e : hb' = hb := by simpa using hc2
  subst e
  have hbl := hK.lt b hK.bmem
  have hsl := hS.lt _ hS.bmem
  refine ⟨F2, hR, fun x hx => hsub x (hsub2 x hx), fun H' r' hR' hf => ⟨hup H' _ (hup2 H' r' hR' hf) (hf.mono hsub2), ?_, ?_⟩⟩
  · rw [cell_fr hf (fun hm => hbF (hsub2 b hm)) hbl]; exact hc
  · rw [cell_fr hf hnb hsl]; exact c0
theorem PK.tbB (hK : PK H b F s t) (hB : HB H b sb hb) : ∃ tb F2, cellH H ⟨b, 1, none⟩ = some (.pointer (some ⟨tb, 0, none⟩)) ∧ PTb H tb F2 t ∧ ∀ H' F2' t', PTb H' tb F2' t' → Up F2 H F2' H' → (∃ F', PK H' b F' s t' ∧ Up F H F' H') ∧ HB H' b sb hb := by
  obtain ⟨sb0, tb, F1, F2, rfl, h1, h2, h3, k1, k2, hBl, hS, hT⟩ := hK
  have hK : PK H b (b :: (F1 ++ F2)) s t := ⟨sb0, tb, F1, F2, rfl, h1, h2, h3, k1, k2, hBl, hS, hT⟩
  obtain ⟨tb', F2', hc', hT', hsub', hbF', hup', _⟩ := hK.tb
  obtain ⟨hc1, hc2⟩ := hB
  have e0 : cellH H ⟨b, 0, none⟩ = some (.pointer (some ⟨sb0, 0, none⟩)) := hBl.cell 0
  rw [e0] at hc1
  have e : sb0 = sb := by simpa using hc1
  subst e
  have hbl := hK.lt b hK.bmem
  have hsl := hS.lt _ hS.bmem
  refine ⟨tb, F2, hBl.cell 1, hT, fun H' F2' t' hT2 hu => ⟨?_, ?_, ?_⟩⟩
  · have hlt := hK.lt
    have hgl := hK.kinds.lt
    have hgS := hS.gk
    refine ⟨b :: (F1 ++ F2'), ⟨_, tb, F1, F2', rfl, h1, Up.out hu h2 hbl, fun x hx hx2 => ?_, k1, Up.out hu k2 hgl, hBl.fr hu.1 h2, hS.fr hu.1 h3 k2, hT2⟩, hu.1.mono fun x hx => by simp [hx], fun x hx => ?_⟩
    · rcases hu.2 x hx2 with h4 | h4
      · exact h3 x hx h4
      · have := hlt x (by simp [hx]); omega
    · rcases List.mem_cons.1 hx with rfl | hx
      · exact .inl (by simp)
      · rcases List.mem_append.1 hx with hx | hx
        · exact .inl (by simp [hx])
        · exact (hu.2 x hx).imp (fun h4 => by simp [h4]) id
  · rw [cell_fr hu.1 h2 hbl]; exact e0
  · rw [cell_fr hu.1 (h3 _ hS.bmem) hsl]; exact hc2
theorem put_all {r : RH} (h : ∀ k x, objAt r.objs k = some x → x.fmt = 0) (k i w : Int) : ∀ j x, objAt (r.put k i w).2.objs j = some x → x.fmt = 0 := fun j x hx => by
  obtain ⟨y, h1, h2⟩ := put_fmt k i w j hx
  rw [h2]; exact h j y h1
theorem lay_all (o : Int) (l : List Int) : ∀ (i : Int) {r : RH}, (∀ k x, objAt r.objs k = some x → x.fmt = 0) → ∀ j x, objAt (r.lay o i l).objs j = some x → x.fmt = 0 := by
  induction l with
  | nil => intro i r h; exact h
  | cons w l ih => intro i r h; exact ih (i + 1) (put_all h o i w)
theorem fillN_all {r : RH} (h : ∀ k x, objAt r.objs k = some x → x.fmt = 0) (n : Nat) : ∀ j x, objAt (fillN r n).objs j = some x → x.fmt = 0 := by
  induction n with
  | zero => exact h
  | succ n ih => exact put_all (lay_all _ _ _ ih) _ _ _
theorem fill_k (hK : PK H b F s ⟨4096, []⟩) (hB : HB H b sb hb) (hfmt : ∀ k x, objAt s.h.objs k = some x → x.fmt = 0)
    (h : ∀ H' F', PK H' b F' { s with h := bootH s.h } bootT → HB H' b sb hb → Up F H F' H' → Q (.tuple #[]) H') : callS PP n_class_Kernel_fill #[.pointer (some ⟨b, 0, none⟩)] Q H := by
  have h14 : kNames.length = 14 := rfl
  apply class_Kernel_fill_ok
  unfold class_Kernel_fill
  obtain ⟨sb0, F1, hc, hS, _⟩ := hK.sp
  have e0 : sb0 = sb := by
    have := hB.1
    rw [hc] at this; simpa using this
  subst e0
  refine ⟨_, rfl, _, hc, ?_⟩
  have hps : ∀ {Q' : Value → Heap → Prop}, Q' (.pointer (some ⟨hb, 0, none⟩)) H → callS PP n_space_Space_Heap #[.pointer (some ⟨sb0, 0, none⟩)] Q' H := by
    intro Q' hq
    obtain ⟨hb', F1', hR, c0, _⟩ := hS.upd
    obtain ⟨hc1, hc2⟩ := hB
    rw [c0] at hc2
    have e : hb' = hb := by simpa using hc2
    subst e
    apply space_Space_Heap_ok
    unfold space_Space_Heap
    refine sgone_c hS ⟨_, rfl, ?_⟩
    simp only [cond_false]
    exact ⟨_, rfl, _, c0, hq⟩
  refine hps ⟨_, rfl, ?_⟩
  apply class_kernelNames_ok
  unfold class_kernelNames
  refine ⟨_, _, _, rfl, ?_⟩
  have fp := (Fr.push [] H (.cells (strsV kNames).toArray 9))
  have hN : Rd 1 (H.push (.cells (strsV kNames).toArray 9)) (some ⟨H.size, 0, none⟩) 14 (strsV kNames) := by
    refine ⟨rfl, (fun h => by cases h), fun p hp k hk => ?_⟩
    cases hp
    rw [add_none, Nat.zero_add, (Blk.new H _ _).cell]
    simp
  have hNo : Out (H.push (.cells (strsV kNames).toArray 9)) (some ⟨H.size, 0, none⟩) F := fun p hp => by
    cases hp
    exact ⟨by simp, fun hm => absurd (hK.lt _ hm) (Nat.lt_irrefl _)⟩
  have hK1 := hK.nil fp
  have hB1 : HB (H.push (.cells (strsV kNames).toArray 9)) b sb0 hb := HB.nil hB fp
  show ∃ (I8 : List Value → Heap → Prop) (μ8 : List Value → Heap → Nat), I8 [.int .i64 0] (H.push (.cells (strsV kNames).toArray 9)) ∧ _
  generalize (H.push (.cells (strsV kNames).toArray 9)) = H0 at fp hN hNo hK1 hB1 ⊢
  refine ⟨fun w H' => ∃ (i : Nat) (F' : Foot), w = [.int .i64 i] ∧ i ≤ 14 ∧ PK H' b F' { s with h := fillN s.h i } ⟨4096, kNames.take i⟩ ∧ HB H' b sb0 hb ∧ Up F H0 F' H', fun w _ => match w with
    | [.int _ i] => (14 - i).toNat
    | _ => 0, ⟨0, F, rfl, by decide, hK1, hB1, Up.refl _ _⟩, ?_⟩
  rintro w H3 ⟨i, F3, rfl, hi, hK3, hB3, hu3⟩ _
  refine ⟨_, rfl, ?_⟩
  rw [cond_dec]
  refine ite_i (fun hlt => ?_) fun hlt => ?_
  · have hlt' : i < kNames.length := by omega
    obtain ⟨p, hlt2, hp, hcell⟩ := (hNo.rd hu3 hN).str (i := (i : Int)) (by omega) (by omega)
    cases hp
    simp only [Int.toNat_natCast] at hcell hlt2
    have e1 : IntKind.wrap .i64 ((i : Int) + 1) = ((i + 1 : Nat) : Int) := by rw [wrap64_id (by omega) (by omega)]; omega
    have e1' : IntKind.wrap .i64 ((i : Int) + 1) = (i : Int) + 1 := wrap64_id (by omega) (by omega)
    have e4 : IntKind.wrap .i64 (4 + (i : Int)) = 4 + (i : Int) := wrap64_id (by omega) (by omega)
    obtain ⟨tb, F4, hc4, hT4, hup4⟩ := PK.tbB hK3 hB3
    refine ⟨⟨by omega, hlt⟩, _, rfl, _, by rw [Int.toNat_natCast, Nat.mul_one]; exact hcell, _, rfl, _, hc4, ptAdd_c hT4 fun H4 F4' hT4' hu4 => ⟨_, _, rfl, ?_⟩⟩
    rw [bootAdd hlt'] at hT4' ⊢
    obtain ⟨⟨F5, hK5, hu5⟩, hB5⟩ := hup4 H4 F4' _ hT4' hu4
    refine sym_c ⟨by simp only; omega, by simp only; omega⟩ ⟨_, _, rfl, object_c (by decide) ⟨_, rfl, ?_⟩⟩
    refine ⟨fun w H' => w = [.int .i64 (if i = 0 then 4 else 16)] ∧ H' = H4, ?_, ?_⟩
    · rw [beqI, cond_dec]
      refine ite_i (fun h0 => object_c (by decide) ⟨_, rfl, ?_, rfl⟩) fun h0 => ⟨?_, rfl⟩
      · rw [if_pos (by omega)]; rfl
      · rw [if_neg (by omega)]; rfl
    rintro w H4' ⟨rfl, rfl⟩ _
    refine ⟨_, rfl, object_c (by decide) ⟨_, rfl, object_c (by decide) ⟨_, rfl, object_c (by decide) ⟨_, rfl, integer_c (by decide) ⟨_, rfl, ?_⟩⟩⟩⟩⟩
    rw [e1', e4]
    refine integer_c ⟨by omega, by omega⟩ ⟨_, rfl, ?_⟩
    have fq := (Fr.push [] H4' (.cells (intsV (fillW i)).toArray 36))
    have hW : Rd 1 (H4'.push (.cells (intsV (fillW i)).toArray 36)) (some ⟨H4'.size, 0, none⟩) 7 (intsV (fillW i)) := rd_new (cs := fillW i)
    have hWo : Out (H4'.push (.cells (intsV (fillW i)).toArray 36)) (some ⟨H4'.size, 0, none⟩) F5 := fun p hp => by
      cases hp
      exact ⟨by simp, fun hm => absurd (hK5.lt _ hm) (Nat.lt_irrefl _)⟩
    have hK6 := hK5.nil fq
    have hB6 : HB (H4'.push (.cells (intsV (fillW i)).toArray 36)) b sb0 hb := HB.nil hB5 fq
    show ∃ (I38 : List Value → Heap → Prop) (μ38 : List Value → Heap → Nat), I38 [.int .i64 0] (H4'.push (.cells (intsV (fillW i)).toArray 36)) ∧ _
    generalize (H4'.push (.cells (intsV (fillW i)).toArray 36)) = H6 at fq hW hWo hK6 hB6 ⊢
    refine ⟨fun w H' => ∃ (k : Nat) (r : RH), w = [.int .i64 k] ∧ k ≤ 7 ∧ PK H' b F5 { s with h := r } ⟨4096, kNames.take (i + 1)⟩ ∧ HB H' b sb0 hb ∧ Fr F5 H6 H' ∧ r.lay (4 + i) k ((fillW i).drop k) = (fillN s.h i).lay (4 + i) 0 (fillW i) ∧ ∀ j x, objAt r.objs j = some x → x.fmt = 0, fun w _ => match w with
      | [.int _ k] => (7 - k).toNat
      | _ => 0, ⟨0, fillN s.h i, rfl, by decide, hK6, hB6, Fr.refl _ _, rfl, fillN_all hfmt i⟩, ?_⟩
    rintro w H7 ⟨k, r, rfl, hk7, hK7, hB7, hf7, hlay, hr⟩ _
    refine ⟨_, rfl, ?_⟩
    rw [cond_dec]
    refine ite_i (fun hkl => ?_) fun hkl => ?_
    · have hkl' : k < (fillW i).length := by show k < 7; omega
      obtain ⟨p, hp, hcell, hlt3⟩ := (hW.fr' hf7 fun p hp => (hWo p hp).2).int (i := (k : Int)) (by omega) (by omega)
      cases hp
      rw [Int.toNat_natCast] at hcell hlt3
      have hx : (fillW i).getD k 0 = (fillW i)[k] := by simp [hkl']
      rw [hx] at hcell
      have ed : (fillW i).drop k = (fillW i)[k] :: (fillW i).drop (k + 1) := List.drop_eq_getElem_cons hkl'
      have ek : IntKind.wrap .i64 ((k : Int) + 1) = ((k + 1 : Nat) : Int) := by rw [wrap64_id (by omega) (by omega)]; omega
      obtain ⟨F8, hR8, hsub8, hup8⟩ := PK.hp hK7 hB7
      refine ⟨⟨by omega, hkl⟩, _, rfl, _, by rw [Int.toNat_natCast, Nat.mul_one]; exact hcell, put_c hR8 (hr _) fun H9 hR9 hf9 => ⟨_, rfl, ?_⟩⟩
      obtain ⟨hK9, hB9⟩ := hup8 H9 _ hR9 hf9
      rw [ek]
      refine ⟨⟨k + 1, (r.put (4 + i) k (fillW i)[k]).2, rfl, by omega, hK9, hB9, hf7.trans (hf9.mono hsub8), ?_, put_all hr _ _ _⟩, by simp; omega⟩
      rw [← hlay, ed]
      rfl
    · have hk : k = 7 := by omega
      subst hk
      have hz : (fillW i).drop 7 = [] := rfl
      rw [hz] at hlay
      simp only [RH.lay] at hlay
      subst hlay
      refine object_c ⟨by omega, by omega⟩ ⟨_, rfl, ?_⟩
      obtain ⟨F8, hR8, hsub8, hup8⟩ := PK.hp hK7 hB7
      refine put_c hR8 (hr _) fun H9 hR9 hf9 => ⟨_, rfl, ?_⟩
      obtain ⟨hK9, hB9⟩ := hup8 H9 _ hR9 hf9
      rw [show (i : Int) + 1 = ((i + 1 : Nat) : Int) by omega]
      refine ⟨⟨i + 1, F5, rfl, by omega, hK9, hB9, ?_⟩, by simp; omega⟩
      exact (hu3.trans hu5).trans ((Up.of_nil fq).trans ⟨hf7.trans (hf9.mono hsub8), fun _ h => .inl h⟩)
  · have hi14 : i = 14 := by omega
    subst hi14
    have fq := (Fr.push [] H3 (.cells (intsV [20, 18, 18, 18, 1, 2, 3]).toArray 3))
    have hW : Rd 1 (H3.push (.cells (intsV [20, 18, 18, 18, 1, 2, 3]).toArray 3)) (some ⟨H3.size, 0, none⟩) 7 (intsV [20, 18, 18, 18, 1, 2, 3]) := rd_new (cs := [20, 18, 18, 18, 1, 2, 3])
    have hWo : Out (H3.push (.cells (intsV [20, 18, 18, 18, 1, 2, 3]).toArray 3)) (some ⟨H3.size, 0, none⟩) F3 := fun p hp => by
      cases hp
      exact ⟨by simp, fun hm => absurd (hK3.lt _ hm) (Nat.lt_irrefl _)⟩
    have hK6 := hK3.nil fq
    have hB6 : HB (H3.push (.cells (intsV [20, 18, 18, 18, 1, 2, 3]).toArray 3)) b sb0 hb := HB.nil hB3 fq
    show ∃ (I38 : List Value → Heap → Prop) (μ38 : List Value → Heap → Nat), I38 [.int .i64 0] (H3.push (.cells (intsV [20, 18, 18, 18, 1, 2, 3]).toArray 3)) ∧ _
    generalize (H3.push (.cells (intsV [20, 18, 18, 18, 1, 2, 3]).toArray 3)) = H6 at fq hW hWo hK6 hB6 ⊢
    refine ⟨fun w H' => ∃ (k : Nat) (r : RH), w = [.int .i64 k] ∧ k ≤ 7 ∧ PK H' b F3 { s with h := r } bootT ∧ HB H' b sb0 hb ∧ Fr F3 H6 H' ∧ r.lay 19 k (fillR.drop k) = bootH s.h ∧ ∀ j x, objAt r.objs j = some x → x.fmt = 0, fun w _ => match w with
      | [.int _ k] => (7 - k).toNat
      | _ => 0, ⟨0, fillN s.h 14, rfl, by decide, by rw [show bootT = ⟨4096, kNames.take 14⟩ from rfl]; exact hK6, hB6, Fr.refl _ _, by rw [bootH]; rfl, fillN_all hfmt 14⟩, ?_⟩
    rintro w H7 ⟨k, r, rfl, hk7, hK7, hB7, hf7, hlay, hr⟩ _
    refine ⟨_, rfl, ?_⟩
    rw [cond_dec]
    refine ite_i (fun hkl => ?_) fun hkl => ?_
    · have hkl' : k < 7 := by omega
      obtain ⟨p, hp, hcell, hlt3⟩ := (hW.fr' hf7 fun p hp => (hWo p hp).2).int (i := (k : Int)) (by omega) (by omega)
      cases hp
      rw [Int.toNat_natCast] at hcell hlt3
      have ek : IntKind.wrap .i64 ((k : Int) + 1) = ((k + 1 : Nat) : Int) := by rw [wrap64_id (by omega) (by omega)]; omega
      have hx : 1 ≤ ([20, 18, 18, 18, 1, 2, 3] : List Int).getD k 0 ∧ ([20, 18, 18, 18, 1, 2, 3] : List Int).getD k 0 ≤ 65536 ∧ fillR.drop k = 4 * ([20, 18, 18, 18, 1, 2, 3] : List Int).getD k 0 :: fillR.drop (k + 1) := by
        rcases k with _ | _ | _ | _ | _ | _ | _ | k
        all_goals first | exact ⟨by decide, by decide, by decide⟩ | omega
      obtain ⟨F8, hR8, hsub8, hup8⟩ := PK.hp hK7 hB7
      refine ⟨⟨by omega, hkl⟩, _, rfl, _, by rw [Int.toNat_natCast, Nat.mul_one]; exact hcell, object_c ⟨hx.1, hx.2.1⟩ ⟨_, rfl, put_c hR8 (hr _) fun H9 hR9 hf9 => ⟨_, rfl, ?_⟩⟩⟩
      obtain ⟨hK9, hB9⟩ := hup8 H9 _ hR9 hf9
      rw [ek]
      refine ⟨⟨k + 1, _, rfl, by omega, hK9, hB9, hf7.trans (hf9.mono hsub8), ?_, put_all hr _ _ _⟩, by simp; omega⟩
      rw [← hlay, hx.2.2]
      rfl
    · have hk : k = 7 := by omega
      subst hk
      have hz : fillR.drop 7 = [] := rfl
      rw [hz] at hlay
      have hlay' : r = bootH s.h := hlay
      rw [hlay'] at hK7
      have hu7 : Up F3 H3 F3 H7 := (Up.of_nil fq).trans ⟨hf7, fun _ h => .inl h⟩
      have hu9 : Up F H F3 H7 := ((Up.of_nil fp).trans hu3).trans hu7
      exact h H7 F3 hK7 hB7 hu9
end
end Go.Proofs.YtmkdkplipbocjaaGreatDoor
set_option maxRecDepth 100000
set_option maxHeartbeats 2000000
namespace Go.Proofs.YtmkdkplipbocjaaGreatDoor
open Kw
/-- Lists that stand in a list, the last one first. -/
def tailT (pl : List (Value × List ByteArray)) (n : Nat) : List ByteArray := ((pl.drop n).reverse.map (·.2)).flatten
theorem tailT_step {pl : List (Value × List ByteArray)} {n : Nat} (h : n < pl.length) : tailT pl n = tailT pl (n + 1) ++ (pl[n]).2 := by
  unfold tailT
  rw [List.drop_eq_getElem_cons h]
  simp only [List.reverse_cons, List.map_append, List.map_cons, List.map_nil, List.flatten_append, List.flatten_cons, List.flatten_nil, List.append_nil]
theorem tailT_end (pl : List (Value × List ByteArray)) : tailT pl pl.length = [] := by simp [tailT]
theorem tailT_snoc (pl : List (Value × List ByteArray)) (x : Value × List ByteArray) : tailT (pl ++ [x]) 0 = x.2 ++ tailT pl 0 := by simp [tailT]
theorem tailT_pre {pl : List (Value × List ByteArray)} : ∀ (k n : Nat), n + k = pl.length → ∃ r, tailT pl 0 = tailT pl n ++ r ∧ True := by
  intro k n hk
  induction n generalizing k with
  | zero => exact ⟨[], by simp, trivial⟩
  | succ n ih =>
    obtain ⟨r, e, _⟩ := ih (k + 1) (by omega)
    exact ⟨(pl[n]'(by omega)).2 ++ r, by rw [e, tailT_step (by omega)]; simp, trivial⟩
def PartOK (H : Heap) (p : Value × List ByteArray) : Prop := ∃ a l c, p.1 = .slice a l c ∧ Rd 1 H a l (strsV p.2)
section
variable {H : Heap} {b : Nat} {F : Foot} {s : SP} {t : TB} {v : KV} {Q : Value → Heap → Prop}
theorem infoK_name {i : Nat} (hi : i < v.cls.length) : (infoK v t i).name = tx t (v.cls[i]).name ∧ (infoK v t i).own = (v.cls[i]).own.map (tx t) := by
  unfold infoK; rw [List.getElem?_eq_getElem hi]; exact ⟨rfl, rfl⟩
theorem name_inj (hv : KAll s t v) {i j : Nat} (hi : i < v.cls.length) (hj : j < v.cls.length) (h : (infoK v t i).name = (infoK v t j).name) : i = j := by
  rw [(infoK_name hi).1, (infoK_name hj).1] at h
  have := tx_inj hv.names.wf (hv.names.name _ (List.getElem_mem hi)) (hv.names.name _ (List.getElem_mem hj)) h
  have hn := hv.names.nodup
  have e1 : (v.cls.map (·.name))[i]'(by simpa using hi) = (v.cls.map (·.name))[j]'(by simpa using hj) := by simpa using this
  exact (List.getElem_inj hn).1 e1
theorem name_ne (hv : KAll s t v) {i : Nat} (hi : i < v.cls.length) : (infoK v t i).name ≠ ⟨#[]⟩ := by
  rw [(infoK_name hi).1]
  have := tx_good hv.names.wf (hv.names.name _ (List.getElem_mem hi))
  intro e
  rw [e] at this
  exact absurd this.1 (by decide)
/-- The superclass by its name, among those ahead. -/
theorem atSup_r (hv : KAll s t v) {a : Option Addr} {l c : Nat} {G : Foot} (hL : LRep 4 InfoR H a l c (infosK v t) G) {i : Nat} (hi : i < v.cls.length)
    (h : Q (.int .i64 (match upIdx v i with | some j => (j : Int) | none => -1)) H) : callS PP n_kilnref20_at #[.slice a l c, .int .i64 i, .string (infoK v t i).sup] Q H := by
  have hm1 := hv.ks.shape.many1
  have hsup : (infoK v t i).sup = match upIdx v i with
    | some j => match v.cls[j]? with
      | some d => tx t d.name
      | none => ⟨#[]⟩
    | none => ⟨#[]⟩ := by unfold infoK; rw [List.getElem?_eq_getElem hi] <;> rfl
  rcases hv.ks.upI hi with ⟨_, e0, e1⟩ | ⟨j, hj, hlt, e0, _, e1⟩
  · rw [e1] at hsup h
    simp only at hsup h
    refine at_r hL (Nat.le_of_lt hi) hm1 (fun k hk he _ => ?_) fun _ => h
    rw [hsup] at he
    exact absurd he (name_ne hv (by omega))
  · rw [e1] at hsup h
    simp only [List.getElem?_eq_getElem hj] at hsup h
    have hsj : (infoK v t i).sup = (infoK v t j).name := by rw [hsup, (infoK_name hj).1]
    refine at_r hL (Nat.le_of_lt hi) hm1 (fun k hk he _ => ?_) fun hno => ?_
    · rw [hsj] at he
      have := name_inj hv (by omega) hj he
      subst this; exact h
    · exact absurd hsj.symm (hno j hlt)
theorem fields20_r (hv : KAll s t v) {a : Option Addr} {l c : Nat} {G : Foot} (hL : LRep 4 InfoR H a l c (infosK v t) G) {i : Nat} (hi : i < v.cls.length)
    (h : ∀ a l c G H', Own 1 H' a l c (strsV ((fieldsK v i).map (tx t))) G → Fr [] H H' → (∀ x ∈ G, H.size ≤ x) → Q (.slice a l c) H') : callS PP n_kilnref20_Fields #[.slice a l c, .int .i64 i, .int .i64 (-1), .slice none 0 0] Q H := by
  have hs1 : sliceInfo PP 37 = some (1, 16, some (.string (⟨#[]⟩ : ByteArray))) := by kernel_rfl
  have hs2 : sliceInfo PP 80 = some (1, 24, some (.slice none 0 0)) := by kernel_rfl
  have hm1 := hv.ks.shape.many1
  have hfl := fields_len hv.ks i hi
  have hl : l = v.cls.length := by have := hL.len; simpa [infosK] using this
  apply kilnref20_Fields_ok
  unfold kilnref20_Fields
  refine ⟨fun w H' => ∃ (cx : Int) (a8 : Option Addr) (l8 c8 : Nat) (G8 : Foot) (pl : List (Value × List ByteArray)), w = [.int .i64 cx, .slice a8 l8 c8] ∧ Own 1 H' a8 l8 c8 (pl.map (·.1)) G8 ∧ Fr [] H H' ∧ (∀ x ∈ G8, H.size ≤ x) ∧ (∀ p ∈ pl, PartOK H p) ∧ pl.length + (cx + 1).toNat ≤ i + 1 ∧
      ((cx = -1 ∧ (fieldsK v i).map (tx t) = tailT pl 0) ∨ ∃ j, ∃ _ : j < v.cls.length, cx = (j : Int) ∧ (fieldsK v i).map (tx t) = (fieldsK v j).map (tx t) ++ tailT pl 0), fun w _ => match w with
    | [.int _ cx, _] => (cx + 1).toNat
    | _ => 0, ⟨i, none, 0, 0, [], [], rfl, Own.nil 1 H, Fr.refl _ _, by simp, by simp, by first | (simp; done) | (simp; omega), .inr ⟨i, hi, rfl, by simp [tailT]⟩⟩, ?_⟩
  rintro w H1 ⟨cx, a8, l8, c8, G8, pl, rfl, ho8, hf8, hG8, hpl, hlen8, hcase⟩ _
  have hl8 : l8 = pl.length := by have := ho8.len; simpa using this.symm
  refine ⟨_, _, _, _, rfl, ?_⟩
  rw [cond_dec]
  refine ite_i (fun hge => ?_) fun hge => ?_
  · -- one class more
    rcases hcase with ⟨e, _⟩ | ⟨j, hj, rfl, heq⟩
    · omega
    rw [beqI, cond_dec, if_neg (by omega)]
    obtain ⟨p, a2, l2, c2, G2, rfl, hspot, _, _, cc2, ho2, _⟩ := info_get (hL.fr InfoR.fr InfoR.lt hf8 (Disj.nil_right _)) hj
    obtain ⟨p', a2', l2', c2', G2', hp', _, _, _, cc2', ho2', _⟩ := info_get hL hj
    cases hp'
    refine ⟨⟨by omega, by omega⟩, _, rfl, _, _, _, by rw [Int.toNat_natCast]; exact cc2, ?_⟩
    refine evS_append1 hs2 rfl (by kernel_rfl) ho8 rfl (by simp [oneC]) (by omega) (by decide) (by decide) fun a' c' G3 H3 g1 g2 g3 => ⟨_, _, _, rfl, ⟨by omega, by omega⟩, _, rfl, ?_⟩
    have hfr := Up.fresh hf8 g2 hG8
    have hL3 := hL.fr InfoR.fr InfoR.lt hfr.1 (Disj.nil_right _)
    obtain ⟨p', a3, l3, c3, G4, hp', _, _, cc1, _⟩ := info_get hL3 hj
    cases hp'
    refine ⟨_, by rw [Int.toNat_natCast]; exact cc1, atSup_r hv hL3 hj ⟨_, rfl, ?_⟩⟩
    have hj' : (v.cls[j]).own.map (tx t) = (infoK v t j).own := (infoK_name hj).2.symm
    -- the same list stood there before
    have hsl : Value.slice a2 l2 c2 = .slice a2' l2' c2' := by
      have e2 : cellH H1 ((p.add (j * 4)).add 2) = cellH H ((p.add (j * 4)).add 2) := by
        obtain ⟨pb, po, ps⟩ := p
        simp only at hspot
        subst hspot
        rw [add_none, add_none] at cc2' ⊢
        exact cell_fr hf8 (by simp) (cell_lt cc2')
      rw [cc2, cc2'] at e2
      exact Option.some.inj e2
    have hpart : PartOK H (.slice a2 l2 c2, (infoK v t j).own) := ⟨a2', l2', c2', hsl, ho2'.rd⟩
    rcases hv.ks.upI hj with ⟨h0, _, e1⟩ | ⟨k, hk, hlt, _, _, e1⟩
    · rw [e1]
      simp only
      refine ⟨⟨-1, a', l8 + 1, c', G3, pl ++ [(.slice a2 l2 c2, (infoK v t j).own)], rfl, by simpa using g1, hfr.1, hfr.2, fun q hq => ?_, by first | (simp; done) | (simp; omega), .inl ⟨rfl, ?_⟩⟩, by first | (simp; done) | (simp; omega)⟩
      · rcases List.mem_append.1 hq with hq | hq
        · exact hpl q hq
        · simp only [List.mem_singleton] at hq; rw [hq]; exact hpart
      · subst h0
        rw [tailT_snoc, heq, hv.ks.fields0 hj, hj']
    · rw [e1]
      simp only
      refine ⟨⟨k, a', l8 + 1, c', G3, pl ++ [(.slice a2 l2 c2, (infoK v t j).own)], rfl, by simpa using g1, hfr.1, hfr.2, fun q hq => ?_, by first | (simp; done) | (simp; omega), .inr ⟨k, hk, rfl, ?_⟩⟩, by first | (simp; done) | (simp; omega)⟩
      · rcases List.mem_append.1 hq with hq | hq
        · exact hpl q hq
        · simp only [List.mem_singleton] at hq; rw [hq]; exact hpart
      · rw [tailT_snoc, heq, hv.ks.fieldsS hj hlt e1, List.map_append, hj', List.append_assoc]
  · -- turned round
    have heq : (fieldsK v i).map (tx t) = tailT pl 0 := by
      rcases hcase with ⟨_, e⟩ | ⟨j, _, e, _⟩
      · exact e
      · omega
    have htot : (tailT pl 0).length ≤ 3000000 := by rw [← heq, List.length_map]; omega
    have hpn : pl.length ≤ 1000 := by omega
    have e0 : IntKind.wrap .i64 ((l8 : Int) - 1) = (pl.length : Int) - 1 := by rw [wrap64_id (by omega) (by omega)]; omega
    refine ⟨fun w H' => ∃ (n : Nat) (a3 : Option Addr) (l3 c3 : Nat) (G3 : Foot), w = [.slice a3 l3 c3, .int .i64 ((n : Int) - 1)] ∧ n ≤ pl.length ∧ Own 1 H' a3 l3 c3 (strsV (tailT pl n)) G3 ∧ Fr [] H1 H' ∧ (∀ x ∈ G3, H1.size ≤ x), fun w _ => match w with
      | [_, .int _ n] => (n + 1).toNat
      | _ => 0, ⟨pl.length, none, 0, 0, [], by rw [e0], Nat.le_refl _, by rw [tailT_end]; exact Own.nil 1 H1, Fr.refl _ _, by simp⟩, ?_⟩
    rintro w H6 ⟨n, a3, l3, c3, G3, rfl, hn, ho3, hf3, hG3⟩ _
    refine ⟨_, _, _, _, rfl, ?_⟩
    rw [cond_dec]
    refine ite_i (fun hge2 => ?_) fun hge2 => ?_
    · have hnp : n - 1 < pl.length := by omega
      have en : (n : Int) - 1 = ((n - 1 : Nat) : Int) := by omega
      have hp := hpl _ (List.getElem_mem hnp)
      obtain ⟨ap, lp, cp, ep, hrp⟩ := hp
      obtain ⟨r, er, _⟩ := tailT_pre (pl := pl) (pl.length - (n - 1)) (n - 1) (by omega)
      have es := tailT_step hnp
      rw [show n - 1 + 1 = n by omega] at es
      have hlp : lp = (pl[n - 1]).2.length := by have := hrp.1; simpa [strsV] using this.symm
      have hle : (tailT pl n).length + (pl[n - 1]).2.length ≤ 3000000 := by
        rw [er, es] at htot
        simp only [List.length_append] at htot
        omega
      -- the part's place in the list
      have hcellP : ∀ {H' : Heap}, Fr [] H1 H' → ∃ q, a8 = some q ∧ cellH H' (q.add ((n - 1) * 1)) = some (.slice ap lp cp) := by
        intro H' hf'
        have hr8 := (ho8.fr hf' (by simp)).rd
        cases ha : a8 with
        | none =>
          have := hr8.2.1 ha
          omega
        | some q =>
          refine ⟨q, rfl, ?_⟩
          rw [hr8.2.2 q ha ((n - 1) * 1) (by omega)]
          rw [Nat.mul_one, List.getElem?_map, List.getElem?_eq_getElem hnp, ← ep]
          rfl
      refine ⟨fun w H' => ∃ (k : Nat) (a4 : Option Addr) (l4 c4 : Nat) (G4 : Foot), w = [.slice a4 l4 c4, .int .i64 k] ∧ k ≤ (pl[n - 1]).2.length ∧ Own 1 H' a4 l4 c4 (strsV (tailT pl n ++ (pl[n - 1]).2.take k)) G4 ∧ Fr [] H1 H' ∧ (∀ x ∈ G4, H1.size ≤ x), fun w _ => match w with
        | [_, .int _ k] => ((pl[n - 1]).2.length - k).toNat
        | _ => 0, ⟨0, a3, l3, c3, G3, rfl, Nat.zero_le _, by simpa using ho3, hf3, hG3⟩, ?_⟩
      rintro w H7 ⟨k, a4, l4, c4, G4, rfl, hk, ho4, hf4, hG4⟩ _
      have hl4 : l4 = (tailT pl n).length + k := by
        have := ho4.len
        simp only [strsV, List.length_map, List.length_append, List.length_take] at this
        omega
      obtain ⟨q, hq, hcq⟩ := hcellP hf4
      subst hq
      rw [en]
      refine ⟨_, _, _, _, rfl, ⟨by omega, by omega⟩, _, rfl, _, _, _, by rw [Int.toNat_natCast]; exact hcq, ?_⟩
      rw [cond_dec]
      refine ite_i (fun hlt => ?_) fun hlt => ?_
      · obtain ⟨pp, hlt2, rfl, hcell⟩ := (hrp.fr' (hf8.trans hf4) (by simp)).str (i := (k : Int)) (by omega) hlt
        simp only [Int.toNat_natCast] at hcell hlt2
        have e1 : IntKind.wrap .i64 ((k : Int) + 1) = ((k + 1 : Nat) : Int) := by rw [wrap64_id (by omega) (by omega)]; omega
        refine ⟨⟨by omega, by omega⟩, _, rfl, _, _, _, by rw [Int.toNat_natCast]; exact hcq, ⟨by omega, hlt⟩, _, rfl, _, by rw [Int.toNat_natCast, Nat.mul_one]; exact hcell, ?_⟩
        refine evS_append1 hs1 rfl (by kernel_rfl) ho4 rfl (by simp [oneC]) (by omega) (by decide) (by decide) fun a' c' G5 H8 g1 g2 g3 => ⟨_, _, _, rfl, ?_⟩
        have hfr := Up.fresh hf4 g2 hG4
        rw [e1]
        refine ⟨⟨k + 1, a', l4 + 1, c', G5, rfl, by omega, ?_, hfr.1, hfr.2⟩, by first | (simp; done) | (simp; omega)⟩
        rw [List.take_add_one, List.getElem?_eq_getElem hlt2, ← List.append_assoc, strsV_append]
        exact g1
      · have hkl : k = (pl[n - 1]).2.length := by omega
        rw [hkl, List.take_length, ← es] at ho4
        have e1 : IntKind.wrap .i64 (((n - 1 : Nat) : Int) - 1) = ((n - 1 : Nat) : Int) - 1 := wrap64_id (by omega) (by omega)
        rw [e1]
        exact ⟨⟨n - 1, a4, l4, c4, G4, rfl, by omega, ho4, hf4, hG4⟩, by first | (simp; done) | (simp; omega)⟩
    · have : n = 0 := by omega
      subst this
      rw [← heq] at ho3
      exact h _ _ _ G3 H6 ho3 (hf8.trans hf3) fun x hx => Nat.le_trans hf8.1 (hG3 x hx)
end
end Go.Proofs.YtmkdkplipbocjaaGreatDoor
set_option maxRecDepth 100000
set_option maxHeartbeats 2000000
namespace Go.Proofs.YtmkdkplipbocjaaGreatDoor
open Kw
section
variable {H : Heap} {b : Nat} {F : Foot} {s : SP} {t : TB} {v : KV} {Q : Value → Heap → Prop}
theorem fields_r (hK : RK H b F s t) (hv : KAll s t v) {o : Int} (h1 : ∀ i, plK v o = some i → ∀ a l c G H', Own 1 H' a l c (strsV ((fieldsK v i).map (tx t))) G → Fr [] H H' → (∀ x ∈ G, H.size ≤ x) → Q (.tuple #[.slice a l c, .int .i64 0]) H')
    (h2 : plK v o = none → ∀ H', Fr [] H H' → Q (.tuple #[.slice none 0 0, .int .i64 130]) H') : callS PP n_kilnref13_Kernel_Fields #[.pointer (some ⟨b, 0, none⟩), .int .i64 o] Q H := by
  have hm1 := hv.ks.shape.many1
  apply kilnref13_Kernel_Fields_ok
  unfold kilnref13_Kernel_Fields
  refine place_r hK hv.ks fun H1 hf1 => ⟨_, rfl, ?_⟩
  unfold placeN
  cases hp : plK v o with
  | none => exact h2 hp H1 hf1
  | some i =>
    obtain ⟨hi, rfl⟩ := plK_some hp
    rw [beqI, cond_dec, if_neg (by simp only; omega)]
    refine infos_r (hK.nil hf1) hv fun a l c G H2 hL hf2 hG => ⟨_, _, _, rfl, ?_⟩
    have e : IntKind.wrap .i64 ((i : Int) + 1 - 1) = (i : Int) := by rw [wrap64_id (by omega) (by omega)]; omega
    simp only [e]
    exact fields20_r hv hL hi fun a2 l2 c2 G2 H3 ho hf3 hG2 => ⟨_, _, _, rfl, h1 i hp a2 l2 c2 G2 H3 ho ((hf1.trans hf2).trans hf3) fun x hx => Nat.le_trans (hf1.trans hf2).1 (hG2 x hx)⟩
theorem under_r (hK : RK H b F s t) (hv : KAll s t v) {o : Int} (h1 : ∀ i, plK v o = some i → ∀ a l c G H', Own 1 H' a l c (intsV (underK v o)) G → Fr [] H H' → (∀ x ∈ G, H.size ≤ x) → Q (.slice a l c) H')
    (h2 : plK v o = none → ∀ H', Fr [] H H' → Q (.slice none 0 0) H') : callS PP n_kilnref13_Kernel_Under #[.pointer (some ⟨b, 0, none⟩), .int .i64 o] Q H := by
  have hs1 : sliceInfo PP 66 = some (1, 8, some (.int .i64 0)) := by kernel_rfl
  have hm1 := hv.ks.shape.many1
  apply kilnref13_Kernel_Under_ok
  unfold kilnref13_Kernel_Under
  refine place_r hK hv.ks fun H1 hf1 => ⟨_, rfl, all_r (hK.nil hf1) hv.ks fun al ll cl Gl H2 hol hf2 hGl => ⟨_, _, _, rfl, ?_⟩⟩
  have hll : ll = v.cls.length := by have := hol.len; simpa [intsV, oopsK] using this.symm
  have hF2 := hf1.trans hf2
  cases hp : plK v o with
  | none =>
    have e0 : placeN v o = 0 := by unfold placeN; rw [hp]
    rw [e0]
    refine ⟨fun w H' => w = [.slice none 0 0, .int .i64 0] ∧ H' = H2, fun _ _ => 0, ⟨rfl, rfl⟩, ?_⟩
    rintro w H3 ⟨rfl, rfl⟩ _
    refine ⟨_, _, _, _, rfl, ?_⟩
    rw [cond_dec, if_neg (by decide)]
    exact h2 hp _ hF2
  | some p =>
    obtain ⟨hpi, hpo⟩ := plK_some hp
    have e0 : placeN v o = (p : Int) + 1 := by unfold placeN; rw [hp]
    rw [e0]
    have ho1 := (up_arr hv.ks hpi).1
    rw [hpo] at ho1
    let D : CV := ⟨0, 0, 0, [], 0, 0, 0, [], [], 0⟩
    let f : Nat → Bool := fun i => decide (Und v o (v.cls.getD i D).oop)
    let pre : Nat → List Int := fun n => ((List.range n).filter f).map fun i : Nat => (i : Int) + 1
    have hpre : ∀ n, pre (n + 1) = pre n ++ if f n then [(n : Int) + 1] else [] := by
      intro n
      simp only [pre, List.range_succ, List.filter_append, List.map_append]
      congr 1
      by_cases hfn : f n <;> simp [hfn]
    have hprel : ∀ n, (pre n).length ≤ n := fun n => by simp only [pre, List.length_map]; exact Nat.le_trans (List.length_filter_le _ _) (by simp)
    have hend : pre v.cls.length = underK v o := rfl
    have hgd : ∀ i (hi : i < v.cls.length), v.cls.getD i D = v.cls[i] := fun i hi => by simp [hi]
    -- none ahead of the class descends from it
    have hlow : ∀ i, i < v.cls.length → i < p → ¬ Und v o (v.cls.getD i D).oop := by
      intro i
      induction i using Nat.strongRecOn with
      | ind i ih =>
        intro hi hip hu
        rw [hgd i hi] at hu
        rcases (und_iff hv.ks hi).1 hu with he | ⟨hne, hu2⟩
        · have := hv.ks.view.inj hi hpi (he.trans hpo.symm)
          omega
        · rcases hv.ks.upI hi with ⟨_, h5, _⟩ | ⟨j, hj, hji, h5, _, _⟩
          · exact hne h5
          · rw [h5] at hu2
            exact ih j hji hj (by omega) (by rw [hgd j hj]; exact hu2)
    have hpre0 : ∀ n, n ≤ p → pre n = [] := by
      intro n hn
      induction n with
      | zero => rfl
      | succ n ih =>
        rw [hpre, ih (by omega)]
        have : f n = false := by simpa [f] using hlow n (by omega) (by omega)
        rw [this]; rfl
    refine ⟨fun w H' => ∃ (i : Nat) (a : Option Addr) (l' c : Nat) (G : Foot), w = [.slice a l' c, .int .i64 ((i : Int) + 1)] ∧ i ≤ v.cls.length ∧ Own 1 H' a l' c (intsV (pre i)) G ∧ Fr [] H2 H' ∧ (∀ x ∈ G, H2.size ≤ x), fun w _ => match w with
      | [_, .int _ i] => ((v.cls.length : Int) + 1 - i).toNat
      | _ => 0, ⟨p, none, 0, 0, [], rfl, Nat.le_of_lt hpi, by rw [hpre0 p (Nat.le_refl _)]; exact Own.nil 1 H2, Fr.refl _ _, by simp⟩, ?_⟩
    rintro w H3 ⟨i, a1, l1, c1, G, rfl, hi, ho, hf3, hG⟩ _
    have hl1 : l1 ≤ i := by have h1 := ho.len; have h2 := hprel i; simp only [intsV, List.length_map] at h1; omega
    refine ⟨_, _, _, _, rfl, ?_⟩
    rw [cond_dec, if_pos (by omega), cond_dec]
    refine ite_i (fun hlt => ?_) fun hlt => ?_
    · have hlt' : i < v.cls.length := by omega
      have ew : IntKind.wrap .i64 ((i : Int) + 1 - 1) = (i : Int) := by rw [wrap64_id (by omega) (by omega)]; omega
      have e1 : IntKind.wrap .i64 ((i : Int) + 1 + 1) = ((i + 1 : Nat) : Int) + 1 := by rw [wrap64_id (by omega) (by omega)]; omega
      obtain ⟨q, rfl, hcell⟩ := rd_oops hol hf3 hlt'
      have hF3 := hF2.trans hf3
      have hfi : f i = decide (Und v o (v.cls[i]).oop) := by simp only [f, hgd i hlt']
      rw [ew, e1]
      refine ⟨⟨by omega, by omega⟩, _, rfl, _, by rw [Int.toNat_natCast]; exact hcell, ?_⟩
      -- climbing
      refine ⟨fun w H' => H' = H3 ∧ ∃ x : Int, w = [.int .i64 x] ∧ (Und v o (v.cls[i]).oop ↔ x ≠ 0 ∧ Und v o x) ∧ (x = 0 ∨ ∃ j, ∃ hj : j < v.cls.length, (v.cls[j]).oop = x), fun w _ => match w with
        | [.int _ x] => match plK v x with
          | some j => j + 1
          | none => 0
        | _ => 0, ⟨rfl, _, rfl, ⟨fun hu => ⟨by have := (up_arr hv.ks hlt').1; omega, hu⟩, fun hu => hu.2⟩, .inr ⟨i, hlt', rfl⟩⟩, ?_⟩
      rintro w H4 ⟨rfl, x, rfl, hx, hxc⟩ _
      refine ⟨_, rfl, ?_⟩
      have yes : Und v o (v.cls[i]).oop → ∀ {K : Value → Heap → Prop} (_ : ∀ a' n' c' G' H9, Own 1 H9 a' n' c' (intsV (pre (i + 1))) G' → Fr [] H2 H9 → (∀ x ∈ G', H2.size ≤ x) → K (.slice a' n' c') H9),
          evS PP (Builtin.append_ #[66, 66] 66 #[.slice a1 l1 c1, .slice (some (⟨H4.size, 0, none⟩ : Addr)) 1 1]) K (H4.push (.cells #[.int .i64 ((i : Int) + 1)] 3)) := by
        intro hU K hk
        refine evS_append1 hs1 rfl (by kernel_rfl) ho rfl (by simp [oneC]) (by omega) (by decide) (by decide) fun a' c' G2 H9 g1 g2 g3 => ?_
        have hfr := Up.fresh hf3 g2 hG
        refine hk _ _ _ G2 H9 ?_ hfr.1 hfr.2
        rw [hpre, hfi, decide_eq_true hU]
        simp only [if_pos, intsV_append]
        exact g1
      have no : ¬ Und v o (v.cls[i]).oop → pre (i + 1) = pre i := fun hU => by rw [hpre, hfi, decide_eq_false hU]; simp
      have out : ∀ (hxo : ¬ (x ≠ 0 ∧ x ≠ o)), cond (x == o) (evS PP (Builtin.append_ #[66, 66] 66 #[.slice a1 l1 c1, .slice (some (⟨H4.size, 0, none⟩ : Addr)) 1 1]) (fun v18 H6 => ∃ a19 : Option Addr, ∃ l19 : Nat, ∃ c19 : Nat, v18 = .slice a19 l19 c19 ∧
          (∃ (i_1 : Nat) (a : Option Addr) (l' c : Nat) (G : Foot), [Value.slice a19 l19 c19, .int .i64 (((i + 1 : Nat) : Int) + 1)] = [.slice a l' c, .int .i64 ((i_1 : Int) + 1)] ∧ i_1 ≤ v.cls.length ∧ Own 1 H6 a l' c (intsV (pre i_1)) G ∧ Fr [] H2 H6 ∧ (∀ x ∈ G, H2.size ≤ x)) ∧ ((v.cls.length : Int) + 1 - (((i + 1 : Nat) : Int) + 1)).toNat < ((v.cls.length : Int) + 1 - ((i : Int) + 1)).toNat) (H4.push (.cells #[.int .i64 ((i : Int) + 1)] 3)))
          ((∃ (i_1 : Nat) (a : Option Addr) (l' c : Nat) (G : Foot), [Value.slice a1 l1 c1, .int .i64 (((i + 1 : Nat) : Int) + 1)] = [.slice a l' c, .int .i64 ((i_1 : Int) + 1)] ∧ i_1 ≤ v.cls.length ∧ Own 1 H4 a l' c (intsV (pre i_1)) G ∧ Fr [] H2 H4 ∧ (∀ x ∈ G, H2.size ≤ x)) ∧ ((v.cls.length : Int) + 1 - (((i + 1 : Nat) : Int) + 1)).toNat < ((v.cls.length : Int) + 1 - ((i : Int) + 1)).toNat) := by
        intro hxo
        rw [beqI, cond_dec]
        refine ite_i (fun he => ?_) fun he => ?_
        · have hU : Und v o (v.cls[i]).oop := hx.2 ⟨by omega, by rw [he]; exact .self⟩
          exact yes hU fun a' n' c' G' H9 k1 k2 k3 => ⟨_, _, _, rfl, ⟨i + 1, a', n', c', G', rfl, by omega, k1, k2, k3⟩, by omega⟩
        · have hx0 : x = 0 := Classical.byContradiction fun hn => hxo ⟨hn, he⟩
          have hU : ¬ Und v o (v.cls[i]).oop := fun hU => (hx.1 hU).1 hx0
          refine ⟨⟨i + 1, a1, l1, c1, G, rfl, by omega, by rw [no hU]; exact ho, hf3, hG⟩, by omega⟩
      rw [bneI, cond_dec]
      refine ite_i (fun hx0 => ?_) fun hx0 => out fun hh => hx0 hh.1
      rw [bneI, cond_dec]
      refine ite_i (fun hxo => ?_) fun hxo => out fun hh => hxo hh.2
      rcases hxc with h5 | ⟨j, hj, rfl⟩
      · exact absurd h5 hx0
      refine up_r (hK.nil hF3) hv.ks hj ⟨_, rfl, ?_⟩
      have huj := und_iff hv.ks (o := o) hj
      refine ⟨⟨rfl, superK v j, rfl, ?_, ?_⟩, ?_⟩
      · rw [hx]
        constructor
        · rintro ⟨_, h6⟩
          rcases huj.1 h6 with h7 | h7
          · exact absurd h7 hxo
          · exact h7
        · exact fun h6 => ⟨hx0, huj.2 (.inr h6)⟩
      · rcases hv.ks.upI hj with ⟨_, h6, _⟩ | ⟨k, hk, _, h6, _, _⟩
        · exact .inl h6
        · exact .inr ⟨k, hk, h6.symm⟩
      · simp only [hv.ks.idx hj]
        rcases hv.ks.upI hj with ⟨_, h6, h7⟩ | ⟨k, hk, hkj, h6, _, h7⟩
        · have : plK v (superK v j) = none := h7
          rw [this]; simp
        · rw [h6, hv.ks.idx hk]; simp; omega
    · have : i = v.cls.length := by omega
      subst this
      rw [hend] at ho
      exact h1 p hp _ _ _ G H3 ho (hF2.trans hf3) fun x hx => Nat.le_trans hF2.1 (hG x hx)
end
end Go.Proofs.YtmkdkplipbocjaaGreatDoor
set_option maxRecDepth 100000
set_option maxHeartbeats 2000000
namespace Go.Proofs.YtmkdkplipbocjaaGreatDoor
open Kw
section
variable {H : Heap} {b : Nat} {F : Foot} {s : SP} {t : TB} {v : KV} {Q : Value → Heap → Prop}
theorem layB_r (hK : RK H b F s t) {o : Int} {a : Option Addr} {l c : Nat} {ws : List Int} (hk : Rd 1 H a l (intsV ws)) (hout : Out H a F) (hlk : l ≤ 1000000000)
    (h : ∀ H' F', RK H' b F' { s with h := s.h.lay o 0 ws } t → Up F H F' H' → (∀ o, cellH H' ⟨b, o, none⟩ = cellH H ⟨b, o, none⟩) → Q (.tuple #[]) H') : callS PP n_kilnref13_Kernel_lay #[.pointer (some ⟨b, 0, none⟩), .int .i64 o, .slice a l c] Q H := by
  have hl : l = ws.length := by have := hk.1; simpa [intsV] using this.symm
  apply kilnref13_Kernel_lay_ok
  unfold kilnref13_Kernel_lay
  refine ⟨fun w H' => ∃ (i : Nat) (r : RH) (F' : Foot), w = [.int .i64 i] ∧ i ≤ ws.length ∧ RK H' b F' { s with h := r } t ∧ Up F H F' H' ∧ (∀ o, cellH H' ⟨b, o, none⟩ = cellH H ⟨b, o, none⟩) ∧ r.lay o i (ws.drop i) = s.h.lay o 0 ws, fun w _ => match w with
    | [.int _ i] => (ws.length - i).toNat
    | _ => 0, ⟨0, s.h, F, rfl, Nat.zero_le _, hK, Up.refl _ _, fun _ => rfl, rfl⟩, ?_⟩
  rintro w H4 ⟨i, r, F4, rfl, hi, hK4, hu4, hce, hlay⟩ _
  refine ⟨_, rfl, ?_⟩
  rw [cond_dec]
  refine ite_i (fun hlt => ?_) fun hlt => ?_
  · obtain ⟨p, rfl, hcell, hlt2⟩ := (hout.rd hu4 hk).int (i := (i : Int)) (by omega) hlt
    rw [Int.toNat_natCast] at hcell hlt2
    have hx : ws.getD i 0 = ws[i] := by simp [hlt2]
    rw [hx] at hcell
    have ed : ws.drop i = ws[i] :: ws.drop (i + 1) := List.drop_eq_getElem_cons hlt2
    have e : IntKind.wrap .i64 ((i : Int) + 1) = ((i + 1 : Nat) : Int) := by rw [wrap64_id (by omega) (by omega)]; omega
    obtain ⟨sb, hb, F1, hc, c0, hR, hsub, hbn, hup⟩ := hK4.hp
    have hbl := hK4.lt b hK4.bmem
    refine ⟨_, rfl, _, hc, _, rfl, _, c0, ⟨by omega, hlt⟩, _, rfl, _, by rw [Int.toNat_natCast, Nat.mul_one]; exact hcell, rput_c hR fun H6 hR6 hf6 => ⟨_, rfl, trivial, ?_⟩⟩
    obtain ⟨F7, hK7, hu7⟩ := hup H6 F1 _ hR6 ⟨hf6, fun _ h => .inl h⟩
    rw [e]
    refine ⟨⟨i + 1, (r.put o i ws[i]).2, F7, rfl, by omega, hK7, hu4.trans hu7, fun o => by rw [cell_fr hf6 hbn hbl]; exact hce o, ?_⟩, by simp; omega⟩
    rw [← hlay, ed]
    rfl
  · have hil : i = ws.length := by omega
    subst hil
    rw [List.drop_length] at hlay
    simp only [RH.lay] at hlay
    rw [hlay] at hK4
    exact h H4 F4 hK4 hu4 hce
end
end Go.Proofs.YtmkdkplipbocjaaGreatDoor
set_option maxRecDepth 100000
set_option maxHeartbeats 2000000
namespace Go.Proofs.YtmkdkplipbocjaaGreatDoor
open Kw
def planV : List (Int × Int) → List Value
  | [] => []
  | (c, n) :: l => .int .i64 c :: .int .i64 n :: planV l
theorem planV_append (l m : List (Int × Int)) : planV (l ++ m) = planV l ++ planV m := by
  induction l with
  | nil => rfl
  | cons x l ih => obtain ⟨c, n⟩ := x; simp [planV, ih]
theorem planV_len (l : List (Int × Int)) : (planV l).length = 2 * l.length := by
  induction l with
  | nil => rfl
  | cons x l ih => obtain ⟨c, n⟩ := x; simp only [planV, List.length_cons, ih]; omega
theorem planV_one (l : List (Int × Int)) : ∀ v ∈ planV l, oneC v = true := by
  induction l with
  | nil => intro v hv; cases hv
  | cons x l ih =>
    obtain ⟨c, n⟩ := x
    intro v hv
    simp only [planV, List.mem_cons] at hv
    rcases hv with rfl | rfl | hv
    · rfl
    · rfl
    · exact ih v hv
theorem planV_get {l : List (Int × Int)} {i : Nat} (h : i < l.length) : (planV l)[i * 2]? = some (.int .i64 l[i].1) ∧ (planV l)[i * 2 + 1]? = some (.int .i64 l[i].2) := by
  induction l generalizing i with
  | nil => simp at h
  | cons x l ih =>
    obtain ⟨c, n⟩ := x
    cases i with
    | zero => simp [planV]
    | succ i =>
      have := ih (i := i) (by simpa using h)
      have e : (i + 1) * 2 = i * 2 + 2 := by omega
      rw [e]
      simpa [planV] using this
theorem allocAll_cons (r : RH) (x : Int × Int) (l : List (Int × Int)) : r.allocAll (x :: l) = if (r.alloc (4 * x.1) x.2 0).1.2 ≠ 0 then ((r.alloc (4 * x.1) x.2 0).1.2, (r.alloc (4 * x.1) x.2 0).2) else RH.allocAll (r.alloc (4 * x.1) x.2 0).2 l := by
  obtain ⟨c, n⟩ := x; rfl
theorem bootRH_eq (words oops : Int) : bootH (((bootR0 words oops).allocAll bootPlan).2) = bootRH words oops := rfl
theorem boot_objs {words oops : Int} (hz : ((bootR0 words oops).allocAll bootPlan).1 = 0) : ((bootR0 words oops).allocAll bootPlan).2.objs = bootL := by
  rw [allocAll_grow bootPlan (r := bootR0 words oops) rfl hz]; rfl
theorem boot_root {words oops : Int} (hw : WFH (bootRH words oops)) (hz : ((bootR0 words oops).allocAll bootPlan).1 = 0) : ((bootRH words oops).clsAt 19).2 = 0 := by
  obtain ⟨x, hx, _⟩ := bootArr hw hz (p := (19, [80, 72, 72, 72, 4, 8, 12, 4])) (by decide)
  unfold RH.clsAt
  simp only at hx
  rw [hx]
attribute [local irreducible] bootRH bootH bootL
section
variable {H : Heap} {Q : Value → Heap → Prop}
theorem bootPlan_b : ∀ i (hi : i < bootPlan.length), 1 ≤ (bootPlan[i]).1 ∧ (bootPlan[i]).1 ≤ 65536 := by decide
theorem kboot_k {words oops : Int} (hk : Kinds H) (hbad : ¬ (0 ≤ words ∧ words ≤ 1048576 ∧ 0 ≤ oops ∧ oops ≤ 65536) → Q (.tuple #[.pointer none, .int .i64 1]) H)
    (h1 : (0 ≤ words ∧ words ≤ 1048576 ∧ 0 ≤ oops ∧ oops ≤ 65536) → ((bootR0 words oops).allocAll bootPlan).1 ≠ 0 → ∀ H', Fr [] H H' → Q (.tuple #[.pointer none, .int .i64 ((bootR0 words oops).allocAll bootPlan).1]) H')
    (h2 : (0 ≤ words ∧ words ≤ 1048576 ∧ 0 ≤ oops ∧ oops ≤ 65536) → ((bootR0 words oops).allocAll bootPlan).1 = 0 → ∀ b F H', PK H' b F (bootS words oops) bootT → Fr [] H H' → (∀ x ∈ F, H.size ≤ x) → Q (.tuple #[.pointer (some ⟨b, 0, none⟩), .int .i64 0]) H') :
    callS PP n_class_Boot #[.int .i64 words, .int .i64 oops] Q H := by
  have hs1 : sliceInfo PP 92 = some (2, 16, some (.agg #[.int .i64 0, .int .i64 0])) := by kernel_rfl
  apply class_Boot_ok
  unfold class_Boot
  refine psNew_c hk (fun hb => ⟨_, _, rfl, hbad hb⟩) fun hg sb F1 H1 hS1 hf1 hF1 => ⟨_, _, rfl, ?_⟩
  simp only [show ((0 : Int) != 0) = false from rfl, cond_false]
  have h1 := h1 hg
  have h2 := h2 hg
  refine ptNew_c (fun hb => absurd ⟨by decide, by decide⟩ hb) fun _ tb F2 H2 hT2 hf2 hF2 => ⟨_, _, rfl, ?_⟩
  simp only [show ((0 : Int) != 0) = false from rfl, cond_false]
  have hf12 := hf1.trans hf2
  have hS2 := hS1.nilfr hf2
  have hgl := hk.lt
  -- the kernel's block
  have hK3 : PK (H2.push (.cells #[.pointer (some ⟨sb, 0, none⟩), .pointer (some ⟨tb, 0, none⟩)] 90)) H2.size (H2.size :: (F1 ++ F2)) ⟨bootR0 words oops, 0, [], false, 0, 0, 0⟩ ⟨4096, []⟩ := by
    have fp := Fr.push [] H2 (.cells #[.pointer (some ⟨sb, 0, none⟩), .pointer (some ⟨tb, 0, none⟩)] 90)
    have l1 := hS2.lt
    have l1' := hS1.lt
    have l2 := hT2.lt
    refine ⟨sb, tb, F1, F2, rfl, fun hm => absurd (l1 _ hm) (Nat.lt_irrefl _), fun hm => absurd (l2 _ hm) (Nat.lt_irrefl _), fun x hx hx2 => ?_, ?_, fun hm => ?_, Blk.new _ _ _, hS2.nilfr fp, hT2.fr fp (Disj.nil_right _)⟩
    · have := hF2 x hx2; have := l1' x hx; omega
    · have := hf12.1; omega
    · have := hF2 _ hm; have := hf1.1; omega
  have hf3 : Fr [] H (H2.push (.cells #[.pointer (some ⟨sb, 0, none⟩), .pointer (some ⟨tb, 0, none⟩)] 90)) := hf12.more
  have hF3 : ∀ x ∈ H2.size :: (F1 ++ F2), H.size ≤ x := fun x hx => by
    rcases List.mem_cons.1 hx with rfl | hx
    · exact hf12.1
    · rcases List.mem_append.1 hx with hx | hx
      · exact hF1 x hx
      · exact Nat.le_trans hf1.1 (hF2 x hx)
  generalize hH3 : (H2.push (.cells #[.pointer (some ⟨sb, 0, none⟩), .pointer (some ⟨tb, 0, none⟩)] 90)) = H3 at hK3 hf3 ⊢
  generalize (H2.size :: (F1 ++ F2)) = F3 at hK3 hF3
  apply class_kernelNames_ok
  unfold class_kernelNames
  refine ⟨_, _, _, rfl, ?_⟩
  have hlt3 := hK3.lt
  have hO0 : Own 2 (H3.push (.cells (planV [(5, 0), (6, 0), (7, 0)]).toArray 91)) (some ⟨H3.size, 0, none⟩) 3 3 (planV [(5, 0), (6, 0), (7, 0)]) [H3.size] := ⟨rfl, Nat.le_refl _, .inr ⟨H3.size, _, rfl, rfl, Blk.new _ _ _, rfl, rfl⟩⟩
  have fq : Fr [] H3 (H3.push (.cells (planV [(5, 0), (6, 0), (7, 0)]).toArray 91)) := Fr.push _ _ _
  generalize hH4 : (H3.push (.cells (planV [(5, 0), (6, 0), (7, 0)]).toArray 91)) = H4 at hO0 fq
  have hO1 : Own 2 (H4.push (.cells (strsV kNames).toArray 9)) (some ⟨H3.size, 0, none⟩) 3 3 (planV [(5, 0), (6, 0), (7, 0)]) [H3.size] := hO0.fr (Fr.push [] _ _) (by simp)
  have fr1 : Fr [] H3 (H4.push (.cells (strsV kNames).toArray 9)) := fq.more
  show ∃ (I11 : List Value → Heap → Prop) (μ11 : List Value → Heap → Nat), I11 [.slice (some ⟨H3.size, 0, none⟩) 3 3, .int .i64 0] ((H3.push (.cells (planV [(5, 0), (6, 0), (7, 0)]).toArray 91)).push (.cells (strsV kNames).toArray 9)) ∧ _
  rw [hH4]
  generalize (H4.push (.cells (strsV kNames).toArray 9)) = H5 at hO1 fr1 ⊢
  refine ⟨fun w H' => ∃ (i : Nat) (a : Option Addr) (l c : Nat) (G : Foot), w = [.slice a l c, .int .i64 i] ∧ i ≤ 14 ∧ Own 2 H' a l c (planV ([(5, 0), (6, 0), (7, 0)] ++ List.replicate i (12, 7))) G ∧ Fr [] H3 H' ∧ (∀ x ∈ G, H3.size ≤ x), fun w _ => match w with
    | [_, .int _ i] => (14 - i).toNat
    | _ => 0, ⟨0, _, _, _, _, rfl, by decide, hO1, fr1, by simp⟩, ?_⟩
  rintro w H6 ⟨i, a, l, c, G, rfl, hi, ho, hf6, hG⟩ _
  have hl : l = 3 + i := by have := ho.len; rw [planV_len] at this; simp at this; omega
  refine ⟨_, _, _, _, rfl, ?_⟩
  rw [cond_dec]
  refine ite_i (fun hlt => ?_) fun hlt => ?_
  · have e1 : IntKind.wrap .i64 ((i : Int) + 1) = ((i + 1 : Nat) : Int) := by rw [wrap64_id (by omega) (by omega)]; omega
    refine evS_append1 hs1 rfl (by kernel_rfl) ho rfl (by simp [oneC]) (by omega) (by decide) (by decide) fun a' c' G2 H7 g1 g2 g3 => ⟨_, _, _, rfl, ?_⟩
    obtain ⟨f7, hG7⟩ := Up.fresh hf6 g2 hG
    rw [e1]
    refine ⟨⟨i + 1, a', l + 1, c', G2, rfl, by omega, ?_, f7, hG7⟩, by simp; omega⟩
    rw [List.replicate_succ', ← List.append_assoc, planV_append]
    exact g1
  have hi14 : i = 14 := by omega
  subst hi14
  have fl : Fr [] H6 (H6.push (.cells (planV [(11, 0), (11, 8), (11, 14)]).toArray 91)) := Fr.push _ _ _
  refine evS_append (l2 := 3) (ys := planV [(11, 0), (11, 8), (11, 14)]) hs1 rfl (by kernel_rfl) (ho.fr fl (by simp)) ⟨rfl, (fun h => by cases h), fun p hp k hk' => ?_⟩ (planV_one _) (by omega) (by decide) (by decide) fun a' c' G2 H7 g1 g2 g3 => ⟨_, _, _, rfl, ?_⟩
  · cases hp
    rw [add_none, Nat.zero_add]
    exact ((Blk.new H6 (planV [(11, 0), (11, 8), (11, 14)]).toArray 91).cell k).trans (by simp)
  obtain ⟨f7, hG7⟩ := Up.fresh (hf6.trans fl) g2 hG
  rw [← planV_append] at g1
  have ep : [(5, 0), (6, 0), (7, 0)] ++ List.replicate 14 (12, 7) ++ [(11, 0), (11, 8), (11, 14)] = bootPlan := rfl
  rw [ep] at g1
  subst hl
  have hr7 : Rd 2 H7 a' 20 (planV bootPlan) := g1.rd
  have ho7 : Out H7 a' F3 := fun p hp => by
    have hlt := g1.lt
    rcases g1.2.2 with ⟨h3, _⟩ | ⟨b', cs, h3, h4, _⟩
    · rw [h3] at hp; cases hp
    · rw [h3] at hp; cases hp
      have hb' : b' ∈ G2 := by rw [h4]; simp
      exact ⟨hlt _ hb', fun hm => by have h5 := hG7 _ hb'; have h6 := hlt3 _ hm; simp only at h6; omega⟩
  have hK7 := hK3.nil f7
  have hc3 : cellH H3 ⟨H2.size, 0, none⟩ = some (.pointer (some ⟨sb, 0, none⟩)) := by rw [← hH3]; exact (Blk.new H2 _ _).cell 0
  have hc7 : cellH H7 ⟨H2.size, 0, none⟩ = some (.pointer (some ⟨sb, 0, none⟩)) := by rw [cell_fr f7 (by simp) (cell_lt hc3)]; exact hc3
  have hf7 := hf3.trans f7
  have h20 : bootPlan.length = 20 := rfl
  refine ⟨fun w H' => ∃ (k : Nat) (r : RH) (st : List Int) (F' : Foot), w = [.int .i64 k] ∧ k ≤ 20 ∧ PK H' H2.size F' ⟨r, 0, st, false, 0, 0, 0⟩ ⟨4096, []⟩ ∧ Up F3 H7 F' H' ∧ st.length = k ∧ cellH H' ⟨H2.size, 0, none⟩ = some (.pointer (some ⟨sb, 0, none⟩)) ∧ r.allocAll (bootPlan.drop k) = (bootR0 words oops).allocAll bootPlan, fun w _ => match w with
    | [.int _ k] => (20 - k).toNat
    | _ => 0, ⟨0, _, _, _, rfl, by decide, hK7, Up.refl _ _, rfl, hc7, rfl⟩, ?_⟩
  rintro w H8 ⟨k, r, st, F8, rfl, hk20, hK8, hu8, hst, hcb, hall⟩ _
  refine ⟨_, rfl, ?_⟩
  rw [cond_dec]
  refine ite_i (fun hlt => ?_) fun hlt => ?_
  · have hkl : k < bootPlan.length := by omega
    have e1 : IntKind.wrap .i64 ((k : Int) + 1) = ((k + 1 : Nat) : Int) := by rw [wrap64_id (by omega) (by omega)]; omega
    have hr8 : Rd 2 H8 a' 20 (planV bootPlan) := hr7.fr' hu8.1 fun p hp => (ho7 p hp).2
    have hpb := bootPlan_b k hkl
    obtain ⟨q0, q1⟩ := planV_get hkl
    have ed : bootPlan.drop k = bootPlan[k] :: bootPlan.drop (k + 1) := List.drop_eq_getElem_cons hkl
    rw [ed] at hall
    have hex : ∃ q, a' = some q := by
      cases ha : a' with
      | none => have := hr8.2.1 ha; omega
      | some q => exact ⟨q, rfl⟩
    obtain ⟨q, rfl⟩ := hex
    have c0 := hr8.2.2 q rfl (k * 2) (by omega)
    have c1 := hr8.2.2 q rfl (k * 2 + 1) (by omega)
    rw [q0] at c0
    rw [q1] at c1
    have eadd : (q.add (k * 2)).add 1 = q.add (k * 2 + 1) := Addr.add_add _ _ _
    refine ⟨⟨by omega, by omega⟩, _, rfl, _, by rw [Int.toNat_natCast]; exact c0, _, by rw [Int.toNat_natCast, eadd]; exact c1, ?_⟩
    have fpx : Fr [] H8 (H8.push (.cells #[.int .i64 0, .int .i64 0] 91)) := Fr.push _ _ _
    have hBx := Blk.new H8 #[.int .i64 0, .int .i64 0] 91
    generalize (H8.push (.cells #[.int .i64 0, .int .i64 0] 91)) = H9 at fpx hBx ⊢
    have hB9 := (hBx.set 0 (.int .i64 (bootPlan[k]).1)).set 1 (.int .i64 (bootPlan[k]).2)
    have f9 : Fr [] H8 (setH (setH H9 ⟨H8.size, 0, none⟩ (.int .i64 (bootPlan[k]).1)) ⟨H8.size, 1, none⟩ (.int .i64 (bootPlan[k]).2)) := Fr.late (Fr.late fpx (Nat.le_refl _)) (Nat.le_refl _)
    refine ⟨hBx.wr (o := 0) (by simp), (hBx.set 0 _).wr (o := 1) (by simp), ?_⟩
    show ∃ n25 : Int, cellH (setH (setH H9 ⟨H8.size, 0, none⟩ (.int .i64 (bootPlan[k]).1)) ⟨H8.size, 1, none⟩ (.int .i64 (bootPlan[k]).2)) ⟨H8.size, 0, none⟩ = some (.int .i64 n25) ∧ ∃ n26 : Int, cellH (setH (setH H9 ⟨H8.size, 0, none⟩ (.int .i64 (bootPlan[k]).1)) ⟨H8.size, 1, none⟩ (.int .i64 (bootPlan[k]).2)) ⟨H8.size, 1, none⟩ = some (.int .i64 n26) ∧ callS PP n_space_Space_Heap _ _ (setH (setH H9 ⟨H8.size, 0, none⟩ (.int .i64 (bootPlan[k]).1)) ⟨H8.size, 1, none⟩ (.int .i64 (bootPlan[k]).2))
    generalize (setH (setH H9 ⟨H8.size, 0, none⟩ (.int .i64 (bootPlan[k]).1)) ⟨H8.size, 1, none⟩ (.int .i64 (bootPlan[k]).2)) = HA at hB9 f9 ⊢
    have hKA := hK8.nil f9
    obtain ⟨sbA, FA, hcA, hSA, hsubA, hbA, hupA, hupA2⟩ := hKA.sp
    have esb : sbA = sb := by rw [cell_fr f9 (by simp) (cell_lt hcb), hcb] at hcA; simpa using hcA.symm
    subst esb
    refine ⟨_, hB9.cell 0, _, hB9.cell 1, psHeap_c hSA fun hb FB hRB hsubB hupB => ⟨_, rfl, ⟨⟨hB9.cell 1, trivial⟩, ⟨hB9.cell 0, trivial⟩, trivial⟩, object_c hpb ⟨_, rfl, ⟨⟨hB9.cell 1, trivial⟩, trivial⟩, alloc_c hRB fun HB' hRB' hfB => ⟨_, _, rfl, trivial, ?_⟩⟩⟩⟩
    have hSB := hupB HB' _ hRB' hfB
    have hKB := hupA2 HB' _ hSB (hfB.mono hsubB)
    have huB : Up F8 HA F8 HB' := ⟨(hfB.mono hsubB).mono hsubA, fun _ h => .inl h⟩
    have hu8B : Up F3 H7 F8 HB' := hu8.trans ((Up.of_nil f9).trans huB)
    rw [allocAll_cons] at hall
    rw [bneI, cond_dec]
    refine ite_i (fun he => ?_) fun he => ?_
    · rw [if_pos he] at hall
      have e0 : ((bootR0 words oops).allocAll bootPlan).1 = (r.alloc (4 * (bootPlan[k]).1) (bootPlan[k]).2 0).1.2 := by rw [← hall]
      have := h1 (by rw [e0]; exact he) HB' ?_
      · rw [e0] at this; exact this
      · exact (Up.fresh hf7 hu8B hF3).1
    rw [if_neg he] at hall
    have hz : (r.alloc (4 * (bootPlan[k]).1) (bootPlan[k]).2 0).1.2 = 0 := Classical.byContradiction he
    have hob := alloc_ok hK8.wfs.h hz
    refine object_c ⟨hob.2.1, hob.2.2.1⟩ ⟨_, rfl, ?_⟩
    have fpy : Fr [] HB' (HB'.push (.cells #[.int .i64 (4 * (r.alloc (4 * (bootPlan[k]).1) (bootPlan[k]).2 0).1.1)] 36)) := Fr.push _ _ _
    have hKC := hKB.nil fpy
    obtain ⟨sbC, FC, hcC, hSC, hsubC, hbC, hupC, _⟩ := hKC.sp
    have hcB' : cellH HB' ⟨H2.size, 0, none⟩ = some (.pointer (some ⟨sbA, 0, none⟩)) := by rw [cell_fr hfB (fun hm => hbA (hsubB _ hm)) (cell_lt hcA)]; exact hcA
    have hcP := cell_fr fpy (b := H2.size) (o := 0) (by simp) (cell_lt hcB')
    rw [hcB'] at hcP
    have esb : sbC = sbA := by rw [hcP] at hcC; simpa using hcC.symm
    subst esb
    have hkw := keepW_one (s := ⟨(r.alloc (4 * (bootPlan[k]).1) (bootPlan[k]).2 0).2, 0, st, false, 0, 0, 0⟩) (isW_obj hob.2.1 hob.2.2.1) (by show st.length < 65536; omega)
    refine psKeep_c hSC (rd_new (cs := [4 * (r.alloc (4 * (bootPlan[k]).1) (bootPlan[k]).2 0).1.1])) (by decide) fun HD FD hSD huD => ⟨_, rfl, ?_⟩
    rw [hkw] at hSD ⊢
    simp only [show ((0 : Int) != 0) = false from rfl, cond_false]
    obtain ⟨FE, hKE, huE⟩ := hupC HD FD _ hSD huD
    rw [e1]
    exact ⟨⟨k + 1, _, _, FE, rfl, by omega, hKE, hu8B.trans ((Up.of_nil fpy).trans huE), by simp [hst], by rw [cell_fr huD.1 hbC (cell_lt hcC)]; exact hcC, hall⟩, by simp; omega⟩
  · have hk20' : k = 20 := by omega
    subst hk20'
    have ez : bootPlan.drop 20 = [] := rfl
    rw [ez] at hall
    have hall' : (0, r) = (bootR0 words oops).allocAll bootPlan := hall
    have hz : ((bootR0 words oops).allocAll bootPlan).1 = 0 := by rw [← hall']
    have hrr : r = ((bootR0 words oops).allocAll bootPlan).2 := by rw [← hall']
    have hbH : bootH r = bootRH words oops := by rw [hrr]; exact bootRH_eq _ _
    have hro : r.objs = bootL := by rw [hrr]; exact boot_objs hz
    obtain ⟨sb8, F9, hc8, hS8, _⟩ := hK8.sp
    obtain ⟨hb8, _, _, hcx, _⟩ := hS8.upd
    have esb8 : sb8 = sb := by rw [hcb] at hc8; simpa using hc8.symm
    subst esb8
    refine fill_k hK8 ⟨hc8, hcx⟩ (fun j x hx => ?_) fun H9 FA hKA hBA huA => ⟨rfl, ?_⟩
    · rw [hro] at hx
      exact of_decide_eq_true (List.all_eq_true.1 bootL_fmt x (objAt_some hx).1)
    have hKA' : PK H9 H2.size FA ⟨bootRH words oops, 0, st, false, 0, 0, 0⟩ bootT := by rw [← hbH]; exact hKA
    obtain ⟨sbA, F10, hcA, hSA, hsubA, hbA, _, hupA⟩ := hKA'.sp
    have esb : sbA = sb8 := by have := hBA.1; rw [hcA] at this; simpa using this
    subst esb
    have hwf : WFH (bootRH words oops) := hKA'.wfs.h
    have hcl : ((bootRH words oops).clsAt 19).2 = 0 := boot_root hwf hz
    refine psCrown_c hSA fun HB hSB hfB => ⟨_, rfl, ?_⟩
    have ecr : (SP.crown ⟨bootRH words oops, 0, st, false, 0, 0, 0⟩ 19) = (0, ⟨bootRH words oops, 19, st, false, 0, 0, 0⟩) := by
      unfold SP.crown
      rw [if_neg (by simpa using hcl)]
    rw [ecr] at hSB
    have hKB := hupA HB _ hSB hfB
    obtain ⟨sbB, F11, hcB, hSB', hsubB, _, _, hupB⟩ := hKB.sp
    have esb : sbB = sbA := by rw [cell_fr hfB hbA (cell_lt hcA), hcA] at hcB; simpa using hcB.symm
    subst esb
    refine psDrop_c hSB' ⟨by decide, by decide⟩ fun HC hSC hfC => ⟨_, rfl, ?_⟩
    have edr : (SP.drop ⟨bootRH words oops, 19, st, false, 0, 0, 0⟩ ((20 : Nat) : Int)) = (0, bootS words oops) := by
      unfold SP.drop
      rw [if_neg (by simp only [hst]; decide)]
      simp [hst, bootS]
    have e20 : ((3 + 14 + 3 : Nat) : Int) = ((20 : Nat) : Int) := rfl
    rw [edr] at hSC
    have hKC := hupB HC _ hSC hfC
    have huC : Up F3 H7 FA HC := (hu8.trans huA).trans ⟨(hfB.mono hsubA).trans (hfC.mono hsubB), fun _ h => .inl h⟩
    have := Up.fresh hf7 huC hF3
    exact h2 hz H2.size FA HC hKC this.1 this.2
end
end Go.Proofs.YtmkdkplipbocjaaGreatDoor
set_option maxRecDepth 100000
set_option maxHeartbeats 2000000
namespace Go.Proofs.YtmkdkplipbocjaaGreatDoor
open Kw
/-- The names that are laid. -/
def NamesAt (H : Heap) : Prop := ∀ i (hi : i < kNames.length), cellH H ⟨g_kilnref13_Names, i, none⟩ = some (.string kNames[i])
theorem NamesAt.fr {H H' : Heap} {F : Foot} (h : NamesAt H) (hf : Fr F H H') (hn : g_kilnref13_Names ∉ F) : NamesAt H' := fun i hi => by
  rw [cell_fr hf hn (cell_lt (h i hi))]; exact h i hi
theorem NamesAt.lt {H : Heap} (h : NamesAt H) : g_kilnref13_Names < H.size := cell_lt (h 0 (by decide))
theorem lay8 (x : RH) : x.lay 19 0 [80, 72, 72, 72, 4, 8, 12, 4] = ((x.lay 19 0 fillR).put 19 7 4).2 := rfl
theorem boot_put7 (w o m b t : Int) : ((bootH ⟨w, o, m, b, t, bootL⟩).put 19 7 4).2 = bootH ⟨w, o, m, b, t, bootL⟩ := by kernel_rfl
theorem boot_lay8 {words oops : Int} (hz : ((bootR0 words oops).allocAll bootPlan).1 = 0) : (fillN ((bootR0 words oops).allocAll bootPlan).2 14).lay 19 0 [80, 72, 72, 72, 4, 8, 12, 4] = bootRH words oops := by
  have e : ((bootR0 words oops).allocAll bootPlan).2 = ⟨words, oops, 0, 20, 0, bootL⟩ := by
    rw [allocAll_grow bootPlan (r := bootR0 words oops) rfl hz]
    kernel_rfl
  have e2 : bootRH words oops = bootH ⟨words, oops, 0, 20, 0, bootL⟩ := by unfold bootRH; rw [e]
  rw [lay8, e2, e]
  exact boot_put7 words oops 0 20 0
attribute [local irreducible] bootRH bootH bootL
section
variable {H : Heap} {Q : Value → Heap → Prop}
theorem row_r {k : Nat} (hk : k < bootPlan.length) (h : Q (.tuple #[.int .i64 (bootPlan[k]).1, .int .i64 (bootPlan[k]).2]) H) : callS PP n_kilnref13_row #[.int .i64 ((k : Int) + 1)] Q H := by
  apply kilnref13_row_ok
  unfold kilnref13_row
  have h20 : k < 20 := hk
  rcases k with _ | _ | _ | _ | _ | _ | _ | _ | _ | _ | _ | _ | _ | _ | _ | _ | _ | _ | _ | _ | k
  all_goals first | exact h | omega
theorem boot_r {words oops : Int} (hN : NamesAt H) (hbad : ¬ (0 ≤ words ∧ words ≤ 1048576 ∧ 0 ≤ oops ∧ oops ≤ 65536) → Q (.tuple #[.pointer none, .int .i64 1]) H)
    (h1 : (0 ≤ words ∧ words ≤ 1048576 ∧ 0 ≤ oops ∧ oops ≤ 65536) → ((bootR0 words oops).allocAll bootPlan).1 ≠ 0 → ∀ H', Fr [] H H' → Q (.tuple #[.pointer none, .int .i64 ((bootR0 words oops).allocAll bootPlan).1]) H')
    (h2 : (0 ≤ words ∧ words ≤ 1048576 ∧ 0 ≤ oops ∧ oops ≤ 65536) → ((bootR0 words oops).allocAll bootPlan).1 = 0 → ∀ b F H', RK H' b F (bootS words oops) bootT → Fr [] H H' → (∀ x ∈ F, H.size ≤ x) → Q (.tuple #[.pointer (some ⟨b, 0, none⟩), .int .i64 0]) H') :
    callS PP n_kilnref13_Boot #[.int .i64 words, .int .i64 oops] Q H := by
  have h14 : kNames.length = 14 := rfl
  apply kilnref13_Boot_ok
  unfold kilnref13_Boot
  refine rsNew_c (fun hb => ⟨_, _, rfl, hbad hb⟩) fun hg sb F1 H1 hS1 hf1 hF1 => ⟨_, _, rfl, ?_⟩
  simp only [show ((0 : Int) != 0) = false from rfl, cond_false]
  have h1 := h1 hg
  have h2 := h2 hg
  refine rtNew_c (fun hb => absurd ⟨by decide, by decide⟩ hb) fun _ H2 hT2 hf2 => ⟨_, _, rfl, ?_⟩
  have hf12 := hf1.trans hf2
  have hS2 := hS1.fr hf2 (Disj.nil_right _)
  have hK3 : RK (H2.push (.cells #[.pointer (some ⟨sb, 0, none⟩), .pointer (some ⟨H1.size, 0, none⟩)] 104)) H2.size (H2.size :: (F1 ++ [H1.size])) ⟨bootR0 words oops, 0, [], false, 0, 0, 0⟩ ⟨4096, []⟩ := by
    have fp := Fr.push [] H2 (.cells #[.pointer (some ⟨sb, 0, none⟩), .pointer (some ⟨H1.size, 0, none⟩)] 104)
    have l1 := hS2.lt
    have l1' := hS1.lt
    have l2 := hT2.lt
    exact ⟨sb, H1.size, F1, [H1.size], rfl, fun hm => absurd (l1 _ hm) (Nat.lt_irrefl _), fun hm => absurd (l2 _ hm) (Nat.lt_irrefl _), fun x hx hx2 => by simp only [List.mem_singleton] at hx2; have := l1' x hx; omega, Blk.new _ _ _, hS2.fr fp (Disj.nil_right _), hT2.fr fp (Disj.nil_right _)⟩
  have hf3 : Fr [] H (H2.push (.cells #[.pointer (some ⟨sb, 0, none⟩), .pointer (some ⟨H1.size, 0, none⟩)] 104)) := hf12.more
  have hF3 : ∀ x ∈ H2.size :: (F1 ++ [H1.size]), H.size ≤ x := fun x hx => by
    rcases List.mem_cons.1 hx with rfl | hx
    · exact hf12.1
    · rcases List.mem_append.1 hx with hx | hx
      · exact hF1 x hx
      · simp only [List.mem_singleton] at hx; rw [hx]; exact hf1.1
  have hc0 : cellH (H2.push (.cells #[.pointer (some ⟨sb, 0, none⟩), .pointer (some ⟨H1.size, 0, none⟩)] 104)) ⟨H2.size, 0, none⟩ = some (.pointer (some ⟨sb, 0, none⟩)) := (Blk.new H2 _ _).cell 0
  have hc1 : cellH (H2.push (.cells #[.pointer (some ⟨sb, 0, none⟩), .pointer (some ⟨H1.size, 0, none⟩)] 104)) ⟨H2.size, 1, none⟩ = some (.pointer (some ⟨H1.size, 0, none⟩)) := (Blk.new H2 _ _).cell 1
  generalize (H2.push (.cells #[.pointer (some ⟨sb, 0, none⟩), .pointer (some ⟨H1.size, 0, none⟩)] 104)) = H3 at hK3 hf3 hc0 hc1 ⊢
  generalize (H2.size :: (F1 ++ [H1.size])) = F3 at hK3 hF3
  have h20 : bootPlan.length = 20 := rfl
  have hgF : ∀ {H' : Heap} {F' : Foot}, Up F3 H3 F' H' → g_kilnref13_Names ∉ F' := fun {H' F'} hu hm => by
    have hlt := hN.lt
    rcases hu.2 _ hm with h5 | h5
    · have := hF3 _ h5; omega
    · have := hf3.1; omega
  refine ⟨fun w H' => ∃ (k : Nat) (r : RH) (F' : Foot), w = [.int .i64 ((k : Int) + 1)] ∧ k ≤ 20 ∧ RK H' H2.size F' ⟨r, 0, [], false, 0, 0, 0⟩ ⟨4096, []⟩ ∧ Up F3 H3 F' H' ∧ cellH H' ⟨H2.size, 0, none⟩ = some (.pointer (some ⟨sb, 0, none⟩)) ∧ cellH H' ⟨H2.size, 1, none⟩ = some (.pointer (some ⟨H1.size, 0, none⟩)) ∧ r.allocAll (bootPlan.drop k) = (bootR0 words oops).allocAll bootPlan, fun w _ => match w with
    | [.int _ k] => (21 - k).toNat
    | _ => 0, ⟨0, _, _, rfl, by decide, hK3, Up.refl _ _, hc0, hc1, rfl⟩, ?_⟩
  rintro w H8 ⟨k, r, F8, rfl, hk20, hK8, hu8, hd0, hd1, hall⟩ _
  refine ⟨_, rfl, ?_⟩
  rw [cond_dec]
  refine ite_i (fun hlt => ?_) fun hlt => ?_
  · have hkl : k < bootPlan.length := by omega
    have e1 : IntKind.wrap .i64 ((k : Int) + 1 + 1) = ((k + 1 : Nat) : Int) + 1 := by rw [wrap64_id (by omega) (by omega)]; omega
    have hpb := bootPlan_b k hkl
    have ed : bootPlan.drop k = bootPlan[k] :: bootPlan.drop (k + 1) := List.drop_eq_getElem_cons hkl
    rw [ed, allocAll_cons] at hall
    obtain ⟨sb', hb, FB, hcs, c0, hRB, hsub, hbn, hup⟩ := hK8.hp
    have esb : sb' = sb := by rw [hd0] at hcs; simpa using hcs.symm
    subst esb
    refine row_r hkl ⟨_, _, rfl, _, rfl, _, c0, refObj_c ⟨by omega, by omega⟩ ⟨_, rfl, ⟨⟨c0, trivial⟩, trivial⟩, ralloc_c hRB fun H9 FB' hR9 hu9 => ⟨_, _, rfl, trivial, ?_⟩⟩⟩
    obtain ⟨F9, hK9, hu9'⟩ := hup H9 FB' _ hR9 hu9
    have hbl := hK8.lt _ hK8.bmem
    rw [bneI, cond_dec]
    refine ite_i (fun he => ?_) fun he => ?_
    · rw [if_pos he] at hall
      have e0 : ((bootR0 words oops).allocAll bootPlan).1 = (r.alloc (4 * (bootPlan[k]).1) (bootPlan[k]).2 0).1.2 := by rw [← hall]
      have := h1 (by rw [e0]; exact he) H9 (Up.fresh hf3 (hu8.trans hu9') hF3).1
      rw [e0] at this; exact this
    rw [if_neg he] at hall
    rw [e1]
    exact ⟨⟨k + 1, _, F9, rfl, by omega, hK9, hu8.trans hu9', by rw [cell_fr hu9.1 hbn hbl]; exact hd0, by rw [cell_fr hu9.1 hbn hbl]; exact hd1, hall⟩, by simp; omega⟩
  have hk20' : k = 20 := by omega
  subst hk20'
  have ez : bootPlan.drop 20 = [] := rfl
  rw [ez] at hall
  have hall' : (0, r) = (bootR0 words oops).allocAll bootPlan := hall
  have hz : ((bootR0 words oops).allocAll bootPlan).1 = 0 := by rw [← hall']
  have hrr : r = ((bootR0 words oops).allocAll bootPlan).2 := by rw [← hall']
  have hbH : bootH r = bootRH words oops := by rw [hrr]; exact bootRH_eq _ _
  have hNm : ∀ {H' : Heap} {F' : Foot}, Up F3 H3 F' H' → NamesAt H' := fun {H' F'} hu => by
    have hN3 := hN.fr hf3 (by simp)
    exact hN3.fr hu.1 (fun hm => by have := hF3 _ hm; have := hN.lt; omega)
  refine ⟨fun w H' => ∃ (i : Nat) (F' : Foot), w = [.int .i64 i] ∧ i ≤ 14 ∧ RK H' H2.size F' ⟨fillN r i, 0, [], false, 0, 0, 0⟩ ⟨4096, kNames.take i⟩ ∧ Up F3 H3 F' H' ∧ cellH H' ⟨H2.size, 0, none⟩ = some (.pointer (some ⟨sb, 0, none⟩)) ∧ cellH H' ⟨H2.size, 1, none⟩ = some (.pointer (some ⟨H1.size, 0, none⟩)), fun w _ => match w with
    | [.int _ i] => (14 - i).toNat
    | _ => 0, ⟨0, F8, rfl, by decide, hK8, hu8, hd0, hd1⟩, ?_⟩
  rintro w H9 ⟨i, F9, rfl, hi, hK9, hu9, hx0, hx1⟩ _
  refine ⟨_, rfl, ?_⟩
  rw [cond_dec]
  refine ite_i (fun hlt2 => ?_) fun hlt2 => ?_
  · have hlt' : i < kNames.length := by omega
    have hN9 := hNm hu9 i hlt'
    have e1 : IntKind.wrap .i64 ((i : Int) + 1) = ((i + 1 : Nat) : Int) := by rw [wrap64_id (by omega) (by omega)]; omega
    have e1' : IntKind.wrap .i64 ((i : Int) + 1) = (i : Int) + 1 := wrap64_id (by omega) (by omega)
    have e4 : IntKind.wrap .i64 (4 + (i : Int)) = 4 + (i : Int) := wrap64_id (by omega) (by omega)
    obtain ⟨tb, FT, hct, hT, hsubT, hbT, hupT⟩ := hK9.tb
    have etb : tb = H1.size := by rw [hx1] at hct; simpa using hct.symm
    subst etb
    refine ⟨⟨by omega, hlt2⟩, _, by rw [add_none, Int.toNat_natCast, Nat.mul_one, Nat.zero_add]; exact hN9, tadd_c hT fun HA FT' hTA huA => ⟨_, _, rfl, ?_⟩⟩
    rw [bootAdd hlt'] at hTA
    obtain ⟨FA, hKA, huA'⟩ := hupT HA FT' _ hTA huA
    have hbl9 := hK9.lt _ hK9.bmem
    have hy0 : cellH HA ⟨H2.size, 0, none⟩ = some (.pointer (some ⟨sb, 0, none⟩)) := by rw [cell_fr huA.1 hbT hbl9]; exact hx0
    have hy1 : cellH HA ⟨H2.size, 1, none⟩ = some (.pointer (some ⟨H1.size, 0, none⟩)) := by rw [cell_fr huA.1 hbT hbl9]; exact hx1
    refine refObj_c (by decide) ⟨_, rfl, ?_⟩
    refine ⟨fun w H' => w = [.int .i64 (if i = 0 then 4 else 16)] ∧ H' = HA, ?_, ?_⟩
    · rw [beqI, cond_dec]
      refine ite_i (fun h0 => refObj_c (by decide) ⟨_, rfl, ?_, rfl⟩) fun h0 => ⟨?_, rfl⟩
      · rw [if_pos (by omega)]; rfl
      · rw [if_neg (by omega)]; rfl
    rintro w HA' ⟨rfl, rfl⟩ _
    refine ⟨_, rfl, refSym_c ⟨by omega, by omega⟩ ⟨_, rfl, refObj_c (by decide) ⟨_, rfl, refObj_c (by decide) ⟨_, rfl, refObj_c (by decide) ⟨_, rfl, refInt_c (by decide) ⟨_, rfl, ?_⟩⟩⟩⟩⟩⟩
    rw [e1', e4]
    refine refInt_c ⟨by omega, by omega⟩ ⟨_, rfl, ?_⟩
    have fq := (Fr.push [] HA' (.cells (intsV (fillW i)).toArray 36))
    have hlA := hKA.lt
    refine layB_r (hKA.nil fq) (ws := fillW i) rd_new (fun p hp => by cases hp; exact ⟨by simp, fun hm => absurd (hlA _ hm) (Nat.lt_irrefl _)⟩) (by decide) fun HB FB hKB huB hce => ⟨rfl, ?_⟩
    have hz0 : cellH HB ⟨H2.size, 0, none⟩ = some (.pointer (some ⟨sb, 0, none⟩)) := by rw [hce, cell_fr fq (by simp) (cell_lt hy0)]; exact hy0
    have hz1 : cellH HB ⟨H2.size, 1, none⟩ = some (.pointer (some ⟨H1.size, 0, none⟩)) := by rw [hce, cell_fr fq (by simp) (cell_lt hy1)]; exact hy1
    obtain ⟨sb', hb, FC, hcs, c0, hRC, hsub, hbn, hupC⟩ := hKB.hp
    have esb : sb' = sb := by rw [hz0] at hcs; simpa using hcs.symm
    subst esb
    refine ⟨_, rfl, _, c0, refObj_c ⟨by omega, by omega⟩ ⟨_, rfl, ⟨⟨c0, trivial⟩, trivial⟩, rput_c hRC fun HD hRD hfD => ⟨_, rfl, trivial, ?_⟩⟩⟩
    obtain ⟨FD, hKD, huD⟩ := hupC HD FC _ hRD ⟨hfD, fun _ h => .inl h⟩
    rw [show (i : Int) + 1 = ((i + 1 : Nat) : Int) by omega]
    have hbl := hKB.lt _ hKB.bmem
    refine ⟨⟨i + 1, FD, rfl, by omega, hKD, ?_, by rw [cell_fr hfD hbn hbl]; exact hz0, by rw [cell_fr hfD hbn hbl]; exact hz1⟩, by simp; omega⟩
    exact ((hu9.trans huA').trans ((Up.of_nil fq).trans huB)).trans huD
  · have hi14 : i = 14 := by omega
    subst hi14
    refine refObj_c (by decide) ⟨_, rfl, refObj_c (by decide) ⟨_, rfl, refObj_c (by decide) ⟨_, rfl, refObj_c (by decide) ⟨_, rfl, refObj_c (by decide) ⟨_, rfl, refObj_c (by decide) ⟨_, rfl, refObj_c (by decide) ⟨_, rfl, refObj_c (by decide) ⟨_, rfl, ?_⟩⟩⟩⟩⟩⟩⟩⟩
    have fq := (Fr.push [] H9 (.cells (intsV [80, 72, 72, 72, 4, 8, 12, 4]).toArray 36))
    have hl9 := hK9.lt
    have hrd : Rd 1 (H9.push (.cells (intsV [80, 72, 72, 72, 4, 8, 12, 4]).toArray 36)) (some ⟨H9.size, 0, none⟩) 8 (intsV [80, 72, 72, 72, 4, 8, 12, 4]) := rd_new (cs := [80, 72, 72, 72, 4, 8, 12, 4])
    have hRW : (fillN r 14).lay 19 0 [80, 72, 72, 72, 4, 8, 12, 4] = bootRH words oops := by rw [hrr]; exact boot_lay8 hz
    show callS PP n_kilnref13_Kernel_lay _ _ (H9.push (.cells (intsV [80, 72, 72, 72, 4, 8, 12, 4]).toArray 36))
    generalize (H9.push (.cells (intsV [80, 72, 72, 72, 4, 8, 12, 4]).toArray 36)) = H9' at fq hrd ⊢
    have hKq := hK9.nil fq
    have hlq : Out H9' (some ⟨H9.size, 0, none⟩) F9 := fun p hp => by
      cases hp
      have h6 := hrd.2.2 _ rfl 0 (by decide)
      rw [add_none] at h6
      exact ⟨cell_lt (h6.trans (by rfl)), fun hm => absurd (hl9 _ hm) (Nat.lt_irrefl _)⟩
    generalize ([80, 72, 72, 72, 4, 8, 12, 4] : List Int) = W8 at hrd hRW
    generalize fillN r 14 = R8 at hKq hRW
    have eT : (⟨4096, kNames.take 14⟩ : TB) = bootT := rfl
    rw [eT] at hKq
    refine layB_r hKq (ws := W8) hrd hlq (by decide) fun HB FB hKB huB hce => ⟨rfl, ?_⟩
    have hKB : RK HB H2.size FB ⟨R8.lay 19 0 W8, 0, [], false, 0, 0, 0⟩ bootT := hKB
    rw [hRW] at hKB
    have hz0 : cellH HB ⟨H2.size, 0, none⟩ = some (.pointer (some ⟨sb, 0, none⟩)) := by rw [hce, cell_fr fq (by simp) (cell_lt hx0)]; exact hx0
    obtain ⟨sb', FS, hcs, hS, hsubS, _, hupS⟩ := hKB.sp
    have esb : sb' = sb := by rw [hz0] at hcs; simpa using hcs.symm
    subst esb
    refine rsCrown_c hS fun HC hSC hfC => ⟨_, rfl, ?_⟩
    have hwf : WFH (bootRH words oops) := hKB.wfs.h
    have hcl : ((bootRH words oops).clsAt 19).2 = 0 := boot_root hwf hz
    have ecr : (SP.crown ⟨bootRH words oops, 0, [], false, 0, 0, 0⟩ 19) = (0, bootS words oops) := by
      unfold SP.crown
      rw [if_neg (by simpa using hcl)]
      rfl
    rw [ecr] at hSC
    obtain ⟨FC, hKC, huC⟩ := hupS HC FS _ hSC ⟨hfC, fun _ h => .inl h⟩
    have hall2 := Up.fresh hf3 ((hu9.trans ((Up.of_nil fq).trans huB)).trans huC) hF3
    exact h2 hz H2.size FC HC hKC hall2.1 hall2.2
end
end Go.Proofs.YtmkdkplipbocjaaGreatDoor
set_option maxRecDepth 100000
set_option maxHeartbeats 4000000
namespace Go.Proofs.YtmkdkplipbocjaaGreatDoor
open Kw
abbrev n_kilnlaw13_ClassBoots : Nat := 3
def kilnlaw13_ClassBoots (n1 : Int) (n2 : Int) (Q : Value → Heap → Prop) (H : Heap) : Prop :=
  callS PP 10 #[.int .i64 n1, .int .i64 n2] (fun v3 H1 => ∃ p4 : Option Addr, ∃ n5 : Int, v3 = .tuple #[.pointer p4, .int .i64 n5] ∧ callS PP 11 #[.int .i64 n1, .int .i64 n2] (fun v6 H2 => ∃ p7 : Option Addr, ∃ n8 : Int, v6 = .tuple #[.pointer p7, .int .i64 n8] ∧ callS PP 12 #[.int .i64 n5] (fun v9 H3 => ∃ n10 : Int, v9 = .int .i64 n10 ∧ cond (n10 != n8) (Q (.bool false) H3) (cond (!((Option.isNone p4) == (Option.isNone p7))) (Q (.bool false) H3) (cond (Option.isNone p4) (callS PP 10 #[.int .i64 160, .int .i64 20] (fun v11 H4 => ∃ p12 : Option Addr, ∃ n13 : Int, v11 = .tuple #[.pointer p12, .int .i64 n13] ∧ cond (!(Option.isNone p12)) (callS PP 12 #[.int .i64 n13] (fun v14 H5 => ∃ n15 : Int, v14 = .int .i64 n15 ∧ cond (n15 == 0) (callS PP 13 #[] (fun v16 H6 => ∃ b17 : Bool, v16 = .bool b17 ∧ Q (.bool b17) H6) H5) (Q (.bool false) H5)) H4) (Q (.bool false) H4)) H3) (callS PP 14 #[.pointer p4, .int .i64 14] (fun v18 H7 => ∃ n19 : Int, ∃ n20 : Int, v18 = .tuple #[.int .i64 n19, .int .i64 n20] ∧ callS PP 15 #[.pointer p4, .pointer p7] (fun v21 H8 => ∃ b22 : Bool, v21 = .bool b22 ∧ cond b22 (cond (n19 == 17) (callS PP 12 #[.int .i64 n20] (fun v23 H9 => ∃ n24 : Int, v23 = .int .i64 n24 ∧ cond (n24 == 0) (callS PP 13 #[] (fun v25 H10 => ∃ b26 : Bool, v25 = .bool b26 ∧ Q (.bool b26) H10) H9) (Q (.bool false) H9)) H8) (Q (.bool false) H8)) (Q (.bool false) H8)) H7) H3)))) H2) H1) H
theorem kilnlaw13_ClassBoots_ok {n1 : Int} {n2 : Int} {Q : Value → Heap → Prop} {H : Heap} (h : kilnlaw13_ClassBoots n1 n2 Q H) : callS PP 3 #[.int .i64 n1, .int .i64 n2] Q H :=
  callS_of good Tryz.func3 rfl (Ls := fun _ => none) (by kernel_rfl) h
abbrev n_kilnlaw13_num : Nat := 12
def kilnlaw13_num (n1 : Int) (Q : Value → Heap → Prop) (H : Heap) : Prop :=
  Q (.int .i64 n1) H
theorem kilnlaw13_num_ok {n1 : Int} {Q : Value → Heap → Prop} {H : Heap} (h : kilnlaw13_num n1 Q H) : callS PP 12 #[.int .i64 n1] Q H :=
  callS_of good Tryz.func12 rfl (Ls := fun _ => none) (by kernel_rfl) h
abbrev n_kilnlaw13_none : Nat := 13
def kilnlaw13_none  (Q : Value → Heap → Prop) (H : Heap) : Prop :=
  callS PP 66 #[.pointer none, .string (⟨#[79, 98, 106, 101, 99, 116]⟩ : ByteArray)] (fun v1 H1 => ∃ n2 : Int, ∃ n3 : Int, v1 = .tuple #[.int .i64 n2, .int .i64 n3] ∧ callS PP 17 #[.pointer none, .string (⟨#[65]⟩ : ByteArray), .string (⟨#[79, 98, 106, 101, 99, 116]⟩ : ByteArray), .slice none 0 0] (fun v4 H2 => ∃ n5 : Int, ∃ n6 : Int, v4 = .tuple #[.int .i64 n5, .int .i64 n6] ∧ callS PP 67 #[.pointer none, .int .i64 4] (fun v7 H3 => ∃ s8 : ByteArray, ∃ s9 : ByteArray, ∃ a10 : Option Addr, ∃ l10 : Nat, ∃ c10 : Nat, ∃ n11 : Int, ∃ n12 : Int, v7 = .tuple #[.agg #[.string s8, .string s9, .slice a10 l10 c10, .int .i64 n11], .int .i64 n12] ∧ Wr (H3.push (.cells #[.string (⟨#[]⟩ : ByteArray), .string (⟨#[]⟩ : ByteArray), .slice none 0 0, .int .i64 0] 121)) (⟨H3.size, 0, none⟩ : Addr) ∧ Wr (setH (H3.push (.cells #[.string (⟨#[]⟩ : ByteArray), .string (⟨#[]⟩ : ByteArray), .slice none 0 0, .int .i64 0] 121)) (⟨H3.size, 0, none⟩ : Addr) (.string s8)) ((⟨H3.size, 0, none⟩ : Addr).add 1) ∧ Wr (setH (setH (H3.push (.cells #[.string (⟨#[]⟩ : ByteArray), .string (⟨#[]⟩ : ByteArray), .slice none 0 0, .int .i64 0] 121)) (⟨H3.size, 0, none⟩ : Addr) (.string s8)) ((⟨H3.size, 0, none⟩ : Addr).add 1) (.string s9)) ((⟨H3.size, 0, none⟩ : Addr).add 2) ∧ Wr (setH (setH (setH (H3.push (.cells #[.string (⟨#[]⟩ : ByteArray), .string (⟨#[]⟩ : ByteArray), .slice none 0 0, .int .i64 0] 121)) (⟨H3.size, 0, none⟩ : Addr) (.string s8)) ((⟨H3.size, 0, none⟩ : Addr).add 1) (.string s9)) ((⟨H3.size, 0, none⟩ : Addr).add 2) (.slice a10 l10 c10)) ((⟨H3.size, 0, none⟩ : Addr).add 3) ∧ callS PP 68 #[.pointer none, .int .i64 0] (fun v13 H4 => ∃ n14 : Int, ∃ n15 : Int, v13 = .tuple #[.int .i64 n14, .int .i64 n15] ∧ callS PP 25 #[.pointer none, .pointer none] (fun v16 H5 => ∃ p17 : Option Addr, ∃ n18 : Int, v16 = .tuple #[.pointer p17, .int .i64 n18] ∧ callS PP 18 #[.pointer none, .string (⟨#[71]⟩ : ByteArray)] (fun v19 H6 => ∃ n20 : Int, v19 = .int .i64 n20 ∧ callS PP 69 #[.pointer none, .int .i64 0, .int .i64 3] (fun v21 H7 => ∃ n22 : Int, v21 = .int .i64 n22 ∧ ∃ (I23 : List Value → Heap → Prop) (μ23 : List Value → Heap → Nat), I23 [.int .i64 0] (H7.push (.cells #[.int .i64 n3, .int .i64 n6, .int .i64 n12, .int .i64 n15, .int .i64 n18, .int .i64 n20, .int .i64 n22] 23)) ∧ ∀ w24 H8, I23 w24 H8 → ∀ _g : Nat → Value, ∃ n25 : Int, w24 = [.int .i64 n25] ∧ cond (decide (n25 < (7 : Int))) (((0 : Int) ≤ n25 ∧ n25 < (7 : Int)) ∧ ∃ q26, (some (⟨H7.size, 0, none⟩ : Addr)) = some q26 ∧ ∃ n27 : Int, cellH H8 (q26.add (Int.toNat n25 * 1)) = some (.int .i64 n27) ∧ callS PP 12 #[.int .i64 n27] (fun v28 H9 => ∃ n29 : Int, v28 = .int .i64 n29 ∧ cond (n29 != 2) (Q (.bool false) H9) (I23 [.int .i64 (IntKind.wrap .i64 (n25 + 1))] H9 ∧ μ23 [.int .i64 (IntKind.wrap .i64 (n25 + 1))] H9 < μ23 w24 H8)) H8) (cond (n2 == 0) (cond (n5 == 0) (∃ s30 : ByteArray, cellH H8 (⟨H3.size, 0, none⟩ : Addr) = some (.string s30) ∧ cond (strEq s30 (⟨#[]⟩ : ByteArray)) (cond (n14 == 0) (cond (Option.isNone p17) (callS PP 70 #[.pointer none] (fun v31 H10 => ∃ n32 : Int, v31 = .int .i64 n32 ∧ cond (n32 == 0) (callS PP 71 #[.pointer none] (fun v33 H11 => ∃ a34 : Option Addr, ∃ l34 : Nat, ∃ c34 : Nat, v33 = .slice a34 l34 c34 ∧ cond ((l34 : Int) == 0) (callS PP 72 #[.pointer none, .int .i64 4] (fun v35 H12 => ∃ a36 : Option Addr, ∃ l36 : Nat, ∃ c36 : Nat, v35 = .slice a36 l36 c36 ∧ cond ((l36 : Int) == 0) (callS PP 19 #[.pointer none] (fun v37 H13 => ∃ p38 : Option Addr, v37 = .pointer p38 ∧ cond (Option.isNone p38) (callS PP 26 #[.pointer none] (fun v39 H14 => ∃ p40 : Option Addr, v39 = .pointer p40 ∧ Q (.bool (Option.isNone p40)) H14) H13) (Q (.bool false) H13)) H12) (Q (.bool false) H12)) H11) (Q (.bool false) H11)) H10) (Q (.bool false) H10)) H8) (Q (.bool false) H8)) (Q (.bool false) H8)) (Q (.bool false) H8)) (Q (.bool false) H8)) (Q (.bool false) H8))) H6) H5) H4) (setH (setH (setH (setH (H3.push (.cells #[.string (⟨#[]⟩ : ByteArray), .string (⟨#[]⟩ : ByteArray), .slice none 0 0, .int .i64 0] 121)) (⟨H3.size, 0, none⟩ : Addr) (.string s8)) ((⟨H3.size, 0, none⟩ : Addr).add 1) (.string s9)) ((⟨H3.size, 0, none⟩ : Addr).add 2) (.slice a10 l10 c10)) ((⟨H3.size, 0, none⟩ : Addr).add 3) (.int .i64 n11))) H2) H1) H
theorem kilnlaw13_none_ok  {Q : Value → Heap → Prop} {H : Heap} (h : kilnlaw13_none  Q H) : callS PP 13 #[] Q H :=
  callS_of good Tryz.func13 rfl (Ls := fun | 9 => some [(13, 3)] | _ => none) (by kernel_rfl) h
abbrev n_kilnlaw13_seen : Nat := 15
def kilnlaw13_seen (p1 : Option Addr) (p2 : Option Addr) (Q : Value → Heap → Prop) (H : Heap) : Prop :=
  callS PP 40 #[.pointer p2] (fun v3 H1 => ∃ a4 : Option Addr, ∃ l4 : Nat, ∃ c4 : Nat, v3 = .slice a4 l4 c4 ∧ callS PP 70 #[.pointer p1] (fun v5 H2 => ∃ n6 : Int, v5 = .int .i64 n6 ∧ True ∧ cond (n6 != (l4 : Int)) (Q (.bool false) H2) (callS PP 71 #[.pointer p1] (fun v7 H3 => ∃ a8 : Option Addr, ∃ l8 : Nat, ∃ c8 : Nat, v7 = .slice a8 l8 c8 ∧ True ∧ callS PP 78 #[.pointer p2] (fun v9 H4 => ∃ a10 : Option Addr, ∃ l10 : Nat, ∃ c10 : Nat, v9 = .slice a10 l10 c10 ∧ True ∧ callS PP 77 #[.slice a8 l8 c8, .slice a10 l10 c10] (fun v11 H5 => ∃ b12 : Bool, v11 = .bool b12 ∧ True ∧ cond (!b12) (Q (.bool false) H5) (∃ q13, p2 = some q13 ∧ ∃ p14 : Option Addr, cellH H5 (q13.add 1) = some (.pointer p14) ∧ callS PP 26 #[.pointer p1] (fun v15 H6 => ∃ p16 : Option Addr, v15 = .pointer p16 ∧ ((cellH H6 (q13.add 1) = some (.pointer p14) ∧ True) ∧ True) ∧ callS PP 79 #[.pointer p16] (fun v17 H7 => ∃ a18 : Option Addr, ∃ l18 : Nat, ∃ c18 : Nat, v17 = .slice a18 l18 c18 ∧ ((cellH H7 (q13.add 1) = some (.pointer p14) ∧ True) ∧ True) ∧ callS PP 80 #[.pointer p14] (fun v19 H8 => ∃ a20 : Option Addr, ∃ l20 : Nat, ∃ c20 : Nat, v19 = .slice a20 l20 c20 ∧ True ∧ callS PP 77 #[.slice a18 l18 c18, .slice a20 l20 c20] (fun v21 H9 => ∃ b22 : Bool, v21 = .bool b22 ∧ True ∧ cond (!b22) (Q (.bool false) H9) (∃ q23, p2 = some q23 ∧ ∃ p24 : Option Addr, cellH H9 q23 = some (.pointer p24) ∧ ∃ q25, p24 = some q25 ∧ ∃ p26 : Option Addr, cellH H9 q25 = some (.pointer p26) ∧ callS PP 19 #[.pointer p1] (fun v27 H10 => ∃ p28 : Option Addr, v27 = .pointer p28 ∧ ((cellH H10 q25 = some (.pointer p26) ∧ True) ∧ ((cellH H10 q23 = some (.pointer p24) ∧ True) ∧ True)) ∧ callS PP 20 #[.pointer p28] (fun v29 H11 => ∃ p30 : Option Addr, v29 = .pointer p30 ∧ ((cellH H11 q25 = some (.pointer p26) ∧ True) ∧ ((cellH H11 q23 = some (.pointer p24) ∧ True) ∧ True)) ∧ callS PP 81 #[.pointer p30] (fun v31 H12 => ∃ n32 : Int, v31 = .int .i64 n32 ∧ ((cellH H12 q25 = some (.pointer p26) ∧ True) ∧ ((cellH H12 q23 = some (.pointer p24) ∧ True) ∧ True)) ∧ callS PP 82 #[.pointer p26] (fun v33 H13 => ∃ n34 : Int, v33 = .int .i64 n34 ∧ True ∧ cond (n32 != n34) (Q (.bool false) H13) (callS PP 19 #[.pointer p1] (fun v35 H14 => ∃ p36 : Option Addr, v35 = .pointer p36 ∧ True ∧ callS PP 83 #[.pointer p36] (fun v37 H15 => ∃ a38 : Option Addr, ∃ l38 : Nat, ∃ c38 : Nat, v37 = .slice a38 l38 c38 ∧ True ∧ cond ((l38 : Int) != 0) (Q (.bool false) H15) (∃ (I39 : List Value → Heap → Prop) (μ39 : List Value → Heap → Nat), I39 [.int .i64 0] H15 ∧ ∀ w40 H16, I39 w40 H16 → ∀ _g : Nat → Value, ∃ n41 : Int, w40 = [.int .i64 n41] ∧ cond (decide (n41 < (l4 : Int))) (((0 : Int) ≤ n41 ∧ n41 < (l4 : Int)) ∧ ∃ q42, a4 = some q42 ∧ ∃ n43 : Int, cellH H16 (q42.add (Int.toNat n41 * 1)) = some (.int .i64 n43) ∧ callS PP 84 #[.pointer p1, .pointer p2, .int .i64 n43] (fun v44 H17 => ∃ b45 : Bool, v44 = .bool b45 ∧ cond (!b45) (Q (.bool false) H17) (I39 [.int .i64 (IntKind.wrap .i64 (n41 + 1))] H17 ∧ μ39 [.int .i64 (IntKind.wrap .i64 (n41 + 1))] H17 < μ39 w40 H16)) H16) (callS PP 19 #[.pointer p1] (fun v46 H18 => ∃ p47 : Option Addr, v46 = .pointer p47 ∧ callS PP 85 #[.pointer p47] (fun v48 H19 => ∃ n49 : Int, ∃ n50 : Int, v48 = .tuple #[.int .i64 n49, .int .i64 n50] ∧ ∃ q51, p2 = some q51 ∧ ∃ p52 : Option Addr, cellH H19 q51 = some (.pointer p52) ∧ callS PP 86 #[.pointer p52] (fun v53 H20 => ∃ n54 : Int, ∃ n55 : Int, v53 = .tuple #[.int .i64 n54, .int .i64 n55] ∧ cond (n49 == n54) (Q (.bool (n50 == n55)) H20) (Q (.bool false) H20)) H19) H18) H16))) H14) H13)) H12) H11) H10) H9)) H8) H7) H6) H5)) H4) H3) H2)) H1) H
theorem kilnlaw13_seen_ok {p1 : Option Addr} {p2 : Option Addr} {Q : Value → Heap → Prop} {H : Heap} (h : kilnlaw13_seen p1 p2 Q H) : callS PP 15 #[.pointer p1, .pointer p2] Q H :=
  callS_of good Tryz.func15 rfl (Ls := fun | 5 => some [(6, 3)] | _ => none) (by kernel_rfl) h
abbrev n_kilnlaw13_same : Nat := 77
def kilnlaw13_same (a1 : Option Addr) (l1 : Nat) (_c1 : Nat) (a2 : Option Addr) (l2 : Nat) (_c2 : Nat) (Q : Value → Heap → Prop) (H : Heap) : Prop :=
  cond ((l1 : Int) != (l2 : Int)) (Q (.bool false) H) (∃ (I3 : List Value → Heap → Prop) (μ3 : List Value → Heap → Nat), I3 [.int .i64 0] H ∧ ∀ w4 H1, I3 w4 H1 → ∀ _g : Nat → Value, ∃ n5 : Int, w4 = [.int .i64 n5] ∧ cond (decide (n5 < (l1 : Int))) (((0 : Int) ≤ n5 ∧ n5 < (l1 : Int)) ∧ ∃ q6, a1 = some q6 ∧ ∃ s7 : ByteArray, cellH H1 (q6.add (Int.toNat n5 * 1)) = some (.string s7) ∧ ((0 : Int) ≤ n5 ∧ n5 < (l2 : Int)) ∧ ∃ q8, a2 = some q8 ∧ ∃ s9 : ByteArray, cellH H1 (q8.add (Int.toNat n5 * 1)) = some (.string s9) ∧ cond (!(strEq s7 s9)) (Q (.bool false) H1) (I3 [.int .i64 (IntKind.wrap .i64 (n5 + 1))] H1 ∧ μ3 [.int .i64 (IntKind.wrap .i64 (n5 + 1))] H1 < μ3 w4 H1)) (Q (.bool true) H1))
theorem kilnlaw13_same_ok {a1 : Option Addr} {l1 : Nat} {c1 : Nat} {a2 : Option Addr} {l2 : Nat} {c2 : Nat} {Q : Value → Heap → Prop} {H : Heap} (h : kilnlaw13_same a1 l1 c1 a2 l2 c2 Q H) : callS PP 77 #[.slice a1 l1 c1, .slice a2 l2 c2] Q H :=
  callS_of good Tryz.func77 rfl (Ls := fun | 4 => some [(5, 3)] | _ => none) (by kernel_rfl) h
abbrev n_kilnlaw13_asked : Nat := 84
def kilnlaw13_asked (p1 : Option Addr) (p2 : Option Addr) (n3 : Int) (Q : Value → Heap → Prop) (H : Heap) : Prop :=
  callS PP 67 #[.pointer p1, .int .i64 n3] (fun v4 H1 => ∃ s5 : ByteArray, ∃ s6 : ByteArray, ∃ a7 : Option Addr, ∃ l7 : Nat, ∃ c7 : Nat, ∃ n8 : Int, ∃ n9 : Int, v4 = .tuple #[.agg #[.string s5, .string s6, .slice a7 l7 c7, .int .i64 n8], .int .i64 n9] ∧ Wr (H1.push (.cells #[.string (⟨#[]⟩ : ByteArray), .string (⟨#[]⟩ : ByteArray), .slice none 0 0, .int .i64 0] 121)) (⟨H1.size, 0, none⟩ : Addr) ∧ Wr (setH (H1.push (.cells #[.string (⟨#[]⟩ : ByteArray), .string (⟨#[]⟩ : ByteArray), .slice none 0 0, .int .i64 0] 121)) (⟨H1.size, 0, none⟩ : Addr) (.string s5)) ((⟨H1.size, 0, none⟩ : Addr).add 1) ∧ Wr (setH (setH (H1.push (.cells #[.string (⟨#[]⟩ : ByteArray), .string (⟨#[]⟩ : ByteArray), .slice none 0 0, .int .i64 0] 121)) (⟨H1.size, 0, none⟩ : Addr) (.string s5)) ((⟨H1.size, 0, none⟩ : Addr).add 1) (.string s6)) ((⟨H1.size, 0, none⟩ : Addr).add 2) ∧ Wr (setH (setH (setH (H1.push (.cells #[.string (⟨#[]⟩ : ByteArray), .string (⟨#[]⟩ : ByteArray), .slice none 0 0, .int .i64 0] 121)) (⟨H1.size, 0, none⟩ : Addr) (.string s5)) ((⟨H1.size, 0, none⟩ : Addr).add 1) (.string s6)) ((⟨H1.size, 0, none⟩ : Addr).add 2) (.slice a7 l7 c7)) ((⟨H1.size, 0, none⟩ : Addr).add 3) ∧ callS PP 124 #[.pointer p2, .int .i64 n3] (fun v10 H2 => ∃ s11 : ByteArray, ∃ s12 : ByteArray, ∃ a13 : Option Addr, ∃ l13 : Nat, ∃ c13 : Nat, ∃ n14 : Int, ∃ n15 : Int, v10 = .tuple #[.agg #[.string s11, .string s12, .slice a13 l13 c13, .int .i64 n14], .int .i64 n15] ∧ Wr (H2.push (.cells #[.string (⟨#[]⟩ : ByteArray), .string (⟨#[]⟩ : ByteArray), .slice none 0 0, .int .i64 0] 121)) (⟨H2.size, 0, none⟩ : Addr) ∧ Wr (setH (H2.push (.cells #[.string (⟨#[]⟩ : ByteArray), .string (⟨#[]⟩ : ByteArray), .slice none 0 0, .int .i64 0] 121)) (⟨H2.size, 0, none⟩ : Addr) (.string s11)) ((⟨H2.size, 0, none⟩ : Addr).add 1) ∧ Wr (setH (setH (H2.push (.cells #[.string (⟨#[]⟩ : ByteArray), .string (⟨#[]⟩ : ByteArray), .slice none 0 0, .int .i64 0] 121)) (⟨H2.size, 0, none⟩ : Addr) (.string s11)) ((⟨H2.size, 0, none⟩ : Addr).add 1) (.string s12)) ((⟨H2.size, 0, none⟩ : Addr).add 2) ∧ Wr (setH (setH (setH (H2.push (.cells #[.string (⟨#[]⟩ : ByteArray), .string (⟨#[]⟩ : ByteArray), .slice none 0 0, .int .i64 0] 121)) (⟨H2.size, 0, none⟩ : Addr) (.string s11)) ((⟨H2.size, 0, none⟩ : Addr).add 1) (.string s12)) ((⟨H2.size, 0, none⟩ : Addr).add 2) (.slice a13 l13 c13)) ((⟨H2.size, 0, none⟩ : Addr).add 3) ∧ callS PP 12 #[.int .i64 n9] (fun v16 H3 => ∃ n17 : Int, v16 = .int .i64 n17 ∧ cond (n17 != n15) (Q (.bool false) H3) (∃ s18 : ByteArray, cellH H3 (⟨H1.size, 0, none⟩ : Addr) = some (.string s18) ∧ ∃ s19 : ByteArray, cellH H3 ((⟨H1.size, 0, none⟩ : Addr).add 1) = some (.string s19) ∧ ∃ a20 : Option Addr, ∃ l20 : Nat, ∃ c20 : Nat, cellH H3 ((⟨H1.size, 0, none⟩ : Addr).add 2) = some (.slice a20 l20 c20) ∧ ∃ n21 : Int, cellH H3 ((⟨H1.size, 0, none⟩ : Addr).add 3) = some (.int .i64 n21) ∧ ∃ s22 : ByteArray, cellH H3 (⟨H2.size, 0, none⟩ : Addr) = some (.string s22) ∧ ∃ s23 : ByteArray, cellH H3 ((⟨H2.size, 0, none⟩ : Addr).add 1) = some (.string s23) ∧ ∃ a24 : Option Addr, ∃ l24 : Nat, ∃ c24 : Nat, cellH H3 ((⟨H2.size, 0, none⟩ : Addr).add 2) = some (.slice a24 l24 c24) ∧ ∃ n25 : Int, cellH H3 ((⟨H2.size, 0, none⟩ : Addr).add 3) = some (.int .i64 n25) ∧ callS PP 100 #[.agg #[.string s18, .string s19, .slice a20 l20 c20, .int .i64 n21], .agg #[.string s22, .string s23, .slice a24 l24 c24, .int .i64 n25]] (fun v26 H4 => ∃ b27 : Bool, v26 = .bool b27 ∧ cond (!b27) (Q (.bool false) H4) (callS PP 188 #[.pointer p1, .int .i64 n3] (fun v28 H5 => ∃ n29 : Int, ∃ n30 : Int, v28 = .tuple #[.int .i64 n29, .int .i64 n30] ∧ callS PP 189 #[.pointer p2, .int .i64 n3] (fun v31 H6 => ∃ n32 : Int, ∃ n33 : Int, v31 = .tuple #[.int .i64 n32, .int .i64 n33] ∧ cond (n29 != n32) (Q (.bool false) H6) (callS PP 12 #[.int .i64 n30] (fun v34 H7 => ∃ n35 : Int, v34 = .int .i64 n35 ∧ cond (n35 != n33) (Q (.bool false) H7) (callS PP 190 #[.pointer p1, .int .i64 n3] (fun v36 H8 => ∃ n37 : Int, ∃ n38 : Int, v36 = .tuple #[.int .i64 n37, .int .i64 n38] ∧ callS PP 191 #[.pointer p2, .int .i64 n3] (fun v39 H9 => ∃ n40 : Int, ∃ n41 : Int, v39 = .tuple #[.int .i64 n40, .int .i64 n41] ∧ cond (n37 != n40) (Q (.bool false) H9) (callS PP 12 #[.int .i64 n38] (fun v42 H10 => ∃ n43 : Int, v42 = .int .i64 n43 ∧ cond (n43 != n41) (Q (.bool false) H10) (callS PP 192 #[.pointer p1, .int .i64 n3] (fun v44 H11 => ∃ n45 : Int, ∃ n46 : Int, v44 = .tuple #[.int .i64 n45, .int .i64 n46] ∧ callS PP 193 #[.pointer p2, .int .i64 n3] (fun v47 H12 => ∃ n48 : Int, ∃ n49 : Int, v47 = .tuple #[.int .i64 n48, .int .i64 n49] ∧ cond (n45 != n48) (Q (.bool false) H12) (callS PP 12 #[.int .i64 n46] (fun v50 H13 => ∃ n51 : Int, v50 = .int .i64 n51 ∧ cond (n51 != n49) (Q (.bool false) H13) (callS PP 101 #[.pointer p1, .int .i64 n3] (fun v52 H14 => ∃ a53 : Option Addr, ∃ l53 : Nat, ∃ c53 : Nat, ∃ n54 : Int, v52 = .tuple #[.slice a53 l53 c53, .int .i64 n54] ∧ callS PP 125 #[.pointer p2, .int .i64 n3] (fun v55 H15 => ∃ a56 : Option Addr, ∃ l56 : Nat, ∃ c56 : Nat, ∃ n57 : Int, v55 = .tuple #[.slice a56 l56 c56, .int .i64 n57] ∧ callS PP 12 #[.int .i64 n54] (fun v58 H16 => ∃ n59 : Int, v58 = .int .i64 n59 ∧ cond (n59 == n57) (callS PP 77 #[.slice a53 l53 c53, .slice a56 l56 c56] (fun v60 H17 => ∃ b61 : Bool, v60 = .bool b61 ∧ cond b61 (callS PP 72 #[.pointer p1, .int .i64 n3] (fun v62 H18 => ∃ a63 : Option Addr, ∃ l63 : Nat, ∃ c63 : Nat, v62 = .slice a63 l63 c63 ∧ callS PP 126 #[.pointer p2, .int .i64 n3] (fun v64 H19 => ∃ a65 : Option Addr, ∃ l65 : Nat, ∃ c65 : Nat, v64 = .slice a65 l65 c65 ∧ callS PP 127 #[.slice a63 l63 c63, .slice a65 l65 c65] (fun v66 H20 => ∃ b67 : Bool, v66 = .bool b67 ∧ Q (.bool b67) H20) H19) H18) H17) (Q (.bool false) H17)) H16) (Q (.bool false) H16)) H15) H14) H13)) H12)) H11) H10)) H9)) H8) H7)) H6)) H5) H4)) H3)) (setH (setH (setH (setH (H2.push (.cells #[.string (⟨#[]⟩ : ByteArray), .string (⟨#[]⟩ : ByteArray), .slice none 0 0, .int .i64 0] 121)) (⟨H2.size, 0, none⟩ : Addr) (.string s11)) ((⟨H2.size, 0, none⟩ : Addr).add 1) (.string s12)) ((⟨H2.size, 0, none⟩ : Addr).add 2) (.slice a13 l13 c13)) ((⟨H2.size, 0, none⟩ : Addr).add 3) (.int .i64 n14))) (setH (setH (setH (setH (H1.push (.cells #[.string (⟨#[]⟩ : ByteArray), .string (⟨#[]⟩ : ByteArray), .slice none 0 0, .int .i64 0] 121)) (⟨H1.size, 0, none⟩ : Addr) (.string s5)) ((⟨H1.size, 0, none⟩ : Addr).add 1) (.string s6)) ((⟨H1.size, 0, none⟩ : Addr).add 2) (.slice a7 l7 c7)) ((⟨H1.size, 0, none⟩ : Addr).add 3) (.int .i64 n8))) H
theorem kilnlaw13_asked_ok {p1 : Option Addr} {p2 : Option Addr} {n3 : Int} {Q : Value → Heap → Prop} {H : Heap} (h : kilnlaw13_asked p1 p2 n3 Q H) : callS PP 84 #[.pointer p1, .pointer p2, .int .i64 n3] Q H :=
  callS_of good Tryz.func84 rfl (Ls := fun _ => none) (by kernel_rfl) h
abbrev n_kilnlaw13_sameInfo : Nat := 100
def kilnlaw13_sameInfo (s1 : ByteArray) (s2 : ByteArray) (a3 : Option Addr) (l3 : Nat) (c3 : Nat) (n4 : Int) (s5 : ByteArray) (s6 : ByteArray) (a7 : Option Addr) (l7 : Nat) (c7 : Nat) (n8 : Int) (Q : Value → Heap → Prop) (H : Heap) : Prop :=
  ∃ s9 : ByteArray, cellH ((H.push (.cells #[.string s1, .string s2, .slice a3 l3 c3, .int .i64 n4] 121)).push (.cells #[.string s5, .string s6, .slice a7 l7 c7, .int .i64 n8] 121)) (⟨H.size, 0, none⟩ : Addr) = some (.string s9) ∧ ∃ s10 : ByteArray, cellH ((H.push (.cells #[.string s1, .string s2, .slice a3 l3 c3, .int .i64 n4] 121)).push (.cells #[.string s5, .string s6, .slice a7 l7 c7, .int .i64 n8] 121)) (⟨(H.push (.cells #[.string s1, .string s2, .slice a3 l3 c3, .int .i64 n4] 121)).size, 0, none⟩ : Addr) = some (.string s10) ∧ cond (strEq s9 s10) (∃ s11 : ByteArray, cellH ((H.push (.cells #[.string s1, .string s2, .slice a3 l3 c3, .int .i64 n4] 121)).push (.cells #[.string s5, .string s6, .slice a7 l7 c7, .int .i64 n8] 121)) ((⟨H.size, 0, none⟩ : Addr).add 1) = some (.string s11) ∧ ∃ s12 : ByteArray, cellH ((H.push (.cells #[.string s1, .string s2, .slice a3 l3 c3, .int .i64 n4] 121)).push (.cells #[.string s5, .string s6, .slice a7 l7 c7, .int .i64 n8] 121)) ((⟨(H.push (.cells #[.string s1, .string s2, .slice a3 l3 c3, .int .i64 n4] 121)).size, 0, none⟩ : Addr).add 1) = some (.string s12) ∧ cond (strEq s11 s12) (∃ n13 : Int, cellH ((H.push (.cells #[.string s1, .string s2, .slice a3 l3 c3, .int .i64 n4] 121)).push (.cells #[.string s5, .string s6, .slice a7 l7 c7, .int .i64 n8] 121)) ((⟨H.size, 0, none⟩ : Addr).add 3) = some (.int .i64 n13) ∧ ∃ n14 : Int, cellH ((H.push (.cells #[.string s1, .string s2, .slice a3 l3 c3, .int .i64 n4] 121)).push (.cells #[.string s5, .string s6, .slice a7 l7 c7, .int .i64 n8] 121)) ((⟨(H.push (.cells #[.string s1, .string s2, .slice a3 l3 c3, .int .i64 n4] 121)).size, 0, none⟩ : Addr).add 3) = some (.int .i64 n14) ∧ cond (n13 == n14) (∃ a15 : Option Addr, ∃ l15 : Nat, ∃ c15 : Nat, cellH ((H.push (.cells #[.string s1, .string s2, .slice a3 l3 c3, .int .i64 n4] 121)).push (.cells #[.string s5, .string s6, .slice a7 l7 c7, .int .i64 n8] 121)) ((⟨H.size, 0, none⟩ : Addr).add 2) = some (.slice a15 l15 c15) ∧ ∃ a16 : Option Addr, ∃ l16 : Nat, ∃ c16 : Nat, cellH ((H.push (.cells #[.string s1, .string s2, .slice a3 l3 c3, .int .i64 n4] 121)).push (.cells #[.string s5, .string s6, .slice a7 l7 c7, .int .i64 n8] 121)) ((⟨(H.push (.cells #[.string s1, .string s2, .slice a3 l3 c3, .int .i64 n4] 121)).size, 0, none⟩ : Addr).add 2) = some (.slice a16 l16 c16) ∧ callS PP 77 #[.slice a15 l15 c15, .slice a16 l16 c16] (fun v17 H1 => ∃ b18 : Bool, v17 = .bool b18 ∧ Q (.bool b18) H1) ((H.push (.cells #[.string s1, .string s2, .slice a3 l3 c3, .int .i64 n4] 121)).push (.cells #[.string s5, .string s6, .slice a7 l7 c7, .int .i64 n8] 121))) (Q (.bool false) ((H.push (.cells #[.string s1, .string s2, .slice a3 l3 c3, .int .i64 n4] 121)).push (.cells #[.string s5, .string s6, .slice a7 l7 c7, .int .i64 n8] 121)))) (Q (.bool false) ((H.push (.cells #[.string s1, .string s2, .slice a3 l3 c3, .int .i64 n4] 121)).push (.cells #[.string s5, .string s6, .slice a7 l7 c7, .int .i64 n8] 121)))) (Q (.bool false) ((H.push (.cells #[.string s1, .string s2, .slice a3 l3 c3, .int .i64 n4] 121)).push (.cells #[.string s5, .string s6, .slice a7 l7 c7, .int .i64 n8] 121)))
theorem kilnlaw13_sameInfo_ok {s1 : ByteArray} {s2 : ByteArray} {a3 : Option Addr} {l3 : Nat} {c3 : Nat} {n4 : Int} {s5 : ByteArray} {s6 : ByteArray} {a7 : Option Addr} {l7 : Nat} {c7 : Nat} {n8 : Int} {Q : Value → Heap → Prop} {H : Heap} (h : kilnlaw13_sameInfo s1 s2 a3 l3 c3 n4 s5 s6 a7 l7 c7 n8 Q H) : callS PP 100 #[.agg #[.string s1, .string s2, .slice a3 l3 c3, .int .i64 n4], .agg #[.string s5, .string s6, .slice a7 l7 c7, .int .i64 n8]] Q H :=
  callS_of good Tryz.func100 rfl (Ls := fun _ => none) (by kernel_rfl) h
abbrev n_kilnlaw13_sameInts : Nat := 127
def kilnlaw13_sameInts (a1 : Option Addr) (l1 : Nat) (_c1 : Nat) (a2 : Option Addr) (l2 : Nat) (_c2 : Nat) (Q : Value → Heap → Prop) (H : Heap) : Prop :=
  cond ((l1 : Int) != (l2 : Int)) (Q (.bool false) H) (∃ (I3 : List Value → Heap → Prop) (μ3 : List Value → Heap → Nat), I3 [.int .i64 0] H ∧ ∀ w4 H1, I3 w4 H1 → ∀ _g : Nat → Value, ∃ n5 : Int, w4 = [.int .i64 n5] ∧ cond (decide (n5 < (l1 : Int))) (((0 : Int) ≤ n5 ∧ n5 < (l1 : Int)) ∧ ∃ q6, a1 = some q6 ∧ ∃ n7 : Int, cellH H1 (q6.add (Int.toNat n5 * 1)) = some (.int .i64 n7) ∧ ((0 : Int) ≤ n5 ∧ n5 < (l2 : Int)) ∧ ∃ q8, a2 = some q8 ∧ ∃ n9 : Int, cellH H1 (q8.add (Int.toNat n5 * 1)) = some (.int .i64 n9) ∧ cond (n7 != n9) (Q (.bool false) H1) (I3 [.int .i64 (IntKind.wrap .i64 (n5 + 1))] H1 ∧ μ3 [.int .i64 (IntKind.wrap .i64 (n5 + 1))] H1 < μ3 w4 H1)) (Q (.bool true) H1))
theorem kilnlaw13_sameInts_ok {a1 : Option Addr} {l1 : Nat} {c1 : Nat} {a2 : Option Addr} {l2 : Nat} {c2 : Nat} {Q : Value → Heap → Prop} {H : Heap} (h : kilnlaw13_sameInts a1 l1 c1 a2 l2 c2 Q H) : callS PP 127 #[.slice a1 l1 c1, .slice a2 l2 c2] Q H :=
  callS_of good Tryz.func127 rfl (Ls := fun | 4 => some [(5, 3)] | _ => none) (by kernel_rfl) h
end Go.Proofs.YtmkdkplipbocjaaGreatDoor
set_option maxRecDepth 100000
set_option maxHeartbeats 2000000
namespace Go.Proofs.YtmkdkplipbocjaaGreatDoor
open Kw
section
variable {H : Heap} {Q : Value → Heap → Prop}
theorem num1_c {n : Int} (h : Q (.int .i64 n) H) : callS PP n_kilnlaw13_num #[.int .i64 n] Q H := by
  apply kilnlaw13_num_ok
  unfold kilnlaw13_num
  exact h
theorem same_c {a1 a2 : Option Addr} {l1 l2 c1 c2 : Nat} {xs ys : List ByteArray} (h1 : Rd 1 H a1 l1 (strsV xs)) (h2 : Rd 1 H a2 l2 (strsV ys)) (hb : l1 ≤ 1000000000000000) (h : Q (.bool (decide (xs = ys))) H) : callS PP n_kilnlaw13_same #[.slice a1 l1 c1, .slice a2 l2 c2] Q H := by
  have e1 : l1 = xs.length := by have := h1.1; simpa [strsV] using this.symm
  have e2 : l2 = ys.length := by have := h2.1; simpa [strsV] using this.symm
  apply kilnlaw13_same_ok
  unfold kilnlaw13_same
  have no : xs ≠ ys → Q (.bool false) H := fun hn => by rw [decide_eq_false hn] at h; exact h
  rw [bneI, cond_dec]
  refine ite_i (fun hne => no fun e => hne (by rw [e1, e2, e])) fun hne => ?_
  have hlen : l1 = l2 := by omega
  refine ⟨fun w H' => H' = H ∧ ∃ i : Nat, w = [.int .i64 i] ∧ i ≤ l1 ∧ xs.take i = ys.take i, fun w _ => match w with
    | [.int _ i] => (l1 - i).toNat
    | _ => 0, ⟨rfl, 0, rfl, Nat.zero_le _, rfl⟩, ?_⟩
  rintro w H1 ⟨rfl, i, rfl, hi, hall⟩ _
  refine ⟨_, rfl, ?_⟩
  rw [cond_dec]
  refine ite_i (fun hlt => ?_) fun hlt => ?_
  · obtain ⟨p, hp2, rfl, hc1⟩ := h1.str (i := (i : Int)) (by omega) (by omega)
    obtain ⟨q, hq2, rfl, hc2⟩ := h2.str (i := (i : Int)) (by omega) (by omega)
    simp only [Int.toNat_natCast] at hc1 hp2 hc2 hq2
    have e : IntKind.wrap .i64 ((i : Int) + 1) = ((i + 1 : Nat) : Int) := by rw [wrap64_id (by omega) (by omega)]; omega
    refine ⟨⟨by omega, by omega⟩, _, rfl, _, by rw [Int.toNat_natCast, Nat.mul_one]; exact hc1, ⟨by omega, by omega⟩, _, rfl, _, by rw [Int.toNat_natCast, Nat.mul_one]; exact hc2, ?_⟩
    rw [strEq_dec, ← decide_not, cond_dec]
    refine ite_i (fun he => no fun e => he (by subst e; rfl)) fun he => ?_
    rw [e]
    have he' : xs[i] = ys[i] := Classical.byContradiction he
    refine ⟨⟨rfl, i + 1, rfl, by omega, ?_⟩, by simp; omega⟩
    rw [List.take_add_one, List.take_add_one, List.getElem?_eq_getElem hp2, List.getElem?_eq_getElem hq2, hall, he']
  · have hil : i = l1 := by omega
    subst hil
    rw [List.take_of_length_le (by omega), List.take_of_length_le (by omega)] at hall
    rw [decide_eq_true hall] at h
    exact h
theorem sameInts_c {a1 a2 : Option Addr} {l1 l2 c1 c2 : Nat} {xs ys : List Int} (h1 : Rd 1 H a1 l1 (intsV xs)) (h2 : Rd 1 H a2 l2 (intsV ys)) (hb : l1 ≤ 1000000000000000) (h : Q (.bool (decide (xs = ys))) H) : callS PP n_kilnlaw13_sameInts #[.slice a1 l1 c1, .slice a2 l2 c2] Q H := by
  have e1 : l1 = xs.length := by have := h1.1; simpa [intsV] using this.symm
  have e2 : l2 = ys.length := by have := h2.1; simpa [intsV] using this.symm
  apply kilnlaw13_sameInts_ok
  unfold kilnlaw13_sameInts
  have no : xs ≠ ys → Q (.bool false) H := fun hn => by rw [decide_eq_false hn] at h; exact h
  rw [bneI, cond_dec]
  refine ite_i (fun hne => no fun e => hne (by rw [e1, e2, e])) fun hne => ?_
  have hlen : l1 = l2 := by omega
  refine ⟨fun w H' => H' = H ∧ ∃ i : Nat, w = [.int .i64 i] ∧ i ≤ l1 ∧ xs.take i = ys.take i, fun w _ => match w with
    | [.int _ i] => (l1 - i).toNat
    | _ => 0, ⟨rfl, 0, rfl, Nat.zero_le _, rfl⟩, ?_⟩
  rintro w H1 ⟨rfl, i, rfl, hi, hall⟩ _
  refine ⟨_, rfl, ?_⟩
  rw [cond_dec]
  refine ite_i (fun hlt => ?_) fun hlt => ?_
  · obtain ⟨p, rfl, hc1, hp2⟩ := h1.int (i := (i : Int)) (by omega) (by omega)
    obtain ⟨q, rfl, hc2, hq2⟩ := h2.int (i := (i : Int)) (by omega) (by omega)
    simp only [Int.toNat_natCast] at hc1 hp2 hc2 hq2
    have hx : xs.getD i 0 = xs[i] := by simp [hp2]
    have hy : ys.getD i 0 = ys[i] := by simp [hq2]
    rw [hx] at hc1
    rw [hy] at hc2
    have e : IntKind.wrap .i64 ((i : Int) + 1) = ((i + 1 : Nat) : Int) := by rw [wrap64_id (by omega) (by omega)]; omega
    refine ⟨⟨by omega, by omega⟩, _, rfl, _, by rw [Int.toNat_natCast, Nat.mul_one]; exact hc1, ⟨by omega, by omega⟩, _, rfl, _, by rw [Int.toNat_natCast, Nat.mul_one]; exact hc2, ?_⟩
    rw [bneI, cond_dec]
    refine ite_i (fun he => no fun e => he (by subst e; rfl)) fun he => ?_
    rw [e]
    have he' : xs[i] = ys[i] := Classical.byContradiction he
    refine ⟨⟨rfl, i + 1, rfl, by omega, ?_⟩, by simp; omega⟩
    rw [List.take_add_one, List.take_add_one, List.getElem?_eq_getElem hp2, List.getElem?_eq_getElem hq2, hall, he']
  · have hil : i = l1 := by omega
    subst hil
    rw [List.take_of_length_le (by omega), List.take_of_length_le (by omega)] at hall
    rw [decide_eq_true hall] at h
    exact h
/-- The same data. -/
theorem sameInfo_c {x : CI} {a1 a2 : Option Addr} {l1 l2 c1 c2 : Nat} (h1 : Rd 1 H a1 l1 (strsV x.own)) (h2 : Rd 1 H a2 l2 (strsV x.own)) (hb : l1 ≤ 1000000000000000) (h : ∀ H', Fr [] H H' → Q (.bool true) H') :
    callS PP n_kilnlaw13_sameInfo #[.agg #[.string x.name, .string x.sup, .slice a1 l1 c1, .int .i64 x.lay], .agg #[.string x.name, .string x.sup, .slice a2 l2 c2, .int .i64 x.lay]] Q H := by
  apply kilnlaw13_sameInfo_ok
  unfold kilnlaw13_sameInfo
  have f1 := Fr.push [] H (.cells #[.string x.name, .string x.sup, .slice a1 l1 c1, .int .i64 x.lay] 121)
  have hB1 := Blk.new H #[.string x.name, .string x.sup, .slice a1 l1 c1, .int .i64 x.lay] 121
  generalize (H.push (.cells #[.string x.name, .string x.sup, .slice a1 l1 c1, .int .i64 x.lay] 121)) = G1 at f1 hB1 ⊢
  have f2 := Fr.push [] G1 (.cells #[.string x.name, .string x.sup, .slice a2 l2 c2, .int .i64 x.lay] 121)
  have hB2 := Blk.new G1 #[.string x.name, .string x.sup, .slice a2 l2 c2, .int .i64 x.lay] 121
  have hB1' := hB1.fr f2 (by simp)
  generalize (G1.push (.cells #[.string x.name, .string x.sup, .slice a2 l2 c2, .int .i64 x.lay] 121)) = G2 at f2 hB2 hB1' ⊢
  have f12 := f1.trans f2
  refine ⟨_, hB1'.cell 0, _, hB2.cell 0, ?_⟩
  rw [strEq_dec, cond_dec, if_pos rfl]
  refine ⟨_, hB1'.cell 1, _, hB2.cell 1, ?_⟩
  rw [strEq_dec, cond_dec, if_pos rfl]
  refine ⟨_, hB1'.cell 3, _, hB2.cell 3, ?_⟩
  rw [beqI, cond_dec, if_pos rfl]
  refine ⟨_, _, _, hB1'.cell 2, _, _, _, hB2.cell 2, same_c (h1.fr' f12 (by simp)) (h2.fr' f12 (by simp)) hb ⟨_, rfl, ?_⟩⟩
  rw [decide_eq_true rfl]
  exact h _ f12
end
end Go.Proofs.YtmkdkplipbocjaaGreatDoor
set_option maxRecDepth 100000
set_option maxHeartbeats 4000000
namespace Go.Proofs.YtmkdkplipbocjaaGreatDoor
open Kw
section
variable {H : Heap} {bp br : Nat} {Fp Fq : Foot} {s : SP} {t : TB} {v : KV} {Q : Value → Heap → Prop}
theorem infoK_len (hv : KAll s t v) {i : Nat} (hi : i < v.cls.length) : (infoK v t i).own.length ≤ 8192 := by
  have := ((hv.ks.view.own hi).bnd hv.ks.wf.h).2.2.1
  rw [(infoK_name hi).2]; simpa using this
/-- Everything but the data. -/
theorem asked2 (hP : PK H bp Fp s t) (hR : RK H br Fq s t) (hv : KAll s t v) {o : Int} (h : ∀ H', Fr [] H H' → Q (.bool true) H') :
    callS PP 188 #[.pointer (some ⟨bp, 0, none⟩ : Option Addr), .int .i64 o] (fun v28 H5 => ∃ n29 : Int, ∃ o0 : Int, v28 = .tuple #[.int .i64 n29, .int .i64 o0] ∧ callS PP 189 #[.pointer (some ⟨br, 0, none⟩ : Option Addr), .int .i64 o] (fun v31 H6 => ∃ o2 : Int, ∃ o3 : Int, v31 = .tuple #[.int .i64 o2, .int .i64 o3] ∧ cond (n29 != o2) (Q (.bool false) H6) (callS PP 12 #[.int .i64 o0] (fun v34 H7 => ∃ o5 : Int, v34 = .int .i64 o5 ∧ cond (o5 != o3) (Q (.bool false) H7) (callS PP 190 #[.pointer (some ⟨bp, 0, none⟩ : Option Addr), .int .i64 o] (fun v36 H8 => ∃ o7 : Int, ∃ o8 : Int, v36 = .tuple #[.int .i64 o7, .int .i64 o8] ∧ callS PP 191 #[.pointer (some ⟨br, 0, none⟩ : Option Addr), .int .i64 o] (fun v39 H9 => ∃ n40 : Int, ∃ n41 : Int, v39 = .tuple #[.int .i64 n40, .int .i64 n41] ∧ cond (o7 != n40) (Q (.bool false) H9) (callS PP 12 #[.int .i64 o8] (fun v42 H10 => ∃ n43 : Int, v42 = .int .i64 n43 ∧ cond (n43 != n41) (Q (.bool false) H10) (callS PP 192 #[.pointer (some ⟨bp, 0, none⟩ : Option Addr), .int .i64 o] (fun v44 H11 => ∃ n45 : Int, ∃ n46 : Int, v44 = .tuple #[.int .i64 n45, .int .i64 n46] ∧ callS PP 193 #[.pointer (some ⟨br, 0, none⟩ : Option Addr), .int .i64 o] (fun v47 H12 => ∃ n48 : Int, ∃ n49 : Int, v47 = .tuple #[.int .i64 n48, .int .i64 n49] ∧ cond (n45 != n48) (Q (.bool false) H12) (callS PP 12 #[.int .i64 n46] (fun v50 H13 => ∃ n51 : Int, v50 = .int .i64 n51 ∧ cond (n51 != n49) (Q (.bool false) H13) (callS PP 101 #[.pointer (some ⟨bp, 0, none⟩ : Option Addr), .int .i64 o] (fun v52 H14 => ∃ a53 : Option Addr, ∃ l53 : Nat, ∃ c53 : Nat, ∃ n54 : Int, v52 = .tuple #[.slice a53 l53 c53, .int .i64 n54] ∧ callS PP 125 #[.pointer (some ⟨br, 0, none⟩ : Option Addr), .int .i64 o] (fun v55 H15 => ∃ a56 : Option Addr, ∃ l56 : Nat, ∃ c56 : Nat, ∃ n57 : Int, v55 = .tuple #[.slice a56 l56 c56, .int .i64 n57] ∧ callS PP 12 #[.int .i64 n54] (fun v58 H16 => ∃ n59 : Int, v58 = .int .i64 n59 ∧ cond (n59 == n57) (callS PP 77 #[.slice a53 l53 c53, .slice a56 l56 c56] (fun v60 H17 => ∃ b61 : Bool, v60 = .bool b61 ∧ cond b61 (callS PP 72 #[.pointer (some ⟨bp, 0, none⟩ : Option Addr), .int .i64 o] (fun v62 H18 => ∃ a63 : Option Addr, ∃ l63 : Nat, ∃ c63 : Nat, v62 = .slice a63 l63 c63 ∧ callS PP 126 #[.pointer (some ⟨br, 0, none⟩ : Option Addr), .int .i64 o] (fun v64 H19 => ∃ a65 : Option Addr, ∃ l65 : Nat, ∃ c65 : Nat, v64 = .slice a65 l65 c65 ∧ callS PP 127 #[.slice a63 l63 c63, .slice a65 l65 c65] (fun v66 H20 => ∃ b67 : Bool, v66 = .bool b67 ∧ Q (.bool b67) H20) H19) H18) H17) (Q (.bool false) H17)) H16) (Q (.bool false) H16)) H15) H14) H13)) H12)) H11) H10)) H9)) H8) H7)) H6)) H5) H := by
  have hm1 := hv.ks.shape.many1
  refine number_k hP hv fun H1 f1 => ?_
  have F1 := f1
  obtain ⟨nn, ne, e1⟩ : ∃ nn ne : Int, (match plK v o with | some i => Value.tuple #[.int .i64 ((i : Int) + 1), .int .i64 0] | none => .tuple #[.int .i64 0, .int .i64 130]) = .tuple #[.int .i64 nn, .int .i64 ne] := by
    cases plK v o with
    | none => exact ⟨_, _, rfl⟩
    | some i => exact ⟨_, _, rfl⟩
  refine ⟨nn, ne, e1, number_r (hR.nil F1) hv fun H2 f2 => ?_⟩
  have F2 := F1.trans f2
  refine ⟨nn, ne, e1, ?_⟩
  rw [bneI, cond_dec, if_neg (fun hn => hn rfl)]
  refine num1_c ⟨_, rfl, ?_⟩
  rw [bneI, cond_dec, if_neg (fun hn => hn rfl)]
  refine ksuper_k (hP.nil F2) hv fun H3 f3 => ?_
  have F3 := F2.trans f3
  obtain ⟨sn, se, e2⟩ : ∃ nn ne : Int, (match plK v o with | some i => Value.tuple #[.int .i64 (superK v i), .int .i64 0] | none => .tuple #[.int .i64 0, .int .i64 130]) = .tuple #[.int .i64 nn, .int .i64 ne] := by
    cases plK v o with
    | none => exact ⟨_, _, rfl⟩
    | some i => exact ⟨_, _, rfl⟩
  refine ⟨sn, se, e2, super_r (hR.nil F3) hv fun H4 f4 => ?_⟩
  have F4 := F3.trans f4
  refine ⟨sn, se, e2, ?_⟩
  rw [bneI, cond_dec, if_neg (fun hn => hn rfl)]
  refine num1_c ⟨_, rfl, ?_⟩
  rw [bneI, cond_dec, if_neg (fun hn => hn rfl)]
  refine layout_k (hP.nil F4) hv fun H5 f5 => ?_
  have F5 := F4.trans f5
  obtain ⟨ln, le, e3⟩ : ∃ nn ne : Int, (match plK v o with | some i => Value.tuple #[.int .i64 (infoK v t i).lay, .int .i64 0] | none => .tuple #[.int .i64 0, .int .i64 130]) = .tuple #[.int .i64 nn, .int .i64 ne] := by
    cases plK v o with
    | none => exact ⟨_, _, rfl⟩
    | some i => exact ⟨_, _, rfl⟩
  refine ⟨ln, le, e3, layout_r (hR.nil F5) hv fun H6 f6 => ?_⟩
  have F6 := F5.trans f6
  refine ⟨ln, le, e3, ?_⟩
  rw [bneI, cond_dec, if_neg (fun hn => hn rfl)]
  refine num1_c ⟨_, rfl, ?_⟩
  rw [bneI, cond_dec, if_neg (fun hn => hn rfl)]
  -- Under, at the end
  have fin : ∀ (H9 : Heap), Fr [] H H9 → callS PP n_class_Kernel_Under #[.pointer (some ⟨bp, 0, none⟩), .int .i64 o] (fun v62 H18 => ∃ a63 : Option Addr, ∃ l63 : Nat, ∃ c63 : Nat, v62 = .slice a63 l63 c63 ∧ callS PP n_kilnref13_Kernel_Under #[.pointer (some ⟨br, 0, none⟩), .int .i64 o] (fun v64 H19 => ∃ a65 : Option Addr, ∃ l65 : Nat, ∃ c65 : Nat, v64 = .slice a65 l65 c65 ∧ callS PP n_kilnlaw13_sameInts #[.slice a63 l63 c63, .slice a65 l65 c65] (fun v66 H20 => ∃ b67 : Bool, v66 = .bool b67 ∧ Q (.bool b67) H20) H19) H18) H9 := by
    intro H9 F9
    have rdnil : ∀ {H' : Heap}, Rd 1 H' none 0 (intsV []) := fun {H'} => (Own.nil 1 H').rd
    cases hp : plK v o with
    | none =>
      refine under_k (hP.nil F9) hv (fun i hp' => by rw [hp] at hp'; cases hp') fun _ H10 f10 => ⟨_, _, _, rfl, ?_⟩
      refine under_r (hR.nil (F9.trans f10)) hv (fun i hp' => by rw [hp] at hp'; cases hp') fun _ H11 f11 => ⟨_, _, _, rfl, ?_⟩
      refine sameInts_c rdnil rdnil (by decide) ⟨_, rfl, ?_⟩
      rw [decide_eq_true rfl]; exact h _ ((F9.trans f10).trans f11)
    | some i =>
      have hul : (underK v o).length ≤ v.cls.length := by
        unfold underK
        rw [List.length_map]
        exact Nat.le_trans (List.length_filter_le _ _) (by simp)
      refine under_k (hP.nil F9) hv (fun i _ a l c G H10 ho f10 hG => ⟨_, _, _, rfl, ?_⟩) fun hp' => by rw [hp] at hp'; cases hp'
      have hl : l = (underK v o).length := by have := ho.len; simpa [intsV] using this.symm
      refine under_r (hR.nil (F9.trans f10)) hv (fun i _ a2 l2 c2 G2 H11 ho2 f11 hG2 => ⟨_, _, _, rfl, ?_⟩) fun hp' => by rw [hp] at hp'; cases hp'
      refine sameInts_c (ho.fr f11 (by simp)).rd ho2.rd (by omega) ⟨_, rfl, ?_⟩
      rw [decide_eq_true rfl]; exact h _ ((F9.trans f10).trans f11)
  cases hp : plK v o with
  | none =>
    refine kfields_k (hP.nil F6) hv (fun i hp' => by rw [hp] at hp'; cases hp') fun _ H7 f7 => ⟨_, _, _, _, rfl, ?_⟩
    have F7 := F6.trans f7
    refine fields_r (hR.nil F7) hv (fun i hp' => by rw [hp] at hp'; cases hp') fun _ H8 f8 => ⟨_, _, _, _, rfl, num1_c ⟨_, rfl, ?_⟩⟩
    rw [beqI, cond_dec, if_pos rfl]
    have rdnil : Rd 1 H8 none 0 (strsV []) := (Own.nil 1 H8).rd
    refine same_c rdnil rdnil (by decide) ⟨_, rfl, ?_⟩
    rw [decide_eq_true rfl]
    exact fin H8 (F7.trans f8)
  | some i =>
    obtain ⟨hi, _⟩ := plK_some hp
    have hfl := fields_len hv.ks i hi
    refine kfields_k (hP.nil F6) hv (fun i' hp' a l c G H7 ho f7 hG => ?_) fun hp' => by rw [hp] at hp'; cases hp'
    rw [hp] at hp'; cases hp'
    refine ⟨_, _, _, _, rfl, ?_⟩
    have F7 := F6.trans f7
    have hl : l = (fieldsK v i).length := by have := ho.len; simpa [strsV] using this.symm
    refine fields_r (hR.nil F7) hv (fun i' hp' a2 l2 c2 G2 H8 ho2 f8 hG2 => ?_) fun hp' => by rw [hp] at hp'; cases hp'
    rw [hp] at hp'; cases hp'
    refine ⟨_, _, _, _, rfl, num1_c ⟨_, rfl, ?_⟩⟩
    rw [beqI, cond_dec, if_pos rfl]
    refine same_c (ho.fr f8 (by simp)).rd ho2.rd (by omega) ⟨_, rfl, ?_⟩
    rw [decide_eq_true rfl]
    exact fin H8 (F7.trans f8)
end
end Go.Proofs.YtmkdkplipbocjaaGreatDoor
set_option maxRecDepth 100000
set_option maxHeartbeats 4000000
namespace Go.Proofs.YtmkdkplipbocjaaGreatDoor
open Kw
section
variable {H : Heap} {bp br : Nat} {Fp Fq : Foot} {s : SP} {t : TB} {v : KV} {Q : Value → Heap → Prop}
theorem asked_c (hP : PK H bp Fp s t) (hR : RK H br Fq s t) (hv : KAll s t v) {o : Int} (h : ∀ H', Fr [] H H' → Q (.bool true) H') : callS PP n_kilnlaw13_asked #[.pointer (some ⟨bp, 0, none⟩), .pointer (some ⟨br, 0, none⟩), .int .i64 o] Q H := by
  apply kilnlaw13_asked_ok
  unfold kilnlaw13_asked
  -- both answers are copied and compared
  have go : ∀ (x : CI) (e : Int) (a1 : Option Addr) (l1 c1 : Nat) (H1 : Heap), Fr [] H H1 → Rd 1 H1 a1 l1 (strsV x.own) → l1 ≤ 8192 →
      (∀ {H2 : Heap}, Fr [] H H2 → ∀ {Q' : Value → Heap → Prop}, (∀ a2 l2 c2 H3, Fr [] H2 H3 → Rd 1 H3 a2 l2 (strsV x.own) → Q' (.tuple #[.agg #[.string x.name, .string x.sup, .slice a2 l2 c2, .int .i64 x.lay], .int .i64 e]) H3) → callS PP n_kilnref13_Kernel_Info #[.pointer (some ⟨br, 0, none⟩), .int .i64 o] Q' H2) →
      ∃ s5 : ByteArray, ∃ s6 : ByteArray, ∃ a7 : Option Addr, ∃ l7 : Nat, ∃ c7 : Nat, ∃ n8 : Int, ∃ n9 : Int, (Value.tuple #[.agg #[.string x.name, .string x.sup, .slice a1 l1 c1, .int .i64 x.lay], .int .i64 e]) = .tuple #[.agg #[.string s5, .string s6, .slice a7 l7 c7, .int .i64 n8], .int .i64 n9] ∧ Wr (H1.push (.cells #[.string (⟨#[]⟩ : ByteArray), .string (⟨#[]⟩ : ByteArray), .slice none 0 0, .int .i64 0] 121)) (⟨H1.size, 0, none⟩ : Addr) ∧ Wr (setH (H1.push (.cells #[.string (⟨#[]⟩ : ByteArray), .string (⟨#[]⟩ : ByteArray), .slice none 0 0, .int .i64 0] 121)) (⟨H1.size, 0, none⟩ : Addr) (.string s5)) ((⟨H1.size, 0, none⟩ : Addr).add 1) ∧ Wr (setH (setH (H1.push (.cells #[.string (⟨#[]⟩ : ByteArray), .string (⟨#[]⟩ : ByteArray), .slice none 0 0, .int .i64 0] 121)) (⟨H1.size, 0, none⟩ : Addr) (.string s5)) ((⟨H1.size, 0, none⟩ : Addr).add 1) (.string s6)) ((⟨H1.size, 0, none⟩ : Addr).add 2) ∧ Wr (setH (setH (setH (H1.push (.cells #[.string (⟨#[]⟩ : ByteArray), .string (⟨#[]⟩ : ByteArray), .slice none 0 0, .int .i64 0] 121)) (⟨H1.size, 0, none⟩ : Addr) (.string s5)) ((⟨H1.size, 0, none⟩ : Addr).add 1) (.string s6)) ((⟨H1.size, 0, none⟩ : Addr).add 2) (.slice a7 l7 c7)) ((⟨H1.size, 0, none⟩ : Addr).add 3) ∧ callS PP 124 #[.pointer (some ⟨br, 0, none⟩ : Option Addr), .int .i64 o] (fun v10 H2 => ∃ s11 : ByteArray, ∃ s12 : ByteArray, ∃ a13 : Option Addr, ∃ l13 : Nat, ∃ c13 : Nat, ∃ n14 : Int, ∃ n15 : Int, v10 = .tuple #[.agg #[.string s11, .string s12, .slice a13 l13 c13, .int .i64 n14], .int .i64 n15] ∧ Wr (H2.push (.cells #[.string (⟨#[]⟩ : ByteArray), .string (⟨#[]⟩ : ByteArray), .slice none 0 0, .int .i64 0] 121)) (⟨H2.size, 0, none⟩ : Addr) ∧ Wr (setH (H2.push (.cells #[.string (⟨#[]⟩ : ByteArray), .string (⟨#[]⟩ : ByteArray), .slice none 0 0, .int .i64 0] 121)) (⟨H2.size, 0, none⟩ : Addr) (.string s11)) ((⟨H2.size, 0, none⟩ : Addr).add 1) ∧ Wr (setH (setH (H2.push (.cells #[.string (⟨#[]⟩ : ByteArray), .string (⟨#[]⟩ : ByteArray), .slice none 0 0, .int .i64 0] 121)) (⟨H2.size, 0, none⟩ : Addr) (.string s11)) ((⟨H2.size, 0, none⟩ : Addr).add 1) (.string s12)) ((⟨H2.size, 0, none⟩ : Addr).add 2) ∧ Wr (setH (setH (setH (H2.push (.cells #[.string (⟨#[]⟩ : ByteArray), .string (⟨#[]⟩ : ByteArray), .slice none 0 0, .int .i64 0] 121)) (⟨H2.size, 0, none⟩ : Addr) (.string s11)) ((⟨H2.size, 0, none⟩ : Addr).add 1) (.string s12)) ((⟨H2.size, 0, none⟩ : Addr).add 2) (.slice a13 l13 c13)) ((⟨H2.size, 0, none⟩ : Addr).add 3) ∧ callS PP 12 #[.int .i64 n9] (fun v16 H3 => ∃ n17 : Int, v16 = .int .i64 n17 ∧ cond (n17 != n15) (Q (.bool false) H3) (∃ s18 : ByteArray, cellH H3 (⟨H1.size, 0, none⟩ : Addr) = some (.string s18) ∧ ∃ s19 : ByteArray, cellH H3 ((⟨H1.size, 0, none⟩ : Addr).add 1) = some (.string s19) ∧ ∃ a20 : Option Addr, ∃ l20 : Nat, ∃ c20 : Nat, cellH H3 ((⟨H1.size, 0, none⟩ : Addr).add 2) = some (.slice a20 l20 c20) ∧ ∃ n21 : Int, cellH H3 ((⟨H1.size, 0, none⟩ : Addr).add 3) = some (.int .i64 n21) ∧ ∃ s22 : ByteArray, cellH H3 (⟨H2.size, 0, none⟩ : Addr) = some (.string s22) ∧ ∃ s23 : ByteArray, cellH H3 ((⟨H2.size, 0, none⟩ : Addr).add 1) = some (.string s23) ∧ ∃ a24 : Option Addr, ∃ l24 : Nat, ∃ c24 : Nat, cellH H3 ((⟨H2.size, 0, none⟩ : Addr).add 2) = some (.slice a24 l24 c24) ∧ ∃ n25 : Int, cellH H3 ((⟨H2.size, 0, none⟩ : Addr).add 3) = some (.int .i64 n25) ∧ callS PP 100 #[.agg #[.string s18, .string s19, .slice a20 l20 c20, .int .i64 n21], .agg #[.string s22, .string s23, .slice a24 l24 c24, .int .i64 n25]] (fun v26 H4 => ∃ b27 : Bool, v26 = .bool b27 ∧ cond (!b27) (Q (.bool false) H4) (callS PP 188 #[.pointer (some ⟨bp, 0, none⟩ : Option Addr), .int .i64 o] (fun v28 H5 => ∃ n29 : Int, ∃ o0 : Int, v28 = .tuple #[.int .i64 n29, .int .i64 o0] ∧ callS PP 189 #[.pointer (some ⟨br, 0, none⟩ : Option Addr), .int .i64 o] (fun v31 H6 => ∃ o2 : Int, ∃ o3 : Int, v31 = .tuple #[.int .i64 o2, .int .i64 o3] ∧ cond (n29 != o2) (Q (.bool false) H6) (callS PP 12 #[.int .i64 o0] (fun v34 H7 => ∃ o5 : Int, v34 = .int .i64 o5 ∧ cond (o5 != o3) (Q (.bool false) H7) (callS PP 190 #[.pointer (some ⟨bp, 0, none⟩ : Option Addr), .int .i64 o] (fun v36 H8 => ∃ o7 : Int, ∃ o8 : Int, v36 = .tuple #[.int .i64 o7, .int .i64 o8] ∧ callS PP 191 #[.pointer (some ⟨br, 0, none⟩ : Option Addr), .int .i64 o] (fun v39 H9 => ∃ n40 : Int, ∃ n41 : Int, v39 = .tuple #[.int .i64 n40, .int .i64 n41] ∧ cond (o7 != n40) (Q (.bool false) H9) (callS PP 12 #[.int .i64 o8] (fun v42 H10 => ∃ n43 : Int, v42 = .int .i64 n43 ∧ cond (n43 != n41) (Q (.bool false) H10) (callS PP 192 #[.pointer (some ⟨bp, 0, none⟩ : Option Addr), .int .i64 o] (fun v44 H11 => ∃ n45 : Int, ∃ n46 : Int, v44 = .tuple #[.int .i64 n45, .int .i64 n46] ∧ callS PP 193 #[.pointer (some ⟨br, 0, none⟩ : Option Addr), .int .i64 o] (fun v47 H12 => ∃ n48 : Int, ∃ n49 : Int, v47 = .tuple #[.int .i64 n48, .int .i64 n49] ∧ cond (n45 != n48) (Q (.bool false) H12) (callS PP 12 #[.int .i64 n46] (fun v50 H13 => ∃ n51 : Int, v50 = .int .i64 n51 ∧ cond (n51 != n49) (Q (.bool false) H13) (callS PP 101 #[.pointer (some ⟨bp, 0, none⟩ : Option Addr), .int .i64 o] (fun v52 H14 => ∃ a53 : Option Addr, ∃ l53 : Nat, ∃ c53 : Nat, ∃ n54 : Int, v52 = .tuple #[.slice a53 l53 c53, .int .i64 n54] ∧ callS PP 125 #[.pointer (some ⟨br, 0, none⟩ : Option Addr), .int .i64 o] (fun v55 H15 => ∃ a56 : Option Addr, ∃ l56 : Nat, ∃ c56 : Nat, ∃ n57 : Int, v55 = .tuple #[.slice a56 l56 c56, .int .i64 n57] ∧ callS PP 12 #[.int .i64 n54] (fun v58 H16 => ∃ n59 : Int, v58 = .int .i64 n59 ∧ cond (n59 == n57) (callS PP 77 #[.slice a53 l53 c53, .slice a56 l56 c56] (fun v60 H17 => ∃ b61 : Bool, v60 = .bool b61 ∧ cond b61 (callS PP 72 #[.pointer (some ⟨bp, 0, none⟩ : Option Addr), .int .i64 o] (fun v62 H18 => ∃ a63 : Option Addr, ∃ l63 : Nat, ∃ c63 : Nat, v62 = .slice a63 l63 c63 ∧ callS PP 126 #[.pointer (some ⟨br, 0, none⟩ : Option Addr), .int .i64 o] (fun v64 H19 => ∃ a65 : Option Addr, ∃ l65 : Nat, ∃ c65 : Nat, v64 = .slice a65 l65 c65 ∧ callS PP 127 #[.slice a63 l63 c63, .slice a65 l65 c65] (fun v66 H20 => ∃ b67 : Bool, v66 = .bool b67 ∧ Q (.bool b67) H20) H19) H18) H17) (Q (.bool false) H17)) H16) (Q (.bool false) H16)) H15) H14) H13)) H12)) H11) H10)) H9)) H8) H7)) H6)) H5) H4)) H3)) (setH (setH (setH (setH (H2.push (.cells #[.string (⟨#[]⟩ : ByteArray), .string (⟨#[]⟩ : ByteArray), .slice none 0 0, .int .i64 0] 121)) (⟨H2.size, 0, none⟩ : Addr) (.string s11)) ((⟨H2.size, 0, none⟩ : Addr).add 1) (.string s12)) ((⟨H2.size, 0, none⟩ : Addr).add 2) (.slice a13 l13 c13)) ((⟨H2.size, 0, none⟩ : Addr).add 3) (.int .i64 n14))) (setH (setH (setH (setH (H1.push (.cells #[.string (⟨#[]⟩ : ByteArray), .string (⟨#[]⟩ : ByteArray), .slice none 0 0, .int .i64 0] 121)) (⟨H1.size, 0, none⟩ : Addr) (.string s5)) ((⟨H1.size, 0, none⟩ : Addr).add 1) (.string s6)) ((⟨H1.size, 0, none⟩ : Addr).add 2) (.slice a7 l7 c7)) ((⟨H1.size, 0, none⟩ : Addr).add 3) (.int .i64 n8)) := by
    intro x e a1 l1 c1 H1 f1 h1 hl1 hInfo
    have fp := Fr.push [] H1 (.cells #[.string (⟨#[]⟩ : ByteArray), .string (⟨#[]⟩ : ByteArray), .slice none 0 0, .int .i64 0] 121)
    have hB := Blk.new H1 #[.string (⟨#[]⟩ : ByteArray), .string (⟨#[]⟩ : ByteArray), .slice none 0 0, .int .i64 0] 121
    refine ⟨_, _, _, _, _, _, _, rfl, ?_⟩
    generalize (H1.push (.cells #[.string (⟨#[]⟩ : ByteArray), .string (⟨#[]⟩ : ByteArray), .slice none 0 0, .int .i64 0] 121)) = G1 at fp hB ⊢
    obtain ⟨w0, w1, w2, w3, hB1, hf1⟩ := st4 hB (o := 0) (by simp) (.string x.name) (.string x.sup) (.slice a1 l1 c1) (.int .i64 x.lay)
    have F1 := (Up.fresh (f1.trans fp) (F := [H1.size]) (F' := [H1.size]) ⟨hf1, fun _ h => .inl h⟩ (by have := f1.1; simpa using this)).1
    have h1' := (h1.fr' fp (by simp))
    refine ⟨w0, w1, w2, w3, hInfo F1 fun a2 l2 c2 H2 f2 h2 => ?_⟩
    have hL1 : Blk _ H1.size #[.string x.name, .string x.sup, .slice a1 l1 c1, .int .i64 x.lay] := hB1
    have h1b := h1.fr' (Up.fresh fp (F := [H1.size]) (F' := [H1.size]) ⟨hf1, fun _ h => .inl h⟩ (by simp)).1 (by simp)
    have h1c := h1b.fr' f2 (by simp)
    have hL1' := hL1.fr f2 (by simp)
    have F2 := F1.trans f2
    have hs12 : H1.size < H2.size := hL1'.lt
    refine ⟨_, _, _, _, _, _, _, rfl, ?_⟩
    have fp2 := Fr.push [] H2 (.cells #[.string (⟨#[]⟩ : ByteArray), .string (⟨#[]⟩ : ByteArray), .slice none 0 0, .int .i64 0] 121)
    have hB2 := Blk.new H2 #[.string (⟨#[]⟩ : ByteArray), .string (⟨#[]⟩ : ByteArray), .slice none 0 0, .int .i64 0] 121
    generalize (H2.push (.cells #[.string (⟨#[]⟩ : ByteArray), .string (⟨#[]⟩ : ByteArray), .slice none 0 0, .int .i64 0] 121)) = G2 at fp2 hB2 ⊢
    obtain ⟨u0, u1, u2, u3, hB3, hf3⟩ := st4 hB2 (o := 0) (by simp) (.string x.name) (.string x.sup) (.slice a2 l2 c2) (.int .i64 x.lay)
    have F3 := (Up.fresh (F2.trans fp2) (F := [H2.size]) (F' := [H2.size]) ⟨hf3, fun _ h => .inl h⟩ (by have := F2.1; simpa using this)).1
    have hL2 : Blk _ H2.size #[.string x.name, .string x.sup, .slice a2 l2 c2, .int .i64 x.lay] := hB3
    have hL1'' := (hL1'.fr fp2 (by simp)).fr hf3 (by simp; omega)
    have lim : ∀ {a : Option Addr} {l : Nat} {ys : List ByteArray}, Rd 1 H2 a l (strsV ys) → Rd 1 (setH (setH (setH (setH G2 ⟨H2.size, 0, none⟩ (.string x.name)) ⟨H2.size, 0 + 1, none⟩ (.string x.sup)) ⟨H2.size, 0 + 2, none⟩ (.slice a2 l2 c2)) ⟨H2.size, 0 + 3, none⟩ (.int .i64 x.lay)) a l (strsV ys) := by
      intro a l ys hr
      exact hr.fr' (Up.fresh fp2 (F := [H2.size]) (F' := [H2.size]) ⟨hf3, fun _ h => .inl h⟩ (by simp)).1 (by simp)
    refine ⟨u0, u1, u2, u3, num1_c ⟨_, rfl, ?_⟩⟩
    rw [bneI, cond_dec, if_neg (fun hn => hn rfl)]
    refine ⟨_, hL1''.cell 0, _, hL1''.cell 1, _, _, _, hL1''.cell 2, _, hL1''.cell 3, _, hL2.cell 0, _, hL2.cell 1, _, _, _, hL2.cell 2, _, hL2.cell 3, sameInfo_c (lim h1c) (lim h2) (by omega) fun H4 f4 => ⟨_, rfl, ?_⟩⟩
    simp only [Bool.not_true, cond_false]
    have F4 := F3.trans f4
    exact asked2 (hP.nil F4) (hR.nil F4) hv fun H' f' => h H' (F4.trans f')
  cases hp : plK v o with
  | none =>
    refine kinfo_k hP hv (fun i hp' => by rw [hp] at hp'; cases hp') fun _ H1 f1 => ?_
    exact go ⟨⟨#[]⟩, ⟨#[]⟩, [], 0⟩ 130 none 0 0 H1 f1 (Own.nil 1 H1).rd (by decide) fun {H2} F2 {Q'} hq => info_r (hR.nil F2) hv (fun i hp' => by rw [hp] at hp'; cases hp') fun _ H3 f3 => hq none 0 0 H3 f3 (Own.nil 1 H3).rd
  | some i =>
    obtain ⟨hi, _⟩ := plK_some hp
    have hol := infoK_len hv (t := t) hi
    refine kinfo_k hP hv (fun i' hp' a l c G H1 ho f1 hG => ?_) fun hp' => by rw [hp] at hp'; cases hp'
    rw [hp] at hp'; cases hp'
    have hl : l = (infoK v t i).own.length := by have := ho.len; simpa [strsV] using this.symm
    refine go (infoK v t i) 0 a l c H1 f1 ho.rd (by omega) fun {H2} F2 {Q'} hq => info_r (hR.nil F2) hv (fun i' hp' a2 l2 c2 G2 H3 ho2 f3 hG2 => ?_) fun hp' => by rw [hp] at hp'; cases hp'
    rw [hp] at hp'; cases hp'
    exact hq a2 l2 c2 H3 f3 ho2.rd
end
end Go.Proofs.YtmkdkplipbocjaaGreatDoor
set_option maxRecDepth 100000
set_option maxHeartbeats 4000000
namespace Go.Proofs.YtmkdkplipbocjaaGreatDoor
open Kw
section
variable {H : Heap} {bp br : Nat} {Fp Fq : Foot} {s : SP} {t : TB} {v : KV} {Q : Value → Heap → Prop}
theorem seen_c (hP : PK H bp Fp s t) (hR : RK H br Fq s t) (hv : KAll s t v) (h : ∀ H', Fr [] H H' → Q (.bool true) H') : callS PP n_kilnlaw13_seen #[.pointer (some ⟨bp, 0, none⟩), .pointer (some ⟨br, 0, none⟩)] Q H := by
  have hm1 := hv.ks.shape.many1
  have hg := hv.ks.shape.globs
  have hw1 := hv.names.wf.m1
  have hw2 := hv.names.wf.len
  apply kilnlaw13_seen_ok
  unfold kilnlaw13_seen
  refine all_r hR hv.ks fun al ll cl Gl H1 hol f1 hGl => ⟨_, _, _, rfl, ?_⟩
  have hll : ll = v.cls.length := by have := hol.len; simpa [intsV, oopsK] using this.symm
  refine count_k (hP.nil f1) hv fun H2 f2 => ⟨_, rfl, trivial, ?_⟩
  have F2 := f1.trans f2
  rw [bneI, cond_dec, if_neg (by omega)]
  refine globals_k (hP.nil F2) hv fun ag lg cg Gg H3 hog f3 hGg => ⟨_, _, _, rfl, trivial, ?_⟩
  have F3 := F2.trans f3
  have hlg : lg = v.glob.length := by have := hog.len; simpa [strsV, globsK] using this.symm
  refine globals_r (hR.nil F3) hv fun ag2 lg2 cg2 Gg2 H4 hog2 f4 hGg2 => ⟨_, _, _, rfl, trivial, ?_⟩
  have F4 := F3.trans f4
  refine same_c (hog.fr f4 (by simp)).rd hog2.rd (by omega) ⟨_, rfl, trivial, ?_⟩
  rw [decide_eq_true rfl]
  simp only [Bool.not_true, cond_false]
  obtain ⟨tb, Ft, hct, hT, _⟩ := (hR.nil F4).tb
  refine ⟨_, rfl, _, hct, ksymbols_k (hP.nil F4) fun tbp Ftp hctp hTp => ⟨_, rfl, ⟨⟨hct, trivial⟩, trivial⟩, ptAll_c hTp fun aS ls cs Gs H5 hos f5 hGs => ⟨_, _, _, rfl, ⟨⟨(cell_fr f5 (by simp) (cell_lt hct)).trans hct, trivial⟩, trivial⟩, ?_⟩⟩⟩
  have F5 := F4.trans f5
  have hls : ls = t.texts.length := by have := hos.len; simpa [strsV] using this.symm
  refine tall_c (hT.fr f5 (Disj.nil_right _)) fun aS2 ls2 cs2 Gs2 H6 hos2 f6 hGs2 => ⟨_, _, _, rfl, trivial, ?_⟩
  have F6 := F5.trans f6
  refine same_c (hos.fr f6 (by simp)).rd hos2.rd (by omega) ⟨_, rfl, trivial, ?_⟩
  rw [decide_eq_true rfl]
  simp only [Bool.not_true, cond_false]
  obtain ⟨sb, hb, Fh, hcs, hch, hRR, _⟩ := (hR.nil F6).hp
  refine ⟨_, rfl, _, hcs, _, rfl, _, hch, kspace_k (hP.nil F6) fun sbp Fsp hcsp hSp _ _ _ => ⟨_, rfl, ⟨⟨hch, trivial⟩, ⟨hcs, trivial⟩, trivial⟩, psHeap_c hSp fun hbp Fhp hRp _ _ => ⟨_, rfl, ⟨⟨hch, trivial⟩, ⟨hcs, trivial⟩, trivial⟩, hmarked_c hRp ⟨_, rfl, ⟨⟨hch, trivial⟩, ⟨hcs, trivial⟩, trivial⟩, rmarked_c hRR ⟨_, rfl, trivial, ?_⟩⟩⟩⟩⟩
  rw [bneI, cond_dec, if_neg (fun hn => hn rfl)]
  refine kspace_k (hP.nil F6) fun sbp Fsp hcsp hSp _ _ _ => ⟨_, rfl, trivial, psKept_c hSp fun ak ck H7 _ f7 => ⟨_, _, _, rfl, trivial, ?_⟩⟩
  have F7 := F6.trans f7
  have hst : s.stack.length = 0 := by rw [hv.stack]; rfl
  rw [bneI, cond_dec, if_neg (by omega)]
  refine ⟨fun w H' => ∃ i : Nat, w = [.int .i64 i] ∧ i ≤ ll ∧ Fr [] H7 H', fun w _ => match w with
    | [.int _ i] => (ll - i).toNat
    | _ => 0, ⟨0, rfl, Nat.zero_le _, Fr.refl _ _⟩, ?_⟩
  rintro w H8 ⟨i, rfl, hi, f8⟩ _
  have F8 := F7.trans f8
  refine ⟨_, rfl, ?_⟩
  rw [cond_dec]
  refine ite_i (fun hlt => ?_) fun hlt => ?_
  · have hlt' : i < v.cls.length := by omega
    have e : IntKind.wrap .i64 ((i : Int) + 1) = ((i + 1 : Nat) : Int) := by rw [wrap64_id (by omega) (by omega)]; omega
    have f18 : Fr [] H1 H8 := ((((((f2.trans f3).trans f4).trans f5).trans f6).trans f7).trans f8)
    obtain ⟨p, rfl, hcell⟩ := rd_oops hol f18 hlt'
    refine ⟨⟨by omega, hlt⟩, _, rfl, _, by rw [Int.toNat_natCast]; exact hcell, asked_c (hP.nil F8) (hR.nil F8) hv fun H9 f9 => ⟨_, rfl, ?_⟩⟩
    simp only [Bool.not_true, cond_false]
    rw [e]
    exact ⟨⟨i + 1, rfl, by omega, f8.trans f9⟩, by simp; omega⟩
  · refine kspace_k (hP.nil F8) fun sbp Fsp hcsp hSp _ _ _ => ⟨_, rfl, psRoom_c hSp fun H9 f9 => ⟨_, _, rfl, ?_⟩⟩
    have F9 := F8.trans f9
    obtain ⟨sb2, Fs2, hc2, hS2, _⟩ := (hR.nil F9).sp
    refine ⟨_, rfl, _, hc2, rsRoom_c hS2 fun H10 f10 => ⟨_, _, rfl, ?_⟩⟩
    rw [beqI, cond_dec, if_pos rfl, beqI, decide_eq_true rfl]
    exact h _ (F9.trans f10)
end
end Go.Proofs.YtmkdkplipbocjaaGreatDoor
set_option maxRecDepth 100000
set_option maxHeartbeats 4000000
namespace Go.Proofs.YtmkdkplipbocjaaGreatDoor
open Kw
section
variable {H : Heap} {Q : Value → Heap → Prop}
theorem none_c (h : ∀ H', Fr [] H H' → Q (.bool true) H') : callS PP n_kilnlaw13_none #[] Q H := by
  apply kilnlaw13_none_ok
  unfold kilnlaw13_none
  refine kfind_nil ⟨_, _, rfl, kdefine_nil ⟨_, _, rfl, kinfo_nil fun H3 f3 => ⟨_, _, _, _, _, _, _, rfl, ?_⟩⟩⟩
  have fp := Fr.push [] H3 (.cells #[.string (⟨#[]⟩ : ByteArray), .string (⟨#[]⟩ : ByteArray), .slice none 0 0, .int .i64 0] 121)
  have hB := Blk.new H3 #[.string (⟨#[]⟩ : ByteArray), .string (⟨#[]⟩ : ByteArray), .slice none 0 0, .int .i64 0] 121
  generalize (H3.push (.cells #[.string (⟨#[]⟩ : ByteArray), .string (⟨#[]⟩ : ByteArray), .slice none 0 0, .int .i64 0] 121)) = G at fp hB ⊢
  obtain ⟨w0, w1, w2, w3, hB1, hf1⟩ := st4 hB (o := 0) (by simp) (.string ⟨#[]⟩) (.string ⟨#[]⟩) (.slice none 0 0) (.int .i64 0)
  have F1 := (Up.fresh (f3.trans fp) (F := [H3.size]) (F' := [H3.size]) ⟨hf1, fun _ h => .inl h⟩ (by have := f3.1; simpa using this)).1
  refine ⟨w0, w1, w2, w3, value_nil ⟨_, _, rfl, over_nil ⟨_, _, rfl, kglobal_nil ⟨_, rfl, setValue_nil ⟨_, rfl, ?_⟩⟩⟩⟩⟩
  rw [add_none, add_none, add_none]
  show ∃ (I23 : List Value → Heap → Prop) (μ23 : List Value → Heap → Nat), I23 [.int .i64 0] ((setH (setH (setH (setH G ⟨H3.size, 0, none⟩ (.string ⟨#[]⟩)) ⟨H3.size, 0 + 1, none⟩ (.string ⟨#[]⟩)) ⟨H3.size, 0 + 2, none⟩ (.slice none 0 0)) ⟨H3.size, 0 + 3, none⟩ (.int .i64 0)).push (.cells (intsV [2, 2, 2, 2, 2, 2, 2]).toArray 23)) ∧ _
  generalize (setH (setH (setH (setH G ⟨H3.size, 0, none⟩ (.string ⟨#[]⟩)) ⟨H3.size, 0 + 1, none⟩ (.string ⟨#[]⟩)) ⟨H3.size, 0 + 2, none⟩ (.slice none 0 0)) ⟨H3.size, 0 + 3, none⟩ (.int .i64 0)) = G1 at hB1 hf1 F1 ⊢
  have fq := Fr.push [] G1 (.cells (intsV [2, 2, 2, 2, 2, 2, 2]).toArray 23)
  have hr : Rd 1 (G1.push (.cells (intsV [2, 2, 2, 2, 2, 2, 2]).toArray 23)) (some ⟨G1.size, 0, none⟩) 7 (intsV [2, 2, 2, 2, 2, 2, 2]) := rd_new (cs := [2, 2, 2, 2, 2, 2, 2])
  have hB2 := hB1.fr fq (by simp)
  generalize (G1.push (.cells (intsV [2, 2, 2, 2, 2, 2, 2]).toArray 23)) = G2 at fq hr hB2 ⊢
  have F2 := F1.trans fq
  refine ⟨fun w H' => H' = G2 ∧ ∃ i : Nat, w = [.int .i64 i] ∧ i ≤ 7, fun w _ => match w with
    | [.int _ i] => (7 - i).toNat
    | _ => 0, ⟨rfl, 0, rfl, by decide⟩, ?_⟩
  rintro w H8 ⟨rfl, i, rfl, hi⟩ _
  refine ⟨_, rfl, ?_⟩
  rw [cond_dec]
  refine ite_i (fun hlt => ?_) fun hlt => ?_
  · obtain ⟨p, hp, hcell, hlt3⟩ := hr.int (i := (i : Int)) (by omega) (by omega)
    cases hp
    rw [Int.toNat_natCast] at hcell hlt3
    have hx : ([2, 2, 2, 2, 2, 2, 2] : List Int).getD i 0 = 2 := by
      rcases i with _ | _ | _ | _ | _ | _ | _ | i
      all_goals first | rfl | omega
    rw [hx] at hcell
    have e : IntKind.wrap .i64 ((i : Int) + 1) = ((i + 1 : Nat) : Int) := by rw [wrap64_id (by omega) (by omega)]; omega
    refine ⟨⟨by omega, hlt⟩, _, rfl, _, by rw [Int.toNat_natCast, Nat.mul_one]; exact hcell, num1_c ⟨_, rfl, ?_⟩⟩
    rw [bneI, cond_dec, if_neg (fun hn => hn rfl), e]
    exact ⟨⟨rfl, i + 1, rfl, by omega⟩, by simp; omega⟩
  · rw [beqI, cond_dec, if_pos rfl, cond_dec, if_pos rfl]
    refine ⟨_, hB2.cell 0, ?_⟩
    rw [strEq_dec, cond_dec, if_pos rfl, cond_dec, if_pos rfl]
    simp only [Option.isNone_none, cond_true]
    refine count_nil ⟨_, rfl, ?_⟩
    rw [beqI, cond_dec, if_pos rfl]
    refine globals_nil ⟨_, _, _, rfl, ?_⟩
    rw [beqI, cond_dec, if_pos (by decide)]
    refine under_nil fun H9 f9 => ⟨_, _, _, rfl, ?_⟩
    rw [beqI, cond_dec, if_pos (by decide)]
    refine kspace_nil ⟨_, rfl, ?_⟩
    simp only [Option.isNone_none, cond_true]
    exact ksymbols_nil ⟨_, rfl, h _ (F2.trans f9)⟩
end
end Go.Proofs.YtmkdkplipbocjaaGreatDoor
set_option maxRecDepth 100000
namespace Kw
open Go
structure Tight (W O : Int) (r : RH) : Prop where
  words : r.words = W
  oops : r.oops = O
  cls : ∀ x ∈ r.objs, ∃ c : Int, 4 ≤ c ∧ c ≤ 17 ∧ x.cls = 4 * c
structure Tame (v : KV) : Prop where
  rest : v.rest = [72, 72, 4, 8, 12, 4]
  glob : ∀ p ∈ v.glob, p.2 = 4
  cls : ∀ c ∈ v.cls, c.selA = 18 ∧ c.metA = 18 ∧ c.sels = [] ∧ c.mets = []
def KV.roles2 (v : KV) : List Role := (2, []) :: (3, []) :: v.roles
/-- All that a kernel of such a view holds. -/
structure K2 (W O : Int) (s : SP) (t : TB) (v : KV) : Prop where
  all : KAll s t v
  tame : Tame v
  tight : Tight W O s.h
  o2 : Arr s.h 2 []
  o3 : Arr s.h 3 []
theorem K2.view {W O : Int} {s : SP} {t : TB} {v : KV} (h : K2 W O s t v) : ∀ p ∈ v.roles2, Arr s.h p.1 p.2 := fun p hp => by
  simp only [KV.roles2, List.mem_cons] at hp
  rcases hp with rfl | rfl | hp
  · exact h.o2
  · exact h.o3
  · exact h.all.ks.view p hp
theorem role_reach {W O : Int} {s : SP} {t : TB} {v : KV} (h : K2 W O s t v) {p : Role} (hp : p ∈ v.roles2) : Reaches s.h s.roots p.1 := by
  have hr := h.all.ks.reach
  have hroot := hr (19, v.rootW) (by simp [KV.roles])
  simp only [KV.roles2, List.mem_cons] at hp
  rcases hp with rfl | rfl | hp
  · exact hroot.arr h.all.ks.view.root (by decide) (by decide) h.o2.there (by simp [KV.rootW, h.tame.rest])
  · exact hroot.arr h.all.ks.view.root (by decide) (by decide) h.o3.there (by simp [KV.rootW, h.tame.rest])
  · exact hr p hp
theorem K2.both {W O : Int} {s : SP} {t : TB} {v : KV} (h : K2 W O s t v) {r' : RH} (hk : KeepsB s.h r' fun k => Reaches s.h s.roots k ∧ k ≠ 19) : Arr r' 2 [] ∧ Arr r' 3 [] :=
  ⟨h.o2.keep hk ⟨role_reach h (p := (2, [])) (by simp [KV.roles2]), by decide⟩, h.o3.keep hk ⟨role_reach h (p := (3, [])) (by simp [KV.roles2]), by decide⟩⟩
attribute [local irreducible] bootRH
end Kw
set_option maxRecDepth 100000
set_option maxHeartbeats 4000000
namespace Go.Proofs.YtmkdkplipbocjaaGreatDoor
open Kw
attribute [local irreducible] bootRH bootH bootL
section
variable {H : Heap} {Q : Value → Heap → Prop}
theorem boot160 : ((bootR0 160 20).allocAll bootPlan).1 = 0 := by kernel_rfl
/-- A kernel is booted in a room that has enough. -/
theorem sound_c (hk : Kinds H) {Q : Value → Heap → Prop} (h : ∀ b F H', PK H' b F (bootS 160 20) bootT → Fr [] H H' → (∀ x ∈ F, H.size ≤ x) → Q (.tuple #[.pointer (some ⟨b, 0, none⟩), .int .i64 0]) H') : callS PP n_class_Boot #[.int .i64 160, .int .i64 20] Q H :=
  kboot_k hk (fun hb => absurd ⟨by decide, by decide, by decide, by decide⟩ hb) (fun _ he => absurd boot160 he) fun _ _ => h
theorem classBoots_c {words oops : Int} (hk : Kinds H) (hN : NamesAt H) (h : ∀ H', Fr [] H H' → Q (.bool true) H') : callS PP n_kilnlaw13_ClassBoots #[.int .i64 words, .int .i64 oops] Q H := by
  apply kilnlaw13_ClassBoots_ok
  unfold kilnlaw13_ClassBoots
  -- the end, when no kernel is
  have nok : ∀ (H3 : Heap), Fr [] H H3 → callS PP n_class_Boot #[.int .i64 160, .int .i64 20] (fun v11 H4 => ∃ p12 : Option Addr, ∃ n13 : Int, v11 = .tuple #[.pointer p12, .int .i64 n13] ∧ cond (!(Option.isNone p12)) (callS PP n_kilnlaw13_num #[.int .i64 n13] (fun v14 H5 => ∃ n15 : Int, v14 = .int .i64 n15 ∧ cond (n15 == 0) (callS PP n_kilnlaw13_none #[] (fun v16 H6 => ∃ b17 : Bool, v16 = .bool b17 ∧ Q (.bool b17) H6) H5) (Q (.bool false) H5)) H4) (Q (.bool false) H4)) H3 := by
    intro H3 F3
    refine sound_c (hk.fr F3 (by simp)) fun b F H4 _ f4 _ => ⟨_, _, rfl, ?_⟩
    simp only [Option.isNone_some, Bool.not_false, cond_true]
    refine num1_c ⟨_, rfl, ?_⟩
    rw [beqI, cond_dec, if_pos rfl]
    exact none_c fun H5 f5 => ⟨_, rfl, h _ ((F3.trans f4).trans f5)⟩
  have bad : ∀ (e : Int) (H2 : Heap), Fr [] H H2 → (∀ {Q' : Value → Heap → Prop} (_ : ∀ H3, Fr [] H2 H3 → Q' (.tuple #[.pointer none, .int .i64 e]) H3), callS PP n_kilnref13_Boot #[.int .i64 words, .int .i64 oops] Q' H2) →
      callS PP 11 #[.int .i64 words, .int .i64 oops] (fun v6 H2 => ∃ p7 : Option Addr, ∃ n8 : Int, v6 = .tuple #[.pointer p7, .int .i64 n8] ∧ callS PP 12 #[.int .i64 e] (fun v9 H3 => ∃ words0 : Int, v9 = .int .i64 words0 ∧ cond (words0 != n8) (Q (.bool false) H3) (cond (!((Option.isNone (none : Option Addr)) == (Option.isNone p7))) (Q (.bool false) H3) (cond (Option.isNone (none : Option Addr)) (callS PP 10 #[.int .i64 160, .int .i64 20] (fun v11 H4 => ∃ p12 : Option Addr, ∃ words3 : Int, v11 = .tuple #[.pointer p12, .int .i64 words3] ∧ cond (!(Option.isNone p12)) (callS PP 12 #[.int .i64 words3] (fun v14 H5 => ∃ words5 : Int, v14 = .int .i64 words5 ∧ cond (words5 == 0) (callS PP 13 #[] (fun v16 H6 => ∃ b17 : Bool, v16 = .bool b17 ∧ Q (.bool b17) H6) H5) (Q (.bool false) H5)) H4) (Q (.bool false) H4)) H3) (callS PP 14 #[.pointer (none : Option Addr), .int .i64 14] (fun v18 H7 => ∃ words9 : Int, ∃ oops0 : Int, v18 = .tuple #[.int .i64 words9, .int .i64 oops0] ∧ callS PP 15 #[.pointer (none : Option Addr), .pointer p7] (fun v21 H8 => ∃ b22 : Bool, v21 = .bool b22 ∧ cond b22 (cond (words9 == 17) (callS PP 12 #[.int .i64 oops0] (fun v23 H9 => ∃ oops4 : Int, v23 = .int .i64 oops4 ∧ cond (oops4 == 0) (callS PP 13 #[] (fun v25 H20 => ∃ b26 : Bool, v25 = .bool b26 ∧ Q (.bool b26) H20) H9) (Q (.bool false) H9)) H8) (Q (.bool false) H8)) (Q (.bool false) H8)) H7) H3)))) H2) H2 := by
    intro e H2 F2 hR
    refine hR fun H3 f3 => ⟨_, _, rfl, num1_c ⟨_, rfl, ?_⟩⟩
    rw [bneI, cond_dec, if_neg (fun hn => hn rfl)]
    simp only [Option.isNone_none, beq_self_eq_true, Bool.not_true, cond_false, cond_true]
    exact nok H3 (F2.trans f3)
  refine kboot_k hk (fun hb => ?_) (fun hg he H1 f1 => ?_) fun hg hz b F H1 hP f1 hF => ?_
  · refine ⟨_, _, rfl, bad 1 H (Fr.refl _ _) fun {Q'} hq => boot_r hN (fun _ => hq H (Fr.refl _ _)) (fun hg => absurd hg hb) fun hg => absurd hg hb⟩
  · refine ⟨_, _, rfl, bad _ H1 f1 fun {Q'} hq => boot_r (hN.fr f1 (by simp)) (fun hb => absurd hg hb) (fun _ _ H3 f3 => hq H3 f3) fun _ hz => absurd hz he⟩
  · refine ⟨_, _, rfl, boot_r (hN.fr f1 (by simp)) (fun hb => absurd hg hb) (fun _ he => absurd hz he) fun _ _ b2 F2 H2 hR f2 hF2 => ⟨_, _, rfl, num1_c ⟨_, rfl, ?_⟩⟩⟩
    rw [bneI, cond_dec, if_neg (fun hn => hn rfl)]
    simp only [Option.isNone_some, beq_self_eq_true, Bool.not_true, cond_false]
    have hv := boot_ok hg.1 hg.2.1 hg.2.2.1 hg.2.2.2 hz
    have F12 := f1.trans f2
    refine numbered_k (hP.nil f2) hv fun H3 f3 => ⟨_, _, rfl, ?_⟩
    have e14 : numberedK bootV 14 = (17, 0) := by kernel_rfl
    rw [e14]
    refine seen_c ((hP.nil f2).nil f3) (hR.nil f3) hv fun H4 f4 => ⟨_, rfl, ?_⟩
    simp only [cond_true]
    rw [beqI, cond_dec, if_pos rfl]
    refine num1_c ⟨_, rfl, ?_⟩
    rw [beqI, cond_dec, if_pos rfl]
    exact none_c fun H5 f5 => ⟨_, rfl, h _ (((F12.trans f3).trans f4).trans f5)⟩
end
end Go.Proofs.YtmkdkplipbocjaaGreatDoor
namespace Kw
open Go
theorem keptBut_of {W W' : World} {may : MemPlace → Prop} (hf : Fr [] W.heap W'.heap) (ho : W'.os = W.os) (hout : W'.output = W.output) : W.keptBut W' may := by
  refine ⟨ho, hout, fun i hi => ?_⟩
  rw [hf.2 i hi (by simp)]
  cases h : W.heap[i]? with
  | none => trivial
  | some o => cases o <;> first | exact ⟨rfl, rfl, rfl, fun _ _ => rfl⟩ | exact .inr ⟨rfl, rfl⟩ | rfl
theorem post_law {H : Type} {enc : TypeId × Value → H} {P : Program} {f : Func} {s : ChangeSpec} {apart fresh handsOn : Bool} {W W' : World} {args : Array Value} {v : Value} {ds gs : List (DataW H)} {before pa pv : List MemPlace}
    (hW : DataW.Whole enc P f.params.toList s.vars apart W args.toList ds gs before)
    (hres : ∀ (b : Nat) (sp : Nat → Bool) (hd : Bool), DataW.TrodAll enc P W' b sp hd f.resultTypes.toList (v.resultList f.resultTypes.size) (s.fn H (ds ++ gs)).results [])
    (hargs : ∀ sp : Nat → Bool, (∀ p ∈ before, sp p.block = true) → DataW.TrodAll enc P W' 0 sp true f.params.toList args.toList (s.fn H (ds ++ gs)).args pa)
    (hvars : ∀ sp : Nat → Bool, (∀ p ∈ before, sp p.block = true) → DataW.TrodVars enc P W' sp s.vars (s.fn H (ds ++ gs)).vars pv)
    (hf : Fr [] W.heap W'.heap) (ho : W'.os = W.os) (hout : W'.output = W.output) : s.post enc P f apart fresh handsOn false W args v W' :=
  ⟨ds, gs, before, [], pa, pv, hW, hres _ _ _, hargs _ (fun p hp => by simpa using hW.lt p hp), hvars _ (fun p hp => by simpa using hW.lt p hp), keptBut_of hf ho hout, fun h => by cases h⟩
end Kw
set_option maxRecDepth 100000
namespace Go.Proofs.YtmkdkplipbocjaaGreatDoor
open Kw
theorem ownK : ownKnob Tryz.prog.godebug = none := by kernel_rfl
theorem gNames : Tryz.prog.globalNamed "kiln/kilnref13.Names" = some g_kilnref13_Names := by kernel_rfl
theorem gKinds : Tryz.prog.globalNamed "kiln/word.kinds" = some g_word_kinds := by kernel_rfl
theorem gNamesT : (Tryz.prog.globals[g_kilnref13_Names]?).map (·.type) = some 115 := by kernel_rfl
theorem gKindsT : (Tryz.prog.globals[g_word_kinds]?).map (·.type) = some 284 := by kernel_rfl
theorem uNames : Tryz.prog.underlying 115 = some (.array 14 9) := by kernel_rfl
theorem uKinds : Tryz.prog.underlying 284 = some (.array 4 3) := by kernel_rfl
theorem uInt : Tryz.prog.underlying 3 = some (.int .i64) := by kernel_rfl
theorem uStr : Tryz.prog.underlying 9 = some .string := by kernel_rfl
theorem cInt : Tryz.prog.cellsOf 3 = 1 := by kernel_rfl
theorem cStr : Tryz.prog.cellsOf 9 = 1 := by kernel_rfl
theorem cell_var {W : World} {n : String} {g : Nat} {cs : Array Value} {i : Nat} {v : Value} (hg : PP.globalNamed n = some g) (hv : W.var? PP n = some cs) (h : cs[i]? = some v) : cellH W.heap ⟨g, i, none⟩ = some v := by
  have := World.var?_cell hg hv i
  rw [h] at this
  exact this
open Go.Lib in
theorem names_of_laid {W : World} (h : laidMet PP Rows.classBootsRow.laid W) : NamesAt W.heap := by
  obtain ⟨g, t, cs, fuel, p, hg, ht, hv, hd⟩ := laidMet.reads h (n := "kiln/kilnref13.Names") (d := Rows.laid_kiln_kilnref13_Names) (by simp [Rows.classBootsRow])
  obtain rfl := Option.some.inj (gNames.symm.trans hg)
  obtain rfl := Option.some.inj (gNamesT.symm.trans ht)
  intro i hi
  have h14 : i < 14 := hi
  obtain ⟨fuel', d, q, he, hd'⟩ := array_elem uNames hd i h14
  rw [cStr, Nat.mul_one] at hd'
  obtain ⟨s, hcs, hx, _⟩ := DataW.trod_string uStr hd'
  obtain ⟨hdx, _⟩ := Prod.mk.inj hx
  have hc : cs.toList[i]? = some (.string s) := by
    have := congrArg (·[0]?) hcs
    simpa [List.getElem?_take, List.getElem?_drop] using this
  have hs : s = kNames[i] := by
    have e : some d = some (.lit (.string (kNames[i]).data.toList) : DataW Unit) := by
      rw [← he]
      rcases i with _ | _ | _ | _ | _ | _ | _ | _ | _ | _ | _ | _ | _ | _ | i
      all_goals first | rfl | omega
    rw [hdx] at e
    have e2 : s.data.toList = (kNames[i]).data.toList := by simpa using e
    cases s with
    | mk sd =>
      have e3 : sd = (kNames[i]).data := Array.ext' e2
      rw [e3]
  have hf := cell_var gNames hv (i := i) (v := .string s) (by rw [← hc]; simp)
  rw [hs] at hf
  exact hf
open Go.Lib in
theorem kinds_of_laid {W : World} (h : laidMet PP Rows.classBootsRow.laid W) : Kinds W.heap := by
  obtain ⟨g, t, cs, fuel, p, hg, ht, hv, hd⟩ := laidMet.reads h (n := "kiln/word.kinds") (d := Rows.laid_kiln_word_kinds) (by simp [Rows.classBootsRow])
  obtain rfl := Option.some.inj (gKinds.symm.trans hg)
  obtain rfl := Option.some.inj (gKindsT.symm.trans ht)
  have one : ∀ i (k : Int), i < 4 → ([3, 1, 2, 1] : List Int)[i]? = some k → cellH W.heap ⟨g_word_kinds, i, none⟩ = some (.int .i64 k) := by
    intro i k hi hk
    obtain ⟨fuel', d, q, he, hd'⟩ := array_elem uKinds hd i hi
    rw [cInt, Nat.mul_one] at hd'
    obtain ⟨n, hcs, hx, _⟩ := DataW.trod_int uInt hd'
    obtain ⟨hdx, _⟩ := Prod.mk.inj hx
    have hc : cs.toList[i]? = some (.int .i64 n) := by
      have := congrArg (·[0]?) hcs
      simpa [List.getElem?_take, List.getElem?_drop] using this
    have hs : n = k := by
      have e : some d = some (.lit (.int .i64 k) : DataW Unit) := by
        rw [← he]
        rcases i with _ | _ | _ | _ | i
        all_goals first | omega | (cases hk; rfl)
      rw [hdx] at e
      simpa using e
    have hf := cell_var gKinds hv (i := i) (v := .int .i64 n) (by rw [← hc]; simp)
    rw [hs] at hf
    exact hf
  exact ⟨one 0 3 (by decide) rfl, one 1 1 (by decide) rfl, one 2 2 (by decide) rfl, one 3 1 (by decide) rfl⟩
end Go.Proofs.YtmkdkplipbocjaaGreatDoor
