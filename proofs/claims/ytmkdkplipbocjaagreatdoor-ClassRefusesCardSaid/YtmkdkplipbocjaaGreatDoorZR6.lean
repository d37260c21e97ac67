/- Lemmas for RRefuses: functions of the program as predicate transformers, and their contracts. -/
import Derived.Test.YtmkdkplipbocjaaGreatDoorZR5
set_option linter.all false
set_option maxRecDepth 100000
set_option maxHeartbeats 4000000
namespace Go.Proofs.YtmkdkplipbocjaaGreatDoor
open Kw
attribute [local irreducible] bootRH bootH bootL
def PGo (W O : Int) (H0 H : Heap) (b : Nat) : Prop := ∃ F s t v, PK H b F s t ∧ K2 W O s t v ∧ (∀ x ∈ F, H0.size ≤ x) ∧ Fr [] H0 H
noncomputable def aggB (s : SP) (v : KV) (a1 : Option Addr) (l1 c1 : Nat) (a2 : Option Addr) (l2 c2 : Nat) (a3 : Option Addr) (l3 c3 : Nat) : Array Value :=
 #[.int .i64 s.room.1, .int .i64 s.room.2, .int .i64 (v.cls.length : Int), .int .i64 s.h.mark, .slice a1 l1 c1, .slice a2 l2 c2, .slice a3 l3 c3]
inductive Did (W O : Int) (s : SP) (t : TB) (v : KV) (x : StepV) (s' : SP) (t' : TB) : Int → Int → Prop
 | bad {f : Int} (h : f ≠ 0) (hk : K2 W O s' t' v) (ht : t' = t) (h1 : f ≠ 24 → s'.h.mark = s.h.mark) (h2 : f = 24 → s'.h.mark = 0) (hkd : x.kind = 1 ∨ x.kind = 2) : Did W O s t v x s' t' 0 f
 | cls {o : Int} {j : Nat} {hj : j < v.cls.length} {n : Nat} {ns : List Nat} {l0 d : Int} (hkd : x.kind = 1) (hf : findK v t x.other = ((v.cls[j]).oop, 0)) (hk : K2 W O s' t' (v.addC ⟨o, n, (v.cls[j]).oop, ns, l0, 18, 18, [], [], 0⟩ d)) (hp : ∃ m, t'.texts = t.texts ++ m) (hns : ns.map (tx t') = x.names) : Did W O s t v x s' t' o 0
 | glob {n : Nat} {d : Int} (hkd : x.kind = 2) (hk : K2 W O s' t' (v.addG n d)) (hp : ∃ m, t'.texts = t.texts ++ m) (hn : tx t' n = x.name) : Did W O s t v x s' t' 0 0
section
variable {H : Heap} {Q : QT}
theorem condP {a b : Int} {A B : Prop} (he : a ≠ b) (h : A) : cond (a != b) A B := by
 rw [bneI, cond_dec, if_pos he]; exact h
theorem bef_is {W O : Int} {s s' : SP} {t t' : TB} {v : KV} (h1 : K2 W O s t v) (h2 : K2 W O s' t' v) (ht : t' = t) {lo lo2 : Nat} {a1 : Option Addr} {l1 c1 : Nat} {a2 : Option Addr} {l2 c2 : Nat} {a3 : Option Addr} {l3 c3 : Nat} {e1 : Option Addr} {m1 d1 : Nat} {e2 : Option Addr} {m2 d2 : Nat} {e3 : Option Addr} {m3 d3 : Nat}
   (g1 : Bef H lo t v a1 l1 a2 l2 a3 l3 c3) (g2 : Bef H lo2 t' v e1 m1 e2 m2 e3 m3 d3) {bm : Bool} (hb : bm = true ∨ s.h.mark = s'.h.mark) (h : ∀ H', Fr [] H H' → Q (.bool true) H') :
   callS PP n_k22 #[.agg (aggB s v a1 l1 c1 a2 l2 c2 a3 l3 c3), .agg (aggB s' v e1 m1 d1 e2 m2 d2 e3 m3 d3), .bool bm] Q H := by
 subst ht
 unfold aggB
 rw [room_same h1 h2]
 have hw := h1.all.names.wf
 have hw1 := hw.m1
 have hw2 := hw.len
 exact before_is_c h1.all.ks.shape.many1 h1.all.ks.shape.globs (by omega) (fun i hi => infoK_len h1.all hi) g1 g2 hb h
theorem pgo_nil {W O : Int} {H0 H1 : Heap} {b : Nat} {F : Foot} {s : SP} {t : TB} {v : KV} (hP : PK H b F s t) (hk : K2 W O s t v) (hF : ∀ x ∈ F, H0.size ≤ x) (h0 : Fr [] H0 H) (hf : Fr [] H H1) : PGo W O H0 H1 b := ⟨F, s, t, v, hP.nil hf, hk, hF, h0.trans hf⟩
theorem up_fresh {H0 H1 : Heap} {F F' : Foot} (h0 : Fr [] H0 H) (hF : ∀ x ∈ F, H0.size ≤ x) (hu : Up F H F' H1) : Fr [] H0 H1 ∧ ∀ x ∈ F', H0.size ≤ x := by
 refine ⟨⟨Nat.le_trans h0.1 hu.1.1, fun y hy _ => by rw [hu.1.2 y (Nat.lt_of_lt_of_le hy h0.1) (fun hm => by have := hF y hm; omega), h0.2 y hy (by simp)]⟩, fun x hx => ?_⟩
 rcases hu.2 x hx with h6 | h6
 · exact hF x h6
 · have := h0.1; omega
theorem classRefuses_c {words oops : Int} {a : Option Addr} {l c : Nat} {xs : List StepV} (hk : Kinds H) (hN : NamesAt H) (hs : StepsAt H a l xs) (hl : l ≤ 10000000000000) (h : ∀ H', Fr [] H H' → Q (.bool true) H') :
   callS PP n_k4 #[.int .i64 words, .int .i64 oops, .slice a l c] Q H := by
 apply k4_ok
 unfold k4 A0 iV wW pV sV lV cS; dsimp only [shH]
 have hxl := hs.1
 have bad : ∀ (e : Int) (H1 : Heap), Fr [] H H1 → e ≠ 0 → cond (Option.isNone (none : Option Addr)) (cond (Option.isNone (none : Option Addr)) (callS PP n_k12 #[.int .i64 e] (fun v7 H2 => ∃ n8 : Int, v7 = .int .i64 n8 ∧ cond (n8 != 0) (callS PP n_k3 #[.int .i64 160, .int .i64 20] (fun v9 H3 => ∃ b10 : Bool, v9 = .bool b10 ∧ Q (.bool b10) H3) H2) (Q (.bool false) H2)) H1) (Q (.bool false) H1)) False := by
   intro e H1 f1 he
   simp only [Option.isNone_none, cond_true]
   refine num1_c ⟨_, rfl, ?_⟩
   rw [bneI, cond_dec, if_pos he]
   exact classBoots_c (hk.fr f1 (by simp)) (hN.fr f1 (by simp)) fun H2 f2 => ⟨_, rfl, h _ (f1.trans f2)⟩
 refine kboot_k hk (fun hb => ⟨_, _, rfl, ?_⟩) (fun hg he H1 f1 => ⟨_, _, rfl, ?_⟩) fun hg hz b F H1 hP f1 hF => ⟨_, _, rfl, ?_⟩
 · have := bad 1 H (Fr.refl _ _) (by decide)
   simp only [Option.isNone_none, cond_true] at this ⊢
   exact this
 · have := bad _ H1 f1 he
   simp only [Option.isNone_none, cond_true] at this ⊢
   exact this
 simp only [Option.isNone_some, cond_false]
 have h2 := boot_two hg.1 hg.2.1 hg.2.2.1 hg.2.2.2 hz
 refine num1_c ⟨_, rfl, condN rfl ?_⟩
 refine ⟨fun w H' => ∃ i : Nat, w = [.int .i64 i] ∧ i ≤ l ∧ PGo words oops H H' b, fun w _ => match w with
   | [.int _ i] => (l - i).toNat
   | _ => 0, ⟨0, rfl, Nat.zero_le _, F, _, _, _, hP, h2, hF, f1⟩, ?_⟩
 clear hP h2 hF
 rintro w H2 ⟨i, rfl, hi, F2, s, t, v, hP, hK, hF, f2⟩ _
 have last : ∀ {H' : Heap}, Fr [] H H' → callS PP n_k3 #[.int .i64 words, .int .i64 oops] (fun v130 H21 => ∃ b131 : Bool, v130 = .bool b131 ∧ Q (.bool b131) H21) H' := fun f => classBoots_c (hk.fr f (by simp)) (hN.fr f (by simp)) fun H3 f3 => ⟨_, rfl, h _ (f.trans f3)⟩
 refine ⟨_, rfl, ?_⟩
 rw [cond_dec]
 refine ite_i (fun hlt => ?_) fun _ => last f2
 generalize hM : (1099511627776 : Int) = M
 refine condD (fun _ => ?_) fun _ => last f2
 have hil : i < xs.length := by omega
 obtain ⟨p, hp, hst⟩ := hs.2 i xs[i] (List.getElem?_eq_getElem hil)
 generalize xs[i] = x at hst
 have e : IntKind.wrap .i64 ((i : Int) + 1) = ((i + 1 : Nat) : Int) := by rw [wrap64_id (by omega) (by omega)]; omega
 have hst2 := hst.fr f2
 obtain ⟨an, ln, cn, hc, hr, hlc, hlk, hob⟩ := hst2
 have hob0 : ln = 0 ∨ ∀ q, an = some q → q.block < H.size := by
   obtain ⟨a', l', c', g1, _, _, _, g5⟩ := hst
   have q2 := cell_keep f2 (g1 5 _ rfl)
   rw [hc 5 _ rfl] at q2
   cases Option.some.inj q2
   exact g5
 have e0 : cellH H2 (p.add (i * 6)) = some (.int .i64 x.kind) := by have := hc 0 _ rfl; simpa [Addr.add] using this
 refine ⟨⟨by omega, hlt⟩, _, hp, ?_⟩
 rw [Int.toNat_natCast, e]
 refine ⟨_, e0, _, hc 1 _ rfl, _, hc 2 _ rfl, _, hc 3 _ rfl, _, hc 4 _ rfl, _, _, _, hc 5 _ rfl, ?_⟩
 have hltF := hP.lt
 have hBz := Blk.new H2 #[.int .i64 0, .int .i64 0, .int .i64 0, .string (⟨#[]⟩ : ByteArray), .string (⟨#[]⟩ : ByteArray), .slice none 0 0] 39
 refine wr6 hBz rfl ?_
 rw [fill6_def]
 have hBS := fill6_blk (v0 := .int .i64 x.kind) (v1 := .int .i64 x.i) (v2 := .int .i64 x.word) (v3 := .string x.name) (v4 := .string x.other) (v5 := .slice an ln cn) hBz rfl
 have fS : Fr [] H2 (fill6 (H2.push (.cells #[.int .i64 0, .int .i64 0, .int .i64 0, .string (⟨#[]⟩ : ByteArray), .string (⟨#[]⟩ : ByteArray), .slice none 0 0] 39)) H2.size (.int .i64 x.kind) (.int .i64 x.i) (.int .i64 x.word) (.string x.name) (.string x.other) (.slice an ln cn)) :=
   (Up.mid (F1 := []) (Up.of_nil (Fr.push [] H2 _)) fill6_fr (by simp)).1
 generalize fill6 (H2.push (.cells #[.int .i64 0, .int .i64 0, .int .i64 0, .string (⟨#[]⟩ : ByteArray), .string (⟨#[]⟩ : ByteArray), .slice none 0 0] 39)) H2.size (.int .i64 x.kind) (.int .i64 x.i) (.int .i64 x.word) (.string x.name) (.string x.other) (.slice an ln cn) = HS at hBS fS ⊢
 have hb7 : H2.size ∉ F2 := fun hm => Nat.lt_irrefl _ (hltF _ hm)
 have hsS := fS.1
 refine taken_c (hP.nil fS) hK.all fun H8 a1 l1 c1 a2 l2 c2 a3 l3 c3 hbef f8 => ⟨_, _, _, _, _, _, _, _, _, _, _, _, _, rfl, ?_⟩
 have hBz8 := Blk.new H8 #[.int .i64 0, .int .i64 0, .int .i64 0, .int .i64 0, .slice none 0 0, .slice none 0 0, .slice none 0 0] 42
 refine wr7 hBz8 rfl ?_
 rw [fill7_def]
 have hBA := fill7_blk (v0 := .int .i64 s.room.1) (v1 := .int .i64 s.room.2) (v2 := .int .i64 (v.cls.length : Int)) (v3 := .int .i64 s.h.mark) (v4 := .slice a1 l1 c1) (v5 := .slice a2 l2 c2) (v6 := .slice a3 l3 c3) hBz8 rfl
 have fA : Fr [] H8 (fill7 (H8.push (.cells #[.int .i64 0, .int .i64 0, .int .i64 0, .int .i64 0, .slice none 0 0, .slice none 0 0, .slice none 0 0] 42)) H8.size (.int .i64 s.room.1) (.int .i64 s.room.2) (.int .i64 (v.cls.length : Int)) (.int .i64 s.h.mark) (.slice a1 l1 c1) (.slice a2 l2 c2) (.slice a3 l3 c3)) :=
   (Up.mid (F1 := []) (Up.of_nil (Fr.push [] H8 _)) fill7_fr (by simp)).1
 generalize fill7 (H8.push (.cells #[.int .i64 0, .int .i64 0, .int .i64 0, .int .i64 0, .slice none 0 0, .slice none 0 0, .slice none 0 0] 42)) H8.size (.int .i64 s.room.1) (.int .i64 s.room.2) (.int .i64 (v.cls.length : Int)) (.int .i64 s.h.mark) (.slice a1 l1 c1) (.slice a2 l2 c2) (.slice a3 l3 c3) = HA at hBA fA ⊢
 have hb8 : H8.size ∉ F2 := fun hm => by have := hltF _ hm; have := f8.1; omega
 have fSA := f8.trans fA
 have hBSA := hBS.fr fSA (by simp)
 have hbefA := hbef.fr fA (by simp)
 have hPA : PK HA b F2 s t := (hP.nil fS).nil fSA
 have f2A : Fr [] H HA := (f2.trans fS).trans fSA
 have hrA : Rd 1 HA an ln (strsV x.names) := hr.fr' (fS.trans fSA) (by simp)
 have hoA : Outs HA an ln F2 := hob0.imp id fun g q hq => ⟨Nat.lt_of_lt_of_le (g q hq) f2A.1, fun hm => by have := hF _ hm; have := g q hq; omega⟩
 generalize H2.size = b7 at hBS hBSA hb7 hsS hltF ⊢
 generalize H8.size = b8 at hBA hb8 ⊢
 have go : ∀ {H' : Heap}, PGo words oops H H' b → (∃ i' : Nat, [Value.int .i64 ((i + 1 : Nat) : Int)] = [.int .i64 i'] ∧ i' ≤ l ∧ PGo words oops H H' b) := fun hg => ⟨i + 1, rfl, by omega, hg⟩
 have mu : (match [Value.int .i64 ((i + 1 : Nat) : Int)] with
   | [.int _ i] => ((l : Int) - i).toNat
   | _ => 0) < (match [Value.int .i64 (i : Int)] with
   | [.int _ i] => ((l : Int) - i).toNat
   | _ => 0) := by simp; omega
 refine ⟨fun w H' => ∃ (o f : Int) (F' : Foot) (s' : SP) (t' : TB), w = [.int .i64 o, .int .i64 f] ∧ PK H' b F' s' t' ∧ (∀ x ∈ F', H.size ≤ x) ∧ Fr [] H H' ∧ Blk H' b7 #[.int .i64 x.kind, .int .i64 x.i, .int .i64 x.word, .string x.name, .string x.other, .slice an ln cn] ∧
   Blk H' b8 (aggB s v a1 l1 c1 a2 l2 c2 a3 l3 c3) ∧ Bef H' HS.size t v a1 l1 a2 l2 a3 l3 c3 ∧ Rd 1 H' an ln (strsV x.names) ∧ Did words oops s t v x s' t' o f, ?_, ?_⟩
 · refine ⟨_, hBSA.cell 0, condI (fun h1 => ?_) fun h1 => condI (fun h2 => ?_) fun h2 => condI (fun h3 => ?_) fun h3 => ⟨go (pgo_nil hPA hK hF f2A (Fr.refl _ _)), mu⟩⟩
   · refine ⟨_, blkA hBSA 3 rfl, _, blkA hBSA 4 rfl, _, _, _, blkA hBSA 5 rfl, kdefine_k hPA hK.all hrA hoA hlc (by omega) fun H9 F' hP' hu => ⟨_, _, rfl, ?_⟩⟩
     obtain ⟨g1, g2⟩ := up_fresh f2A hF hu
     have D := define_two hK x.name x.other x.names
     refine ⟨_, _, F', _, _, rfl, hP', g2, g1, hBSA.fr hu.1 hb7, hBA.fr hu.1 hb8, hbefA.fr hu.1 (fun y hy => .inl (by have := hltF y hy; omega)), hoA.rd hu hrA, ?_⟩
     by_cases he : (kDefineAll s v t x.name x.other x.names).1.2 = 0
     · obtain ⟨j, hj, n, ns, l0, d, q1, q2, q3, _, q4⟩ := D.2 he
       rw [he]
       exact .cls h1 q1 q2 q3 q4
     · obtain ⟨q1, q2, q3, q4, q5⟩ := D.1 he
       rw [q1]
       exact .bad he (by rw [q3]; exact q2) q3 q4 q5 (.inl h1)
   · refine ⟨_, blkA hBSA 3 rfl, kglobal_k hPA hK.all fun H9 F' hP' hu => ⟨_, rfl, ?_⟩⟩
     obtain ⟨g1, g2⟩ := up_fresh f2A hF hu
     have D := global_two hK x.name
     refine ⟨_, _, F', _, _, rfl, hP', g2, g1, hBSA.fr hu.1 hb7, hBA.fr hu.1 hb8, hbefA.fr hu.1 (fun y hy => .inl (by have := hltF y hy; omega)), hoA.rd hu hrA, ?_⟩
     by_cases he : (kGlobalAll s v t x.name).1 = 0
     · obtain ⟨n, d, q2, q3, q4⟩ := D.2 he
       rw [he]
       exact .glob h2 q2 q3 q4
     · obtain ⟨q2, q3, q4, q5⟩ := D.1 he
       exact .bad he (by rw [q3]; exact q2) q3 q4 q5 (.inr h2)
   · refine ⟨_, blkA hBSA 1 rfl, kspace_k hPA fun sbp Fsp _ hSp hsubp _ hup2 => ⟨_, rfl, ⟨⟨blkA hBSA 1 rfl, trivial⟩, trivial⟩, psHeap_c hSp fun hbp Fhp hRp hsub3 hup3 => ⟨_, rfl, ⟨⟨blkA hBSA 1 rfl, trivial⟩, trivial⟩, mark_c hRp fun H9 hR9 hf9 => ⟨_, rfl, trivial, go ?_, mu⟩⟩⟩⟩
     have hP9 := hup2 H9 _ (hup3 H9 _ hR9 hf9) (hf9.mono hsub3)
     obtain ⟨g1, g2⟩ := up_fresh (F' := F2) f2A hF ⟨(hf9.mono hsub3).mono hsubp, fun _ h => .inl h⟩
     exact ⟨F2, _, _, _, hP9, hK.marks _, g2, g1⟩
 · rintro w H14 ⟨o, f, F', s', t', rfl, hP', hF', f14, hB7, hB8, hb1, hr14, hD⟩ _
   refine ⟨_, _, rfl, ?_⟩
   cases hD with
   | bad hf0 hk' ht hm1 hm2 hkd =>
     refine taken_c hP' hk'.all fun H15 e1 m1 d1 e2 m2 d2 e3 m3 d3 hbef2 f15 => ⟨_, _, _, _, _, _, _, _, _, _, _, _, _, rfl, ?_⟩
     have hBz15 := Blk.new H15 #[.int .i64 0, .int .i64 0, .int .i64 0, .int .i64 0, .slice none 0 0, .slice none 0 0, .slice none 0 0] 42
     refine wr7 hBz15 rfl ?_
     rw [fill7_def]
     have hBF := fill7_blk (v0 := .int .i64 s'.room.1) (v1 := .int .i64 s'.room.2) (v2 := .int .i64 (v.cls.length : Int)) (v3 := .int .i64 s'.h.mark) (v4 := .slice e1 m1 d1) (v5 := .slice e2 m2 d2) (v6 := .slice e3 m3 d3) hBz15 rfl
     have fF : Fr [] H15 (fill7 (H15.push (.cells #[.int .i64 0, .int .i64 0, .int .i64 0, .int .i64 0, .slice none 0 0, .slice none 0 0, .slice none 0 0] 42)) H15.size (.int .i64 s'.room.1) (.int .i64 s'.room.2) (.int .i64 (v.cls.length : Int)) (.int .i64 s'.h.mark) (.slice e1 m1 d1) (.slice e2 m2 d2) (.slice e3 m3 d3)) := (Up.mid (F1 := []) (Up.of_nil (Fr.push [] H15 _)) fill7_fr (by simp)).1
     generalize fill7 (H15.push (.cells #[.int .i64 0, .int .i64 0, .int .i64 0, .int .i64 0, .slice none 0 0, .slice none 0 0, .slice none 0 0] 42)) H15.size (.int .i64 s'.room.1) (.int .i64 s'.room.2) (.int .i64 (v.cls.length : Int)) (.int .i64 s'.h.mark) (.slice e1 m1 d1) (.slice e2 m2 d2) (.slice e3 m3 d3) = HF at hBF fF ⊢
     generalize H15.size = b15 at hBF ⊢
     have g15 := f15.trans fF
     have hB7F := hB7.fr g15 (by simp)
     have hB8F := hB8.fr g15 (by simp)
     have hb1F := hb1.fr g15 (by simp)
     have hb2F := hbef2.fr fF (by simp)
     have hrF := hr14.fr' g15 (by simp)
     have hPF := hP'.nil g15
     have fHF := f14.trans g15
     refine num1_c ⟨_, rfl, condP hf0 (condN rfl ⟨_, hB8F.cell 0, _, blkA hB8F 1 rfl, _, blkA hB8F 2 rfl, _, blkA hB8F 3 rfl, _, _, _, blkA hB8F 4 rfl, _, _, _, blkA hB8F 5 rfl, _, _, _, blkA hB8F 6 rfl, _, hBF.cell 0, _, blkA hBF 1 rfl, _, blkA hBF 2 rfl, _, blkA hBF 3 rfl, _, _, _, blkA hBF 4 rfl, _, _, _, blkA hBF 5 rfl, _, _, _, blkA hBF 6 rfl, num1_c ⟨_, rfl, ⟨⟨hBF.cell 0, blkA hBF 1 rfl, blkA hBF 2 rfl, blkA hBF 3 rfl, blkA hBF 4 rfl, blkA hBF 5 rfl, blkA hBF 6 rfl, trivial⟩, ⟨hB8F.cell 0, blkA hB8F 1 rfl, blkA hB8F 2 rfl, blkA hB8F 3 rfl, blkA hB8F 4 rfl, blkA hB8F 5 rfl, blkA hB8F 6 rfl, trivial⟩, trivial⟩, ?_⟩⟩)⟩
     refine bef_is hK hk' ht hb1F hb2F ?_ fun H18 f18 => ⟨_, rfl, trivial, ?_⟩
     · by_cases h24 : f = 24
       · exact .inl (by rw [beqI]; exact decide_eq_true h24)
       · exact .inr (hm1 h24).symm
     simp only [Bool.not_true, cond_false]
     refine num1_c ⟨_, rfl, trivial, condI (fun h24 => ⟨_, blkA (hBF.fr f18 (by simp)) 3 rfl, condN (hm2 h24) ⟨go (pgo_nil hPF hk' hF' fHF f18), mu⟩⟩) fun _ => ⟨go (pgo_nil hPF hk' hF' fHF f18), mu⟩⟩
   | @cls _ j hj n ns l0 d hkd hf hk' hp hns =>
     have hlen1 : (v.addC ⟨o, n, (v.cls[j]).oop, ns, l0, 18, 18, [], [], 0⟩ d).cls.length = v.cls.length + 1 := by simp [KV.addC]
     refine taken_c hP' hk'.all fun H15 e1 m1 d1 e2 m2 d2 e3 m3 d3 hbef2 f15 => ⟨_, _, _, _, _, _, _, _, _, _, _, _, _, rfl, ?_⟩
     have hBz15 := Blk.new H15 #[.int .i64 0, .int .i64 0, .int .i64 0, .int .i64 0, .slice none 0 0, .slice none 0 0, .slice none 0 0] 42
     refine wr7 hBz15 rfl ?_
     rw [fill7_def]
     have hBF := fill7_blk (v0 := .int .i64 s'.room.1) (v1 := .int .i64 s'.room.2) (v2 := .int .i64 ((v.addC ⟨o, n, (v.cls[j]).oop, ns, l0, 18, 18, [], [], 0⟩ d).cls.length : Int)) (v3 := .int .i64 s'.h.mark) (v4 := .slice e1 m1 d1) (v5 := .slice e2 m2 d2) (v6 := .slice e3 m3 d3) hBz15 rfl
     have fF : Fr [] H15 (fill7 (H15.push (.cells #[.int .i64 0, .int .i64 0, .int .i64 0, .int .i64 0, .slice none 0 0, .slice none 0 0, .slice none 0 0] 42)) H15.size (.int .i64 s'.room.1) (.int .i64 s'.room.2) (.int .i64 ((v.addC ⟨o, n, (v.cls[j]).oop, ns, l0, 18, 18, [], [], 0⟩ d).cls.length : Int)) (.int .i64 s'.h.mark) (.slice e1 m1 d1) (.slice e2 m2 d2) (.slice e3 m3 d3)) := (Up.mid (F1 := []) (Up.of_nil (Fr.push [] H15 _)) fill7_fr (by simp)).1
     generalize fill7 (H15.push (.cells #[.int .i64 0, .int .i64 0, .int .i64 0, .int .i64 0, .slice none 0 0, .slice none 0 0, .slice none 0 0] 42)) H15.size (.int .i64 s'.room.1) (.int .i64 s'.room.2) (.int .i64 ((v.addC ⟨o, n, (v.cls[j]).oop, ns, l0, 18, 18, [], [], 0⟩ d).cls.length : Int)) (.int .i64 s'.h.mark) (.slice e1 m1 d1) (.slice e2 m2 d2) (.slice e3 m3 d3) = HF at hBF fF ⊢
     generalize H15.size = b15 at hBF ⊢
     have g15 := f15.trans fF
     have hB7F := hB7.fr g15 (by simp)
     have hB8F := hB8.fr g15 (by simp)
     have hb1F := hb1.fr g15 (by simp)
     have hb2F := hbef2.fr fF (by simp)
     have hrF := hr14.fr' g15 (by simp)
     have hPF := hP'.nil g15
     have fHF := f14.trans g15
     refine num1_c ⟨_, rfl, condN rfl ⟨_, hB7F.cell 0, condI (fun _ => ⟨_, hB8F.cell 0, _, blkA hB8F 1 rfl, _, blkA hB8F 2 rfl, _, blkA hB8F 3 rfl, _, _, _, blkA hB8F 4 rfl, _, _, _, blkA hB8F 5 rfl, _, _, _, blkA hB8F 6 rfl, _, hBF.cell 0, _, blkA hBF 1 rfl, _, blkA hBF 2 rfl, _, blkA hBF 3 rfl, _, _, _, blkA hBF 4 rfl, _, _, _, blkA hBF 5 rfl, _, _, _, blkA hBF 6 rfl, _, hB7F.cell 0, _, blkA hB7F 1 rfl, _, blkA hB7F 2 rfl, _, blkA hB7F 3 rfl, _, blkA hB7F 4 rfl, _, _, _, blkA hB7F 5 rfl, ?_⟩) fun hn => absurd hkd hn⟩⟩
     rw [hlen1]
     refine grown_c hPF hK.all.names hk'.all hp hf hns hrF fun H20 f20 => ⟨_, rfl, trivial, ?_⟩
     simp only [Bool.not_true, cond_false]
     exact ⟨_, (hB7F.fr f20 (by simp)).cell 0, condI (fun h2 => absurd (hkd.symm.trans h2) (by decide)) fun _ => ⟨go (pgo_nil hPF hk' hF' fHF f20), mu⟩⟩
   | @glob n d hkd hk' hp hn =>
     refine taken_c hP' hk'.all fun H15 e1 m1 d1 e2 m2 d2 e3 m3 d3 hbef2 f15 => ⟨_, _, _, _, _, _, _, _, _, _, _, _, _, rfl, ?_⟩
     have hBz15 := Blk.new H15 #[.int .i64 0, .int .i64 0, .int .i64 0, .int .i64 0, .slice none 0 0, .slice none 0 0, .slice none 0 0] 42
     refine wr7 hBz15 rfl ?_
     rw [fill7_def]
     have hBF := fill7_blk (v0 := .int .i64 s'.room.1) (v1 := .int .i64 s'.room.2) (v2 := .int .i64 ((v.addG n d).cls.length : Int)) (v3 := .int .i64 s'.h.mark) (v4 := .slice e1 m1 d1) (v5 := .slice e2 m2 d2) (v6 := .slice e3 m3 d3) hBz15 rfl
     have fF : Fr [] H15 (fill7 (H15.push (.cells #[.int .i64 0, .int .i64 0, .int .i64 0, .int .i64 0, .slice none 0 0, .slice none 0 0, .slice none 0 0] 42)) H15.size (.int .i64 s'.room.1) (.int .i64 s'.room.2) (.int .i64 ((v.addG n d).cls.length : Int)) (.int .i64 s'.h.mark) (.slice e1 m1 d1) (.slice e2 m2 d2) (.slice e3 m3 d3)) := (Up.mid (F1 := []) (Up.of_nil (Fr.push [] H15 _)) fill7_fr (by simp)).1
     generalize fill7 (H15.push (.cells #[.int .i64 0, .int .i64 0, .int .i64 0, .int .i64 0, .slice none 0 0, .slice none 0 0, .slice none 0 0] 42)) H15.size (.int .i64 s'.room.1) (.int .i64 s'.room.2) (.int .i64 ((v.addG n d).cls.length : Int)) (.int .i64 s'.h.mark) (.slice e1 m1 d1) (.slice e2 m2 d2) (.slice e3 m3 d3) = HF at hBF fF ⊢
     generalize H15.size = b15 at hBF ⊢
     have g15 := f15.trans fF
     have hB7F := hB7.fr g15 (by simp)
     have hB8F := hB8.fr g15 (by simp)
     have hb1F := hb1.fr g15 (by simp)
     have hb2F := hbef2.fr fF (by simp)
     have hrF := hr14.fr' g15 (by simp)
     have hPF := hP'.nil g15
     have fHF := f14.trans g15
     have hl1 := hb1F.lens
     have hl2 := hb2F.lens
     have hgl : (v.addG n d).glob.length = v.glob.length + 1 := by simp [KV.addG]
     have hg := hk'.all.ks.shape.globs
     rw [hgl] at hl2 hg
     obtain ⟨G1, G2, G3, k1, k2, _, hog, _, _⟩ := hb2F
     obtain ⟨q, hq, rfl, hcq⟩ := hog.rd.str (i := ((l2 : Nat) : Int)) (by omega) (by omega)
     refine num1_c ⟨_, rfl, condN rfl ⟨_, hB7F.cell 0, condI (fun h1 => absurd (hkd.symm.trans h1) (by decide)) fun _ => ⟨_, hB7F.cell 0, condI (fun _ => ?_) fun hn => absurd hkd hn⟩⟩⟩
     refine ⟨_, _, _, blkA hBF 5 rfl, _, _, _, blkA hB8F 5 rfl, condN ?_ ⟨_, _, _, blkA hBF 5 rfl, _, _, _, blkA hB8F 5 rfl, ⟨by omega, by omega⟩, _, rfl, _, by rw [Nat.mul_one]; exact hcq, _, blkA hB7F 3 rfl, ?_⟩⟩
     · rw [wrap64_id (by omega) (by omega)]; omega
     have ename : (globsK (v.addG n d) t')[(l2 : Int).toNat] = x.name := by
       have e1 : (l2 : Int).toNat = v.glob.length := by omega
       simp only [e1]
       simp [globsK, KV.addG, hn]
     rw [strEq_dec, ename, decide_eq_true rfl]
     simp only [Bool.not_true, cond_false]
     exact ⟨_, blkA hBF 2 rfl, _, blkA hB8F 2 rfl, condN rfl ⟨go (pgo_nil hPF hk' hF' fHF (Fr.refl _ _)), mu⟩⟩
end
end Go.Proofs.YtmkdkplipbocjaaGreatDoor
