/- Lemmas for RBoots: functions of the program as predicate transformers, and their contracts. -/
import Derived.Test.YtmkdkplipbocjaaGreatDoorZB3
set_option linter.all false
set_option maxRecDepth 100000
set_option maxHeartbeats 4000000
namespace Go.Proofs.YtmkdkplipbocjaaGreatDoor
open Kw
abbrev n_class_Boot : Nat := 10
def class_Boot (n1 : Int) (n2 : Int) (Q : Value → Heap → Prop) (H : Heap) : Prop :=
  callS PP 46 #[.int .i64 n1, .int .i64 n2] (fun v3 H1 => ∃ p4 : Option Addr, ∃ n5 : Int, v3 = .tuple #[.pointer p4, .int .i64 n5] ∧ cond (n5 != 0) (Q (.tuple #[.pointer none, .int .i64 n5]) H1) (callS PP 47 #[.int .i64 4096] (fun v6 H2 => ∃ p7 : Option Addr, ∃ n8 : Int, v6 = .tuple #[.pointer p7, .int .i64 n8] ∧ cond (n8 != 0) (Q (.tuple #[.pointer none, .int .i64 n8]) H2) (callS PP 48 #[] (fun v9 H3 => ∃ a10 : Option Addr, ∃ l10 : Nat, ∃ c10 : Nat, v9 = .slice a10 l10 c10 ∧ ∃ (I11 : List Value → Heap → Prop) (μ11 : List Value → Heap → Nat), I11 [.slice (some (⟨(H2.push (.cells #[.pointer p4, .pointer p7] 90)).size, 0, none⟩ : Addr)) 3 3, .int .i64 0] H3 ∧ ∀ w12 H4, I11 w12 H4 → ∀ _g : Nat → Value, ∃ a13 : Option Addr, ∃ l13 : Nat, ∃ c13 : Nat, ∃ n14 : Int, w12 = [.slice a13 l13 c13, .int .i64 n14] ∧ cond (decide (n14 < (l10 : Int))) (evS PP (Builtin.append_ #[92, 92] 92 #[.slice a13 l13 c13, .slice (some (⟨H4.size, 0, none⟩ : Addr)) 1 1]) (fun v15 H5 => ∃ a16 : Option Addr, ∃ l16 : Nat, ∃ c16 : Nat, v15 = .slice a16 l16 c16 ∧ I11 [.slice a16 l16 c16, .int .i64 (IntKind.wrap .i64 (n14 + 1))] H5 ∧ μ11 [.slice a16 l16 c16, .int .i64 (IntKind.wrap .i64 (n14 + 1))] H5 < μ11 w12 H4) (H4.push (.cells #[.int .i64 12, .int .i64 7] 91))) (evS PP (Builtin.append_ #[92, 92] 92 #[.slice a13 l13 c13, .slice (some (⟨H4.size, 0, none⟩ : Addr)) 3 3]) (fun v17 H6 => ∃ a18 : Option Addr, ∃ l18 : Nat, ∃ c18 : Nat, v17 = .slice a18 l18 c18 ∧ ∃ (I19 : List Value → Heap → Prop) (μ19 : List Value → Heap → Nat), I19 [.int .i64 0] H6 ∧ ∀ w20 H7, I19 w20 H7 → ∀ _g : Nat → Value, ∃ n21 : Int, w20 = [.int .i64 n21] ∧ cond (decide (n21 < (l18 : Int))) (((0 : Int) ≤ n21 ∧ n21 < (l18 : Int)) ∧ ∃ q22, a18 = some q22 ∧ ∃ n23 : Int, cellH H7 (q22.add (Int.toNat n21 * 2)) = some (.int .i64 n23) ∧ ∃ n24 : Int, cellH H7 ((q22.add (Int.toNat n21 * 2)).add 1) = some (.int .i64 n24) ∧ Wr (H7.push (.cells #[.int .i64 0, .int .i64 0] 91)) (⟨H7.size, 0, none⟩ : Addr) ∧ Wr (setH (H7.push (.cells #[.int .i64 0, .int .i64 0] 91)) (⟨H7.size, 0, none⟩ : Addr) (.int .i64 n23)) ((⟨H7.size, 0, none⟩ : Addr).add 1) ∧ ∃ n25 : Int, cellH (setH (setH (H7.push (.cells #[.int .i64 0, .int .i64 0] 91)) (⟨H7.size, 0, none⟩ : Addr) (.int .i64 n23)) ((⟨H7.size, 0, none⟩ : Addr).add 1) (.int .i64 n24)) (⟨H7.size, 0, none⟩ : Addr) = some (.int .i64 n25) ∧ ∃ n26 : Int, cellH (setH (setH (H7.push (.cells #[.int .i64 0, .int .i64 0] 91)) (⟨H7.size, 0, none⟩ : Addr) (.int .i64 n23)) ((⟨H7.size, 0, none⟩ : Addr).add 1) (.int .i64 n24)) ((⟨H7.size, 0, none⟩ : Addr).add 1) = some (.int .i64 n26) ∧ callS PP 20 #[.pointer p4] (fun v27 H8 => ∃ p28 : Option Addr, v27 = .pointer p28 ∧ ((cellH H8 ((⟨H7.size, 0, none⟩ : Addr).add 1) = some (.int .i64 n26) ∧ True) ∧ ((cellH H8 (⟨H7.size, 0, none⟩ : Addr) = some (.int .i64 n25) ∧ True) ∧ True)) ∧ callS PP 50 #[.int .i64 n25] (fun v29 H9 => ∃ n30 : Int, v29 = .int .i64 n30 ∧ ((cellH H9 ((⟨H7.size, 0, none⟩ : Addr).add 1) = some (.int .i64 n26) ∧ True) ∧ True) ∧ callS PP 49 #[.pointer p28, .int .i64 n30, .int .i64 n26, .int .i64 0] (fun v31 H10 => ∃ n32 : Int, ∃ n33 : Int, v31 = .tuple #[.int .i64 n32, .int .i64 n33] ∧ True ∧ cond (n33 != 0) (Q (.tuple #[.pointer none, .int .i64 n33]) H10) (callS PP 50 #[.int .i64 n32] (fun v34 H11 => ∃ n35 : Int, v34 = .int .i64 n35 ∧ callS PP 51 #[.pointer p4, .slice (some (⟨H11.size, 0, none⟩ : Addr)) 1 1] (fun v36 H12 => ∃ n37 : Int, v36 = .int .i64 n37 ∧ cond (n37 != 0) (Q (.tuple #[.pointer none, .int .i64 n37]) H12) (I19 [.int .i64 (IntKind.wrap .i64 (n21 + 1))] H12 ∧ μ19 [.int .i64 (IntKind.wrap .i64 (n21 + 1))] H12 < μ19 w20 H7)) (H11.push (.cells #[.int .i64 n35] 36))) H10)) H9) H8) (setH (setH (H7.push (.cells #[.int .i64 0, .int .i64 0] 91)) (⟨H7.size, 0, none⟩ : Addr) (.int .i64 n23)) ((⟨H7.size, 0, none⟩ : Addr).add 1) (.int .i64 n24))) (callS PP 52 #[.pointer (some (⟨H2.size, 0, none⟩ : Addr))] (fun v38 H13 => v38 = .tuple #[] ∧ callS PP 53 #[.pointer p4, .int .i64 19] (fun v39 H14 => ∃ n40 : Int, v39 = .int .i64 n40 ∧ callS PP 54 #[.pointer p4, .int .i64 (l18 : Int)] (fun v41 H15 => ∃ n42 : Int, v41 = .int .i64 n42 ∧ Q (.tuple #[.pointer (some (⟨H2.size, 0, none⟩ : Addr)), .int .i64 0]) H15) H14) H13) H7)) (H4.push (.cells #[.int .i64 11, .int .i64 0, .int .i64 11, .int .i64 8, .int .i64 11, .int .i64 14] 91)))) ((H2.push (.cells #[.pointer p4, .pointer p7] 90)).push (.cells #[.int .i64 5, .int .i64 0, .int .i64 6, .int .i64 0, .int .i64 7, .int .i64 0] 91)))) H1)) H
theorem class_Boot_ok {n1 : Int} {n2 : Int} {Q : Value → Heap → Prop} {H : Heap} (h : class_Boot n1 n2 Q H) : callS PP 10 #[.int .i64 n1, .int .i64 n2] Q H :=
  callS_of good Tryz.func10 rfl (Ls := fun | 10 => some [(10, 92), (41, 3)] | 15 => some [(56, 3)] | _ => none) (by kernel_rfl) h
abbrev n_class_Kernel_Numbered : Nat := 14
def class_Kernel_Numbered (p1 : Option Addr) (n2 : Int) (Q : Value → Heap → Prop) (H : Heap) : Prop :=
  callS PP 73 #[.pointer p1] (fun v3 H1 => ∃ b4 : Bool, v3 = .bool b4 ∧ cond (!b4) (Q (.tuple #[.int .i64 0, .int .i64 2]) H1) (Wr (H1.push (.cells #[.pointer none] 131)) (⟨H1.size, 0, none⟩ : Addr) ∧ ∃ p5 : Option Addr, cellH (setH (H1.push (.cells #[.pointer none] 131)) (⟨H1.size, 0, none⟩ : Addr) (.pointer p1)) (⟨H1.size, 0, none⟩ : Addr) = some (.pointer p5) ∧ callS PP 74 #[.agg #[.pointer p5], .int .i64 0] (fun v6 H2 => ∃ n7 : Int, v6 = .int .i64 n7 ∧ cond (decide (n2 < 1)) (Q (.tuple #[.int .i64 0, .int .i64 130]) H2) (∃ p8 : Option Addr, cellH H2 (⟨H1.size, 0, none⟩ : Addr) = some (.pointer p8) ∧ callS PP 75 #[.agg #[.pointer p8], .int .i64 n7] (fun v9 H3 => ∃ n10 : Int, v9 = .int .i64 n10 ∧ cond (decide (n2 > n10)) (Q (.tuple #[.int .i64 0, .int .i64 130]) H3) (∃ p11 : Option Addr, cellH H3 (⟨H1.size, 0, none⟩ : Addr) = some (.pointer p11) ∧ callS PP 76 #[.agg #[.pointer p11], .int .i64 n7, .int .i64 (IntKind.wrap .i64 (n2 - 1))] (fun v12 H4 => ∃ n13 : Int, v12 = .int .i64 n13 ∧ Q (.tuple #[.int .i64 n13, .int .i64 0]) H4) H3)) H2)) (setH (H1.push (.cells #[.pointer none] 131)) (⟨H1.size, 0, none⟩ : Addr) (.pointer p1)))) H
theorem class_Kernel_Numbered_ok {p1 : Option Addr} {n2 : Int} {Q : Value → Heap → Prop} {H : Heap} (h : class_Kernel_Numbered p1 n2 Q H) : callS PP 14 #[.pointer p1, .int .i64 n2] Q H :=
  callS_of good Tryz.func14 rfl (Ls := fun _ => none) (by kernel_rfl) h
abbrev n_class_Kernel_Define : Nat := 17
def class_Kernel_Define (p1 : Option Addr) (s2 : ByteArray) (s3 : ByteArray) (a4 : Option Addr) (l4 : Nat) (c4 : Nat) (Q : Value → Heap → Prop) (H : Heap) : Prop :=
  callS PP 73 #[.pointer p1] (fun v5 H1 => ∃ b6 : Bool, v5 = .bool b6 ∧ cond (!b6) (Q (.tuple #[.int .i64 0, .int .i64 2]) H1) (callS PP 87 #[.pointer p1, .string s2, .string s3, .slice a4 l4 c4] (fun v7 H2 => ∃ n8 : Int, ∃ n9 : Int, v7 = .tuple #[.int .i64 n8, .int .i64 n9] ∧ cond (n9 != 0) (Q (.tuple #[.int .i64 0, .int .i64 n9]) H2) (callS PP 88 #[.pointer p1] (fun v10 H3 => ∃ p11 : Option Addr, v10 = .pointer p11 ∧ callS PP 89 #[.pointer p11, .string s2, .int .i64 n8, .slice a4 l4 c4] (fun v12 H4 => ∃ n13 : Int, ∃ n14 : Int, v12 = .tuple #[.int .i64 n13, .int .i64 n14] ∧ callS PP 90 #[.pointer p11, .int .i64 n14] (fun v15 H5 => ∃ n16 : Int, v15 = .int .i64 n16 ∧ cond (n16 != 0) (Q (.tuple #[.int .i64 0, .int .i64 n16]) H5) (Q (.tuple #[.int .i64 n13, .int .i64 0]) H5)) H4) H3) H2)) H1)) H
theorem class_Kernel_Define_ok {p1 : Option Addr} {s2 : ByteArray} {s3 : ByteArray} {a4 : Option Addr} {l4 : Nat} {c4 : Nat} {Q : Value → Heap → Prop} {H : Heap} (h : class_Kernel_Define p1 s2 s3 a4 l4 c4 Q H) : callS PP 17 #[.pointer p1, .string s2, .string s3, .slice a4 l4 c4] Q H :=
  callS_of good Tryz.func17 rfl (Ls := fun _ => none) (by kernel_rfl) h
abbrev n_class_Kernel_Global : Nat := 18
def class_Kernel_Global (p1 : Option Addr) (s2 : ByteArray) (Q : Value → Heap → Prop) (H : Heap) : Prop :=
  callS PP 73 #[.pointer p1] (fun v3 H1 => ∃ b4 : Bool, v3 = .bool b4 ∧ cond (!b4) (Q (.int .i64 2) H1) (callS PP 91 #[.string s2, .int .u8 65, .int .u8 90] (fun v5 H2 => ∃ b6 : Bool, v5 = .bool b6 ∧ cond (!b6) (Q (.int .i64 133) H2) (callS PP 92 #[.pointer p1, .string s2] (fun v7 H3 => ∃ b8 : Bool, v7 = .bool b8 ∧ cond b8 (Q (.int .i64 131) H3) (callS PP 71 #[.pointer p1] (fun v9 H4 => ∃ a10 : Option Addr, ∃ l10 : Nat, ∃ c10 : Nat, v9 = .slice a10 l10 c10 ∧ cond (decide ((l10 : Int) ≥ 256)) (Q (.int .i64 138) H4) (callS PP 88 #[.pointer p1] (fun v11 H5 => ∃ p12 : Option Addr, v11 = .pointer p12 ∧ callS PP 93 #[.pointer p12, .string s2] (fun v13 H6 => ∃ n14 : Int, ∃ n15 : Int, v13 = .tuple #[.int .i64 n14, .int .i64 n15] ∧ cond (n15 == 0) (∃ q16, p12 = some q16 ∧ ∃ p17 : Option Addr, cellH H6 q16 = some (.pointer p17) ∧ ∃ q18, p12 = some q18 ∧ ∃ p19 : Option Addr, cellH H6 q18 = some (.pointer p19) ∧ callS PP 74 #[.agg #[.pointer p19], .int .i64 1] (fun v20 H7 => ∃ n21 : Int, v20 = .int .i64 n21 ∧ ((cellH H7 q16 = some (.pointer p17) ∧ True) ∧ True) ∧ callS PP 95 #[.agg #[.pointer p17], .int .i64 n21] (fun v22 H8 => ∃ a23 : Option Addr, ∃ l23 : Nat, ∃ c23 : Nat, v22 = .slice a23 l23 c23 ∧ True ∧ callS PP 50 #[.int .i64 1] (fun v24 H9 => ∃ n25 : Int, v24 = .int .i64 n25 ∧ True ∧ True ∧ evS PP (Builtin.append_ #[108, 108] 108 #[.slice a23 l23 c23, .slice (some (⟨H9.size, 0, none⟩ : Addr)) 2 2]) (fun v26 H10 => ∃ a27 : Option Addr, ∃ l27 : Nat, ∃ c27 : Nat, v26 = .slice a27 l27 c27 ∧ True ∧ callS PP 94 #[.pointer p12, .slice a27 l27 c27] (fun v28 H11 => ∃ n29 : Int, ∃ n30 : Int, v28 = .tuple #[.int .i64 n29, .int .i64 n30] ∧ True ∧ cond (n30 == 0) (∃ q31, p12 = some q31 ∧ ∃ p32 : Option Addr, cellH H11 q31 = some (.pointer p32) ∧ ∃ q33, p32 = some q33 ∧ ∃ p34 : Option Addr, cellH H11 q33 = some (.pointer p34) ∧ callS PP 96 #[.pointer p34, .int .i64 1, .int .i64 n29] (fun v35 H12 => ∃ n36 : Int, v35 = .int .i64 n36 ∧ callS PP 90 #[.pointer p12, .int .i64 n30] (fun v37 H13 => ∃ n38 : Int, v37 = .int .i64 n38 ∧ Q (.int .i64 n38) H13) H12) H11) (callS PP 90 #[.pointer p12, .int .i64 n30] (fun v39 H14 => ∃ n40 : Int, v39 = .int .i64 n40 ∧ Q (.int .i64 n40) H14) H11)) H10) (H9.push (.cells #[.int .i64 n14, .int .i64 n25] 36))) H8) H7) H6) (callS PP 90 #[.pointer p12, .int .i64 n15] (fun v41 H15 => ∃ n42 : Int, v41 = .int .i64 n42 ∧ Q (.int .i64 n42) H15) H6)) H5) H4)) H3)) H2)) H1)) H
theorem class_Kernel_Global_ok {p1 : Option Addr} {s2 : ByteArray} {Q : Value → Heap → Prop} {H : Heap} (h : class_Kernel_Global p1 s2 Q H) : callS PP 18 #[.pointer p1, .string s2] Q H :=
  callS_of good Tryz.func18 rfl (Ls := fun _ => none) (by kernel_rfl) h
abbrev n_class_Kernel_Space : Nat := 19
def class_Kernel_Space (p1 : Option Addr) (Q : Value → Heap → Prop) (H : Heap) : Prop :=
  cond (Option.isNone p1) (Q (.pointer none) H) (∃ q2, p1 = some q2 ∧ ∃ p3 : Option Addr, cellH H q2 = some (.pointer p3) ∧ Q (.pointer p3) H)
theorem class_Kernel_Space_ok {p1 : Option Addr} {Q : Value → Heap → Prop} {H : Heap} (h : class_Kernel_Space p1 Q H) : callS PP 19 #[.pointer p1] Q H :=
  callS_of good Tryz.func19 rfl (Ls := fun _ => none) (by kernel_rfl) h
abbrev n_class_Over : Nat := 25
def class_Over (p1 : Option Addr) (p2 : Option Addr) (Q : Value → Heap → Prop) (H : Heap) : Prop :=
  cond (Option.isNone p1) (Q (.tuple #[.pointer none, .int .i64 2]) H) (cond (Option.isNone p2) (Q (.tuple #[.pointer none, .int .i64 2]) H) (Q (.tuple #[.pointer (some (⟨H.size, 0, none⟩ : Addr)), .int .i64 0]) (H.push (.cells #[.pointer p1, .pointer p2] 90))))
theorem class_Over_ok {p1 : Option Addr} {p2 : Option Addr} {Q : Value → Heap → Prop} {H : Heap} (h : class_Over p1 p2 Q H) : callS PP 25 #[.pointer p1, .pointer p2] Q H :=
  callS_of good Tryz.func25 rfl (Ls := fun _ => none) (by kernel_rfl) h
abbrev n_class_Kernel_Symbols : Nat := 26
def class_Kernel_Symbols (p1 : Option Addr) (Q : Value → Heap → Prop) (H : Heap) : Prop :=
  cond (Option.isNone p1) (Q (.pointer none) H) (∃ q2, p1 = some q2 ∧ ∃ p3 : Option Addr, cellH H (q2.add 1) = some (.pointer p3) ∧ Q (.pointer p3) H)
theorem class_Kernel_Symbols_ok {p1 : Option Addr} {Q : Value → Heap → Prop} {H : Heap} (h : class_Kernel_Symbols p1 Q H) : callS PP 26 #[.pointer p1] Q H :=
  callS_of good Tryz.func26 rfl (Ls := fun _ => none) (by kernel_rfl) h
abbrev n_class_Kernel_fill : Nat := 52
def class_Kernel_fill (p1 : Option Addr) (Q : Value → Heap → Prop) (H : Heap) : Prop :=
  ∃ q2, p1 = some q2 ∧ ∃ p3 : Option Addr, cellH H q2 = some (.pointer p3) ∧ callS PP 20 #[.pointer p3] (fun v4 H1 => ∃ p5 : Option Addr, v4 = .pointer p5 ∧ callS PP 48 #[] (fun v6 H2 => ∃ a7 : Option Addr, ∃ l7 : Nat, ∃ c7 : Nat, v6 = .slice a7 l7 c7 ∧ ∃ (I8 : List Value → Heap → Prop) (μ8 : List Value → Heap → Nat), I8 [.int .i64 0] H2 ∧ ∀ w9 H3, I8 w9 H3 → ∀ _g : Nat → Value, ∃ n10 : Int, w9 = [.int .i64 n10] ∧ cond (decide (n10 < (l7 : Int))) (((0 : Int) ≤ n10 ∧ n10 < (l7 : Int)) ∧ ∃ q11, a7 = some q11 ∧ ∃ s12 : ByteArray, cellH H3 (q11.add (Int.toNat n10 * 1)) = some (.string s12) ∧ ∃ q13, p1 = some q13 ∧ ∃ p14 : Option Addr, cellH H3 (q13.add 1) = some (.pointer p14) ∧ callS PP 131 #[.pointer p14, .string s12] (fun v15 H4 => ∃ n16 : Int, ∃ n17 : Int, v15 = .tuple #[.int .i64 n16, .int .i64 n17] ∧ callS PP 143 #[.int .i64 n16] (fun v18 H5 => ∃ n19 : Int, ∃ n20 : Int, v18 = .tuple #[.int .i64 n19, .int .i64 n20] ∧ callS PP 50 #[.int .i64 4] (fun v21 H6 => ∃ n22 : Int, v21 = .int .i64 n22 ∧ ∃ J23 : List Value → Heap → Prop, (cond (n10 == 0) (callS PP 50 #[.int .i64 1] (fun v24 H7 => ∃ n25 : Int, v24 = .int .i64 n25 ∧ J23 [.int .i64 n25] H7) H6) (J23 [.int .i64 n22] H6)) ∧ ∀ w26 H8, J23 w26 H8 → ∀ _g : Nat → Value, ∃ n27 : Int, w26 = [.int .i64 n27] ∧ callS PP 50 #[.int .i64 18] (fun v28 H9 => ∃ n29 : Int, v28 = .int .i64 n29 ∧ callS PP 50 #[.int .i64 18] (fun v30 H10 => ∃ n31 : Int, v30 = .int .i64 n31 ∧ callS PP 50 #[.int .i64 18] (fun v32 H11 => ∃ n33 : Int, v32 = .int .i64 n33 ∧ callS PP 166 #[.int .i64 0] (fun v34 H12 => ∃ n35 : Int, v34 = .int .i64 n35 ∧ callS PP 166 #[.int .i64 (IntKind.wrap .i64 (n10 + 1))] (fun v36 H13 => ∃ n37 : Int, v36 = .int .i64 n37 ∧ ∃ (I38 : List Value → Heap → Prop) (μ38 : List Value → Heap → Nat), I38 [.int .i64 0] (H13.push (.cells #[.int .i64 n19, .int .i64 n27, .int .i64 n29, .int .i64 n31, .int .i64 n33, .int .i64 n35, .int .i64 n37] 36)) ∧ ∀ w39 H14, I38 w39 H14 → ∀ _g : Nat → Value, ∃ n40 : Int, w39 = [.int .i64 n40] ∧ cond (decide (n40 < (7 : Int))) (((0 : Int) ≤ n40 ∧ n40 < (7 : Int)) ∧ ∃ q41, (some (⟨H13.size, 0, none⟩ : Addr)) = some q41 ∧ ∃ n42 : Int, cellH H14 (q41.add (Int.toNat n40 * 1)) = some (.int .i64 n42) ∧ callS PP 140 #[.pointer p5, .int .i64 (IntKind.wrap .i64 (4 + n10)), .int .i64 n40, .int .i64 n42] (fun v43 H15 => ∃ n44 : Int, v43 = .int .i64 n44 ∧ I38 [.int .i64 (IntKind.wrap .i64 (n40 + 1))] H15 ∧ μ38 [.int .i64 (IntKind.wrap .i64 (n40 + 1))] H15 < μ38 w39 H14) H14) (callS PP 50 #[.int .i64 (IntKind.wrap .i64 (4 + n10))] (fun v45 H16 => ∃ n46 : Int, v45 = .int .i64 n46 ∧ callS PP 140 #[.pointer p5, .int .i64 20, .int .i64 n10, .int .i64 n46] (fun v47 H17 => ∃ n48 : Int, v47 = .int .i64 n48 ∧ I8 [.int .i64 (IntKind.wrap .i64 (n10 + 1))] H17 ∧ μ8 [.int .i64 (IntKind.wrap .i64 (n10 + 1))] H17 < μ8 w9 H3) H16) H14)) H12) H11) H10) H9) H8) H5) H4) H3) (∃ (I49 : List Value → Heap → Prop) (μ49 : List Value → Heap → Nat), I49 [.int .i64 0] (H3.push (.cells #[.int .i64 20, .int .i64 18, .int .i64 18, .int .i64 18, .int .i64 1, .int .i64 2, .int .i64 3] 3)) ∧ ∀ w50 H18, I49 w50 H18 → ∀ _g : Nat → Value, ∃ n51 : Int, w50 = [.int .i64 n51] ∧ cond (decide (n51 < (7 : Int))) (((0 : Int) ≤ n51 ∧ n51 < (7 : Int)) ∧ ∃ q52, (some (⟨H3.size, 0, none⟩ : Addr)) = some q52 ∧ ∃ n53 : Int, cellH H18 (q52.add (Int.toNat n51 * 1)) = some (.int .i64 n53) ∧ callS PP 50 #[.int .i64 n53] (fun v54 H19 => ∃ n55 : Int, v54 = .int .i64 n55 ∧ callS PP 140 #[.pointer p5, .int .i64 19, .int .i64 n51, .int .i64 n55] (fun v56 H20 => ∃ n57 : Int, v56 = .int .i64 n57 ∧ I49 [.int .i64 (IntKind.wrap .i64 (n51 + 1))] H20 ∧ μ49 [.int .i64 (IntKind.wrap .i64 (n51 + 1))] H20 < μ49 w50 H18) H19) H18) (Q (.tuple #[]) H18))) H1) H
theorem class_Kernel_fill_ok {p1 : Option Addr} {Q : Value → Heap → Prop} {H : Heap} (h : class_Kernel_fill p1 Q H) : callS PP 52 #[.pointer p1] Q H :=
  callS_of good Tryz.func52 rfl (Ls := fun | 2 => some [(21, 3)] | 1009 => some [(9, 36)] | 10 => some [(55, 3)] | 17 => some [(76, 3)] | _ => none) (by kernel_rfl) h
abbrev n_class_Kernel_Find : Nat := 66
def class_Kernel_Find (p1 : Option Addr) (s2 : ByteArray) (Q : Value → Heap → Prop) (H : Heap) : Prop :=
  callS PP 73 #[.pointer p1] (fun v3 H1 => ∃ b4 : Bool, v3 = .bool b4 ∧ cond (!b4) (Q (.tuple #[.int .i64 0, .int .i64 2]) H1) (Wr (H1.push (.cells #[.pointer none] 131)) (⟨H1.size, 0, none⟩ : Addr) ∧ ∃ p5 : Option Addr, cellH (setH (H1.push (.cells #[.pointer none] 131)) (⟨H1.size, 0, none⟩ : Addr) (.pointer p1)) (⟨H1.size, 0, none⟩ : Addr) = some (.pointer p5) ∧ callS PP 74 #[.agg #[.pointer p5], .int .i64 0] (fun v6 H2 => ∃ n7 : Int, v6 = .int .i64 n7 ∧ ∃ p8 : Option Addr, cellH H2 (⟨H1.size, 0, none⟩ : Addr) = some (.pointer p8) ∧ callS PP 75 #[.agg #[.pointer p8], .int .i64 n7] (fun v9 H3 => ∃ n10 : Int, v9 = .int .i64 n10 ∧ ∃ (I11 : List Value → Heap → Prop) (μ11 : List Value → Heap → Nat), I11 [.int .i64 0] H3 ∧ ∀ w12 H4, I11 w12 H4 → ∀ _g : Nat → Value, ∃ n13 : Int, w12 = [.int .i64 n13] ∧ cond (decide (n13 < n10)) (∃ p14 : Option Addr, cellH H4 (⟨H1.size, 0, none⟩ : Addr) = some (.pointer p14) ∧ callS PP 76 #[.agg #[.pointer p14], .int .i64 n7, .int .i64 n13] (fun v15 H5 => ∃ n16 : Int, v15 = .int .i64 n16 ∧ ∃ p17 : Option Addr, cellH H5 (⟨H1.size, 0, none⟩ : Addr) = some (.pointer p17) ∧ callS PP 176 #[.agg #[.pointer p17], .int .i64 n16, .int .i64 0] (fun v18 H6 => ∃ s19 : ByteArray, v18 = .string s19 ∧ cond (strEq s19 s2) (Q (.tuple #[.int .i64 n16, .int .i64 0]) H6) (I11 [.int .i64 (IntKind.wrap .i64 (n13 + 1))] H6 ∧ μ11 [.int .i64 (IntKind.wrap .i64 (n13 + 1))] H6 < μ11 w12 H4)) H5) H4) (Q (.tuple #[.int .i64 0, .int .i64 130]) H4)) H2) (setH (H1.push (.cells #[.pointer none] 131)) (⟨H1.size, 0, none⟩ : Addr) (.pointer p1)))) H
theorem class_Kernel_Find_ok {p1 : Option Addr} {s2 : ByteArray} {Q : Value → Heap → Prop} {H : Heap} (h : class_Kernel_Find p1 s2 Q H) : callS PP 66 #[.pointer p1, .string s2] Q H :=
  callS_of good Tryz.func66 rfl (Ls := fun | 6 => some [(20, 3)] | _ => none) (by kernel_rfl) h
abbrev n_class_Kernel_Info : Nat := 67
def class_Kernel_Info (p1 : Option Addr) (n2 : Int) (Q : Value → Heap → Prop) (H : Heap) : Prop :=
  callS PP 177 #[.pointer p1, .int .i64 n2] (fun v3 H1 => ∃ p4 : Option Addr, ∃ n5 : Int, v3 = .tuple #[.agg #[.pointer p4], .int .i64 n5] ∧ Wr (H1.push (.cells #[.pointer none] 131)) (⟨H1.size, 0, none⟩ : Addr) ∧ cond (n5 != 0) (Wr (setH (H1.push (.cells #[.pointer none] 131)) (⟨H1.size, 0, none⟩ : Addr) (.pointer p4)) (⟨H.size, 0, none⟩ : Addr) ∧ Wr (setH (setH (H1.push (.cells #[.pointer none] 131)) (⟨H1.size, 0, none⟩ : Addr) (.pointer p4)) (⟨H.size, 0, none⟩ : Addr) (.string (⟨#[]⟩ : ByteArray))) ((⟨H.size, 0, none⟩ : Addr).add 1) ∧ Wr (setH (setH (setH (H1.push (.cells #[.pointer none] 131)) (⟨H1.size, 0, none⟩ : Addr) (.pointer p4)) (⟨H.size, 0, none⟩ : Addr) (.string (⟨#[]⟩ : ByteArray))) ((⟨H.size, 0, none⟩ : Addr).add 1) (.string (⟨#[]⟩ : ByteArray))) ((⟨H.size, 0, none⟩ : Addr).add 2) ∧ Wr (setH (setH (setH (setH (H1.push (.cells #[.pointer none] 131)) (⟨H1.size, 0, none⟩ : Addr) (.pointer p4)) (⟨H.size, 0, none⟩ : Addr) (.string (⟨#[]⟩ : ByteArray))) ((⟨H.size, 0, none⟩ : Addr).add 1) (.string (⟨#[]⟩ : ByteArray))) ((⟨H.size, 0, none⟩ : Addr).add 2) (.slice none 0 0)) ((⟨H.size, 0, none⟩ : Addr).add 3) ∧ ∃ s6 : ByteArray, cellH (setH (setH (setH (setH (setH (H1.push (.cells #[.pointer none] 131)) (⟨H1.size, 0, none⟩ : Addr) (.pointer p4)) (⟨H.size, 0, none⟩ : Addr) (.string (⟨#[]⟩ : ByteArray))) ((⟨H.size, 0, none⟩ : Addr).add 1) (.string (⟨#[]⟩ : ByteArray))) ((⟨H.size, 0, none⟩ : Addr).add 2) (.slice none 0 0)) ((⟨H.size, 0, none⟩ : Addr).add 3) (.int .i64 0)) (⟨H.size, 0, none⟩ : Addr) = some (.string s6) ∧ ∃ s7 : ByteArray, cellH (setH (setH (setH (setH (setH (H1.push (.cells #[.pointer none] 131)) (⟨H1.size, 0, none⟩ : Addr) (.pointer p4)) (⟨H.size, 0, none⟩ : Addr) (.string (⟨#[]⟩ : ByteArray))) ((⟨H.size, 0, none⟩ : Addr).add 1) (.string (⟨#[]⟩ : ByteArray))) ((⟨H.size, 0, none⟩ : Addr).add 2) (.slice none 0 0)) ((⟨H.size, 0, none⟩ : Addr).add 3) (.int .i64 0)) ((⟨H.size, 0, none⟩ : Addr).add 1) = some (.string s7) ∧ ∃ a8 : Option Addr, ∃ l8 : Nat, ∃ c8 : Nat, cellH (setH (setH (setH (setH (setH (H1.push (.cells #[.pointer none] 131)) (⟨H1.size, 0, none⟩ : Addr) (.pointer p4)) (⟨H.size, 0, none⟩ : Addr) (.string (⟨#[]⟩ : ByteArray))) ((⟨H.size, 0, none⟩ : Addr).add 1) (.string (⟨#[]⟩ : ByteArray))) ((⟨H.size, 0, none⟩ : Addr).add 2) (.slice none 0 0)) ((⟨H.size, 0, none⟩ : Addr).add 3) (.int .i64 0)) ((⟨H.size, 0, none⟩ : Addr).add 2) = some (.slice a8 l8 c8) ∧ ∃ n9 : Int, cellH (setH (setH (setH (setH (setH (H1.push (.cells #[.pointer none] 131)) (⟨H1.size, 0, none⟩ : Addr) (.pointer p4)) (⟨H.size, 0, none⟩ : Addr) (.string (⟨#[]⟩ : ByteArray))) ((⟨H.size, 0, none⟩ : Addr).add 1) (.string (⟨#[]⟩ : ByteArray))) ((⟨H.size, 0, none⟩ : Addr).add 2) (.slice none 0 0)) ((⟨H.size, 0, none⟩ : Addr).add 3) (.int .i64 0)) ((⟨H.size, 0, none⟩ : Addr).add 3) = some (.int .i64 n9) ∧ Q (.tuple #[.agg #[.string s6, .string s7, .slice a8 l8 c8, .int .i64 n9], .int .i64 n5]) (setH (setH (setH (setH (setH (H1.push (.cells #[.pointer none] 131)) (⟨H1.size, 0, none⟩ : Addr) (.pointer p4)) (⟨H.size, 0, none⟩ : Addr) (.string (⟨#[]⟩ : ByteArray))) ((⟨H.size, 0, none⟩ : Addr).add 1) (.string (⟨#[]⟩ : ByteArray))) ((⟨H.size, 0, none⟩ : Addr).add 2) (.slice none 0 0)) ((⟨H.size, 0, none⟩ : Addr).add 3) (.int .i64 0))) (∃ p10 : Option Addr, cellH (setH (H1.push (.cells #[.pointer none] 131)) (⟨H1.size, 0, none⟩ : Addr) (.pointer p4)) (⟨H1.size, 0, none⟩ : Addr) = some (.pointer p10) ∧ ∃ p11 : Option Addr, cellH (setH (H1.push (.cells #[.pointer none] 131)) (⟨H1.size, 0, none⟩ : Addr) (.pointer p4)) (⟨H1.size, 0, none⟩ : Addr) = some (.pointer p11) ∧ ∃ p12 : Option Addr, cellH (setH (H1.push (.cells #[.pointer none] 131)) (⟨H1.size, 0, none⟩ : Addr) (.pointer p4)) (⟨H1.size, 0, none⟩ : Addr) = some (.pointer p12) ∧ ∃ p13 : Option Addr, cellH (setH (H1.push (.cells #[.pointer none] 131)) (⟨H1.size, 0, none⟩ : Addr) (.pointer p4)) (⟨H1.size, 0, none⟩ : Addr) = some (.pointer p13) ∧ (callS PP 176 #[.agg #[.pointer p10], .int .i64 n2, .int .i64 0] (fun v14 H2 => ∃ s15 : ByteArray, v14 = .string s15 ∧ ((cellH H2 (⟨H1.size, 0, none⟩ : Addr) = some (.pointer p13) ∧ True) ∧ ((cellH H2 (⟨H1.size, 0, none⟩ : Addr) = some (.pointer p12) ∧ True) ∧ ((cellH H2 (⟨H1.size, 0, none⟩ : Addr) = some (.pointer p11) ∧ True) ∧ True))) ∧ (callS PP 76 #[.agg #[.pointer p12], .int .i64 n2, .int .i64 2] (fun v16 H3 => ∃ n17 : Int, v16 = .int .i64 n17 ∧ ((cellH H3 (⟨H1.size, 0, none⟩ : Addr) = some (.pointer p13) ∧ True) ∧ ((cellH H3 (⟨H1.size, 0, none⟩ : Addr) = some (.pointer p11) ∧ True) ∧ True)) ∧ (callS PP 178 #[.agg #[.pointer p11], .int .i64 n17] (fun v18 H4 => ∃ a19 : Option Addr, ∃ l19 : Nat, ∃ c19 : Nat, v18 = .slice a19 l19 c19 ∧ ((cellH H4 (⟨H1.size, 0, none⟩ : Addr) = some (.pointer p13) ∧ True) ∧ True) ∧ (callS PP 179 #[.agg #[.pointer p13], .int .i64 n2, .int .i64 5] (fun v20 H5 => ∃ n21 : Int, v20 = .int .i64 n21 ∧ True ∧ True ∧ Wr (H5.push (.cells #[.string (⟨#[]⟩ : ByteArray), .string (⟨#[]⟩ : ByteArray), .slice none 0 0, .int .i64 0] 121)) (⟨H5.size, 0, none⟩ : Addr) ∧ Wr (setH (H5.push (.cells #[.string (⟨#[]⟩ : ByteArray), .string (⟨#[]⟩ : ByteArray), .slice none 0 0, .int .i64 0] 121)) (⟨H5.size, 0, none⟩ : Addr) (.string s15)) ((⟨H5.size, 0, none⟩ : Addr).add 1) ∧ Wr (setH (setH (H5.push (.cells #[.string (⟨#[]⟩ : ByteArray), .string (⟨#[]⟩ : ByteArray), .slice none 0 0, .int .i64 0] 121)) (⟨H5.size, 0, none⟩ : Addr) (.string s15)) ((⟨H5.size, 0, none⟩ : Addr).add 1) (.string (⟨#[]⟩ : ByteArray))) ((⟨H5.size, 0, none⟩ : Addr).add 2) ∧ Wr (setH (setH (setH (H5.push (.cells #[.string (⟨#[]⟩ : ByteArray), .string (⟨#[]⟩ : ByteArray), .slice none 0 0, .int .i64 0] 121)) (⟨H5.size, 0, none⟩ : Addr) (.string s15)) ((⟨H5.size, 0, none⟩ : Addr).add 1) (.string (⟨#[]⟩ : ByteArray))) ((⟨H5.size, 0, none⟩ : Addr).add 2) (.slice a19 l19 c19)) ((⟨H5.size, 0, none⟩ : Addr).add 3) ∧ True ∧ ∃ p22 : Option Addr, cellH (setH (setH (setH (setH (H5.push (.cells #[.string (⟨#[]⟩ : ByteArray), .string (⟨#[]⟩ : ByteArray), .slice none 0 0, .int .i64 0] 121)) (⟨H5.size, 0, none⟩ : Addr) (.string s15)) ((⟨H5.size, 0, none⟩ : Addr).add 1) (.string (⟨#[]⟩ : ByteArray))) ((⟨H5.size, 0, none⟩ : Addr).add 2) (.slice a19 l19 c19)) ((⟨H5.size, 0, none⟩ : Addr).add 3) (.int .i64 n21)) (⟨H1.size, 0, none⟩ : Addr) = some (.pointer p22) ∧ callS PP 180 #[.agg #[.pointer p22], .int .i64 n2] (fun v23 H6 => ∃ n24 : Int, v23 = .int .i64 n24 ∧ cond (decide (n24 > 0)) (∃ p25 : Option Addr, cellH H6 (⟨H1.size, 0, none⟩ : Addr) = some (.pointer p25) ∧ callS PP 176 #[.agg #[.pointer p25], .int .i64 n24, .int .i64 0] (fun v26 H7 => ∃ s27 : ByteArray, v26 = .string s27 ∧ Wr H7 ((⟨H5.size, 0, none⟩ : Addr).add 1) ∧ ∃ s28 : ByteArray, cellH (setH H7 ((⟨H5.size, 0, none⟩ : Addr).add 1) (.string s27)) (⟨H5.size, 0, none⟩ : Addr) = some (.string s28) ∧ ∃ s29 : ByteArray, cellH (setH H7 ((⟨H5.size, 0, none⟩ : Addr).add 1) (.string s27)) ((⟨H5.size, 0, none⟩ : Addr).add 1) = some (.string s29) ∧ ∃ a30 : Option Addr, ∃ l30 : Nat, ∃ c30 : Nat, cellH (setH H7 ((⟨H5.size, 0, none⟩ : Addr).add 1) (.string s27)) ((⟨H5.size, 0, none⟩ : Addr).add 2) = some (.slice a30 l30 c30) ∧ ∃ n31 : Int, cellH (setH H7 ((⟨H5.size, 0, none⟩ : Addr).add 1) (.string s27)) ((⟨H5.size, 0, none⟩ : Addr).add 3) = some (.int .i64 n31) ∧ Wr (setH H7 ((⟨H5.size, 0, none⟩ : Addr).add 1) (.string s27)) (⟨H.size, 0, none⟩ : Addr) ∧ Wr (setH (setH H7 ((⟨H5.size, 0, none⟩ : Addr).add 1) (.string s27)) (⟨H.size, 0, none⟩ : Addr) (.string s28)) ((⟨H.size, 0, none⟩ : Addr).add 1) ∧ Wr (setH (setH (setH H7 ((⟨H5.size, 0, none⟩ : Addr).add 1) (.string s27)) (⟨H.size, 0, none⟩ : Addr) (.string s28)) ((⟨H.size, 0, none⟩ : Addr).add 1) (.string s29)) ((⟨H.size, 0, none⟩ : Addr).add 2) ∧ Wr (setH (setH (setH (setH H7 ((⟨H5.size, 0, none⟩ : Addr).add 1) (.string s27)) (⟨H.size, 0, none⟩ : Addr) (.string s28)) ((⟨H.size, 0, none⟩ : Addr).add 1) (.string s29)) ((⟨H.size, 0, none⟩ : Addr).add 2) (.slice a30 l30 c30)) ((⟨H.size, 0, none⟩ : Addr).add 3) ∧ ∃ s32 : ByteArray, cellH (setH (setH (setH (setH (setH H7 ((⟨H5.size, 0, none⟩ : Addr).add 1) (.string s27)) (⟨H.size, 0, none⟩ : Addr) (.string s28)) ((⟨H.size, 0, none⟩ : Addr).add 1) (.string s29)) ((⟨H.size, 0, none⟩ : Addr).add 2) (.slice a30 l30 c30)) ((⟨H.size, 0, none⟩ : Addr).add 3) (.int .i64 n31)) (⟨H.size, 0, none⟩ : Addr) = some (.string s32) ∧ ∃ s33 : ByteArray, cellH (setH (setH (setH (setH (setH H7 ((⟨H5.size, 0, none⟩ : Addr).add 1) (.string s27)) (⟨H.size, 0, none⟩ : Addr) (.string s28)) ((⟨H.size, 0, none⟩ : Addr).add 1) (.string s29)) ((⟨H.size, 0, none⟩ : Addr).add 2) (.slice a30 l30 c30)) ((⟨H.size, 0, none⟩ : Addr).add 3) (.int .i64 n31)) ((⟨H.size, 0, none⟩ : Addr).add 1) = some (.string s33) ∧ ∃ a34 : Option Addr, ∃ l34 : Nat, ∃ c34 : Nat, cellH (setH (setH (setH (setH (setH H7 ((⟨H5.size, 0, none⟩ : Addr).add 1) (.string s27)) (⟨H.size, 0, none⟩ : Addr) (.string s28)) ((⟨H.size, 0, none⟩ : Addr).add 1) (.string s29)) ((⟨H.size, 0, none⟩ : Addr).add 2) (.slice a30 l30 c30)) ((⟨H.size, 0, none⟩ : Addr).add 3) (.int .i64 n31)) ((⟨H.size, 0, none⟩ : Addr).add 2) = some (.slice a34 l34 c34) ∧ ∃ n35 : Int, cellH (setH (setH (setH (setH (setH H7 ((⟨H5.size, 0, none⟩ : Addr).add 1) (.string s27)) (⟨H.size, 0, none⟩ : Addr) (.string s28)) ((⟨H.size, 0, none⟩ : Addr).add 1) (.string s29)) ((⟨H.size, 0, none⟩ : Addr).add 2) (.slice a30 l30 c30)) ((⟨H.size, 0, none⟩ : Addr).add 3) (.int .i64 n31)) ((⟨H.size, 0, none⟩ : Addr).add 3) = some (.int .i64 n35) ∧ Q (.tuple #[.agg #[.string s32, .string s33, .slice a34 l34 c34, .int .i64 n35], .int .i64 0]) (setH (setH (setH (setH (setH H7 ((⟨H5.size, 0, none⟩ : Addr).add 1) (.string s27)) (⟨H.size, 0, none⟩ : Addr) (.string s28)) ((⟨H.size, 0, none⟩ : Addr).add 1) (.string s29)) ((⟨H.size, 0, none⟩ : Addr).add 2) (.slice a30 l30 c30)) ((⟨H.size, 0, none⟩ : Addr).add 3) (.int .i64 n31))) H6) (∃ s36 : ByteArray, cellH H6 (⟨H5.size, 0, none⟩ : Addr) = some (.string s36) ∧ ∃ s37 : ByteArray, cellH H6 ((⟨H5.size, 0, none⟩ : Addr).add 1) = some (.string s37) ∧ ∃ a38 : Option Addr, ∃ l38 : Nat, ∃ c38 : Nat, cellH H6 ((⟨H5.size, 0, none⟩ : Addr).add 2) = some (.slice a38 l38 c38) ∧ ∃ n39 : Int, cellH H6 ((⟨H5.size, 0, none⟩ : Addr).add 3) = some (.int .i64 n39) ∧ Wr H6 (⟨H.size, 0, none⟩ : Addr) ∧ Wr (setH H6 (⟨H.size, 0, none⟩ : Addr) (.string s36)) ((⟨H.size, 0, none⟩ : Addr).add 1) ∧ Wr (setH (setH H6 (⟨H.size, 0, none⟩ : Addr) (.string s36)) ((⟨H.size, 0, none⟩ : Addr).add 1) (.string s37)) ((⟨H.size, 0, none⟩ : Addr).add 2) ∧ Wr (setH (setH (setH H6 (⟨H.size, 0, none⟩ : Addr) (.string s36)) ((⟨H.size, 0, none⟩ : Addr).add 1) (.string s37)) ((⟨H.size, 0, none⟩ : Addr).add 2) (.slice a38 l38 c38)) ((⟨H.size, 0, none⟩ : Addr).add 3) ∧ ∃ s40 : ByteArray, cellH (setH (setH (setH (setH H6 (⟨H.size, 0, none⟩ : Addr) (.string s36)) ((⟨H.size, 0, none⟩ : Addr).add 1) (.string s37)) ((⟨H.size, 0, none⟩ : Addr).add 2) (.slice a38 l38 c38)) ((⟨H.size, 0, none⟩ : Addr).add 3) (.int .i64 n39)) (⟨H.size, 0, none⟩ : Addr) = some (.string s40) ∧ ∃ s41 : ByteArray, cellH (setH (setH (setH (setH H6 (⟨H.size, 0, none⟩ : Addr) (.string s36)) ((⟨H.size, 0, none⟩ : Addr).add 1) (.string s37)) ((⟨H.size, 0, none⟩ : Addr).add 2) (.slice a38 l38 c38)) ((⟨H.size, 0, none⟩ : Addr).add 3) (.int .i64 n39)) ((⟨H.size, 0, none⟩ : Addr).add 1) = some (.string s41) ∧ ∃ a42 : Option Addr, ∃ l42 : Nat, ∃ c42 : Nat, cellH (setH (setH (setH (setH H6 (⟨H.size, 0, none⟩ : Addr) (.string s36)) ((⟨H.size, 0, none⟩ : Addr).add 1) (.string s37)) ((⟨H.size, 0, none⟩ : Addr).add 2) (.slice a38 l38 c38)) ((⟨H.size, 0, none⟩ : Addr).add 3) (.int .i64 n39)) ((⟨H.size, 0, none⟩ : Addr).add 2) = some (.slice a42 l42 c42) ∧ ∃ n43 : Int, cellH (setH (setH (setH (setH H6 (⟨H.size, 0, none⟩ : Addr) (.string s36)) ((⟨H.size, 0, none⟩ : Addr).add 1) (.string s37)) ((⟨H.size, 0, none⟩ : Addr).add 2) (.slice a38 l38 c38)) ((⟨H.size, 0, none⟩ : Addr).add 3) (.int .i64 n39)) ((⟨H.size, 0, none⟩ : Addr).add 3) = some (.int .i64 n43) ∧ Q (.tuple #[.agg #[.string s40, .string s41, .slice a42 l42 c42, .int .i64 n43], .int .i64 0]) (setH (setH (setH (setH H6 (⟨H.size, 0, none⟩ : Addr) (.string s36)) ((⟨H.size, 0, none⟩ : Addr).add 1) (.string s37)) ((⟨H.size, 0, none⟩ : Addr).add 2) (.slice a38 l38 c38)) ((⟨H.size, 0, none⟩ : Addr).add 3) (.int .i64 n39)))) (setH (setH (setH (setH (H5.push (.cells #[.string (⟨#[]⟩ : ByteArray), .string (⟨#[]⟩ : ByteArray), .slice none 0 0, .int .i64 0] 121)) (⟨H5.size, 0, none⟩ : Addr) (.string s15)) ((⟨H5.size, 0, none⟩ : Addr).add 1) (.string (⟨#[]⟩ : ByteArray))) ((⟨H5.size, 0, none⟩ : Addr).add 2) (.slice a19 l19 c19)) ((⟨H5.size, 0, none⟩ : Addr).add 3) (.int .i64 n21))) H4) ∧ (((cellH (H4.push (.cells #[.string (⟨#[]⟩ : ByteArray), .string (⟨#[]⟩ : ByteArray), .slice none 0 0, .int .i64 0] 121)) (⟨H1.size, 0, none⟩ : Addr) = some (.pointer p13) ∧ True) ∧ True) ∧ callS PP 179 #[.agg #[.pointer p13], .int .i64 n2, .int .i64 5] (fun v44 H8 => ∃ n45 : Int, v44 = .int .i64 n45 ∧ True ∧ Wr H8 (⟨H4.size, 0, none⟩ : Addr) ∧ Wr (setH H8 (⟨H4.size, 0, none⟩ : Addr) (.string s15)) ((⟨H4.size, 0, none⟩ : Addr).add 1) ∧ Wr (setH (setH H8 (⟨H4.size, 0, none⟩ : Addr) (.string s15)) ((⟨H4.size, 0, none⟩ : Addr).add 1) (.string (⟨#[]⟩ : ByteArray))) ((⟨H4.size, 0, none⟩ : Addr).add 2) ∧ Wr (setH (setH (setH H8 (⟨H4.size, 0, none⟩ : Addr) (.string s15)) ((⟨H4.size, 0, none⟩ : Addr).add 1) (.string (⟨#[]⟩ : ByteArray))) ((⟨H4.size, 0, none⟩ : Addr).add 2) (.slice a19 l19 c19)) ((⟨H4.size, 0, none⟩ : Addr).add 3) ∧ True ∧ ∃ p46 : Option Addr, cellH (setH (setH (setH (setH H8 (⟨H4.size, 0, none⟩ : Addr) (.string s15)) ((⟨H4.size, 0, none⟩ : Addr).add 1) (.string (⟨#[]⟩ : ByteArray))) ((⟨H4.size, 0, none⟩ : Addr).add 2) (.slice a19 l19 c19)) ((⟨H4.size, 0, none⟩ : Addr).add 3) (.int .i64 n45)) (⟨H1.size, 0, none⟩ : Addr) = some (.pointer p46) ∧ callS PP 180 #[.agg #[.pointer p46], .int .i64 n2] (fun v47 H9 => ∃ n48 : Int, v47 = .int .i64 n48 ∧ cond (decide (n48 > 0)) (∃ p49 : Option Addr, cellH H9 (⟨H1.size, 0, none⟩ : Addr) = some (.pointer p49) ∧ callS PP 176 #[.agg #[.pointer p49], .int .i64 n48, .int .i64 0] (fun v50 H10 => ∃ s51 : ByteArray, v50 = .string s51 ∧ Wr H10 ((⟨H4.size, 0, none⟩ : Addr).add 1) ∧ ∃ s52 : ByteArray, cellH (setH H10 ((⟨H4.size, 0, none⟩ : Addr).add 1) (.string s51)) (⟨H4.size, 0, none⟩ : Addr) = some (.string s52) ∧ ∃ s53 : ByteArray, cellH (setH H10 ((⟨H4.size, 0, none⟩ : Addr).add 1) (.string s51)) ((⟨H4.size, 0, none⟩ : Addr).add 1) = some (.string s53) ∧ ∃ a54 : Option Addr, ∃ l54 : Nat, ∃ c54 : Nat, cellH (setH H10 ((⟨H4.size, 0, none⟩ : Addr).add 1) (.string s51)) ((⟨H4.size, 0, none⟩ : Addr).add 2) = some (.slice a54 l54 c54) ∧ ∃ n55 : Int, cellH (setH H10 ((⟨H4.size, 0, none⟩ : Addr).add 1) (.string s51)) ((⟨H4.size, 0, none⟩ : Addr).add 3) = some (.int .i64 n55) ∧ Wr (setH H10 ((⟨H4.size, 0, none⟩ : Addr).add 1) (.string s51)) (⟨H.size, 0, none⟩ : Addr) ∧ Wr (setH (setH H10 ((⟨H4.size, 0, none⟩ : Addr).add 1) (.string s51)) (⟨H.size, 0, none⟩ : Addr) (.string s52)) ((⟨H.size, 0, none⟩ : Addr).add 1) ∧ Wr (setH (setH (setH H10 ((⟨H4.size, 0, none⟩ : Addr).add 1) (.string s51)) (⟨H.size, 0, none⟩ : Addr) (.string s52)) ((⟨H.size, 0, none⟩ : Addr).add 1) (.string s53)) ((⟨H.size, 0, none⟩ : Addr).add 2) ∧ Wr (setH (setH (setH (setH H10 ((⟨H4.size, 0, none⟩ : Addr).add 1) (.string s51)) (⟨H.size, 0, none⟩ : Addr) (.string s52)) ((⟨H.size, 0, none⟩ : Addr).add 1) (.string s53)) ((⟨H.size, 0, none⟩ : Addr).add 2) (.slice a54 l54 c54)) ((⟨H.size, 0, none⟩ : Addr).add 3) ∧ ∃ s56 : ByteArray, cellH (setH (setH (setH (setH (setH H10 ((⟨H4.size, 0, none⟩ : Addr).add 1) (.string s51)) (⟨H.size, 0, none⟩ : Addr) (.string s52)) ((⟨H.size, 0, none⟩ : Addr).add 1) (.string s53)) ((⟨H.size, 0, none⟩ : Addr).add 2) (.slice a54 l54 c54)) ((⟨H.size, 0, none⟩ : Addr).add 3) (.int .i64 n55)) (⟨H.size, 0, none⟩ : Addr) = some (.string s56) ∧ ∃ s57 : ByteArray, cellH (setH (setH (setH (setH (setH H10 ((⟨H4.size, 0, none⟩ : Addr).add 1) (.string s51)) (⟨H.size, 0, none⟩ : Addr) (.string s52)) ((⟨H.size, 0, none⟩ : Addr).add 1) (.string s53)) ((⟨H.size, 0, none⟩ : Addr).add 2) (.slice a54 l54 c54)) ((⟨H.size, 0, none⟩ : Addr).add 3) (.int .i64 n55)) ((⟨H.size, 0, none⟩ : Addr).add 1) = some (.string s57) ∧ ∃ a58 : Option Addr, ∃ l58 : Nat, ∃ c58 : Nat, cellH (setH (setH (setH (setH (setH H10 ((⟨H4.size, 0, none⟩ : Addr).add 1) (.string s51)) (⟨H.size, 0, none⟩ : Addr) (.string s52)) ((⟨H.size, 0, none⟩ : Addr).add 1) (.string s53)) ((⟨H.size, 0, none⟩ : Addr).add 2) (.slice a54 l54 c54)) ((⟨H.size, 0, none⟩ : Addr).add 3) (.int .i64 n55)) ((⟨H.size, 0, none⟩ : Addr).add 2) = some (.slice a58 l58 c58) ∧ ∃ n59 : Int, cellH (setH (setH (setH (setH (setH H10 ((⟨H4.size, 0, none⟩ : Addr).add 1) (.string s51)) (⟨H.size, 0, none⟩ : Addr) (.string s52)) ((⟨H.size, 0, none⟩ : Addr).add 1) (.string s53)) ((⟨H.size, 0, none⟩ : Addr).add 2) (.slice a54 l54 c54)) ((⟨H.size, 0, none⟩ : Addr).add 3) (.int .i64 n55)) ((⟨H.size, 0, none⟩ : Addr).add 3) = some (.int .i64 n59) ∧ Q (.tuple #[.agg #[.string s56, .string s57, .slice a58 l58 c58, .int .i64 n59], .int .i64 0]) (setH (setH (setH (setH (setH H10 ((⟨H4.size, 0, none⟩ : Addr).add 1) (.string s51)) (⟨H.size, 0, none⟩ : Addr) (.string s52)) ((⟨H.size, 0, none⟩ : Addr).add 1) (.string s53)) ((⟨H.size, 0, none⟩ : Addr).add 2) (.slice a54 l54 c54)) ((⟨H.size, 0, none⟩ : Addr).add 3) (.int .i64 n55))) H9) (∃ s60 : ByteArray, cellH H9 (⟨H4.size, 0, none⟩ : Addr) = some (.string s60) ∧ ∃ s61 : ByteArray, cellH H9 ((⟨H4.size, 0, none⟩ : Addr).add 1) = some (.string s61) ∧ ∃ a62 : Option Addr, ∃ l62 : Nat, ∃ c62 : Nat, cellH H9 ((⟨H4.size, 0, none⟩ : Addr).add 2) = some (.slice a62 l62 c62) ∧ ∃ n63 : Int, cellH H9 ((⟨H4.size, 0, none⟩ : Addr).add 3) = some (.int .i64 n63) ∧ Wr H9 (⟨H.size, 0, none⟩ : Addr) ∧ Wr (setH H9 (⟨H.size, 0, none⟩ : Addr) (.string s60)) ((⟨H.size, 0, none⟩ : Addr).add 1) ∧ Wr (setH (setH H9 (⟨H.size, 0, none⟩ : Addr) (.string s60)) ((⟨H.size, 0, none⟩ : Addr).add 1) (.string s61)) ((⟨H.size, 0, none⟩ : Addr).add 2) ∧ Wr (setH (setH (setH H9 (⟨H.size, 0, none⟩ : Addr) (.string s60)) ((⟨H.size, 0, none⟩ : Addr).add 1) (.string s61)) ((⟨H.size, 0, none⟩ : Addr).add 2) (.slice a62 l62 c62)) ((⟨H.size, 0, none⟩ : Addr).add 3) ∧ ∃ s64 : ByteArray, cellH (setH (setH (setH (setH H9 (⟨H.size, 0, none⟩ : Addr) (.string s60)) ((⟨H.size, 0, none⟩ : Addr).add 1) (.string s61)) ((⟨H.size, 0, none⟩ : Addr).add 2) (.slice a62 l62 c62)) ((⟨H.size, 0, none⟩ : Addr).add 3) (.int .i64 n63)) (⟨H.size, 0, none⟩ : Addr) = some (.string s64) ∧ ∃ s65 : ByteArray, cellH (setH (setH (setH (setH H9 (⟨H.size, 0, none⟩ : Addr) (.string s60)) ((⟨H.size, 0, none⟩ : Addr).add 1) (.string s61)) ((⟨H.size, 0, none⟩ : Addr).add 2) (.slice a62 l62 c62)) ((⟨H.size, 0, none⟩ : Addr).add 3) (.int .i64 n63)) ((⟨H.size, 0, none⟩ : Addr).add 1) = some (.string s65) ∧ ∃ a66 : Option Addr, ∃ l66 : Nat, ∃ c66 : Nat, cellH (setH (setH (setH (setH H9 (⟨H.size, 0, none⟩ : Addr) (.string s60)) ((⟨H.size, 0, none⟩ : Addr).add 1) (.string s61)) ((⟨H.size, 0, none⟩ : Addr).add 2) (.slice a62 l62 c62)) ((⟨H.size, 0, none⟩ : Addr).add 3) (.int .i64 n63)) ((⟨H.size, 0, none⟩ : Addr).add 2) = some (.slice a66 l66 c66) ∧ ∃ n67 : Int, cellH (setH (setH (setH (setH H9 (⟨H.size, 0, none⟩ : Addr) (.string s60)) ((⟨H.size, 0, none⟩ : Addr).add 1) (.string s61)) ((⟨H.size, 0, none⟩ : Addr).add 2) (.slice a62 l62 c62)) ((⟨H.size, 0, none⟩ : Addr).add 3) (.int .i64 n63)) ((⟨H.size, 0, none⟩ : Addr).add 3) = some (.int .i64 n67) ∧ Q (.tuple #[.agg #[.string s64, .string s65, .slice a66 l66 c66, .int .i64 n67], .int .i64 0]) (setH (setH (setH (setH H9 (⟨H.size, 0, none⟩ : Addr) (.string s60)) ((⟨H.size, 0, none⟩ : Addr).add 1) (.string s61)) ((⟨H.size, 0, none⟩ : Addr).add 2) (.slice a62 l62 c62)) ((⟨H.size, 0, none⟩ : Addr).add 3) (.int .i64 n63)))) (setH (setH (setH (setH H8 (⟨H4.size, 0, none⟩ : Addr) (.string s15)) ((⟨H4.size, 0, none⟩ : Addr).add 1) (.string (⟨#[]⟩ : ByteArray))) ((⟨H4.size, 0, none⟩ : Addr).add 2) (.slice a19 l19 c19)) ((⟨H4.size, 0, none⟩ : Addr).add 3) (.int .i64 n45))) (H4.push (.cells #[.string (⟨#[]⟩ : ByteArray), .string (⟨#[]⟩ : ByteArray), .slice none 0 0, .int .i64 0] 121)))) H3) ∧ (((cellH (H3.push (.cells #[.string (⟨#[]⟩ : ByteArray), .string (⟨#[]⟩ : ByteArray), .slice none 0 0, .int .i64 0] 121)) (⟨H1.size, 0, none⟩ : Addr) = some (.pointer p13) ∧ True) ∧ ((cellH (H3.push (.cells #[.string (⟨#[]⟩ : ByteArray), .string (⟨#[]⟩ : ByteArray), .slice none 0 0, .int .i64 0] 121)) (⟨H1.size, 0, none⟩ : Addr) = some (.pointer p11) ∧ True) ∧ True)) ∧ callS PP 178 #[.agg #[.pointer p11], .int .i64 n17] (fun v68 H11 => ∃ a69 : Option Addr, ∃ l69 : Nat, ∃ c69 : Nat, v68 = .slice a69 l69 c69 ∧ ((cellH H11 (⟨H1.size, 0, none⟩ : Addr) = some (.pointer p13) ∧ True) ∧ True) ∧ callS PP 179 #[.agg #[.pointer p13], .int .i64 n2, .int .i64 5] (fun v70 H12 => ∃ n71 : Int, v70 = .int .i64 n71 ∧ True ∧ Wr H12 (⟨H3.size, 0, none⟩ : Addr) ∧ Wr (setH H12 (⟨H3.size, 0, none⟩ : Addr) (.string s15)) ((⟨H3.size, 0, none⟩ : Addr).add 1) ∧ Wr (setH (setH H12 (⟨H3.size, 0, none⟩ : Addr) (.string s15)) ((⟨H3.size, 0, none⟩ : Addr).add 1) (.string (⟨#[]⟩ : ByteArray))) ((⟨H3.size, 0, none⟩ : Addr).add 2) ∧ Wr (setH (setH (setH H12 (⟨H3.size, 0, none⟩ : Addr) (.string s15)) ((⟨H3.size, 0, none⟩ : Addr).add 1) (.string (⟨#[]⟩ : ByteArray))) ((⟨H3.size, 0, none⟩ : Addr).add 2) (.slice a69 l69 c69)) ((⟨H3.size, 0, none⟩ : Addr).add 3) ∧ True ∧ ∃ p72 : Option Addr, cellH (setH (setH (setH (setH H12 (⟨H3.size, 0, none⟩ : Addr) (.string s15)) ((⟨H3.size, 0, none⟩ : Addr).add 1) (.string (⟨#[]⟩ : ByteArray))) ((⟨H3.size, 0, none⟩ : Addr).add 2) (.slice a69 l69 c69)) ((⟨H3.size, 0, none⟩ : Addr).add 3) (.int .i64 n71)) (⟨H1.size, 0, none⟩ : Addr) = some (.pointer p72) ∧ callS PP 180 #[.agg #[.pointer p72], .int .i64 n2] (fun v73 H13 => ∃ n74 : Int, v73 = .int .i64 n74 ∧ cond (decide (n74 > 0)) (∃ p75 : Option Addr, cellH H13 (⟨H1.size, 0, none⟩ : Addr) = some (.pointer p75) ∧ callS PP 176 #[.agg #[.pointer p75], .int .i64 n74, .int .i64 0] (fun v76 H14 => ∃ s77 : ByteArray, v76 = .string s77 ∧ Wr H14 ((⟨H3.size, 0, none⟩ : Addr).add 1) ∧ ∃ s78 : ByteArray, cellH (setH H14 ((⟨H3.size, 0, none⟩ : Addr).add 1) (.string s77)) (⟨H3.size, 0, none⟩ : Addr) = some (.string s78) ∧ ∃ s79 : ByteArray, cellH (setH H14 ((⟨H3.size, 0, none⟩ : Addr).add 1) (.string s77)) ((⟨H3.size, 0, none⟩ : Addr).add 1) = some (.string s79) ∧ ∃ a80 : Option Addr, ∃ l80 : Nat, ∃ c80 : Nat, cellH (setH H14 ((⟨H3.size, 0, none⟩ : Addr).add 1) (.string s77)) ((⟨H3.size, 0, none⟩ : Addr).add 2) = some (.slice a80 l80 c80) ∧ ∃ n81 : Int, cellH (setH H14 ((⟨H3.size, 0, none⟩ : Addr).add 1) (.string s77)) ((⟨H3.size, 0, none⟩ : Addr).add 3) = some (.int .i64 n81) ∧ Wr (setH H14 ((⟨H3.size, 0, none⟩ : Addr).add 1) (.string s77)) (⟨H.size, 0, none⟩ : Addr) ∧ Wr (setH (setH H14 ((⟨H3.size, 0, none⟩ : Addr).add 1) (.string s77)) (⟨H.size, 0, none⟩ : Addr) (.string s78)) ((⟨H.size, 0, none⟩ : Addr).add 1) ∧ Wr (setH (setH (setH H14 ((⟨H3.size, 0, none⟩ : Addr).add 1) (.string s77)) (⟨H.size, 0, none⟩ : Addr) (.string s78)) ((⟨H.size, 0, none⟩ : Addr).add 1) (.string s79)) ((⟨H.size, 0, none⟩ : Addr).add 2) ∧ Wr (setH (setH (setH (setH H14 ((⟨H3.size, 0, none⟩ : Addr).add 1) (.string s77)) (⟨H.size, 0, none⟩ : Addr) (.string s78)) ((⟨H.size, 0, none⟩ : Addr).add 1) (.string s79)) ((⟨H.size, 0, none⟩ : Addr).add 2) (.slice a80 l80 c80)) ((⟨H.size, 0, none⟩ : Addr).add 3) ∧ ∃ s82 : ByteArray, cellH (setH (setH (setH (setH (setH H14 ((⟨H3.size, 0, none⟩ : Addr).add 1) (.string s77)) (⟨H.size, 0, none⟩ : Addr) (.string s78)) ((⟨H.size, 0, none⟩ : Addr).add 1) (.string s79)) ((⟨H.size, 0, none⟩ : Addr).add 2) (.slice a80 l80 c80)) ((⟨H.size, 0, none⟩ : Addr).add 3) (.int .i64 n81)) (⟨H.size, 0, none⟩ : Addr) = some (.string s82) ∧ ∃ s83 : ByteArray, cellH (setH (setH (setH (setH (setH H14 ((⟨H3.size, 0, none⟩ : Addr).add 1) (.string s77)) (⟨H.size, 0, none⟩ : Addr) (.string s78)) ((⟨H.size, 0, none⟩ : Addr).add 1) (.string s79)) ((⟨H.size, 0, none⟩ : Addr).add 2) (.slice a80 l80 c80)) ((⟨H.size, 0, none⟩ : Addr).add 3) (.int .i64 n81)) ((⟨H.size, 0, none⟩ : Addr).add 1) = some (.string s83) ∧ ∃ a84 : Option Addr, ∃ l84 : Nat, ∃ c84 : Nat, cellH (setH (setH (setH (setH (setH H14 ((⟨H3.size, 0, none⟩ : Addr).add 1) (.string s77)) (⟨H.size, 0, none⟩ : Addr) (.string s78)) ((⟨H.size, 0, none⟩ : Addr).add 1) (.string s79)) ((⟨H.size, 0, none⟩ : Addr).add 2) (.slice a80 l80 c80)) ((⟨H.size, 0, none⟩ : Addr).add 3) (.int .i64 n81)) ((⟨H.size, 0, none⟩ : Addr).add 2) = some (.slice a84 l84 c84) ∧ ∃ n85 : Int, cellH (setH (setH (setH (setH (setH H14 ((⟨H3.size, 0, none⟩ : Addr).add 1) (.string s77)) (⟨H.size, 0, none⟩ : Addr) (.string s78)) ((⟨H.size, 0, none⟩ : Addr).add 1) (.string s79)) ((⟨H.size, 0, none⟩ : Addr).add 2) (.slice a80 l80 c80)) ((⟨H.size, 0, none⟩ : Addr).add 3) (.int .i64 n81)) ((⟨H.size, 0, none⟩ : Addr).add 3) = some (.int .i64 n85) ∧ Q (.tuple #[.agg #[.string s82, .string s83, .slice a84 l84 c84, .int .i64 n85], .int .i64 0]) (setH (setH (setH (setH (setH H14 ((⟨H3.size, 0, none⟩ : Addr).add 1) (.string s77)) (⟨H.size, 0, none⟩ : Addr) (.string s78)) ((⟨H.size, 0, none⟩ : Addr).add 1) (.string s79)) ((⟨H.size, 0, none⟩ : Addr).add 2) (.slice a80 l80 c80)) ((⟨H.size, 0, none⟩ : Addr).add 3) (.int .i64 n81))) H13) (∃ s86 : ByteArray, cellH H13 (⟨H3.size, 0, none⟩ : Addr) = some (.string s86) ∧ ∃ s87 : ByteArray, cellH H13 ((⟨H3.size, 0, none⟩ : Addr).add 1) = some (.string s87) ∧ ∃ a88 : Option Addr, ∃ l88 : Nat, ∃ c88 : Nat, cellH H13 ((⟨H3.size, 0, none⟩ : Addr).add 2) = some (.slice a88 l88 c88) ∧ ∃ n89 : Int, cellH H13 ((⟨H3.size, 0, none⟩ : Addr).add 3) = some (.int .i64 n89) ∧ Wr H13 (⟨H.size, 0, none⟩ : Addr) ∧ Wr (setH H13 (⟨H.size, 0, none⟩ : Addr) (.string s86)) ((⟨H.size, 0, none⟩ : Addr).add 1) ∧ Wr (setH (setH H13 (⟨H.size, 0, none⟩ : Addr) (.string s86)) ((⟨H.size, 0, none⟩ : Addr).add 1) (.string s87)) ((⟨H.size, 0, none⟩ : Addr).add 2) ∧ Wr (setH (setH (setH H13 (⟨H.size, 0, none⟩ : Addr) (.string s86)) ((⟨H.size, 0, none⟩ : Addr).add 1) (.string s87)) ((⟨H.size, 0, none⟩ : Addr).add 2) (.slice a88 l88 c88)) ((⟨H.size, 0, none⟩ : Addr).add 3) ∧ ∃ s90 : ByteArray, cellH (setH (setH (setH (setH H13 (⟨H.size, 0, none⟩ : Addr) (.string s86)) ((⟨H.size, 0, none⟩ : Addr).add 1) (.string s87)) ((⟨H.size, 0, none⟩ : Addr).add 2) (.slice a88 l88 c88)) ((⟨H.size, 0, none⟩ : Addr).add 3) (.int .i64 n89)) (⟨H.size, 0, none⟩ : Addr) = some (.string s90) ∧ ∃ s91 : ByteArray, cellH (setH (setH (setH (setH H13 (⟨H.size, 0, none⟩ : Addr) (.string s86)) ((⟨H.size, 0, none⟩ : Addr).add 1) (.string s87)) ((⟨H.size, 0, none⟩ : Addr).add 2) (.slice a88 l88 c88)) ((⟨H.size, 0, none⟩ : Addr).add 3) (.int .i64 n89)) ((⟨H.size, 0, none⟩ : Addr).add 1) = some (.string s91) ∧ ∃ a92 : Option Addr, ∃ l92 : Nat, ∃ c92 : Nat, cellH (setH (setH (setH (setH H13 (⟨H.size, 0, none⟩ : Addr) (.string s86)) ((⟨H.size, 0, none⟩ : Addr).add 1) (.string s87)) ((⟨H.size, 0, none⟩ : Addr).add 2) (.slice a88 l88 c88)) ((⟨H.size, 0, none⟩ : Addr).add 3) (.int .i64 n89)) ((⟨H.size, 0, none⟩ : Addr).add 2) = some (.slice a92 l92 c92) ∧ ∃ n93 : Int, cellH (setH (setH (setH (setH H13 (⟨H.size, 0, none⟩ : Addr) (.string s86)) ((⟨H.size, 0, none⟩ : Addr).add 1) (.string s87)) ((⟨H.size, 0, none⟩ : Addr).add 2) (.slice a88 l88 c88)) ((⟨H.size, 0, none⟩ : Addr).add 3) (.int .i64 n89)) ((⟨H.size, 0, none⟩ : Addr).add 3) = some (.int .i64 n93) ∧ Q (.tuple #[.agg #[.string s90, .string s91, .slice a92 l92 c92, .int .i64 n93], .int .i64 0]) (setH (setH (setH (setH H13 (⟨H.size, 0, none⟩ : Addr) (.string s86)) ((⟨H.size, 0, none⟩ : Addr).add 1) (.string s87)) ((⟨H.size, 0, none⟩ : Addr).add 2) (.slice a88 l88 c88)) ((⟨H.size, 0, none⟩ : Addr).add 3) (.int .i64 n89)))) (setH (setH (setH (setH H12 (⟨H3.size, 0, none⟩ : Addr) (.string s15)) ((⟨H3.size, 0, none⟩ : Addr).add 1) (.string (⟨#[]⟩ : ByteArray))) ((⟨H3.size, 0, none⟩ : Addr).add 2) (.slice a69 l69 c69)) ((⟨H3.size, 0, none⟩ : Addr).add 3) (.int .i64 n71))) H11) (H3.push (.cells #[.string (⟨#[]⟩ : ByteArray), .string (⟨#[]⟩ : ByteArray), .slice none 0 0, .int .i64 0] 121)))) H2) ∧ (((cellH (H2.push (.cells #[.string (⟨#[]⟩ : ByteArray), .string (⟨#[]⟩ : ByteArray), .slice none 0 0, .int .i64 0] 121)) (⟨H1.size, 0, none⟩ : Addr) = some (.pointer p13) ∧ True) ∧ ((cellH (H2.push (.cells #[.string (⟨#[]⟩ : ByteArray), .string (⟨#[]⟩ : ByteArray), .slice none 0 0, .int .i64 0] 121)) (⟨H1.size, 0, none⟩ : Addr) = some (.pointer p12) ∧ True) ∧ ((cellH (H2.push (.cells #[.string (⟨#[]⟩ : ByteArray), .string (⟨#[]⟩ : ByteArray), .slice none 0 0, .int .i64 0] 121)) (⟨H1.size, 0, none⟩ : Addr) = some (.pointer p11) ∧ True) ∧ True))) ∧ callS PP 76 #[.agg #[.pointer p12], .int .i64 n2, .int .i64 2] (fun v94 H15 => ∃ n95 : Int, v94 = .int .i64 n95 ∧ ((cellH H15 (⟨H1.size, 0, none⟩ : Addr) = some (.pointer p13) ∧ True) ∧ ((cellH H15 (⟨H1.size, 0, none⟩ : Addr) = some (.pointer p11) ∧ True) ∧ True)) ∧ callS PP 178 #[.agg #[.pointer p11], .int .i64 n95] (fun v96 H16 => ∃ a97 : Option Addr, ∃ l97 : Nat, ∃ c97 : Nat, v96 = .slice a97 l97 c97 ∧ ((cellH H16 (⟨H1.size, 0, none⟩ : Addr) = some (.pointer p13) ∧ True) ∧ True) ∧ callS PP 179 #[.agg #[.pointer p13], .int .i64 n2, .int .i64 5] (fun v98 H17 => ∃ n99 : Int, v98 = .int .i64 n99 ∧ True ∧ Wr H17 (⟨H2.size, 0, none⟩ : Addr) ∧ Wr (setH H17 (⟨H2.size, 0, none⟩ : Addr) (.string s15)) ((⟨H2.size, 0, none⟩ : Addr).add 1) ∧ Wr (setH (setH H17 (⟨H2.size, 0, none⟩ : Addr) (.string s15)) ((⟨H2.size, 0, none⟩ : Addr).add 1) (.string (⟨#[]⟩ : ByteArray))) ((⟨H2.size, 0, none⟩ : Addr).add 2) ∧ Wr (setH (setH (setH H17 (⟨H2.size, 0, none⟩ : Addr) (.string s15)) ((⟨H2.size, 0, none⟩ : Addr).add 1) (.string (⟨#[]⟩ : ByteArray))) ((⟨H2.size, 0, none⟩ : Addr).add 2) (.slice a97 l97 c97)) ((⟨H2.size, 0, none⟩ : Addr).add 3) ∧ True ∧ ∃ p100 : Option Addr, cellH (setH (setH (setH (setH H17 (⟨H2.size, 0, none⟩ : Addr) (.string s15)) ((⟨H2.size, 0, none⟩ : Addr).add 1) (.string (⟨#[]⟩ : ByteArray))) ((⟨H2.size, 0, none⟩ : Addr).add 2) (.slice a97 l97 c97)) ((⟨H2.size, 0, none⟩ : Addr).add 3) (.int .i64 n99)) (⟨H1.size, 0, none⟩ : Addr) = some (.pointer p100) ∧ callS PP 180 #[.agg #[.pointer p100], .int .i64 n2] (fun v101 H18 => ∃ n102 : Int, v101 = .int .i64 n102 ∧ cond (decide (n102 > 0)) (∃ p103 : Option Addr, cellH H18 (⟨H1.size, 0, none⟩ : Addr) = some (.pointer p103) ∧ callS PP 176 #[.agg #[.pointer p103], .int .i64 n102, .int .i64 0] (fun v104 H19 => ∃ s105 : ByteArray, v104 = .string s105 ∧ Wr H19 ((⟨H2.size, 0, none⟩ : Addr).add 1) ∧ ∃ s106 : ByteArray, cellH (setH H19 ((⟨H2.size, 0, none⟩ : Addr).add 1) (.string s105)) (⟨H2.size, 0, none⟩ : Addr) = some (.string s106) ∧ ∃ s107 : ByteArray, cellH (setH H19 ((⟨H2.size, 0, none⟩ : Addr).add 1) (.string s105)) ((⟨H2.size, 0, none⟩ : Addr).add 1) = some (.string s107) ∧ ∃ a108 : Option Addr, ∃ l108 : Nat, ∃ c108 : Nat, cellH (setH H19 ((⟨H2.size, 0, none⟩ : Addr).add 1) (.string s105)) ((⟨H2.size, 0, none⟩ : Addr).add 2) = some (.slice a108 l108 c108) ∧ ∃ n109 : Int, cellH (setH H19 ((⟨H2.size, 0, none⟩ : Addr).add 1) (.string s105)) ((⟨H2.size, 0, none⟩ : Addr).add 3) = some (.int .i64 n109) ∧ Wr (setH H19 ((⟨H2.size, 0, none⟩ : Addr).add 1) (.string s105)) (⟨H.size, 0, none⟩ : Addr) ∧ Wr (setH (setH H19 ((⟨H2.size, 0, none⟩ : Addr).add 1) (.string s105)) (⟨H.size, 0, none⟩ : Addr) (.string s106)) ((⟨H.size, 0, none⟩ : Addr).add 1) ∧ Wr (setH (setH (setH H19 ((⟨H2.size, 0, none⟩ : Addr).add 1) (.string s105)) (⟨H.size, 0, none⟩ : Addr) (.string s106)) ((⟨H.size, 0, none⟩ : Addr).add 1) (.string s107)) ((⟨H.size, 0, none⟩ : Addr).add 2) ∧ Wr (setH (setH (setH (setH H19 ((⟨H2.size, 0, none⟩ : Addr).add 1) (.string s105)) (⟨H.size, 0, none⟩ : Addr) (.string s106)) ((⟨H.size, 0, none⟩ : Addr).add 1) (.string s107)) ((⟨H.size, 0, none⟩ : Addr).add 2) (.slice a108 l108 c108)) ((⟨H.size, 0, none⟩ : Addr).add 3) ∧ ∃ s110 : ByteArray, cellH (setH (setH (setH (setH (setH H19 ((⟨H2.size, 0, none⟩ : Addr).add 1) (.string s105)) (⟨H.size, 0, none⟩ : Addr) (.string s106)) ((⟨H.size, 0, none⟩ : Addr).add 1) (.string s107)) ((⟨H.size, 0, none⟩ : Addr).add 2) (.slice a108 l108 c108)) ((⟨H.size, 0, none⟩ : Addr).add 3) (.int .i64 n109)) (⟨H.size, 0, none⟩ : Addr) = some (.string s110) ∧ ∃ s111 : ByteArray, cellH (setH (setH (setH (setH (setH H19 ((⟨H2.size, 0, none⟩ : Addr).add 1) (.string s105)) (⟨H.size, 0, none⟩ : Addr) (.string s106)) ((⟨H.size, 0, none⟩ : Addr).add 1) (.string s107)) ((⟨H.size, 0, none⟩ : Addr).add 2) (.slice a108 l108 c108)) ((⟨H.size, 0, none⟩ : Addr).add 3) (.int .i64 n109)) ((⟨H.size, 0, none⟩ : Addr).add 1) = some (.string s111) ∧ ∃ a112 : Option Addr, ∃ l112 : Nat, ∃ c112 : Nat, cellH (setH (setH (setH (setH (setH H19 ((⟨H2.size, 0, none⟩ : Addr).add 1) (.string s105)) (⟨H.size, 0, none⟩ : Addr) (.string s106)) ((⟨H.size, 0, none⟩ : Addr).add 1) (.string s107)) ((⟨H.size, 0, none⟩ : Addr).add 2) (.slice a108 l108 c108)) ((⟨H.size, 0, none⟩ : Addr).add 3) (.int .i64 n109)) ((⟨H.size, 0, none⟩ : Addr).add 2) = some (.slice a112 l112 c112) ∧ ∃ n113 : Int, cellH (setH (setH (setH (setH (setH H19 ((⟨H2.size, 0, none⟩ : Addr).add 1) (.string s105)) (⟨H.size, 0, none⟩ : Addr) (.string s106)) ((⟨H.size, 0, none⟩ : Addr).add 1) (.string s107)) ((⟨H.size, 0, none⟩ : Addr).add 2) (.slice a108 l108 c108)) ((⟨H.size, 0, none⟩ : Addr).add 3) (.int .i64 n109)) ((⟨H.size, 0, none⟩ : Addr).add 3) = some (.int .i64 n113) ∧ Q (.tuple #[.agg #[.string s110, .string s111, .slice a112 l112 c112, .int .i64 n113], .int .i64 0]) (setH (setH (setH (setH (setH H19 ((⟨H2.size, 0, none⟩ : Addr).add 1) (.string s105)) (⟨H.size, 0, none⟩ : Addr) (.string s106)) ((⟨H.size, 0, none⟩ : Addr).add 1) (.string s107)) ((⟨H.size, 0, none⟩ : Addr).add 2) (.slice a108 l108 c108)) ((⟨H.size, 0, none⟩ : Addr).add 3) (.int .i64 n109))) H18) (∃ s114 : ByteArray, cellH H18 (⟨H2.size, 0, none⟩ : Addr) = some (.string s114) ∧ ∃ s115 : ByteArray, cellH H18 ((⟨H2.size, 0, none⟩ : Addr).add 1) = some (.string s115) ∧ ∃ a116 : Option Addr, ∃ l116 : Nat, ∃ c116 : Nat, cellH H18 ((⟨H2.size, 0, none⟩ : Addr).add 2) = some (.slice a116 l116 c116) ∧ ∃ n117 : Int, cellH H18 ((⟨H2.size, 0, none⟩ : Addr).add 3) = some (.int .i64 n117) ∧ Wr H18 (⟨H.size, 0, none⟩ : Addr) ∧ Wr (setH H18 (⟨H.size, 0, none⟩ : Addr) (.string s114)) ((⟨H.size, 0, none⟩ : Addr).add 1) ∧ Wr (setH (setH H18 (⟨H.size, 0, none⟩ : Addr) (.string s114)) ((⟨H.size, 0, none⟩ : Addr).add 1) (.string s115)) ((⟨H.size, 0, none⟩ : Addr).add 2) ∧ Wr (setH (setH (setH H18 (⟨H.size, 0, none⟩ : Addr) (.string s114)) ((⟨H.size, 0, none⟩ : Addr).add 1) (.string s115)) ((⟨H.size, 0, none⟩ : Addr).add 2) (.slice a116 l116 c116)) ((⟨H.size, 0, none⟩ : Addr).add 3) ∧ ∃ s118 : ByteArray, cellH (setH (setH (setH (setH H18 (⟨H.size, 0, none⟩ : Addr) (.string s114)) ((⟨H.size, 0, none⟩ : Addr).add 1) (.string s115)) ((⟨H.size, 0, none⟩ : Addr).add 2) (.slice a116 l116 c116)) ((⟨H.size, 0, none⟩ : Addr).add 3) (.int .i64 n117)) (⟨H.size, 0, none⟩ : Addr) = some (.string s118) ∧ ∃ s119 : ByteArray, cellH (setH (setH (setH (setH H18 (⟨H.size, 0, none⟩ : Addr) (.string s114)) ((⟨H.size, 0, none⟩ : Addr).add 1) (.string s115)) ((⟨H.size, 0, none⟩ : Addr).add 2) (.slice a116 l116 c116)) ((⟨H.size, 0, none⟩ : Addr).add 3) (.int .i64 n117)) ((⟨H.size, 0, none⟩ : Addr).add 1) = some (.string s119) ∧ ∃ a120 : Option Addr, ∃ l120 : Nat, ∃ c120 : Nat, cellH (setH (setH (setH (setH H18 (⟨H.size, 0, none⟩ : Addr) (.string s114)) ((⟨H.size, 0, none⟩ : Addr).add 1) (.string s115)) ((⟨H.size, 0, none⟩ : Addr).add 2) (.slice a116 l116 c116)) ((⟨H.size, 0, none⟩ : Addr).add 3) (.int .i64 n117)) ((⟨H.size, 0, none⟩ : Addr).add 2) = some (.slice a120 l120 c120) ∧ ∃ n121 : Int, cellH (setH (setH (setH (setH H18 (⟨H.size, 0, none⟩ : Addr) (.string s114)) ((⟨H.size, 0, none⟩ : Addr).add 1) (.string s115)) ((⟨H.size, 0, none⟩ : Addr).add 2) (.slice a116 l116 c116)) ((⟨H.size, 0, none⟩ : Addr).add 3) (.int .i64 n117)) ((⟨H.size, 0, none⟩ : Addr).add 3) = some (.int .i64 n121) ∧ Q (.tuple #[.agg #[.string s118, .string s119, .slice a120 l120 c120, .int .i64 n121], .int .i64 0]) (setH (setH (setH (setH H18 (⟨H.size, 0, none⟩ : Addr) (.string s114)) ((⟨H.size, 0, none⟩ : Addr).add 1) (.string s115)) ((⟨H.size, 0, none⟩ : Addr).add 2) (.slice a116 l116 c116)) ((⟨H.size, 0, none⟩ : Addr).add 3) (.int .i64 n117)))) (setH (setH (setH (setH H17 (⟨H2.size, 0, none⟩ : Addr) (.string s15)) ((⟨H2.size, 0, none⟩ : Addr).add 1) (.string (⟨#[]⟩ : ByteArray))) ((⟨H2.size, 0, none⟩ : Addr).add 2) (.slice a97 l97 c97)) ((⟨H2.size, 0, none⟩ : Addr).add 3) (.int .i64 n99))) H16) H15) (H2.push (.cells #[.string (⟨#[]⟩ : ByteArray), .string (⟨#[]⟩ : ByteArray), .slice none 0 0, .int .i64 0] 121)))) (setH (H1.push (.cells #[.pointer none] 131)) (⟨H1.size, 0, none⟩ : Addr) (.pointer p4))) ∧ (((cellH ((setH (H1.push (.cells #[.pointer none] 131)) (⟨H1.size, 0, none⟩ : Addr) (.pointer p4)).push (.cells #[.string (⟨#[]⟩ : ByteArray), .string (⟨#[]⟩ : ByteArray), .slice none 0 0, .int .i64 0] 121)) (⟨H1.size, 0, none⟩ : Addr) = some (.pointer p13) ∧ True) ∧ ((cellH ((setH (H1.push (.cells #[.pointer none] 131)) (⟨H1.size, 0, none⟩ : Addr) (.pointer p4)).push (.cells #[.string (⟨#[]⟩ : ByteArray), .string (⟨#[]⟩ : ByteArray), .slice none 0 0, .int .i64 0] 121)) (⟨H1.size, 0, none⟩ : Addr) = some (.pointer p12) ∧ True) ∧ ((cellH ((setH (H1.push (.cells #[.pointer none] 131)) (⟨H1.size, 0, none⟩ : Addr) (.pointer p4)).push (.cells #[.string (⟨#[]⟩ : ByteArray), .string (⟨#[]⟩ : ByteArray), .slice none 0 0, .int .i64 0] 121)) (⟨H1.size, 0, none⟩ : Addr) = some (.pointer p11) ∧ True) ∧ ((cellH ((setH (H1.push (.cells #[.pointer none] 131)) (⟨H1.size, 0, none⟩ : Addr) (.pointer p4)).push (.cells #[.string (⟨#[]⟩ : ByteArray), .string (⟨#[]⟩ : ByteArray), .slice none 0 0, .int .i64 0] 121)) (⟨H1.size, 0, none⟩ : Addr) = some (.pointer p10) ∧ True) ∧ True)))) ∧ callS PP 176 #[.agg #[.pointer p10], .int .i64 n2, .int .i64 0] (fun v122 H20 => ∃ s123 : ByteArray, v122 = .string s123 ∧ ((cellH H20 (⟨H1.size, 0, none⟩ : Addr) = some (.pointer p13) ∧ True) ∧ ((cellH H20 (⟨H1.size, 0, none⟩ : Addr) = some (.pointer p12) ∧ True) ∧ ((cellH H20 (⟨H1.size, 0, none⟩ : Addr) = some (.pointer p11) ∧ True) ∧ True))) ∧ callS PP 76 #[.agg #[.pointer p12], .int .i64 n2, .int .i64 2] (fun v124 H21 => ∃ n125 : Int, v124 = .int .i64 n125 ∧ ((cellH H21 (⟨H1.size, 0, none⟩ : Addr) = some (.pointer p13) ∧ True) ∧ ((cellH H21 (⟨H1.size, 0, none⟩ : Addr) = some (.pointer p11) ∧ True) ∧ True)) ∧ callS PP 178 #[.agg #[.pointer p11], .int .i64 n125] (fun v126 H22 => ∃ a127 : Option Addr, ∃ l127 : Nat, ∃ c127 : Nat, v126 = .slice a127 l127 c127 ∧ ((cellH H22 (⟨H1.size, 0, none⟩ : Addr) = some (.pointer p13) ∧ True) ∧ True) ∧ callS PP 179 #[.agg #[.pointer p13], .int .i64 n2, .int .i64 5] (fun v128 H23 => ∃ n129 : Int, v128 = .int .i64 n129 ∧ True ∧ Wr H23 (⟨(setH (H1.push (.cells #[.pointer none] 131)) (⟨H1.size, 0, none⟩ : Addr) (.pointer p4)).size, 0, none⟩ : Addr) ∧ Wr (setH H23 (⟨(setH (H1.push (.cells #[.pointer none] 131)) (⟨H1.size, 0, none⟩ : Addr) (.pointer p4)).size, 0, none⟩ : Addr) (.string s123)) ((⟨(setH (H1.push (.cells #[.pointer none] 131)) (⟨H1.size, 0, none⟩ : Addr) (.pointer p4)).size, 0, none⟩ : Addr).add 1) ∧ Wr (setH (setH H23 (⟨(setH (H1.push (.cells #[.pointer none] 131)) (⟨H1.size, 0, none⟩ : Addr) (.pointer p4)).size, 0, none⟩ : Addr) (.string s123)) ((⟨(setH (H1.push (.cells #[.pointer none] 131)) (⟨H1.size, 0, none⟩ : Addr) (.pointer p4)).size, 0, none⟩ : Addr).add 1) (.string (⟨#[]⟩ : ByteArray))) ((⟨(setH (H1.push (.cells #[.pointer none] 131)) (⟨H1.size, 0, none⟩ : Addr) (.pointer p4)).size, 0, none⟩ : Addr).add 2) ∧ Wr (setH (setH (setH H23 (⟨(setH (H1.push (.cells #[.pointer none] 131)) (⟨H1.size, 0, none⟩ : Addr) (.pointer p4)).size, 0, none⟩ : Addr) (.string s123)) ((⟨(setH (H1.push (.cells #[.pointer none] 131)) (⟨H1.size, 0, none⟩ : Addr) (.pointer p4)).size, 0, none⟩ : Addr).add 1) (.string (⟨#[]⟩ : ByteArray))) ((⟨(setH (H1.push (.cells #[.pointer none] 131)) (⟨H1.size, 0, none⟩ : Addr) (.pointer p4)).size, 0, none⟩ : Addr).add 2) (.slice a127 l127 c127)) ((⟨(setH (H1.push (.cells #[.pointer none] 131)) (⟨H1.size, 0, none⟩ : Addr) (.pointer p4)).size, 0, none⟩ : Addr).add 3) ∧ True ∧ ∃ p130 : Option Addr, cellH (setH (setH (setH (setH H23 (⟨(setH (H1.push (.cells #[.pointer none] 131)) (⟨H1.size, 0, none⟩ : Addr) (.pointer p4)).size, 0, none⟩ : Addr) (.string s123)) ((⟨(setH (H1.push (.cells #[.pointer none] 131)) (⟨H1.size, 0, none⟩ : Addr) (.pointer p4)).size, 0, none⟩ : Addr).add 1) (.string (⟨#[]⟩ : ByteArray))) ((⟨(setH (H1.push (.cells #[.pointer none] 131)) (⟨H1.size, 0, none⟩ : Addr) (.pointer p4)).size, 0, none⟩ : Addr).add 2) (.slice a127 l127 c127)) ((⟨(setH (H1.push (.cells #[.pointer none] 131)) (⟨H1.size, 0, none⟩ : Addr) (.pointer p4)).size, 0, none⟩ : Addr).add 3) (.int .i64 n129)) (⟨H1.size, 0, none⟩ : Addr) = some (.pointer p130) ∧ callS PP 180 #[.agg #[.pointer p130], .int .i64 n2] (fun v131 H24 => ∃ n132 : Int, v131 = .int .i64 n132 ∧ cond (decide (n132 > 0)) (∃ p133 : Option Addr, cellH H24 (⟨H1.size, 0, none⟩ : Addr) = some (.pointer p133) ∧ callS PP 176 #[.agg #[.pointer p133], .int .i64 n132, .int .i64 0] (fun v134 H25 => ∃ s135 : ByteArray, v134 = .string s135 ∧ Wr H25 ((⟨(setH (H1.push (.cells #[.pointer none] 131)) (⟨H1.size, 0, none⟩ : Addr) (.pointer p4)).size, 0, none⟩ : Addr).add 1) ∧ ∃ s136 : ByteArray, cellH (setH H25 ((⟨(setH (H1.push (.cells #[.pointer none] 131)) (⟨H1.size, 0, none⟩ : Addr) (.pointer p4)).size, 0, none⟩ : Addr).add 1) (.string s135)) (⟨(setH (H1.push (.cells #[.pointer none] 131)) (⟨H1.size, 0, none⟩ : Addr) (.pointer p4)).size, 0, none⟩ : Addr) = some (.string s136) ∧ ∃ s137 : ByteArray, cellH (setH H25 ((⟨(setH (H1.push (.cells #[.pointer none] 131)) (⟨H1.size, 0, none⟩ : Addr) (.pointer p4)).size, 0, none⟩ : Addr).add 1) (.string s135)) ((⟨(setH (H1.push (.cells #[.pointer none] 131)) (⟨H1.size, 0, none⟩ : Addr) (.pointer p4)).size, 0, none⟩ : Addr).add 1) = some (.string s137) ∧ ∃ a138 : Option Addr, ∃ l138 : Nat, ∃ c138 : Nat, cellH (setH H25 ((⟨(setH (H1.push (.cells #[.pointer none] 131)) (⟨H1.size, 0, none⟩ : Addr) (.pointer p4)).size, 0, none⟩ : Addr).add 1) (.string s135)) ((⟨(setH (H1.push (.cells #[.pointer none] 131)) (⟨H1.size, 0, none⟩ : Addr) (.pointer p4)).size, 0, none⟩ : Addr).add 2) = some (.slice a138 l138 c138) ∧ ∃ n139 : Int, cellH (setH H25 ((⟨(setH (H1.push (.cells #[.pointer none] 131)) (⟨H1.size, 0, none⟩ : Addr) (.pointer p4)).size, 0, none⟩ : Addr).add 1) (.string s135)) ((⟨(setH (H1.push (.cells #[.pointer none] 131)) (⟨H1.size, 0, none⟩ : Addr) (.pointer p4)).size, 0, none⟩ : Addr).add 3) = some (.int .i64 n139) ∧ Wr (setH H25 ((⟨(setH (H1.push (.cells #[.pointer none] 131)) (⟨H1.size, 0, none⟩ : Addr) (.pointer p4)).size, 0, none⟩ : Addr).add 1) (.string s135)) (⟨H.size, 0, none⟩ : Addr) ∧ Wr (setH (setH H25 ((⟨(setH (H1.push (.cells #[.pointer none] 131)) (⟨H1.size, 0, none⟩ : Addr) (.pointer p4)).size, 0, none⟩ : Addr).add 1) (.string s135)) (⟨H.size, 0, none⟩ : Addr) (.string s136)) ((⟨H.size, 0, none⟩ : Addr).add 1) ∧ Wr (setH (setH (setH H25 ((⟨(setH (H1.push (.cells #[.pointer none] 131)) (⟨H1.size, 0, none⟩ : Addr) (.pointer p4)).size, 0, none⟩ : Addr).add 1) (.string s135)) (⟨H.size, 0, none⟩ : Addr) (.string s136)) ((⟨H.size, 0, none⟩ : Addr).add 1) (.string s137)) ((⟨H.size, 0, none⟩ : Addr).add 2) ∧ Wr (setH (setH (setH (setH H25 ((⟨(setH (H1.push (.cells #[.pointer none] 131)) (⟨H1.size, 0, none⟩ : Addr) (.pointer p4)).size, 0, none⟩ : Addr).add 1) (.string s135)) (⟨H.size, 0, none⟩ : Addr) (.string s136)) ((⟨H.size, 0, none⟩ : Addr).add 1) (.string s137)) ((⟨H.size, 0, none⟩ : Addr).add 2) (.slice a138 l138 c138)) ((⟨H.size, 0, none⟩ : Addr).add 3) ∧ ∃ s140 : ByteArray, cellH (setH (setH (setH (setH (setH H25 ((⟨(setH (H1.push (.cells #[.pointer none] 131)) (⟨H1.size, 0, none⟩ : Addr) (.pointer p4)).size, 0, none⟩ : Addr).add 1) (.string s135)) (⟨H.size, 0, none⟩ : Addr) (.string s136)) ((⟨H.size, 0, none⟩ : Addr).add 1) (.string s137)) ((⟨H.size, 0, none⟩ : Addr).add 2) (.slice a138 l138 c138)) ((⟨H.size, 0, none⟩ : Addr).add 3) (.int .i64 n139)) (⟨H.size, 0, none⟩ : Addr) = some (.string s140) ∧ ∃ s141 : ByteArray, cellH (setH (setH (setH (setH (setH H25 ((⟨(setH (H1.push (.cells #[.pointer none] 131)) (⟨H1.size, 0, none⟩ : Addr) (.pointer p4)).size, 0, none⟩ : Addr).add 1) (.string s135)) (⟨H.size, 0, none⟩ : Addr) (.string s136)) ((⟨H.size, 0, none⟩ : Addr).add 1) (.string s137)) ((⟨H.size, 0, none⟩ : Addr).add 2) (.slice a138 l138 c138)) ((⟨H.size, 0, none⟩ : Addr).add 3) (.int .i64 n139)) ((⟨H.size, 0, none⟩ : Addr).add 1) = some (.string s141) ∧ ∃ a142 : Option Addr, ∃ l142 : Nat, ∃ c142 : Nat, cellH (setH (setH (setH (setH (setH H25 ((⟨(setH (H1.push (.cells #[.pointer none] 131)) (⟨H1.size, 0, none⟩ : Addr) (.pointer p4)).size, 0, none⟩ : Addr).add 1) (.string s135)) (⟨H.size, 0, none⟩ : Addr) (.string s136)) ((⟨H.size, 0, none⟩ : Addr).add 1) (.string s137)) ((⟨H.size, 0, none⟩ : Addr).add 2) (.slice a138 l138 c138)) ((⟨H.size, 0, none⟩ : Addr).add 3) (.int .i64 n139)) ((⟨H.size, 0, none⟩ : Addr).add 2) = some (.slice a142 l142 c142) ∧ ∃ n143 : Int, cellH (setH (setH (setH (setH (setH H25 ((⟨(setH (H1.push (.cells #[.pointer none] 131)) (⟨H1.size, 0, none⟩ : Addr) (.pointer p4)).size, 0, none⟩ : Addr).add 1) (.string s135)) (⟨H.size, 0, none⟩ : Addr) (.string s136)) ((⟨H.size, 0, none⟩ : Addr).add 1) (.string s137)) ((⟨H.size, 0, none⟩ : Addr).add 2) (.slice a138 l138 c138)) ((⟨H.size, 0, none⟩ : Addr).add 3) (.int .i64 n139)) ((⟨H.size, 0, none⟩ : Addr).add 3) = some (.int .i64 n143) ∧ Q (.tuple #[.agg #[.string s140, .string s141, .slice a142 l142 c142, .int .i64 n143], .int .i64 0]) (setH (setH (setH (setH (setH H25 ((⟨(setH (H1.push (.cells #[.pointer none] 131)) (⟨H1.size, 0, none⟩ : Addr) (.pointer p4)).size, 0, none⟩ : Addr).add 1) (.string s135)) (⟨H.size, 0, none⟩ : Addr) (.string s136)) ((⟨H.size, 0, none⟩ : Addr).add 1) (.string s137)) ((⟨H.size, 0, none⟩ : Addr).add 2) (.slice a138 l138 c138)) ((⟨H.size, 0, none⟩ : Addr).add 3) (.int .i64 n139))) H24) (∃ s144 : ByteArray, cellH H24 (⟨(setH (H1.push (.cells #[.pointer none] 131)) (⟨H1.size, 0, none⟩ : Addr) (.pointer p4)).size, 0, none⟩ : Addr) = some (.string s144) ∧ ∃ s145 : ByteArray, cellH H24 ((⟨(setH (H1.push (.cells #[.pointer none] 131)) (⟨H1.size, 0, none⟩ : Addr) (.pointer p4)).size, 0, none⟩ : Addr).add 1) = some (.string s145) ∧ ∃ a146 : Option Addr, ∃ l146 : Nat, ∃ c146 : Nat, cellH H24 ((⟨(setH (H1.push (.cells #[.pointer none] 131)) (⟨H1.size, 0, none⟩ : Addr) (.pointer p4)).size, 0, none⟩ : Addr).add 2) = some (.slice a146 l146 c146) ∧ ∃ n147 : Int, cellH H24 ((⟨(setH (H1.push (.cells #[.pointer none] 131)) (⟨H1.size, 0, none⟩ : Addr) (.pointer p4)).size, 0, none⟩ : Addr).add 3) = some (.int .i64 n147) ∧ Wr H24 (⟨H.size, 0, none⟩ : Addr) ∧ Wr (setH H24 (⟨H.size, 0, none⟩ : Addr) (.string s144)) ((⟨H.size, 0, none⟩ : Addr).add 1) ∧ Wr (setH (setH H24 (⟨H.size, 0, none⟩ : Addr) (.string s144)) ((⟨H.size, 0, none⟩ : Addr).add 1) (.string s145)) ((⟨H.size, 0, none⟩ : Addr).add 2) ∧ Wr (setH (setH (setH H24 (⟨H.size, 0, none⟩ : Addr) (.string s144)) ((⟨H.size, 0, none⟩ : Addr).add 1) (.string s145)) ((⟨H.size, 0, none⟩ : Addr).add 2) (.slice a146 l146 c146)) ((⟨H.size, 0, none⟩ : Addr).add 3) ∧ ∃ s148 : ByteArray, cellH (setH (setH (setH (setH H24 (⟨H.size, 0, none⟩ : Addr) (.string s144)) ((⟨H.size, 0, none⟩ : Addr).add 1) (.string s145)) ((⟨H.size, 0, none⟩ : Addr).add 2) (.slice a146 l146 c146)) ((⟨H.size, 0, none⟩ : Addr).add 3) (.int .i64 n147)) (⟨H.size, 0, none⟩ : Addr) = some (.string s148) ∧ ∃ s149 : ByteArray, cellH (setH (setH (setH (setH H24 (⟨H.size, 0, none⟩ : Addr) (.string s144)) ((⟨H.size, 0, none⟩ : Addr).add 1) (.string s145)) ((⟨H.size, 0, none⟩ : Addr).add 2) (.slice a146 l146 c146)) ((⟨H.size, 0, none⟩ : Addr).add 3) (.int .i64 n147)) ((⟨H.size, 0, none⟩ : Addr).add 1) = some (.string s149) ∧ ∃ a150 : Option Addr, ∃ l150 : Nat, ∃ c150 : Nat, cellH (setH (setH (setH (setH H24 (⟨H.size, 0, none⟩ : Addr) (.string s144)) ((⟨H.size, 0, none⟩ : Addr).add 1) (.string s145)) ((⟨H.size, 0, none⟩ : Addr).add 2) (.slice a146 l146 c146)) ((⟨H.size, 0, none⟩ : Addr).add 3) (.int .i64 n147)) ((⟨H.size, 0, none⟩ : Addr).add 2) = some (.slice a150 l150 c150) ∧ ∃ n151 : Int, cellH (setH (setH (setH (setH H24 (⟨H.size, 0, none⟩ : Addr) (.string s144)) ((⟨H.size, 0, none⟩ : Addr).add 1) (.string s145)) ((⟨H.size, 0, none⟩ : Addr).add 2) (.slice a146 l146 c146)) ((⟨H.size, 0, none⟩ : Addr).add 3) (.int .i64 n147)) ((⟨H.size, 0, none⟩ : Addr).add 3) = some (.int .i64 n151) ∧ Q (.tuple #[.agg #[.string s148, .string s149, .slice a150 l150 c150, .int .i64 n151], .int .i64 0]) (setH (setH (setH (setH H24 (⟨H.size, 0, none⟩ : Addr) (.string s144)) ((⟨H.size, 0, none⟩ : Addr).add 1) (.string s145)) ((⟨H.size, 0, none⟩ : Addr).add 2) (.slice a146 l146 c146)) ((⟨H.size, 0, none⟩ : Addr).add 3) (.int .i64 n147)))) (setH (setH (setH (setH H23 (⟨(setH (H1.push (.cells #[.pointer none] 131)) (⟨H1.size, 0, none⟩ : Addr) (.pointer p4)).size, 0, none⟩ : Addr) (.string s123)) ((⟨(setH (H1.push (.cells #[.pointer none] 131)) (⟨H1.size, 0, none⟩ : Addr) (.pointer p4)).size, 0, none⟩ : Addr).add 1) (.string (⟨#[]⟩ : ByteArray))) ((⟨(setH (H1.push (.cells #[.pointer none] 131)) (⟨H1.size, 0, none⟩ : Addr) (.pointer p4)).size, 0, none⟩ : Addr).add 2) (.slice a127 l127 c127)) ((⟨(setH (H1.push (.cells #[.pointer none] 131)) (⟨H1.size, 0, none⟩ : Addr) (.pointer p4)).size, 0, none⟩ : Addr).add 3) (.int .i64 n129))) H22) H21) H20) ((setH (H1.push (.cells #[.pointer none] 131)) (⟨H1.size, 0, none⟩ : Addr) (.pointer p4)).push (.cells #[.string (⟨#[]⟩ : ByteArray), .string (⟨#[]⟩ : ByteArray), .slice none 0 0, .int .i64 0] 121))))) (H.push (.cells #[.string (⟨#[]⟩ : ByteArray), .string (⟨#[]⟩ : ByteArray), .slice none 0 0, .int .i64 0] 121))
theorem class_Kernel_Info_ok {p1 : Option Addr} {n2 : Int} {Q : Value → Heap → Prop} {H : Heap} (h : class_Kernel_Info p1 n2 Q H) : callS PP 67 #[.pointer p1, .int .i64 n2] Q H :=
  callS_of good Tryz.func67 rfl (Ls := fun _ => none) (by kernel_rfl) h
abbrev n_class_Kernel_Value : Nat := 68
def class_Kernel_Value (p1 : Option Addr) (n2 : Int) (Q : Value → Heap → Prop) (H : Heap) : Prop :=
  callS PP 73 #[.pointer p1] (fun v3 H1 => ∃ b4 : Bool, v3 = .bool b4 ∧ cond (!b4) (Q (.tuple #[.int .i64 0, .int .i64 2]) H1) (Wr (H1.push (.cells #[.pointer none] 131)) (⟨H1.size, 0, none⟩ : Addr) ∧ ∃ p5 : Option Addr, cellH (setH (H1.push (.cells #[.pointer none] 131)) (⟨H1.size, 0, none⟩ : Addr) (.pointer p1)) (⟨H1.size, 0, none⟩ : Addr) = some (.pointer p5) ∧ callS PP 74 #[.agg #[.pointer p5], .int .i64 1] (fun v6 H2 => ∃ n7 : Int, v6 = .int .i64 n7 ∧ cond (decide (n2 < 0)) (Q (.tuple #[.int .i64 0, .int .i64 1]) H2) (∃ p8 : Option Addr, cellH H2 (⟨H1.size, 0, none⟩ : Addr) = some (.pointer p8) ∧ callS PP 75 #[.agg #[.pointer p8], .int .i64 n7] (fun v9 H3 => ∃ n10 : Int, v9 = .int .i64 n10 ∧ cond (decide (n2 ≥ (IntKind.wrap .i64 (Int.tdiv n10 2)))) (Q (.tuple #[.int .i64 0, .int .i64 1]) H3) (∃ p11 : Option Addr, cellH H3 (⟨H1.size, 0, none⟩ : Addr) = some (.pointer p11) ∧ callS PP 181 #[.agg #[.pointer p11], .int .i64 n7, .int .i64 (IntKind.wrap .i64 ((IntKind.wrap .i64 (2 * n2)) + 1))] (fun v12 H4 => ∃ n13 : Int, v12 = .int .i64 n13 ∧ Q (.tuple #[.int .i64 n13, .int .i64 0]) H4) H3)) H2)) (setH (H1.push (.cells #[.pointer none] 131)) (⟨H1.size, 0, none⟩ : Addr) (.pointer p1)))) H
theorem class_Kernel_Value_ok {p1 : Option Addr} {n2 : Int} {Q : Value → Heap → Prop} {H : Heap} (h : class_Kernel_Value p1 n2 Q H) : callS PP 68 #[.pointer p1, .int .i64 n2] Q H :=
  callS_of good Tryz.func68 rfl (Ls := fun _ => none) (by kernel_rfl) h
abbrev n_class_Kernel_SetValue : Nat := 69
def class_Kernel_SetValue (p1 : Option Addr) (n2 : Int) (n3 : Int) (Q : Value → Heap → Prop) (H : Heap) : Prop :=
  callS PP 68 #[.pointer p1, .int .i64 n2] (fun v4 H1 => ∃ n5 : Int, ∃ n6 : Int, v4 = .tuple #[.int .i64 n5, .int .i64 n6] ∧ cond (n6 != 0) (Q (.int .i64 n6) H1) (callS PP 165 #[.int .i64 n3] (fun v7 H2 => ∃ n8 : Int, v7 = .int .i64 n8 ∧ cond (n8 == 0) (Q (.int .i64 10) H2) (∃ q9, p1 = some q9 ∧ ∃ p10 : Option Addr, cellH H2 q9 = some (.pointer p10) ∧ callS PP 20 #[.pointer p10] (fun v11 H3 => ∃ p12 : Option Addr, v11 = .pointer p12 ∧ callS PP 74 #[.agg #[.pointer p1], .int .i64 1] (fun v13 H4 => ∃ n14 : Int, v13 = .int .i64 n14 ∧ callS PP 140 #[.pointer p12, .int .i64 n14, .int .i64 (IntKind.wrap .i64 ((IntKind.wrap .i64 (2 * n2)) + 1)), .int .i64 n3] (fun v15 H5 => ∃ n16 : Int, v15 = .int .i64 n16 ∧ Q (.int .i64 n16) H5) H4) H3) H2)) H1)) H
theorem class_Kernel_SetValue_ok {p1 : Option Addr} {n2 : Int} {n3 : Int} {Q : Value → Heap → Prop} {H : Heap} (h : class_Kernel_SetValue p1 n2 n3 Q H) : callS PP 69 #[.pointer p1, .int .i64 n2, .int .i64 n3] Q H :=
  callS_of good Tryz.func69 rfl (Ls := fun _ => none) (by kernel_rfl) h
abbrev n_class_Kernel_Count : Nat := 70
def class_Kernel_Count (p1 : Option Addr) (Q : Value → Heap → Prop) (H : Heap) : Prop :=
  callS PP 73 #[.pointer p1] (fun v2 H1 => ∃ b3 : Bool, v2 = .bool b3 ∧ cond (!b3) (Q (.int .i64 0) H1) (Wr (H1.push (.cells #[.pointer none] 131)) (⟨H1.size, 0, none⟩ : Addr) ∧ ∃ p4 : Option Addr, cellH (setH (H1.push (.cells #[.pointer none] 131)) (⟨H1.size, 0, none⟩ : Addr) (.pointer p1)) (⟨H1.size, 0, none⟩ : Addr) = some (.pointer p4) ∧ ∃ p5 : Option Addr, cellH (setH (H1.push (.cells #[.pointer none] 131)) (⟨H1.size, 0, none⟩ : Addr) (.pointer p1)) (⟨H1.size, 0, none⟩ : Addr) = some (.pointer p5) ∧ callS PP 74 #[.agg #[.pointer p5], .int .i64 0] (fun v6 H2 => ∃ n7 : Int, v6 = .int .i64 n7 ∧ ((cellH H2 (⟨H1.size, 0, none⟩ : Addr) = some (.pointer p4) ∧ True) ∧ True) ∧ callS PP 75 #[.agg #[.pointer p4], .int .i64 n7] (fun v8 H3 => ∃ n9 : Int, v8 = .int .i64 n9 ∧ True ∧ Q (.int .i64 n9) H3) H2) (setH (H1.push (.cells #[.pointer none] 131)) (⟨H1.size, 0, none⟩ : Addr) (.pointer p1)))) H
theorem class_Kernel_Count_ok {p1 : Option Addr} {Q : Value → Heap → Prop} {H : Heap} (h : class_Kernel_Count p1 Q H) : callS PP 70 #[.pointer p1] Q H :=
  callS_of good Tryz.func70 rfl (Ls := fun _ => none) (by kernel_rfl) h
abbrev n_class_Kernel_Globals : Nat := 71
def class_Kernel_Globals (p1 : Option Addr) (Q : Value → Heap → Prop) (H : Heap) : Prop :=
  callS PP 73 #[.pointer p1] (fun v2 H1 => ∃ b3 : Bool, v2 = .bool b3 ∧ cond (!b3) (Q (.slice none 0 0) H1) (Wr (H1.push (.cells #[.pointer none] 131)) (⟨H1.size, 0, none⟩ : Addr) ∧ ∃ p4 : Option Addr, cellH (setH (H1.push (.cells #[.pointer none] 131)) (⟨H1.size, 0, none⟩ : Addr) (.pointer p1)) (⟨H1.size, 0, none⟩ : Addr) = some (.pointer p4) ∧ callS PP 74 #[.agg #[.pointer p4], .int .i64 1] (fun v5 H2 => ∃ n6 : Int, v5 = .int .i64 n6 ∧ ∃ p7 : Option Addr, cellH H2 (⟨H1.size, 0, none⟩ : Addr) = some (.pointer p7) ∧ callS PP 75 #[.agg #[.pointer p7], .int .i64 n6] (fun v8 H3 => ∃ n9 : Int, v8 = .int .i64 n9 ∧ ∃ (I10 : List Value → Heap → Prop) (μ10 : List Value → Heap → Nat), I10 [.slice none 0 0, .int .i64 0] H3 ∧ ∀ w11 H4, I10 w11 H4 → ∀ _g : Nat → Value, ∃ a12 : Option Addr, ∃ l12 : Nat, ∃ c12 : Nat, ∃ n13 : Int, w11 = [.slice a12 l12 c12, .int .i64 n13] ∧ cond (decide (n13 < (IntKind.wrap .i64 (Int.tdiv n9 2)))) (∃ p14 : Option Addr, cellH H4 (⟨H1.size, 0, none⟩ : Addr) = some (.pointer p14) ∧ callS PP 176 #[.agg #[.pointer p14], .int .i64 n6, .int .i64 (IntKind.wrap .i64 (2 * n13))] (fun v15 H5 => ∃ s16 : ByteArray, v15 = .string s16 ∧ evS PP (Builtin.append_ #[37, 37] 37 #[.slice a12 l12 c12, .slice (some (⟨H5.size, 0, none⟩ : Addr)) 1 1]) (fun v17 H6 => ∃ a18 : Option Addr, ∃ l18 : Nat, ∃ c18 : Nat, v17 = .slice a18 l18 c18 ∧ I10 [.slice a18 l18 c18, .int .i64 (IntKind.wrap .i64 (n13 + 1))] H6 ∧ μ10 [.slice a18 l18 c18, .int .i64 (IntKind.wrap .i64 (n13 + 1))] H6 < μ10 w11 H4) (H5.push (.cells #[.string s16] 9))) H4) (Q (.slice a12 l12 c12) H4)) H2) (setH (H1.push (.cells #[.pointer none] 131)) (⟨H1.size, 0, none⟩ : Addr) (.pointer p1)))) H
theorem class_Kernel_Globals_ok {p1 : Option Addr} {Q : Value → Heap → Prop} {H : Heap} (h : class_Kernel_Globals p1 Q H) : callS PP 71 #[.pointer p1] Q H :=
  callS_of good Tryz.func71 rfl (Ls := fun | 7 => some [(5, 37), (18, 3)] | _ => none) (by kernel_rfl) h
abbrev n_class_Kernel_Under : Nat := 72
def class_Kernel_Under (p1 : Option Addr) (n2 : Int) (Q : Value → Heap → Prop) (H : Heap) : Prop :=
  callS PP 177 #[.pointer p1, .int .i64 n2] (fun v3 H1 => ∃ p4 : Option Addr, ∃ n5 : Int, v3 = .tuple #[.agg #[.pointer p4], .int .i64 n5] ∧ Wr (H1.push (.cells #[.pointer none] 131)) (⟨H1.size, 0, none⟩ : Addr) ∧ cond (n5 != 0) (Q (.slice none 0 0) (setH (H1.push (.cells #[.pointer none] 131)) (⟨H1.size, 0, none⟩ : Addr) (.pointer p4))) (∃ p6 : Option Addr, cellH (setH (H1.push (.cells #[.pointer none] 131)) (⟨H1.size, 0, none⟩ : Addr) (.pointer p4)) (⟨H1.size, 0, none⟩ : Addr) = some (.pointer p6) ∧ callS PP 74 #[.agg #[.pointer p6], .int .i64 0] (fun v7 H2 => ∃ n8 : Int, v7 = .int .i64 n8 ∧ evS PP (Instr.mapUpdate 236 (.map (some H2.size)) (.int .i64 n2) (.bool true)) (fun _ H3 => ∃ p9 : Option Addr, cellH H3 (⟨H1.size, 0, none⟩ : Addr) = some (.pointer p9) ∧ callS PP 75 #[.agg #[.pointer p9], .int .i64 n8] (fun v10 H4 => ∃ n11 : Int, v10 = .int .i64 n11 ∧ ∃ (I12 : List Value → Heap → Prop) (μ12 : List Value → Heap → Nat), I12 [.slice none 0 0, .int .i64 0] H4 ∧ ∀ w13 H5, I12 w13 H5 → ∀ _g : Nat → Value, ∃ a14 : Option Addr, ∃ l14 : Nat, ∃ c14 : Nat, ∃ n15 : Int, w13 = [.slice a14 l14 c14, .int .i64 n15] ∧ cond (decide (n15 < n11)) (∃ p16 : Option Addr, cellH H5 (⟨H1.size, 0, none⟩ : Addr) = some (.pointer p16) ∧ callS PP 76 #[.agg #[.pointer p16], .int .i64 n8, .int .i64 n15] (fun v17 H6 => ∃ n18 : Int, v17 = .int .i64 n18 ∧ evS PP (Instr.lookup 236 (.map (some H2.size)) (.int .i64 n18) false) (fun v19 H7 => ∃ b20 : Bool, v19 = .bool b20 ∧ cond b20 (evS PP (Instr.mapUpdate 236 (.map (some H2.size)) (.int .i64 n18) (.bool true)) (fun _ H8 => evS PP (Builtin.append_ #[66, 66] 66 #[.slice a14 l14 c14, .slice (some (⟨H8.size, 0, none⟩ : Addr)) 1 1]) (fun v21 H9 => ∃ a22 : Option Addr, ∃ l22 : Nat, ∃ c22 : Nat, v21 = .slice a22 l22 c22 ∧ I12 [.slice a22 l22 c22, .int .i64 (IntKind.wrap .i64 (n15 + 1))] H9 ∧ μ12 [.slice a22 l22 c22, .int .i64 (IntKind.wrap .i64 (n15 + 1))] H9 < μ12 w13 H5) (H8.push (.cells #[.int .i64 (IntKind.wrap .i64 (n15 + 1))] 3))) H7) (∃ p23 : Option Addr, cellH H7 (⟨H1.size, 0, none⟩ : Addr) = some (.pointer p23) ∧ callS PP 180 #[.agg #[.pointer p23], .int .i64 n18] (fun v24 H10 => ∃ n25 : Int, v24 = .int .i64 n25 ∧ evS PP (Instr.lookup 236 (.map (some H2.size)) (.int .i64 n25) false) (fun v26 H11 => ∃ b27 : Bool, v26 = .bool b27 ∧ cond b27 (evS PP (Instr.mapUpdate 236 (.map (some H2.size)) (.int .i64 n18) (.bool true)) (fun _ H12 => evS PP (Builtin.append_ #[66, 66] 66 #[.slice a14 l14 c14, .slice (some (⟨H12.size, 0, none⟩ : Addr)) 1 1]) (fun v28 H13 => ∃ a29 : Option Addr, ∃ l29 : Nat, ∃ c29 : Nat, v28 = .slice a29 l29 c29 ∧ I12 [.slice a29 l29 c29, .int .i64 (IntKind.wrap .i64 (n15 + 1))] H13 ∧ μ12 [.slice a29 l29 c29, .int .i64 (IntKind.wrap .i64 (n15 + 1))] H13 < μ12 w13 H5) (H12.push (.cells #[.int .i64 (IntKind.wrap .i64 (n15 + 1))] 3))) H11) (I12 [.slice a14 l14 c14, .int .i64 (IntKind.wrap .i64 (n15 + 1))] H11 ∧ μ12 [.slice a14 l14 c14, .int .i64 (IntKind.wrap .i64 (n15 + 1))] H11 < μ12 w13 H5)) H10) H7)) H6) H5) (Q (.slice a14 l14 c14) H5)) H3) (H2.push (.map #[] 0))) (setH (H1.push (.cells #[.pointer none] 131)) (⟨H1.size, 0, none⟩ : Addr) (.pointer p4)))) H
theorem class_Kernel_Under_ok {p1 : Option Addr} {n2 : Int} {Q : Value → Heap → Prop} {H : Heap} (h : class_Kernel_Under p1 n2 Q H) : callS PP 72 #[.pointer p1, .int .i64 n2] Q H :=
  callS_of good Tryz.func72 rfl (Ls := fun | 8 => some [(9, 66), (28, 3)] | _ => none) (by kernel_rfl) h
abbrev n_class_Kernel_there : Nat := 73
def class_Kernel_there (p1 : Option Addr) (Q : Value → Heap → Prop) (H : Heap) : Prop :=
  cond (!(Option.isNone p1)) (∃ q2, p1 = some q2 ∧ ∃ p3 : Option Addr, cellH H q2 = some (.pointer p3) ∧ Q (.bool (!(Option.isNone p3))) H) (Q (.bool false) H)
theorem class_Kernel_there_ok {p1 : Option Addr} {Q : Value → Heap → Prop} {H : Heap} (h : class_Kernel_there p1 Q H) : callS PP 73 #[.pointer p1] Q H :=
  callS_of good Tryz.func73 rfl (Ls := fun _ => none) (by kernel_rfl) h
abbrev n_class_reader_root : Nat := 74
def class_reader_root (p1 : Option Addr) (n2 : Int) (Q : Value → Heap → Prop) (H : Heap) : Prop :=
  ∃ p3 : Option Addr, cellH (H.push (.cells #[.pointer p1] 131)) (⟨H.size, 0, none⟩ : Addr) = some (.pointer p3) ∧ callS PP 76 #[.agg #[.pointer p3], .int .i64 19, .int .i64 n2] (fun v4 H1 => ∃ n5 : Int, v4 = .int .i64 n5 ∧ Q (.int .i64 n5) H1) (H.push (.cells #[.pointer p1] 131))
theorem class_reader_root_ok {p1 : Option Addr} {n2 : Int} {Q : Value → Heap → Prop} {H : Heap} (h : class_reader_root p1 n2 Q H) : callS PP 74 #[.agg #[.pointer p1], .int .i64 n2] Q H :=
  callS_of good Tryz.func74 rfl (Ls := fun _ => none) (by kernel_rfl) h
abbrev n_class_reader_size : Nat := 75
def class_reader_size (p1 : Option Addr) (n2 : Int) (Q : Value → Heap → Prop) (H : Heap) : Prop :=
  ∃ p3 : Option Addr, cellH (H.push (.cells #[.pointer p1] 131)) (⟨H.size, 0, none⟩ : Addr) = some (.pointer p3) ∧ ∃ q4, p3 = some q4 ∧ ∃ p5 : Option Addr, cellH (H.push (.cells #[.pointer p1] 131)) q4 = some (.pointer p5) ∧ callS PP 20 #[.pointer p5] (fun v6 H1 => ∃ p7 : Option Addr, v6 = .pointer p7 ∧ callS PP 182 #[.pointer p7, .int .i64 n2] (fun v8 H2 => ∃ n9 : Int, ∃ n10 : Int, ∃ n11 : Int, v8 = .tuple #[.int .i64 n9, .int .i64 n10, .int .i64 n11] ∧ Q (.int .i64 n9) H2) H1) (H.push (.cells #[.pointer p1] 131))
theorem class_reader_size_ok {p1 : Option Addr} {n2 : Int} {Q : Value → Heap → Prop} {H : Heap} (h : class_reader_size p1 n2 Q H) : callS PP 75 #[.agg #[.pointer p1], .int .i64 n2] Q H :=
  callS_of good Tryz.func75 rfl (Ls := fun _ => none) (by kernel_rfl) h
abbrev n_class_reader_oop : Nat := 76
def class_reader_oop (p1 : Option Addr) (n2 : Int) (n3 : Int) (Q : Value → Heap → Prop) (H : Heap) : Prop :=
  ∃ p4 : Option Addr, cellH (H.push (.cells #[.pointer p1] 131)) (⟨H.size, 0, none⟩ : Addr) = some (.pointer p4) ∧ callS PP 181 #[.agg #[.pointer p4], .int .i64 n2, .int .i64 n3] (fun v5 H1 => ∃ n6 : Int, v5 = .int .i64 n6 ∧ callS PP 183 #[.int .i64 n6] (fun v7 H2 => ∃ n8 : Int, ∃ n9 : Int, v7 = .tuple #[.int .i64 n8, .int .i64 n9] ∧ Q (.int .i64 n8) H2) H1) (H.push (.cells #[.pointer p1] 131))
theorem class_reader_oop_ok {p1 : Option Addr} {n2 : Int} {n3 : Int} {Q : Value → Heap → Prop} {H : Heap} (h : class_reader_oop p1 n2 n3 Q H) : callS PP 76 #[.agg #[.pointer p1], .int .i64 n2, .int .i64 n3] Q H :=
  callS_of good Tryz.func76 rfl (Ls := fun _ => none) (by kernel_rfl) h
abbrev n_class_Kernel_Fields : Nat := 101
def class_Kernel_Fields (p1 : Option Addr) (n2 : Int) (Q : Value → Heap → Prop) (H : Heap) : Prop :=
  callS PP 177 #[.pointer p1, .int .i64 n2] (fun v3 H1 => ∃ p4 : Option Addr, ∃ n5 : Int, v3 = .tuple #[.agg #[.pointer p4], .int .i64 n5] ∧ Wr (H1.push (.cells #[.pointer none] 131)) (⟨H1.size, 0, none⟩ : Addr) ∧ cond (n5 != 0) (Q (.tuple #[.slice none 0 0, .int .i64 n5]) (setH (H1.push (.cells #[.pointer none] 131)) (⟨H1.size, 0, none⟩ : Addr) (.pointer p4))) (∃ p6 : Option Addr, cellH (setH (H1.push (.cells #[.pointer none] 131)) (⟨H1.size, 0, none⟩ : Addr) (.pointer p4)) (⟨H1.size, 0, none⟩ : Addr) = some (.pointer p6) ∧ callS PP 202 #[.agg #[.pointer p6], .int .i64 n2] (fun v7 H2 => ∃ a8 : Option Addr, ∃ l8 : Nat, ∃ c8 : Nat, v7 = .slice a8 l8 c8 ∧ Q (.tuple #[.slice a8 l8 c8, .int .i64 0]) H2) (setH (H1.push (.cells #[.pointer none] 131)) (⟨H1.size, 0, none⟩ : Addr) (.pointer p4)))) H
theorem class_Kernel_Fields_ok {p1 : Option Addr} {n2 : Int} {Q : Value → Heap → Prop} {H : Heap} (h : class_Kernel_Fields p1 n2 Q H) : callS PP 101 #[.pointer p1, .int .i64 n2] Q H :=
  callS_of good Tryz.func101 rfl (Ls := fun _ => none) (by kernel_rfl) h
abbrev n_class_reader_text : Nat := 176
def class_reader_text (p1 : Option Addr) (n2 : Int) (n3 : Int) (Q : Value → Heap → Prop) (H : Heap) : Prop :=
  ∃ p4 : Option Addr, cellH (H.push (.cells #[.pointer p1] 131)) (⟨H.size, 0, none⟩ : Addr) = some (.pointer p4) ∧ callS PP 181 #[.agg #[.pointer p4], .int .i64 n2, .int .i64 n3] (fun v5 H1 => ∃ n6 : Int, v5 = .int .i64 n6 ∧ callS PP 239 #[.int .i64 n6] (fun v7 H2 => ∃ n8 : Int, ∃ n9 : Int, v7 = .tuple #[.int .i64 n8, .int .i64 n9] ∧ cond (n9 != 0) (Q (.string (⟨#[]⟩ : ByteArray)) H2) (∃ p10 : Option Addr, cellH H2 (⟨H.size, 0, none⟩ : Addr) = some (.pointer p10) ∧ ∃ q11, p10 = some q11 ∧ ∃ p12 : Option Addr, cellH H2 (q11.add 1) = some (.pointer p12) ∧ callS PP 240 #[.pointer p12, .int .i64 n8] (fun v13 H3 => ∃ s14 : ByteArray, ∃ n15 : Int, v13 = .tuple #[.string s14, .int .i64 n15] ∧ Q (.string s14) H3) H2)) H1) (H.push (.cells #[.pointer p1] 131))
theorem class_reader_text_ok {p1 : Option Addr} {n2 : Int} {n3 : Int} {Q : Value → Heap → Prop} {H : Heap} (h : class_reader_text p1 n2 n3 Q H) : callS PP 176 #[.agg #[.pointer p1], .int .i64 n2, .int .i64 n3] Q H :=
  callS_of good Tryz.func176 rfl (Ls := fun _ => none) (by kernel_rfl) h
abbrev n_class_Kernel_look : Nat := 177
def class_Kernel_look (p1 : Option Addr) (n2 : Int) (Q : Value → Heap → Prop) (H : Heap) : Prop :=
  callS PP 73 #[.pointer p1] (fun v3 H1 => ∃ b4 : Bool, v3 = .bool b4 ∧ cond (!b4) (Wr H1 (⟨H.size, 0, none⟩ : Addr) ∧ ∃ p5 : Option Addr, cellH (setH H1 (⟨H.size, 0, none⟩ : Addr) (.pointer none)) (⟨H.size, 0, none⟩ : Addr) = some (.pointer p5) ∧ Q (.tuple #[.agg #[.pointer p5], .int .i64 2]) (setH H1 (⟨H.size, 0, none⟩ : Addr) (.pointer none))) (Wr (H1.push (.cells #[.pointer none] 131)) (⟨H1.size, 0, none⟩ : Addr) ∧ ∃ p6 : Option Addr, cellH (setH (H1.push (.cells #[.pointer none] 131)) (⟨H1.size, 0, none⟩ : Addr) (.pointer p1)) (⟨H1.size, 0, none⟩ : Addr) = some (.pointer p6) ∧ callS PP 245 #[.agg #[.pointer p6], .int .i64 n2] (fun v7 H2 => ∃ b8 : Bool, v7 = .bool b8 ∧ cond (!b8) (Wr H2 (⟨H.size, 0, none⟩ : Addr) ∧ ∃ p9 : Option Addr, cellH (setH H2 (⟨H.size, 0, none⟩ : Addr) (.pointer none)) (⟨H.size, 0, none⟩ : Addr) = some (.pointer p9) ∧ Q (.tuple #[.agg #[.pointer p9], .int .i64 130]) (setH H2 (⟨H.size, 0, none⟩ : Addr) (.pointer none))) (∃ p10 : Option Addr, cellH H2 (⟨H1.size, 0, none⟩ : Addr) = some (.pointer p10) ∧ Wr H2 (⟨H.size, 0, none⟩ : Addr) ∧ ∃ p11 : Option Addr, cellH (setH H2 (⟨H.size, 0, none⟩ : Addr) (.pointer p10)) (⟨H.size, 0, none⟩ : Addr) = some (.pointer p11) ∧ Q (.tuple #[.agg #[.pointer p11], .int .i64 0]) (setH H2 (⟨H.size, 0, none⟩ : Addr) (.pointer p10)))) (setH (H1.push (.cells #[.pointer none] 131)) (⟨H1.size, 0, none⟩ : Addr) (.pointer p1)))) (H.push (.cells #[.pointer none] 131))
theorem class_Kernel_look_ok {p1 : Option Addr} {n2 : Int} {Q : Value → Heap → Prop} {H : Heap} (h : class_Kernel_look p1 n2 Q H) : callS PP 177 #[.pointer p1, .int .i64 n2] Q H :=
  callS_of good Tryz.func177 rfl (Ls := fun _ => none) (by kernel_rfl) h
abbrev n_class_reader_texts : Nat := 178
def class_reader_texts (p1 : Option Addr) (n2 : Int) (Q : Value → Heap → Prop) (H : Heap) : Prop :=
  ∃ p3 : Option Addr, cellH (H.push (.cells #[.pointer p1] 131)) (⟨H.size, 0, none⟩ : Addr) = some (.pointer p3) ∧ callS PP 75 #[.agg #[.pointer p3], .int .i64 n2] (fun v4 H1 => ∃ n5 : Int, v4 = .int .i64 n5 ∧ ∃ (I6 : List Value → Heap → Prop) (μ6 : List Value → Heap → Nat), I6 [.slice none 0 0, .int .i64 0] H1 ∧ ∀ w7 H2, I6 w7 H2 → ∀ _g : Nat → Value, ∃ a8 : Option Addr, ∃ l8 : Nat, ∃ c8 : Nat, ∃ n9 : Int, w7 = [.slice a8 l8 c8, .int .i64 n9] ∧ cond (decide (n9 < n5)) (∃ p10 : Option Addr, cellH H2 (⟨H.size, 0, none⟩ : Addr) = some (.pointer p10) ∧ callS PP 176 #[.agg #[.pointer p10], .int .i64 n2, .int .i64 n9] (fun v11 H3 => ∃ s12 : ByteArray, v11 = .string s12 ∧ evS PP (Builtin.append_ #[37, 37] 37 #[.slice a8 l8 c8, .slice (some (⟨H3.size, 0, none⟩ : Addr)) 1 1]) (fun v13 H4 => ∃ a14 : Option Addr, ∃ l14 : Nat, ∃ c14 : Nat, v13 = .slice a14 l14 c14 ∧ I6 [.slice a14 l14 c14, .int .i64 (IntKind.wrap .i64 (n9 + 1))] H4 ∧ μ6 [.slice a14 l14 c14, .int .i64 (IntKind.wrap .i64 (n9 + 1))] H4 < μ6 w7 H2) (H3.push (.cells #[.string s12] 9))) H2) (Q (.slice a8 l8 c8) H2)) (H.push (.cells #[.pointer p1] 131))
theorem class_reader_texts_ok {p1 : Option Addr} {n2 : Int} {Q : Value → Heap → Prop} {H : Heap} (h : class_reader_texts p1 n2 Q H) : callS PP 178 #[.agg #[.pointer p1], .int .i64 n2] Q H :=
  callS_of good Tryz.func178 rfl (Ls := fun | 3 => some [(5, 37), (10, 3)] | _ => none) (by kernel_rfl) h
abbrev n_class_reader_num : Nat := 179
def class_reader_num (p1 : Option Addr) (n2 : Int) (n3 : Int) (Q : Value → Heap → Prop) (H : Heap) : Prop :=
  ∃ p4 : Option Addr, cellH (H.push (.cells #[.pointer p1] 131)) (⟨H.size, 0, none⟩ : Addr) = some (.pointer p4) ∧ callS PP 181 #[.agg #[.pointer p4], .int .i64 n2, .int .i64 n3] (fun v5 H1 => ∃ n6 : Int, v5 = .int .i64 n6 ∧ callS PP 246 #[.int .i64 n6] (fun v7 H2 => ∃ n8 : Int, ∃ n9 : Int, v7 = .tuple #[.int .i64 n8, .int .i64 n9] ∧ Q (.int .i64 n8) H2) H1) (H.push (.cells #[.pointer p1] 131))
theorem class_reader_num_ok {p1 : Option Addr} {n2 : Int} {n3 : Int} {Q : Value → Heap → Prop} {H : Heap} (h : class_reader_num p1 n2 n3 Q H) : callS PP 179 #[.agg #[.pointer p1], .int .i64 n2, .int .i64 n3] Q H :=
  callS_of good Tryz.func179 rfl (Ls := fun _ => none) (by kernel_rfl) h
abbrev n_class_reader_super : Nat := 180
def class_reader_super (p1 : Option Addr) (n2 : Int) (Q : Value → Heap → Prop) (H : Heap) : Prop :=
  ∃ p3 : Option Addr, cellH (H.push (.cells #[.pointer p1] 131)) (⟨H.size, 0, none⟩ : Addr) = some (.pointer p3) ∧ callS PP 76 #[.agg #[.pointer p3], .int .i64 n2, .int .i64 1] (fun v4 H1 => ∃ n5 : Int, v4 = .int .i64 n5 ∧ cond (n5 != 1) (Q (.int .i64 n5) H1) (Q (.int .i64 0) H1)) (H.push (.cells #[.pointer p1] 131))
theorem class_reader_super_ok {p1 : Option Addr} {n2 : Int} {Q : Value → Heap → Prop} {H : Heap} (h : class_reader_super p1 n2 Q H) : callS PP 180 #[.agg #[.pointer p1], .int .i64 n2] Q H :=
  callS_of good Tryz.func180 rfl (Ls := fun _ => none) (by kernel_rfl) h
abbrev n_class_reader_slot : Nat := 181
def class_reader_slot (p1 : Option Addr) (n2 : Int) (n3 : Int) (Q : Value → Heap → Prop) (H : Heap) : Prop :=
  ∃ p4 : Option Addr, cellH (H.push (.cells #[.pointer p1] 131)) (⟨H.size, 0, none⟩ : Addr) = some (.pointer p4) ∧ ∃ q5, p4 = some q5 ∧ ∃ p6 : Option Addr, cellH (H.push (.cells #[.pointer p1] 131)) q5 = some (.pointer p6) ∧ callS PP 20 #[.pointer p6] (fun v7 H1 => ∃ p8 : Option Addr, v7 = .pointer p8 ∧ callS PP 233 #[.pointer p8, .int .i64 n2, .int .i64 n3] (fun v9 H2 => ∃ n10 : Int, ∃ n11 : Int, v9 = .tuple #[.int .i64 n10, .int .i64 n11] ∧ Q (.int .i64 n10) H2) H1) (H.push (.cells #[.pointer p1] 131))
theorem class_reader_slot_ok {p1 : Option Addr} {n2 : Int} {n3 : Int} {Q : Value → Heap → Prop} {H : Heap} (h : class_reader_slot p1 n2 n3 Q H) : callS PP 181 #[.agg #[.pointer p1], .int .i64 n2, .int .i64 n3] Q H :=
  callS_of good Tryz.func181 rfl (Ls := fun _ => none) (by kernel_rfl) h
abbrev n_class_Kernel_Number : Nat := 188
def class_Kernel_Number (p1 : Option Addr) (n2 : Int) (Q : Value → Heap → Prop) (H : Heap) : Prop :=
  callS PP 177 #[.pointer p1, .int .i64 n2] (fun v3 H1 => ∃ p4 : Option Addr, ∃ n5 : Int, v3 = .tuple #[.agg #[.pointer p4], .int .i64 n5] ∧ Wr (H1.push (.cells #[.pointer none] 131)) (⟨H1.size, 0, none⟩ : Addr) ∧ cond (n5 != 0) (Q (.tuple #[.int .i64 0, .int .i64 n5]) (setH (H1.push (.cells #[.pointer none] 131)) (⟨H1.size, 0, none⟩ : Addr) (.pointer p4))) (∃ p6 : Option Addr, cellH (setH (H1.push (.cells #[.pointer none] 131)) (⟨H1.size, 0, none⟩ : Addr) (.pointer p4)) (⟨H1.size, 0, none⟩ : Addr) = some (.pointer p6) ∧ callS PP 179 #[.agg #[.pointer p6], .int .i64 n2, .int .i64 6] (fun v7 H2 => ∃ n8 : Int, v7 = .int .i64 n8 ∧ Q (.tuple #[.int .i64 n8, .int .i64 0]) H2) (setH (H1.push (.cells #[.pointer none] 131)) (⟨H1.size, 0, none⟩ : Addr) (.pointer p4)))) H
theorem class_Kernel_Number_ok {p1 : Option Addr} {n2 : Int} {Q : Value → Heap → Prop} {H : Heap} (h : class_Kernel_Number p1 n2 Q H) : callS PP 188 #[.pointer p1, .int .i64 n2] Q H :=
  callS_of good Tryz.func188 rfl (Ls := fun _ => none) (by kernel_rfl) h
abbrev n_class_Kernel_Super : Nat := 190
def class_Kernel_Super (p1 : Option Addr) (n2 : Int) (Q : Value → Heap → Prop) (H : Heap) : Prop :=
  callS PP 177 #[.pointer p1, .int .i64 n2] (fun v3 H1 => ∃ p4 : Option Addr, ∃ n5 : Int, v3 = .tuple #[.agg #[.pointer p4], .int .i64 n5] ∧ Wr (H1.push (.cells #[.pointer none] 131)) (⟨H1.size, 0, none⟩ : Addr) ∧ cond (n5 != 0) (Q (.tuple #[.int .i64 0, .int .i64 n5]) (setH (H1.push (.cells #[.pointer none] 131)) (⟨H1.size, 0, none⟩ : Addr) (.pointer p4))) (∃ p6 : Option Addr, cellH (setH (H1.push (.cells #[.pointer none] 131)) (⟨H1.size, 0, none⟩ : Addr) (.pointer p4)) (⟨H1.size, 0, none⟩ : Addr) = some (.pointer p6) ∧ callS PP 180 #[.agg #[.pointer p6], .int .i64 n2] (fun v7 H2 => ∃ n8 : Int, v7 = .int .i64 n8 ∧ Q (.tuple #[.int .i64 n8, .int .i64 0]) H2) (setH (H1.push (.cells #[.pointer none] 131)) (⟨H1.size, 0, none⟩ : Addr) (.pointer p4)))) H
theorem class_Kernel_Super_ok {p1 : Option Addr} {n2 : Int} {Q : Value → Heap → Prop} {H : Heap} (h : class_Kernel_Super p1 n2 Q H) : callS PP 190 #[.pointer p1, .int .i64 n2] Q H :=
  callS_of good Tryz.func190 rfl (Ls := fun _ => none) (by kernel_rfl) h
abbrev n_class_Kernel_Layout : Nat := 192
def class_Kernel_Layout (p1 : Option Addr) (n2 : Int) (Q : Value → Heap → Prop) (H : Heap) : Prop :=
  callS PP 177 #[.pointer p1, .int .i64 n2] (fun v3 H1 => ∃ p4 : Option Addr, ∃ n5 : Int, v3 = .tuple #[.agg #[.pointer p4], .int .i64 n5] ∧ Wr (H1.push (.cells #[.pointer none] 131)) (⟨H1.size, 0, none⟩ : Addr) ∧ cond (n5 != 0) (Q (.tuple #[.int .i64 0, .int .i64 n5]) (setH (H1.push (.cells #[.pointer none] 131)) (⟨H1.size, 0, none⟩ : Addr) (.pointer p4))) (∃ p6 : Option Addr, cellH (setH (H1.push (.cells #[.pointer none] 131)) (⟨H1.size, 0, none⟩ : Addr) (.pointer p4)) (⟨H1.size, 0, none⟩ : Addr) = some (.pointer p6) ∧ callS PP 179 #[.agg #[.pointer p6], .int .i64 n2, .int .i64 5] (fun v7 H2 => ∃ n8 : Int, v7 = .int .i64 n8 ∧ Q (.tuple #[.int .i64 n8, .int .i64 0]) H2) (setH (H1.push (.cells #[.pointer none] 131)) (⟨H1.size, 0, none⟩ : Addr) (.pointer p4)))) H
theorem class_Kernel_Layout_ok {p1 : Option Addr} {n2 : Int} {Q : Value → Heap → Prop} {H : Heap} (h : class_Kernel_Layout p1 n2 Q H) : callS PP 192 #[.pointer p1, .int .i64 n2] Q H :=
  callS_of good Tryz.func192 rfl (Ls := fun _ => none) (by kernel_rfl) h
abbrev n_class_reader_fields : Nat := 202
def class_reader_fields (p1 : Option Addr) (n2 : Int) (Q : Value → Heap → Prop) (H : Heap) : Prop :=
  cond (n2 == 0) (Q (.slice none 0 0) (H.push (.cells #[.pointer p1] 131))) (∃ p3 : Option Addr, cellH (H.push (.cells #[.pointer p1] 131)) (⟨H.size, 0, none⟩ : Addr) = some (.pointer p3) ∧ ∃ p4 : Option Addr, cellH (H.push (.cells #[.pointer p1] 131)) (⟨H.size, 0, none⟩ : Addr) = some (.pointer p4) ∧ ∃ p5 : Option Addr, cellH (H.push (.cells #[.pointer p1] 131)) (⟨H.size, 0, none⟩ : Addr) = some (.pointer p5) ∧ ∃ p6 : Option Addr, cellH (H.push (.cells #[.pointer p1] 131)) (⟨H.size, 0, none⟩ : Addr) = some (.pointer p6) ∧ callS PP 180 #[.agg #[.pointer p4], .int .i64 n2] (fun v7 H1 => ∃ n8 : Int, v7 = .int .i64 n8 ∧ ((cellH H1 (⟨H.size, 0, none⟩ : Addr) = some (.pointer p6) ∧ True) ∧ ((cellH H1 (⟨H.size, 0, none⟩ : Addr) = some (.pointer p5) ∧ True) ∧ ((cellH H1 (⟨H.size, 0, none⟩ : Addr) = some (.pointer p3) ∧ True) ∧ True))) ∧ callS PP 202 #[.agg #[.pointer p3], .int .i64 n8] (fun v9 H2 => ∃ a10 : Option Addr, ∃ l10 : Nat, ∃ c10 : Nat, v9 = .slice a10 l10 c10 ∧ ((cellH H2 (⟨H.size, 0, none⟩ : Addr) = some (.pointer p6) ∧ True) ∧ ((cellH H2 (⟨H.size, 0, none⟩ : Addr) = some (.pointer p5) ∧ True) ∧ True)) ∧ callS PP 76 #[.agg #[.pointer p6], .int .i64 n2, .int .i64 2] (fun v11 H3 => ∃ n12 : Int, v11 = .int .i64 n12 ∧ ((cellH H3 (⟨H.size, 0, none⟩ : Addr) = some (.pointer p5) ∧ True) ∧ True) ∧ callS PP 178 #[.agg #[.pointer p5], .int .i64 n12] (fun v13 H4 => ∃ a14 : Option Addr, ∃ l14 : Nat, ∃ c14 : Nat, v13 = .slice a14 l14 c14 ∧ True ∧ evS PP (Builtin.append_ #[37, 37] 37 #[.slice a10 l10 c10, .slice a14 l14 c14]) (fun v15 H5 => ∃ a16 : Option Addr, ∃ l16 : Nat, ∃ c16 : Nat, v15 = .slice a16 l16 c16 ∧ True ∧ Q (.slice a16 l16 c16) H5) H4) H3) H2) H1) (H.push (.cells #[.pointer p1] 131)))
theorem class_reader_fields_ok {p1 : Option Addr} {n2 : Int} {Q : Value → Heap → Prop} {H : Heap} (h : class_reader_fields p1 n2 Q H) : callS PP 202 #[.agg #[.pointer p1], .int .i64 n2] Q H :=
  callS_of good Tryz.func202 rfl (Ls := fun _ => none) (by kernel_rfl) h
abbrev n_class_reader_class : Nat := 245
def class_reader_class (p1 : Option Addr) (n2 : Int) (Q : Value → Heap → Prop) (H : Heap) : Prop :=
  ∃ p3 : Option Addr, cellH (H.push (.cells #[.pointer p1] 131)) (⟨H.size, 0, none⟩ : Addr) = some (.pointer p3) ∧ callS PP 179 #[.agg #[.pointer p3], .int .i64 n2, .int .i64 6] (fun v4 H1 => ∃ n5 : Int, v4 = .int .i64 n5 ∧ ∃ p6 : Option Addr, cellH H1 (⟨H.size, 0, none⟩ : Addr) = some (.pointer p6) ∧ callS PP 74 #[.agg #[.pointer p6], .int .i64 0] (fun v7 H2 => ∃ n8 : Int, v7 = .int .i64 n8 ∧ cond (decide (n2 > 0)) (cond (decide (n5 ≥ 1)) (∃ p9 : Option Addr, cellH H2 (⟨H.size, 0, none⟩ : Addr) = some (.pointer p9) ∧ callS PP 75 #[.agg #[.pointer p9], .int .i64 n8] (fun v10 H3 => ∃ n11 : Int, v10 = .int .i64 n11 ∧ cond (decide (n5 ≤ n11)) (∃ p12 : Option Addr, cellH H3 (⟨H.size, 0, none⟩ : Addr) = some (.pointer p12) ∧ callS PP 76 #[.agg #[.pointer p12], .int .i64 n8, .int .i64 (IntKind.wrap .i64 (n5 - 1))] (fun v13 H4 => ∃ n14 : Int, v13 = .int .i64 n14 ∧ Q (.bool (n14 == n2)) H4) H3) (Q (.bool false) H3)) H2) (Q (.bool false) H2)) (Q (.bool false) H2)) H1) (H.push (.cells #[.pointer p1] 131))
theorem class_reader_class_ok {p1 : Option Addr} {n2 : Int} {Q : Value → Heap → Prop} {H : Heap} (h : class_reader_class p1 n2 Q H) : callS PP 245 #[.agg #[.pointer p1], .int .i64 n2] Q H :=
  callS_of good Tryz.func245 rfl (Ls := fun _ => none) (by kernel_rfl) h
end Go.Proofs.YtmkdkplipbocjaaGreatDoor
namespace Kw
open Go
theorem KS.fresh {s : SP} {v : KV} (h : KS s v) {o : Int} (hn : ¬ Reaches s.h s.roots o) : ∀ p ∈ v.roles, p.1 ≠ o := fun p hp he => hn (he ▸ h.reach p hp)
theorem up_arr {s : SP} {v : KV} (h : KS s v) {j : Nat} (hj : j < v.cls.length) : 1 ≤ (v.cls[j]).oop ∧ (v.cls[j]).oop ≤ 65536 := by
  have := (h.view.cls hj).bnd h.wf.h
  exact ⟨this.1, this.2.1⟩
end Kw
namespace Kw
open Go
structure KAll (s : SP) (t : TB) (v : KV) : Prop where
  ks : KS s v
  names : KNames v t
  stack : s.stack = []
end Kw
namespace Kw
open Go
def oopW (w : Int) : Int := if kindW w = 3 then w / 4 else 0
def numW (w : Int) : Int := if kindW w = 1 then w / 2 else 0
def textW (t : TB) (w : Int) : ByteArray := if kindW w = 2 then tx t (w / 4).toNat else ⟨#[]⟩
def kslot (r : RH) (o i : Int) : Int := (r.at o i).1
def koop (r : RH) (o i : Int) : Int := oopW (kslot r o i)
def knum (r : RH) (o i : Int) : Int := numW (kslot r o i)
def ktext (r : RH) (t : TB) (o i : Int) : ByteArray := textW t (kslot r o i)
def ksize (r : RH) (o : Int) : Int := (r.size o).1
theorem oopW_obj {o : Int} (h0 : 1 ≤ o) (h1 : o ≤ 65536) : oopW (4 * o) = o := by
  unfold oopW
  have := kind_cases (4 * o)
  rw [if_pos (by omega)]; omega
theorem numW_int {n : Int} (h0 : -1073741824 ≤ n) (h1 : n ≤ 1073741823) : numW (2 * n + 1) = n := by
  unfold numW
  have := kind_cases (2 * n + 1)
  rw [if_pos (by omega)]; omega
theorem textW_sym {t : TB} (hw : WFT t) {n : Nat} (h : n < t.texts.length) : textW t (symW n) = tx t n := by
  unfold textW symW
  have h1 := hw.m1
  have h2 := hw.len
  have := kind_cases (4 * (n : Int) + 2)
  rw [if_pos (by omega)]
  congr 1; omega
theorem Arr.kslot {r : RH} {o : Int} {ws : List Int} (h : Arr r o ws) {i : Nat} (hi : i < ws.length) : kslot r o i = ws[i] := by
  unfold Kw.kslot
  rw [h.at (by omega) (by omega)]
  simp
theorem Arr.ksize {r : RH} {o : Int} {ws : List Int} (h : Arr r o ws) : ksize r o = ws.length := by unfold Kw.ksize; rw [h.size]
theorem size_nonneg {r : RH} (o : Int) : 0 ≤ ksize r o := by
  unfold ksize RH.size
  cases objAt r.objs o with
  | none => exact Int.le_refl 0
  | some x => exact Int.natCast_nonneg _
theorem size_le {r : RH} (hw : WFH r) (o : Int) : ksize r o ≤ 8192 := by
  unfold ksize RH.size
  cases ho : objAt r.objs o with
  | none => exact Int.le_of_lt (by decide)
  | some x => have := (hw.objs.good x (objAt_some ho).1).many; simp only; omega
/-- All slots of an object. -/
def kwords (r : RH) (o : Int) : List Int := (List.range (ksize r o).toNat).map fun i : Nat => kslot r o i
theorem Arr.kwords {r : RH} {o : Int} {ws : List Int} (h : Arr r o ws) : kwords r o = ws := by
  unfold Kw.kwords
  rw [h.ksize, Int.toNat_natCast]
  apply List.ext_getElem (by simp)
  intro i h1 h2
  simp only [List.getElem_map, List.getElem_range]
  exact h.kslot h2
section
variable {s : SP} {v : KV} {t : TB}
theorem KS.root0 (h : KS s v) : koop s.h 19 0 = v.clsA := by
  have hb := h.view.all.bnd h.wf.h
  have hr := h.view.root
  unfold koop
  rw [show (0 : Int) = ((0 : Nat) : Int) from rfl, hr.kslot (by simp [KV.rootW])]
  exact oopW_obj hb.1 hb.2.1
theorem KS.root1 (h : KS s v) : koop s.h 19 1 = v.globA := by
  have hb := h.view.globs.bnd h.wf.h
  have hr := h.view.root
  unfold koop
  rw [show (1 : Int) = ((1 : Nat) : Int) from rfl, hr.kslot (by simp [KV.rootW])]
  exact oopW_obj hb.1 hb.2.1
theorem KS.size0 (h : KS s v) : ksize s.h v.clsA = v.cls.length := by rw [h.view.all.ksize]; simp [KV.clsW]
theorem KS.size1 (h : KS s v) : ksize s.h v.globA = 2 * v.glob.length := by rw [h.view.globs.ksize, globW_len]; simp
theorem KS.clsAt (h : KS s v) {i : Nat} (hi : i < v.cls.length) : kslot s.h v.clsA i = 4 * (v.cls[i]).oop ∧ koop s.h v.clsA i = (v.cls[i]).oop := by
  have hb := (h.view.cls hi).bnd h.wf.h
  have e : kslot s.h v.clsA i = 4 * (v.cls[i]).oop := by rw [h.view.all.kslot (by simpa [KV.clsW] using hi)]; simp [KV.clsW]
  exact ⟨e, by unfold koop; rw [e]; exact oopW_obj hb.1 hb.2.1⟩
theorem KS.globAt (h : KS s v) {i : Nat} (hi : i < v.glob.length) : kslot s.h v.globA (2 * i : Nat) = symW v.glob[i].1 ∧ kslot s.h v.globA (2 * i + 1 : Nat) = v.glob[i].2 := by
  have hg := globW_get hi
  have hl := globW_len v.glob
  refine ⟨?_, ?_⟩
  · rw [h.view.globs.kslot (by omega)]
    have := hg.1
    rw [List.getElem?_eq_getElem (by omega)] at this
    simpa using this
  · rw [h.view.globs.kslot (by omega)]
    have := hg.2
    rw [List.getElem?_eq_getElem (by omega)] at this
    simpa using this
theorem KS.c0 (h : KS s v) {i : Nat} (hi : i < v.cls.length) : kslot s.h (v.cls[i]).oop 0 = symW (v.cls[i]).name := (h.view.cls hi).kslot (i := 0) (by simp [CV.slots])
theorem KS.c1 (h : KS s v) {i : Nat} (hi : i < v.cls.length) : kslot s.h (v.cls[i]).oop 1 = 4 * (v.cls[i]).up := (h.view.cls hi).kslot (i := 1) (by simp [CV.slots])
theorem KS.c2 (h : KS s v) {i : Nat} (hi : i < v.cls.length) : kslot s.h (v.cls[i]).oop 2 = 4 * (v.cls[i]).ownA := (h.view.cls hi).kslot (i := 2) (by simp [CV.slots])
theorem KS.c3 (h : KS s v) {i : Nat} (hi : i < v.cls.length) : kslot s.h (v.cls[i]).oop 3 = 4 * (v.cls[i]).selA := (h.view.cls hi).kslot (i := 3) (by simp [CV.slots])
theorem KS.c4 (h : KS s v) {i : Nat} (hi : i < v.cls.length) : kslot s.h (v.cls[i]).oop 4 = 4 * (v.cls[i]).metA := (h.view.cls hi).kslot (i := 4) (by simp [CV.slots])
theorem KS.c5 (h : KS s v) {i : Nat} (hi : i < v.cls.length) : kslot s.h (v.cls[i]).oop 5 = 2 * (v.cls[i]).lay + 1 := (h.view.cls hi).kslot (i := 5) (by simp [CV.slots])
theorem KS.c6 (h : KS s v) {i : Nat} (hi : i < v.cls.length) : kslot s.h (v.cls[i]).oop 6 = 2 * ((i : Int) + 1) + 1 := (h.view.cls hi).kslot (i := 6) (by simp [CV.slots])
theorem KS.upB (h : KS s v) {i : Nat} (hi : i < v.cls.length) : 1 ≤ (v.cls[i]).up ∧ (v.cls[i]).up ≤ 65536 := by
  by_cases h0 : i = 0
  · subst h0; rw [(h.shape.up0 hi).1]; decide
  · obtain ⟨j, hj, _, e⟩ := h.shape.ups i hi (by omega)
    rw [← e]
    have := (h.view.cls hj).bnd h.wf.h
    exact ⟨this.1, this.2.1⟩
theorem KS.up (h : KS s v) {i : Nat} (hi : i < v.cls.length) : koop s.h (v.cls[i]).oop 1 = (v.cls[i]).up := by
  unfold koop; rw [h.c1 hi]; exact oopW_obj (h.upB hi).1 (h.upB hi).2
theorem KS.up1 (h : KS s v) {i : Nat} (hi : i < v.cls.length) : (v.cls[i]).up = 1 ↔ i = 0 := by
  constructor
  · intro e
    by_cases h0 : i = 0
    · exact h0
    · obtain ⟨j, hj, _, e'⟩ := h.shape.ups i hi (by omega)
      exact absurd (e'.trans e) (h.view.ne1 hj)
  · rintro rfl; exact (h.shape.up0 hi).1
theorem KS.ownO (h : KS s v) {i : Nat} (hi : i < v.cls.length) : koop s.h (v.cls[i]).oop 2 = (v.cls[i]).ownA := by
  have hb := (h.view.own hi).bnd h.wf.h
  unfold koop; rw [h.c2 hi]; exact oopW_obj hb.1 hb.2.1
theorem KS.layN (h : KS s v) {i : Nat} (hi : i < v.cls.length) : knum s.h (v.cls[i]).oop 5 = (v.cls[i]).lay := by
  have hb := h.shape.lay _ (List.getElem_mem hi)
  unfold knum; rw [h.c5 hi]; exact numW_int (by omega) (by omega)
theorem KS.num (h : KS s v) {i : Nat} (hi : i < v.cls.length) : knum s.h (v.cls[i]).oop 6 = (i : Int) + 1 := by
  have := h.shape.many1
  unfold knum; rw [h.c6 hi]; exact numW_int (by omega) (by omega)
theorem KAll.name (h : KAll s t v) {i : Nat} (hi : i < v.cls.length) : ktext s.h t (v.cls[i]).oop 0 = tx t (v.cls[i]).name := by
  unfold ktext; rw [h.ks.c0 hi]; exact textW_sym h.names.wf (h.names.name _ (List.getElem_mem hi))
theorem KAll.gname (h : KAll s t v) {i : Nat} (hi : i < v.glob.length) : ktext s.h t v.globA (2 * i : Nat) = tx t v.glob[i].1 := by
  unfold ktext; rw [(h.ks.globAt hi).1]; exact textW_sym h.names.wf (h.names.glob _ (List.getElem_mem hi))
theorem KAll.ownT (h : KAll s t v) {i : Nat} (hi : i < v.cls.length) {j : Nat} (hj : j < (v.cls[i]).own.length) : ktext s.h t (v.cls[i]).ownA j = tx t (v.cls[i]).own[j] := by
  unfold ktext
  rw [(h.ks.view.own hi).kslot (i := j) (by simpa using hj)]
  simp only [List.getElem_map]
  exact textW_sym h.names.wf (h.names.own _ (List.getElem_mem hi) _ (List.getElem_mem hj))
theorem KS.ownL (h : KS s v) {i : Nat} (hi : i < v.cls.length) : ksize s.h (v.cls[i]).ownA = (v.cls[i]).own.length := by rw [(h.view.own hi).ksize]; simp
end
/-- A class's place, by its oop. -/
def plK (v : KV) (o : Int) : Option Nat := v.cls.findIdx? fun c => decide (c.oop = o)
theorem plK_some {v : KV} {o : Int} {i : Nat} (h : plK v o = some i) : ∃ hi : i < v.cls.length, (v.cls[i]).oop = o := by
  unfold plK at h
  rw [List.findIdx?_eq_some_iff_getElem] at h
  obtain ⟨hi, h1, _⟩ := h
  exact ⟨hi, by simpa using h1⟩
theorem plK_none {v : KV} {o : Int} (h : plK v o = none) : ∀ i (hi : i < v.cls.length), (v.cls[i]).oop ≠ o := by
  unfold plK at h
  rw [List.findIdx?_eq_none_iff] at h
  intro i hi
  simpa using h _ (List.getElem_mem hi)
theorem KS.idx {s : SP} {v : KV} (h : KS s v) {i : Nat} (hi : i < v.cls.length) : plK v (v.cls[i]).oop = some i := by
  cases hx : plK v (v.cls[i]).oop with
  | none => exact absurd rfl (plK_none hx i hi)
  | some j =>
    obtain ⟨hj, e⟩ := plK_some hx
    rw [h.view.inj hj hi e]
def findK (v : KV) (t : TB) (name : ByteArray) : Int × Int := match v.cls.findIdx? (fun c => decide (tx t c.name = name)) with
  | some i => ((v.cls.getD i ⟨0, 0, 0, [], 0, 0, 0, [], [], 0⟩).oop, 0)
  | none => (0, 130)
def numberedK (v : KV) (n : Int) : Int × Int := if h : 1 ≤ n ∧ n ≤ v.cls.length then ((v.cls[(n - 1).toNat]'(by omega)).oop, 0) else (0, 130)
def superK (v : KV) (i : Nat) : Int := match v.cls[i]? with
  | some c => if c.up = 1 then 0 else c.up
  | none => 0
def upIdx (v : KV) (i : Nat) : Option Nat := plK v (superK v i)
/-- All fields, from the top down: the symbols' numbers. -/
def fieldsK (v : KV) (i : Nat) : List Nat := match v.cls[i]? with
  | none => []
  | some c => match upIdx v i with
    | some j => if j < i then fieldsK v j ++ c.own else c.own
    | none => c.own
termination_by i
theorem KS.upI {s : SP} {v : KV} (h : KS s v) {i : Nat} (hi : i < v.cls.length) : (i = 0 ∧ superK v i = 0 ∧ upIdx v i = none) ∨ (∃ j, ∃ hj : j < v.cls.length, j < i ∧ superK v i = (v.cls[j]).oop ∧ (v.cls[i]).up = (v.cls[j]).oop ∧ upIdx v i = some j) := by
  have e : superK v i = if (v.cls[i]).up = 1 then 0 else (v.cls[i]).up := by unfold superK; rw [List.getElem?_eq_getElem hi]
  by_cases h0 : i = 0
  · left
    have hu : (v.cls[i]).up = 1 := (h.up1 hi).2 h0
    rw [if_pos hu] at e
    refine ⟨h0, e, ?_⟩
    unfold Kw.upIdx
    rw [e]
    cases hx : plK v 0 with
    | none => rfl
    | some j =>
      obtain ⟨hj, e'⟩ := plK_some hx
      have := ((h.view.cls hj).bnd h.wf.h).1
      omega
  · right
    obtain ⟨j, hj, hlt, e'⟩ := h.shape.ups i hi (by omega)
    have hu : (v.cls[i]).up ≠ 1 := fun hx => h0 ((h.up1 hi).1 hx)
    rw [if_neg hu] at e
    refine ⟨j, hj, hlt, by rw [e, e'], e'.symm, ?_⟩
    unfold Kw.upIdx
    rw [e, ← e']
    exact h.idx hj
theorem KS.fields0 {s : SP} {v : KV} (h : KS s v) (h0 : 0 < v.cls.length) : fieldsK v 0 = (v.cls[0]).own := by
  rw [fieldsK, List.getElem?_eq_getElem h0]
  rcases h.upI h0 with ⟨_, _, e⟩ | ⟨j, _, hlt, _⟩
  · simp only [e]
  · omega
theorem KS.fieldsS {s : SP} {v : KV} (h : KS s v) {i j : Nat} (hi : i < v.cls.length) (hj : j < i) (e : Kw.upIdx v i = some j) : fieldsK v i = fieldsK v j ++ (v.cls[i]).own := by
  rw [fieldsK, List.getElem?_eq_getElem hi]
  simp only [e, if_pos hj]
/-- The class at a place descends from that of an oop, or is it. -/
inductive Und (v : KV) (o : Int) : Int → Prop
  | self : Und v o o
  | up {i : Nat} (hi : i < v.cls.length) (hu : (v.cls[i]).up ≠ 1) (h : Und v o (v.cls[i]).up) : Und v o (v.cls[i]).oop
theorem und_iff {s : SP} {v : KV} (h : KS s v) {o : Int} {i : Nat} (hi : i < v.cls.length) : Und v o (v.cls[i]).oop ↔ (v.cls[i]).oop = o ∨ (superK v i ≠ 0 ∧ Und v o (superK v i)) := by
  have e : superK v i = if (v.cls[i]).up = 1 then 0 else (v.cls[i]).up := by unfold superK; rw [List.getElem?_eq_getElem hi]
  constructor
  · intro hu
    generalize hx : (v.cls[i]).oop = x at hu
    cases hu with
    | self => exact .inl rfl
    | @up j hj h1 h2 =>
      right
      have : i = j := h.view.inj hi hj hx
      subst this
      rw [if_neg h1] at e
      rw [e]
      exact ⟨by have := (h.upB hi).1; omega, h2⟩
  · rintro (he | ⟨h1, h2⟩)
    · rw [he]; exact .self
    · have hu : (v.cls[i]).up ≠ 1 := fun hx => h1 (by rw [e, if_pos hx])
      rw [e, if_neg hu] at h2
      exact .up hi hu h2
noncomputable instance undDec (v : KV) (o x : Int) : Decidable (Und v o x) := Classical.propDecidable _
noncomputable def underK (v : KV) (o : Int) : List Int := ((List.range v.cls.length).filter fun i => decide (Und v o (v.cls.getD i ⟨0, 0, 0, [], 0, 0, 0, [], [], 0⟩).oop)).map fun i : Nat => (i : Int) + 1
/-- A class as data. -/
structure CI where
  name : ByteArray
  sup : ByteArray
  own : List ByteArray
  lay : Int
def infoK (v : KV) (t : TB) (i : Nat) : CI := match v.cls[i]? with
  | some c => ⟨tx t c.name, match upIdx v i with
    | some j => match v.cls[j]? with
      | some d => tx t d.name
      | none => ⟨#[]⟩
    | none => ⟨#[]⟩, c.own.map (tx t), c.lay⟩
  | none => ⟨⟨#[]⟩, ⟨#[]⟩, [], 0⟩
def globsK (v : KV) (t : TB) : List ByteArray := v.glob.map fun p => tx t p.1
end Kw
namespace Kw
open Go
theorem fields_len {s : SP} {v : KV} (h : KS s v) : ∀ i : Nat, i < v.cls.length → (fieldsK v i).length ≤ 8192 * (i + 1) := by
  intro i
  induction i using Nat.strongRecOn with
  | ind i ih =>
    intro hi
    have hb : (v.cls[i]).own.length ≤ 8192 := by have := ((h.view.own hi).bnd h.wf.h).2.2.1; simpa using this
    rcases h.upI hi with ⟨h0, _, _⟩ | ⟨j, hj, hlt, _, _, e⟩
    · subst h0; rw [h.fields0 hi]; omega
    · rw [h.fieldsS hi hlt e, List.length_append]
      have := ih j hlt hj
      omega
end Kw
set_option maxRecDepth 100000
namespace Go.Proofs.YtmkdkplipbocjaaGreatDoor
open Kw
theorem locB {H : Heap} {x v : Value} {t : TypeId} {fr : Nat × Nat} : setH (H.push (.cells #[x] t fr)) ⟨H.size, 0, none⟩ v = H.push (.cells #[v] t fr) := by
  rw [setH_push]; rfl
theorem Fr.late {H H2 : Heap} (h : Fr [] H H2) {b o : Nat} {v : Value} (hb : H.size ≤ b) : Fr [] H (setH H2 ⟨b, o, none⟩ v) :=
  ⟨Nat.le_trans h.1 (Fr.set (F := [b]) (H := H2) (a := ⟨b, o, none⟩) (v := v) (by simp)).1, fun c hc _ => by rw [setH_ne (by simp only; omega)]; exact h.2 c hc (by simp)⟩
/-- The program's kernel: its block, all its blocks, its space and its symbols. -/
def PK (H : Heap) (b : Nat) (F : Foot) (s : SP) (t : TB) : Prop := ∃ sb tb F1 F2, F = b :: (F1 ++ F2) ∧ b ∉ F1 ∧ b ∉ F2 ∧ Disj F1 F2 ∧ b ≠ g_word_kinds ∧ g_word_kinds ∉ F2 ∧
  Blk H b #[.pointer (some ⟨sb, 0, none⟩), .pointer (some ⟨tb, 0, none⟩)] ∧ PSp H sb F1 s ∧ PTb H tb F2 t
theorem PK.lt {H : Heap} {b : Nat} {F : Foot} {s : SP} {t : TB} (h : PK H b F s t) : ∀ x ∈ F, x < H.size := by
  obtain ⟨sb, tb, F1, F2, rfl, h1, h2, h3, k1, k2, hB, hS, hT⟩ := h
  intro x hx
  rcases List.mem_cons.1 hx with rfl | hx
  · exact hB.lt
  · rcases List.mem_append.1 hx with hx | hx
    · exact hS.lt x hx
    · exact hT.lt x hx
theorem PK.bmem {H : Heap} {b : Nat} {F : Foot} {s : SP} {t : TB} (h : PK H b F s t) : b ∈ F := by obtain ⟨_, _, _, _, rfl, _⟩ := h; simp
theorem PK.kinds {H : Heap} {b : Nat} {F : Foot} {s : SP} {t : TB} (h : PK H b F s t) : Kinds H := by obtain ⟨_, _, _, _, _, _, _, _, _, _, _, hS, _⟩ := h; exact hS.kinds
theorem PK.gk {H : Heap} {b : Nat} {F : Foot} {s : SP} {t : TB} (h : PK H b F s t) : g_word_kinds ∉ F := by
  obtain ⟨sb, tb, F1, F2, rfl, h1, h2, h3, k1, k2, hB, hS, hT⟩ := h
  simp only [List.mem_cons, List.mem_append, not_or]
  exact ⟨fun e => k1 e.symm, hS.gk, k2⟩
theorem PK.fr {H H' : Heap} {b : Nat} {F G : Foot} {s : SP} {t : TB} (h : PK H b F s t) (hf : Fr G H H') (hd : Disj F G) (hg : g_word_kinds ∉ G) : PK H' b F s t := by
  obtain ⟨sb, tb, F1, F2, rfl, h1, h2, h3, k1, k2, hB, hS, hT⟩ := h
  exact ⟨sb, tb, F1, F2, rfl, h1, h2, h3, k1, k2, hB.fr hf (hd b (by simp)), hS.fr hf (hd.mono (fun x hx => by simp [hx]) fun _ h => h) hg, hT.fr hf (hd.mono (fun x hx => by simp [hx]) fun _ h => h)⟩
theorem PK.nil {H H' : Heap} {b : Nat} {F : Foot} {s : SP} {t : TB} (h : PK H b F s t) (hf : Fr [] H H') : PK H' b F s t := h.fr hf (Disj.nil_right _) (by simp)
theorem PK.wfs {H : Heap} {b : Nat} {F : Foot} {s : SP} {t : TB} (h : PK H b F s t) : WFS s := by obtain ⟨_, _, _, _, _, _, _, _, _, _, _, hS, _⟩ := h; exact hS.wf
/-- Its space. -/
theorem PK.sp {H : Heap} {b : Nat} {F : Foot} {s : SP} {t : TB} (h : PK H b F s t) : ∃ sb F1, cellH H ⟨b, 0, none⟩ = some (.pointer (some ⟨sb, 0, none⟩)) ∧ PSp H sb F1 s ∧ (∀ x ∈ F1, x ∈ F) ∧ b ∉ F1 ∧
    (∀ H' F1' s', PSp H' sb F1' s' → Up F1 H F1' H' → ∃ F', PK H' b F' s' t ∧ Up F H F' H') ∧ (∀ H' s', PSp H' sb F1 s' → Fr F1 H H' → PK H' b F s' t) := by
  have hlt := h.lt
  have hgl := h.kinds.lt
  obtain ⟨sb, tb, F1, F2, rfl, h1, h2, h3, k1, k2, hB, hS, hT⟩ := h
  refine ⟨sb, F1, hB.cell 0, hS, fun x hx => by simp [hx], h1, fun H' F1' s' hS' hu => ⟨b :: (F1' ++ F2), ⟨sb, tb, F1', F2, rfl, fun hx => ?_, h2, fun x hx hx2 => ?_, k1, k2, hB.fr hu.1 h1, hS', hT.fr hu.1 h3.symm⟩, hu.1.mono fun x hx => by simp [hx], fun x hx => ?_⟩, fun H' s' hS' hf => ⟨sb, tb, F1, F2, rfl, h1, h2, h3, k1, k2, hB.fr hf h1, hS', hT.fr hf h3.symm⟩⟩
  · rcases hu.2 b hx with h4 | h4
    · exact h1 h4
    · have := hlt b (by simp); omega
  · rcases hu.2 x hx with h4 | h4
    · exact h3 x h4 hx2
    · have := hlt x (by simp [hx2]); omega
  · rcases List.mem_cons.1 hx with rfl | hx
    · exact .inl (by simp)
    · rcases List.mem_append.1 hx with hx | hx
      · exact (hu.2 x hx).imp (fun h4 => by simp [h4]) id
      · exact .inl (by simp [hx])
/-- Its symbols. -/
theorem PK.tb {H : Heap} {b : Nat} {F : Foot} {s : SP} {t : TB} (h : PK H b F s t) : ∃ tb F2, cellH H ⟨b, 1, none⟩ = some (.pointer (some ⟨tb, 0, none⟩)) ∧ PTb H tb F2 t ∧ (∀ x ∈ F2, x ∈ F) ∧ b ∉ F2 ∧
    (∀ H' F2' t', PTb H' tb F2' t' → Up F2 H F2' H' → ∃ F', PK H' b F' s t' ∧ Up F H F' H') ∧ (∀ H' t', PTb H' tb F2 t' → Fr F2 H H' → PK H' b F s t') := by
  have hlt := h.lt
  have hgl := h.kinds.lt
  obtain ⟨sb, tb, F1, F2, rfl, h1, h2, h3, k1, k2, hB, hS, hT⟩ := h
  have hgS := hS.gk
  refine ⟨tb, F2, hB.cell 1, hT, fun x hx => by simp [hx], h2, fun H' F2' t' hT' hu => ⟨b :: (F1 ++ F2'), ⟨sb, tb, F1, F2', rfl, h1, fun hx => ?_, fun x hx hx2 => ?_, k1, fun hx => ?_, hB.fr hu.1 h2, hS.fr hu.1 h3 k2, hT'⟩, hu.1.mono fun x hx => by simp [hx], fun x hx => ?_⟩, fun H' t' hT' hf => ⟨sb, tb, F1, F2, rfl, h1, h2, h3, k1, k2, hB.fr hf h2, hS.fr hf h3 k2, hT'⟩⟩
  · rcases hu.2 b hx with h4 | h4
    · exact h2 h4
    · have := hlt b (by simp); omega
  · rcases hu.2 x hx2 with h4 | h4
    · exact h3 x hx h4
    · have := hlt x (by simp [hx]); omega
  · rcases hu.2 _ hx with h4 | h4
    · exact k2 h4
    · omega
  · rcases List.mem_cons.1 hx with rfl | hx
    · exact .inl (by simp)
    · rcases List.mem_append.1 hx with hx | hx
      · exact .inl (by simp [hx])
      · exact (hu.2 x hx).imp (fun h4 => by simp [h4]) id
/-- The reader of a kernel. -/
abbrev rd (b : Nat) : Value := .agg #[.pointer (some ⟨b, 0, none⟩)]
section
variable {H : Heap} {b : Nat} {F : Foot} {s : SP} {t : TB} {Q : Value → Heap → Prop}
theorem there_c (hK : PK H b F s t) (h : Q (.bool true) H) : callS PP n_class_Kernel_there #[.pointer (some ⟨b, 0, none⟩)] Q H := by
  obtain ⟨sb, F1, hc, _⟩ := hK.sp
  apply class_Kernel_there_ok
  unfold class_Kernel_there
  exact ⟨_, rfl, _, hc, h⟩
theorem there_nil (h : Q (.bool false) H) : callS PP n_class_Kernel_there #[.pointer none] Q H := by
  apply class_Kernel_there_ok
  unfold class_Kernel_there
  exact h
theorem slot_k (hK : PK H b F s t) {o i : Int} (h : ∀ H', Fr [] H H' → Q (.int .i64 (kslot s.h o i)) H') : callS PP n_class_reader_slot #[rd b, .int .i64 o, .int .i64 i] Q H := by
  apply class_reader_slot_ok
  unfold class_reader_slot
  have hf : Fr [] H (H.push (.cells #[.pointer (some ⟨b, 0, none⟩)] 131)) := Fr.push _ _ _
  obtain ⟨sb, F1, hc, hS, _⟩ := (hK.nil hf).sp
  refine ⟨_, (Blk.new _ _ _).cell 0, _, rfl, _, hc, psHeap_c hS fun hb F2 hR _ _ => ⟨_, rfl, hat_c hR ⟨_, _, rfl, h _ hf⟩⟩⟩
theorem oop_k (hK : PK H b F s t) {o i : Int} (h : ∀ H', Fr [] H H' → Q (.int .i64 (koop s.h o i)) H') : callS PP n_class_reader_oop #[rd b, .int .i64 o, .int .i64 i] Q H := by
  apply class_reader_oop_ok
  unfold class_reader_oop
  have hf : Fr [] H (H.push (.cells #[.pointer (some ⟨b, 0, none⟩)] 131)) := Fr.push _ _ _
  have hK1 := hK.nil hf
  refine ⟨_, (Blk.new _ _ _).cell 0, slot_k hK1 fun H' hf' => ⟨_, rfl, oop_c (hK1.nil hf').kinds ?_⟩⟩
  have := h H' (hf.trans hf')
  unfold koop oopW at this
  unfold ofW
  split
  · rename_i hk; rw [if_pos hk] at this; exact ⟨_, _, rfl, this⟩
  · rename_i hk; rw [if_neg hk] at this; exact ⟨_, _, rfl, this⟩
theorem num_k (hK : PK H b F s t) {o i : Int} (h : ∀ H', Fr [] H H' → Q (.int .i64 (knum s.h o i)) H') : callS PP n_class_reader_num #[rd b, .int .i64 o, .int .i64 i] Q H := by
  apply class_reader_num_ok
  unfold class_reader_num
  have hf : Fr [] H (H.push (.cells #[.pointer (some ⟨b, 0, none⟩)] 131)) := Fr.push _ _ _
  have hK1 := hK.nil hf
  refine ⟨_, (Blk.new _ _ _).cell 0, slot_k hK1 fun H' hf' => ⟨_, rfl, num_c (hK1.nil hf').kinds ?_⟩⟩
  have := h H' (hf.trans hf')
  unfold knum numW at this
  unfold ofW
  split
  · rename_i hk; rw [if_pos hk] at this; exact ⟨_, _, rfl, this⟩
  · rename_i hk; rw [if_neg hk] at this; exact ⟨_, _, rfl, this⟩
theorem text_k (hK : PK H b F s t) {o i : Int} (h : ∀ H', Fr [] H H' → Q (.string (ktext s.h t o i)) H') : callS PP n_class_reader_text #[rd b, .int .i64 o, .int .i64 i] Q H := by
  apply class_reader_text_ok
  unfold class_reader_text
  have hf : Fr [] H (H.push (.cells #[.pointer (some ⟨b, 0, none⟩)] 131)) := Fr.push _ _ _
  have hK1 := hK.nil hf
  refine ⟨_, (Blk.new _ _ _).cell 0, slot_k hK1 fun H' hf' => ⟨_, rfl, symOf_c (hK1.nil hf').kinds ?_⟩⟩
  have hB' := (Blk.new H #[.pointer (some ⟨b, 0, none⟩)] 131).fr hf' (by simp)
  have := h H' (hf.trans hf')
  unfold ktext textW at this
  unfold ofW
  split
  · rename_i hk
    rw [if_pos hk] at this
    refine ⟨_, _, rfl, ?_⟩
    simp only [show ((0 : Int) != 0) = false from rfl, cond_false]
    obtain ⟨tb, F2, hc, hT, _⟩ := (hK1.nil hf').tb
    refine ⟨_, hB'.cell 0, _, rfl, _, hc, ptText_c hT ?_⟩
    unfold textV
    by_cases hlt : 0 ≤ kslot s.h o i / 4 ∧ kslot s.h o i / 4 < t.texts.length
    · rw [dif_pos hlt]
      refine ⟨_, _, rfl, ?_⟩
      have e : t.texts[(kslot s.h o i / 4).toNat]'(by omega) = tx t (kslot s.h o i / 4).toNat := by
        unfold tx
        rw [List.getD_eq_getElem?_getD, List.getElem?_eq_getElem (by omega)]; rfl
      rw [e]; exact this
    · rw [dif_neg hlt]
      refine ⟨_, _, rfl, ?_⟩
      have hk' := kind_cases (kslot s.h o i)
      have e : tx t (kslot s.h o i / 4).toNat = ⟨#[]⟩ := by
        unfold tx
        rw [List.getD_eq_getElem?_getD, List.getElem?_eq_none (by omega)]; rfl
      rw [e] at this; exact this
  · rename_i hk
    rw [if_neg hk] at this
    exact ⟨_, _, rfl, this⟩
theorem size_k (hK : PK H b F s t) {o : Int} (h : ∀ H', Fr [] H H' → Q (.int .i64 (ksize s.h o)) H') : callS PP n_class_reader_size #[rd b, .int .i64 o] Q H := by
  apply class_reader_size_ok
  unfold class_reader_size
  have hf : Fr [] H (H.push (.cells #[.pointer (some ⟨b, 0, none⟩)] 131)) := Fr.push _ _ _
  obtain ⟨sb, F1, hc, hS, _⟩ := (hK.nil hf).sp
  refine ⟨_, (Blk.new _ _ _).cell 0, _, rfl, _, hc, psHeap_c hS fun hb F2 hR _ _ => ⟨_, rfl, hsize_c hR ⟨_, _, _, rfl, h _ hf⟩⟩⟩
theorem root_k (hK : PK H b F s t) {i : Int} (h : ∀ H', Fr [] H H' → Q (.int .i64 (koop s.h 19 i)) H') : callS PP n_class_reader_root #[rd b, .int .i64 i] Q H := by
  apply class_reader_root_ok
  unfold class_reader_root
  have hf : Fr [] H (H.push (.cells #[.pointer (some ⟨b, 0, none⟩)] 131)) := Fr.push _ _ _
  exact ⟨_, (Blk.new _ _ _).cell 0, oop_k (hK.nil hf) fun H' hf' => ⟨_, rfl, h _ (hf.trans hf')⟩⟩
theorem super_k (hK : PK H b F s t) {o : Int} (h : ∀ H', Fr [] H H' → Q (.int .i64 (if koop s.h o 1 = 1 then 0 else koop s.h o 1)) H') : callS PP n_class_reader_super #[rd b, .int .i64 o] Q H := by
  apply class_reader_super_ok
  unfold class_reader_super
  have hf : Fr [] H (H.push (.cells #[.pointer (some ⟨b, 0, none⟩)] 131)) := Fr.push _ _ _
  refine ⟨_, (Blk.new _ _ _).cell 0, oop_k (hK.nil hf) fun H' hf' => ⟨_, rfl, ?_⟩⟩
  have := h _ (hf.trans hf')
  rw [bneI, cond_dec]
  refine ite_i (fun h1 => ?_) fun h1 => ?_
  · rw [if_neg h1] at this; exact this
  · rw [if_pos (Classical.byContradiction h1)] at this; exact this
/-- The texts of an object's slots. -/
def ktexts (r : RH) (t : TB) (o : Int) : List ByteArray := (List.range (ksize r o).toNat).map fun i : Nat => ktext r t o i
theorem texts_k (hK : PK H b F s t) {o : Int} (h : ∀ a l c G H', Own 1 H' a l c (strsV (ktexts s.h t o)) G → Fr [] H H' → (∀ x ∈ G, H.size ≤ x) → Q (.slice a l c) H') : callS PP n_class_reader_texts #[rd b, .int .i64 o] Q H := by
  have hs1 : sliceInfo PP 37 = some (1, 16, some (.string (⟨#[]⟩ : ByteArray))) := by kernel_rfl
  have hn0 := size_nonneg (r := s.h) o
  have hn1 := size_le hK.wfs.h o
  apply class_reader_texts_ok
  unfold class_reader_texts
  have hf : Fr [] H (H.push (.cells #[.pointer (some ⟨b, 0, none⟩)] 131)) := Fr.push _ _ _
  refine ⟨_, (Blk.new _ _ _).cell 0, size_k (hK.nil hf) fun H0 hf0 => ⟨_, rfl, ?_⟩⟩
  have hB0 := (Blk.new H #[.pointer (some ⟨b, 0, none⟩)] 131).fr hf0 (by simp)
  refine ⟨fun w H' => ∃ (i : Nat) (a : Option Addr) (l' c : Nat) (G : Foot), w = [.slice a l' c, .int .i64 i] ∧ (i : Int) ≤ ksize s.h o ∧ Own 1 H' a l' c (strsV ((ktexts s.h t o).take i)) G ∧ Fr [] H0 H' ∧ (∀ x ∈ G, H0.size ≤ x), fun w _ => match w with
    | [_, .int _ i] => (ksize s.h o - i).toNat
    | _ => 0, ⟨0, none, 0, 0, [], rfl, hn0, by simpa [strsV] using Own.nil 1 H0, Fr.refl _ _, by simp⟩, ?_⟩
  rintro w H1 ⟨i, a1, l1, c1, G, rfl, hi, ho, hf1, hG⟩ _
  have hlen : (ktexts s.h t o).length = (ksize s.h o).toNat := by simp [ktexts]
  have hl1 : l1 = i := by have := ho.len; simp only [strsV, List.length_map, List.length_take] at this; omega
  have hF1 : Fr [] H H1 := (hf.trans hf0).trans hf1
  refine ⟨_, _, _, _, rfl, ?_⟩
  rw [cond_dec]
  refine ite_i (fun hlt => ?_) fun hlt => ?_
  · have htk : (ktexts s.h t o).take (i + 1) = (ktexts s.h t o).take i ++ [ktext s.h t o i] := by
      rw [List.take_add_one, List.getElem?_eq_getElem (by omega)]; simp [ktexts]
    have e : IntKind.wrap .i64 ((i : Int) + 1) = ((i + 1 : Nat) : Int) := by rw [wrap64_id (by omega) (by omega)]; omega
    refine ⟨_, (hB0.fr hf1 (by simp)).cell 0, text_k (hK.nil hF1) fun H2 hf2 => ⟨_, rfl, ?_⟩⟩
    refine evS_append1 hs1 rfl (by kernel_rfl) (ho.fr hf2 (by simp)) rfl (by simp [oneC]) (by omega) (by decide) (by decide) fun a' c' G2 H3 g1 g2 g3 => ⟨_, _, _, rfl, ?_⟩
    have hfr := Up.fresh (hf1.trans hf2) g2 hG
    rw [e]
    refine ⟨⟨i + 1, a', l1 + 1, c', G2, rfl, by omega, ?_, hfr.1, hfr.2⟩, by simp; omega⟩
    rw [htk, strsV_append]; exact g1
  · rw [List.take_of_length_le (by omega)] at ho
    exact h _ _ _ _ H1 ho hF1 fun x hx => Nat.le_trans (hf.trans hf0).1 (hG x hx)
end
end Go.Proofs.YtmkdkplipbocjaaGreatDoor
set_option maxRecDepth 100000
set_option maxHeartbeats 4000000
namespace Go.Proofs.YtmkdkplipbocjaaGreatDoor
open Kw
abbrev n_kilnref13_Boot : Nat := 11
def kilnref13_Boot (n1 : Int) (n2 : Int) (Q : Value → Heap → Prop) (H : Heap) : Prop :=
  callS PP 55 #[.int .i64 n1, .int .i64 n2] (fun v3 H1 => ∃ p4 : Option Addr, ∃ n5 : Int, v3 = .tuple #[.pointer p4, .int .i64 n5] ∧ cond (n5 != 0) (Q (.tuple #[.pointer none, .int .i64 n5]) H1) (callS PP 56 #[.int .i64 4096] (fun v6 H2 => ∃ p7 : Option Addr, ∃ n8 : Int, v6 = .tuple #[.pointer p7, .int .i64 n8] ∧ ∃ (I9 : List Value → Heap → Prop) (μ9 : List Value → Heap → Nat), I9 [.int .i64 1] (H2.push (.cells #[.pointer p4, .pointer p7] 104)) ∧ ∀ w10 H3, I9 w10 H3 → ∀ _g : Nat → Value, ∃ n11 : Int, w10 = [.int .i64 n11] ∧ cond (decide (n11 ≤ 20)) (callS PP 57 #[.int .i64 n11] (fun v12 H4 => ∃ n13 : Int, ∃ n14 : Int, v12 = .tuple #[.int .i64 n13, .int .i64 n14] ∧ ∃ q15, p4 = some q15 ∧ ∃ p16 : Option Addr, cellH H4 q15 = some (.pointer p16) ∧ callS PP 59 #[.int .i64 n13] (fun v17 H5 => ∃ n18 : Int, v17 = .int .i64 n18 ∧ ((cellH H5 q15 = some (.pointer p16) ∧ True) ∧ True) ∧ callS PP 58 #[.pointer p16, .int .i64 n18, .int .i64 n14, .int .i64 0] (fun v19 H6 => ∃ n20 : Int, ∃ n21 : Int, v19 = .tuple #[.int .i64 n20, .int .i64 n21] ∧ True ∧ cond (n21 != 0) (Q (.tuple #[.pointer none, .int .i64 n21]) H6) (I9 [.int .i64 (IntKind.wrap .i64 (n11 + 1))] H6 ∧ μ9 [.int .i64 (IntKind.wrap .i64 (n11 + 1))] H6 < μ9 w10 H3)) H5) H4) H3) (∃ (I22 : List Value → Heap → Prop) (μ22 : List Value → Heap → Nat), I22 [.int .i64 0] H3 ∧ ∀ w23 H7, I22 w23 H7 → ∀ _g : Nat → Value, ∃ n24 : Int, w23 = [.int .i64 n24] ∧ cond (decide (n24 < 14)) (((0 : Int) ≤ n24 ∧ n24 < (14 : Int)) ∧ ∃ s25 : ByteArray, cellH H7 ((⟨0, 0, none⟩ : Addr).add (Int.toNat n24 * 1)) = some (.string s25) ∧ callS PP 60 #[.pointer p7, .string s25] (fun v26 H8 => ∃ n27 : Int, ∃ n28 : Int, v26 = .tuple #[.int .i64 n27, .int .i64 n28] ∧ callS PP 59 #[.int .i64 4] (fun v29 H9 => ∃ n30 : Int, v29 = .int .i64 n30 ∧ ∃ J31 : List Value → Heap → Prop, (cond (n24 == 0) (callS PP 59 #[.int .i64 1] (fun v32 H10 => ∃ n33 : Int, v32 = .int .i64 n33 ∧ J31 [.int .i64 n33] H10) H9) (J31 [.int .i64 n30] H9)) ∧ ∀ w34 H11, J31 w34 H11 → ∀ _g : Nat → Value, ∃ n35 : Int, w34 = [.int .i64 n35] ∧ callS PP 62 #[.int .i64 n24] (fun v36 H12 => ∃ n37 : Int, v36 = .int .i64 n37 ∧ callS PP 59 #[.int .i64 18] (fun v38 H13 => ∃ n39 : Int, v38 = .int .i64 n39 ∧ callS PP 59 #[.int .i64 18] (fun v40 H14 => ∃ n41 : Int, v40 = .int .i64 n41 ∧ callS PP 59 #[.int .i64 18] (fun v42 H15 => ∃ n43 : Int, v42 = .int .i64 n43 ∧ callS PP 63 #[.int .i64 0] (fun v44 H16 => ∃ n45 : Int, v44 = .int .i64 n45 ∧ callS PP 63 #[.int .i64 (IntKind.wrap .i64 (n24 + 1))] (fun v46 H17 => ∃ n47 : Int, v46 = .int .i64 n47 ∧ callS PP 61 #[.pointer (some (⟨H2.size, 0, none⟩ : Addr)), .int .i64 (IntKind.wrap .i64 (4 + n24)), .slice (some (⟨H17.size, 0, none⟩ : Addr)) 7 7] (fun v48 H18 => v48 = .tuple #[] ∧ ∃ q49, p4 = some q49 ∧ ∃ p50 : Option Addr, cellH H18 q49 = some (.pointer p50) ∧ callS PP 59 #[.int .i64 (IntKind.wrap .i64 (4 + n24))] (fun v51 H19 => ∃ n52 : Int, v51 = .int .i64 n52 ∧ ((cellH H19 q49 = some (.pointer p50) ∧ True) ∧ True) ∧ callS PP 64 #[.pointer p50, .int .i64 20, .int .i64 n24, .int .i64 n52] (fun v53 H20 => ∃ n54 : Int, v53 = .int .i64 n54 ∧ True ∧ I22 [.int .i64 (IntKind.wrap .i64 (n24 + 1))] H20 ∧ μ22 [.int .i64 (IntKind.wrap .i64 (n24 + 1))] H20 < μ22 w23 H7) H19) H18) (H17.push (.cells #[.int .i64 n37, .int .i64 n35, .int .i64 n39, .int .i64 n41, .int .i64 n43, .int .i64 n45, .int .i64 n47] 36))) H16) H15) H14) H13) H12) H11) H8) H7) (callS PP 59 #[.int .i64 20] (fun v55 H21 => ∃ n56 : Int, v55 = .int .i64 n56 ∧ callS PP 59 #[.int .i64 18] (fun v57 H22 => ∃ n58 : Int, v57 = .int .i64 n58 ∧ callS PP 59 #[.int .i64 18] (fun v59 H23 => ∃ n60 : Int, v59 = .int .i64 n60 ∧ callS PP 59 #[.int .i64 18] (fun v61 H24 => ∃ n62 : Int, v61 = .int .i64 n62 ∧ callS PP 59 #[.int .i64 1] (fun v63 H25 => ∃ n64 : Int, v63 = .int .i64 n64 ∧ callS PP 59 #[.int .i64 2] (fun v65 H26 => ∃ n66 : Int, v65 = .int .i64 n66 ∧ callS PP 59 #[.int .i64 3] (fun v67 H27 => ∃ n68 : Int, v67 = .int .i64 n68 ∧ callS PP 59 #[.int .i64 1] (fun v69 H28 => ∃ n70 : Int, v69 = .int .i64 n70 ∧ callS PP 61 #[.pointer (some (⟨H2.size, 0, none⟩ : Addr)), .int .i64 19, .slice (some (⟨H28.size, 0, none⟩ : Addr)) 8 8] (fun v71 H29 => v71 = .tuple #[] ∧ callS PP 65 #[.pointer p4, .int .i64 19] (fun v72 H30 => ∃ n73 : Int, v72 = .int .i64 n73 ∧ Q (.tuple #[.pointer (some (⟨H2.size, 0, none⟩ : Addr)), .int .i64 0]) H30) H29) (H28.push (.cells #[.int .i64 n56, .int .i64 n58, .int .i64 n60, .int .i64 n62, .int .i64 n64, .int .i64 n66, .int .i64 n68, .int .i64 n70] 36))) H27) H26) H25) H24) H23) H22) H21) H7))) H1)) H
theorem kilnref13_Boot_ok {n1 : Int} {n2 : Int} {Q : Value → Heap → Prop} {H : Heap} (h : kilnref13_Boot n1 n2 Q H) : callS PP 11 #[.int .i64 n1, .int .i64 n2] Q H :=
  callS_of good Tryz.func11 rfl (Ls := fun | 7 => some [(11, 3)] | 14 => some [(16, 3)] | 1020 => some [(17, 36)] | _ => none) (by kernel_rfl) h
abbrev n_kilnref13_Kernel_All : Nat := 40
def kilnref13_Kernel_All (p1 : Option Addr) (Q : Value → Heap → Prop) (H : Heap) : Prop :=
  callS PP 120 #[.pointer p1, .int .i64 19, .int .i64 0] (fun v2 H1 => ∃ n3 : Int, v2 = .int .i64 n3 ∧ callS PP 119 #[.int .i64 n3] (fun v4 H2 => ∃ n5 : Int, v4 = .int .i64 n5 ∧ callS PP 118 #[.pointer p1, .int .i64 n5] (fun v6 H3 => ∃ a7 : Option Addr, ∃ l7 : Nat, ∃ c7 : Nat, v6 = .slice a7 l7 c7 ∧ ∃ (I8 : List Value → Heap → Prop) (μ8 : List Value → Heap → Nat), I8 [.slice none 0 0, .int .i64 0] H3 ∧ ∀ w9 H4, I8 w9 H4 → ∀ _g : Nat → Value, ∃ a10 : Option Addr, ∃ l10 : Nat, ∃ c10 : Nat, ∃ n11 : Int, w9 = [.slice a10 l10 c10, .int .i64 n11] ∧ cond (decide (n11 < (l7 : Int))) (((0 : Int) ≤ n11 ∧ n11 < (l7 : Int)) ∧ ∃ q12, a7 = some q12 ∧ ∃ n13 : Int, cellH H4 (q12.add (Int.toNat n11 * 1)) = some (.int .i64 n13) ∧ callS PP 119 #[.int .i64 n13] (fun v14 H5 => ∃ n15 : Int, v14 = .int .i64 n15 ∧ evS PP (Builtin.append_ #[66, 66] 66 #[.slice a10 l10 c10, .slice (some (⟨H5.size, 0, none⟩ : Addr)) 1 1]) (fun v16 H6 => ∃ a17 : Option Addr, ∃ l17 : Nat, ∃ c17 : Nat, v16 = .slice a17 l17 c17 ∧ I8 [.slice a17 l17 c17, .int .i64 (IntKind.wrap .i64 (n11 + 1))] H6 ∧ μ8 [.slice a17 l17 c17, .int .i64 (IntKind.wrap .i64 (n11 + 1))] H6 < μ8 w9 H4) (H5.push (.cells #[.int .i64 n15] 3))) H4) (Q (.slice a10 l10 c10) H4)) H2) H1) H
theorem kilnref13_Kernel_All_ok {p1 : Option Addr} {Q : Value → Heap → Prop} {H : Heap} (h : kilnref13_Kernel_All p1 Q H) : callS PP 40 #[.pointer p1] Q H :=
  callS_of good Tryz.func40 rfl (Ls := fun | 4 => some [(4, 66), (5, 3)] | _ => none) (by kernel_rfl) h
abbrev n_kilnref13_Kernel_lay : Nat := 61
def kilnref13_Kernel_lay (p1 : Option Addr) (n2 : Int) (a3 : Option Addr) (l3 : Nat) (_c3 : Nat) (Q : Value → Heap → Prop) (H : Heap) : Prop :=
  ∃ (I4 : List Value → Heap → Prop) (μ4 : List Value → Heap → Nat), I4 [.int .i64 0] H ∧ ∀ w5 H1, I4 w5 H1 → ∀ _g : Nat → Value, ∃ n6 : Int, w5 = [.int .i64 n6] ∧ cond (decide (n6 < (l3 : Int))) (∃ q7, p1 = some q7 ∧ ∃ p8 : Option Addr, cellH H1 q7 = some (.pointer p8) ∧ ∃ q9, p8 = some q9 ∧ ∃ p10 : Option Addr, cellH H1 q9 = some (.pointer p10) ∧ ((0 : Int) ≤ n6 ∧ n6 < (l3 : Int)) ∧ ∃ q11, a3 = some q11 ∧ ∃ n12 : Int, cellH H1 (q11.add (Int.toNat n6 * 1)) = some (.int .i64 n12) ∧ callS PP 64 #[.pointer p10, .int .i64 n2, .int .i64 n6, .int .i64 n12] (fun v13 H2 => ∃ n14 : Int, v13 = .int .i64 n14 ∧ True ∧ I4 [.int .i64 (IntKind.wrap .i64 (n6 + 1))] H2 ∧ μ4 [.int .i64 (IntKind.wrap .i64 (n6 + 1))] H2 < μ4 w5 H1) H1) (Q (.tuple #[]) H1)
theorem kilnref13_Kernel_lay_ok {p1 : Option Addr} {n2 : Int} {a3 : Option Addr} {l3 : Nat} {c3 : Nat} {Q : Value → Heap → Prop} {H : Heap} (h : kilnref13_Kernel_lay p1 n2 a3 l3 c3 Q H) : callS PP 61 #[.pointer p1, .int .i64 n2, .slice a3 l3 c3] Q H :=
  callS_of good Tryz.func61 rfl (Ls := fun | 1 => some [(6, 3)] | _ => none) (by kernel_rfl) h
abbrev n_kilnref13_Kernel_Globals : Nat := 78
def kilnref13_Kernel_Globals (p1 : Option Addr) (Q : Value → Heap → Prop) (H : Heap) : Prop :=
  callS PP 120 #[.pointer p1, .int .i64 19, .int .i64 1] (fun v2 H1 => ∃ n3 : Int, v2 = .int .i64 n3 ∧ callS PP 119 #[.int .i64 n3] (fun v4 H2 => ∃ n5 : Int, v4 = .int .i64 n5 ∧ callS PP 118 #[.pointer p1, .int .i64 n5] (fun v6 H3 => ∃ a7 : Option Addr, ∃ l7 : Nat, ∃ c7 : Nat, v6 = .slice a7 l7 c7 ∧ ∃ (I8 : List Value → Heap → Prop) (μ8 : List Value → Heap → Nat), I8 [.slice none 0 0, .int .i64 0] H3 ∧ ∀ w9 H4, I8 w9 H4 → ∀ _g : Nat → Value, ∃ a10 : Option Addr, ∃ l10 : Nat, ∃ c10 : Nat, ∃ n11 : Int, w9 = [.slice a10 l10 c10, .int .i64 n11] ∧ cond (decide ((IntKind.wrap .i64 (n11 + 1)) < (l7 : Int))) (((0 : Int) ≤ n11 ∧ n11 < (l7 : Int)) ∧ ∃ q12, a7 = some q12 ∧ ∃ n13 : Int, cellH H4 (q12.add (Int.toNat n11 * 1)) = some (.int .i64 n13) ∧ callS PP 158 #[.pointer p1, .int .i64 n13] (fun v14 H5 => ∃ s15 : ByteArray, v14 = .string s15 ∧ evS PP (Builtin.append_ #[37, 37] 37 #[.slice a10 l10 c10, .slice (some (⟨H5.size, 0, none⟩ : Addr)) 1 1]) (fun v16 H6 => ∃ a17 : Option Addr, ∃ l17 : Nat, ∃ c17 : Nat, v16 = .slice a17 l17 c17 ∧ I8 [.slice a17 l17 c17, .int .i64 (IntKind.wrap .i64 (n11 + 2))] H6 ∧ μ8 [.slice a17 l17 c17, .int .i64 (IntKind.wrap .i64 (n11 + 2))] H6 < μ8 w9 H4) (H5.push (.cells #[.string s15] 9))) H4) (Q (.slice a10 l10 c10) H4)) H2) H1) H
theorem kilnref13_Kernel_Globals_ok {p1 : Option Addr} {Q : Value → Heap → Prop} {H : Heap} (h : kilnref13_Kernel_Globals p1 Q H) : callS PP 78 #[.pointer p1] Q H :=
  callS_of good Tryz.func78 rfl (Ls := fun | 4 => some [(4, 37), (5, 3)] | _ => none) (by kernel_rfl) h
abbrev n_kilnref13_Kernel_Words : Nat := 118
def kilnref13_Kernel_Words (p1 : Option Addr) (n2 : Int) (Q : Value → Heap → Prop) (H : Heap) : Prop :=
  ∃ q3, p1 = some q3 ∧ ∃ p4 : Option Addr, cellH H q3 = some (.pointer p4) ∧ ∃ q5, p4 = some q5 ∧ ∃ p6 : Option Addr, cellH H q5 = some (.pointer p6) ∧ callS PP 201 #[.pointer p6, .int .i64 n2] (fun v7 H1 => ∃ n8 : Int, ∃ n9 : Int, ∃ n10 : Int, v7 = .tuple #[.int .i64 n8, .int .i64 n9, .int .i64 n10] ∧ ∃ (I11 : List Value → Heap → Prop) (μ11 : List Value → Heap → Nat), I11 [.slice none 0 0, .int .i64 0] H1 ∧ ∀ w12 H2, I11 w12 H2 → ∀ _g : Nat → Value, ∃ a13 : Option Addr, ∃ l13 : Nat, ∃ c13 : Nat, ∃ n14 : Int, w12 = [.slice a13 l13 c13, .int .i64 n14] ∧ cond (decide (n14 < n8)) (callS PP 120 #[.pointer p1, .int .i64 n2, .int .i64 n14] (fun v15 H3 => ∃ n16 : Int, v15 = .int .i64 n16 ∧ evS PP (Builtin.append_ #[108, 108] 108 #[.slice a13 l13 c13, .slice (some (⟨H3.size, 0, none⟩ : Addr)) 1 1]) (fun v17 H4 => ∃ a18 : Option Addr, ∃ l18 : Nat, ∃ c18 : Nat, v17 = .slice a18 l18 c18 ∧ I11 [.slice a18 l18 c18, .int .i64 (IntKind.wrap .i64 (n14 + 1))] H4 ∧ μ11 [.slice a18 l18 c18, .int .i64 (IntKind.wrap .i64 (n14 + 1))] H4 < μ11 w12 H2) (H3.push (.cells #[.int .i64 n16] 36))) H2) (Q (.slice a13 l13 c13) H2)) H
theorem kilnref13_Kernel_Words_ok {p1 : Option Addr} {n2 : Int} {Q : Value → Heap → Prop} {H : Heap} (h : kilnref13_Kernel_Words p1 n2 Q H) : callS PP 118 #[.pointer p1, .int .i64 n2] Q H :=
  callS_of good Tryz.func118 rfl (Ls := fun | 4 => some [(8, 108), (9, 3)] | _ => none) (by kernel_rfl) h
abbrev n_kilnref13_Kernel_Slot : Nat := 120
def kilnref13_Kernel_Slot (p1 : Option Addr) (n2 : Int) (n3 : Int) (Q : Value → Heap → Prop) (H : Heap) : Prop :=
  ∃ q4, p1 = some q4 ∧ ∃ p5 : Option Addr, cellH H q4 = some (.pointer p5) ∧ ∃ q6, p5 = some q6 ∧ ∃ p7 : Option Addr, cellH H q6 = some (.pointer p7) ∧ callS PP 215 #[.pointer p7, .int .i64 n2, .int .i64 n3] (fun v8 H1 => ∃ n9 : Int, ∃ n10 : Int, v8 = .tuple #[.int .i64 n9, .int .i64 n10] ∧ Q (.int .i64 n9) H1) H
theorem kilnref13_Kernel_Slot_ok {p1 : Option Addr} {n2 : Int} {n3 : Int} {Q : Value → Heap → Prop} {H : Heap} (h : kilnref13_Kernel_Slot p1 n2 n3 Q H) : callS PP 120 #[.pointer p1, .int .i64 n2, .int .i64 n3] Q H :=
  callS_of good Tryz.func120 rfl (Ls := fun _ => none) (by kernel_rfl) h
abbrev n_kilnref13_Kernel_Info : Nat := 124
def kilnref13_Kernel_Info (p1 : Option Addr) (n2 : Int) (Q : Value → Heap → Prop) (H : Heap) : Prop :=
  callS PP 220 #[.pointer p1, .int .i64 n2] (fun v3 H1 => ∃ n4 : Int, v3 = .int .i64 n4 ∧ cond (n4 == 0) (Wr H1 (⟨H.size, 0, none⟩ : Addr) ∧ Wr (setH H1 (⟨H.size, 0, none⟩ : Addr) (.string (⟨#[]⟩ : ByteArray))) ((⟨H.size, 0, none⟩ : Addr).add 1) ∧ Wr (setH (setH H1 (⟨H.size, 0, none⟩ : Addr) (.string (⟨#[]⟩ : ByteArray))) ((⟨H.size, 0, none⟩ : Addr).add 1) (.string (⟨#[]⟩ : ByteArray))) ((⟨H.size, 0, none⟩ : Addr).add 2) ∧ Wr (setH (setH (setH H1 (⟨H.size, 0, none⟩ : Addr) (.string (⟨#[]⟩ : ByteArray))) ((⟨H.size, 0, none⟩ : Addr).add 1) (.string (⟨#[]⟩ : ByteArray))) ((⟨H.size, 0, none⟩ : Addr).add 2) (.slice none 0 0)) ((⟨H.size, 0, none⟩ : Addr).add 3) ∧ ∃ s5 : ByteArray, cellH (setH (setH (setH (setH H1 (⟨H.size, 0, none⟩ : Addr) (.string (⟨#[]⟩ : ByteArray))) ((⟨H.size, 0, none⟩ : Addr).add 1) (.string (⟨#[]⟩ : ByteArray))) ((⟨H.size, 0, none⟩ : Addr).add 2) (.slice none 0 0)) ((⟨H.size, 0, none⟩ : Addr).add 3) (.int .i64 0)) (⟨H.size, 0, none⟩ : Addr) = some (.string s5) ∧ ∃ s6 : ByteArray, cellH (setH (setH (setH (setH H1 (⟨H.size, 0, none⟩ : Addr) (.string (⟨#[]⟩ : ByteArray))) ((⟨H.size, 0, none⟩ : Addr).add 1) (.string (⟨#[]⟩ : ByteArray))) ((⟨H.size, 0, none⟩ : Addr).add 2) (.slice none 0 0)) ((⟨H.size, 0, none⟩ : Addr).add 3) (.int .i64 0)) ((⟨H.size, 0, none⟩ : Addr).add 1) = some (.string s6) ∧ ∃ a7 : Option Addr, ∃ l7 : Nat, ∃ c7 : Nat, cellH (setH (setH (setH (setH H1 (⟨H.size, 0, none⟩ : Addr) (.string (⟨#[]⟩ : ByteArray))) ((⟨H.size, 0, none⟩ : Addr).add 1) (.string (⟨#[]⟩ : ByteArray))) ((⟨H.size, 0, none⟩ : Addr).add 2) (.slice none 0 0)) ((⟨H.size, 0, none⟩ : Addr).add 3) (.int .i64 0)) ((⟨H.size, 0, none⟩ : Addr).add 2) = some (.slice a7 l7 c7) ∧ ∃ n8 : Int, cellH (setH (setH (setH (setH H1 (⟨H.size, 0, none⟩ : Addr) (.string (⟨#[]⟩ : ByteArray))) ((⟨H.size, 0, none⟩ : Addr).add 1) (.string (⟨#[]⟩ : ByteArray))) ((⟨H.size, 0, none⟩ : Addr).add 2) (.slice none 0 0)) ((⟨H.size, 0, none⟩ : Addr).add 3) (.int .i64 0)) ((⟨H.size, 0, none⟩ : Addr).add 3) = some (.int .i64 n8) ∧ Q (.tuple #[.agg #[.string s5, .string s6, .slice a7 l7 c7, .int .i64 n8], .int .i64 130]) (setH (setH (setH (setH H1 (⟨H.size, 0, none⟩ : Addr) (.string (⟨#[]⟩ : ByteArray))) ((⟨H.size, 0, none⟩ : Addr).add 1) (.string (⟨#[]⟩ : ByteArray))) ((⟨H.size, 0, none⟩ : Addr).add 2) (.slice none 0 0)) ((⟨H.size, 0, none⟩ : Addr).add 3) (.int .i64 0))) (callS PP 221 #[.pointer p1, .int .i64 n2] (fun v9 H2 => ∃ s10 : ByteArray, ∃ s11 : ByteArray, ∃ a12 : Option Addr, ∃ l12 : Nat, ∃ c12 : Nat, ∃ n13 : Int, v9 = .agg #[.string s10, .string s11, .slice a12 l12 c12, .int .i64 n13] ∧ Wr H2 (⟨H.size, 0, none⟩ : Addr) ∧ Wr (setH H2 (⟨H.size, 0, none⟩ : Addr) (.string s10)) ((⟨H.size, 0, none⟩ : Addr).add 1) ∧ Wr (setH (setH H2 (⟨H.size, 0, none⟩ : Addr) (.string s10)) ((⟨H.size, 0, none⟩ : Addr).add 1) (.string s11)) ((⟨H.size, 0, none⟩ : Addr).add 2) ∧ Wr (setH (setH (setH H2 (⟨H.size, 0, none⟩ : Addr) (.string s10)) ((⟨H.size, 0, none⟩ : Addr).add 1) (.string s11)) ((⟨H.size, 0, none⟩ : Addr).add 2) (.slice a12 l12 c12)) ((⟨H.size, 0, none⟩ : Addr).add 3) ∧ ∃ s14 : ByteArray, cellH (setH (setH (setH (setH H2 (⟨H.size, 0, none⟩ : Addr) (.string s10)) ((⟨H.size, 0, none⟩ : Addr).add 1) (.string s11)) ((⟨H.size, 0, none⟩ : Addr).add 2) (.slice a12 l12 c12)) ((⟨H.size, 0, none⟩ : Addr).add 3) (.int .i64 n13)) (⟨H.size, 0, none⟩ : Addr) = some (.string s14) ∧ ∃ s15 : ByteArray, cellH (setH (setH (setH (setH H2 (⟨H.size, 0, none⟩ : Addr) (.string s10)) ((⟨H.size, 0, none⟩ : Addr).add 1) (.string s11)) ((⟨H.size, 0, none⟩ : Addr).add 2) (.slice a12 l12 c12)) ((⟨H.size, 0, none⟩ : Addr).add 3) (.int .i64 n13)) ((⟨H.size, 0, none⟩ : Addr).add 1) = some (.string s15) ∧ ∃ a16 : Option Addr, ∃ l16 : Nat, ∃ c16 : Nat, cellH (setH (setH (setH (setH H2 (⟨H.size, 0, none⟩ : Addr) (.string s10)) ((⟨H.size, 0, none⟩ : Addr).add 1) (.string s11)) ((⟨H.size, 0, none⟩ : Addr).add 2) (.slice a12 l12 c12)) ((⟨H.size, 0, none⟩ : Addr).add 3) (.int .i64 n13)) ((⟨H.size, 0, none⟩ : Addr).add 2) = some (.slice a16 l16 c16) ∧ ∃ n17 : Int, cellH (setH (setH (setH (setH H2 (⟨H.size, 0, none⟩ : Addr) (.string s10)) ((⟨H.size, 0, none⟩ : Addr).add 1) (.string s11)) ((⟨H.size, 0, none⟩ : Addr).add 2) (.slice a12 l12 c12)) ((⟨H.size, 0, none⟩ : Addr).add 3) (.int .i64 n13)) ((⟨H.size, 0, none⟩ : Addr).add 3) = some (.int .i64 n17) ∧ Q (.tuple #[.agg #[.string s14, .string s15, .slice a16 l16 c16, .int .i64 n17], .int .i64 0]) (setH (setH (setH (setH H2 (⟨H.size, 0, none⟩ : Addr) (.string s10)) ((⟨H.size, 0, none⟩ : Addr).add 1) (.string s11)) ((⟨H.size, 0, none⟩ : Addr).add 2) (.slice a12 l12 c12)) ((⟨H.size, 0, none⟩ : Addr).add 3) (.int .i64 n13))) H1)) (H.push (.cells #[.string (⟨#[]⟩ : ByteArray), .string (⟨#[]⟩ : ByteArray), .slice none 0 0, .int .i64 0] 121))
theorem kilnref13_Kernel_Info_ok {p1 : Option Addr} {n2 : Int} {Q : Value → Heap → Prop} {H : Heap} (h : kilnref13_Kernel_Info p1 n2 Q H) : callS PP 124 #[.pointer p1, .int .i64 n2] Q H :=
  callS_of good Tryz.func124 rfl (Ls := fun _ => none) (by kernel_rfl) h
abbrev n_kilnref13_Kernel_Fields : Nat := 125
def kilnref13_Kernel_Fields (p1 : Option Addr) (n2 : Int) (Q : Value → Heap → Prop) (H : Heap) : Prop :=
  callS PP 220 #[.pointer p1, .int .i64 n2] (fun v3 H1 => ∃ n4 : Int, v3 = .int .i64 n4 ∧ cond (n4 == 0) (Q (.tuple #[.slice none 0 0, .int .i64 130]) H1) (callS PP 223 #[.pointer p1] (fun v5 H2 => ∃ a6 : Option Addr, ∃ l6 : Nat, ∃ c6 : Nat, v5 = .slice a6 l6 c6 ∧ callS PP 222 #[.slice a6 l6 c6, .int .i64 (IntKind.wrap .i64 (n4 - 1)), .int .i64 (-1), .slice none 0 0] (fun v7 H3 => ∃ a8 : Option Addr, ∃ l8 : Nat, ∃ c8 : Nat, v7 = .slice a8 l8 c8 ∧ Q (.tuple #[.slice a8 l8 c8, .int .i64 0]) H3) H2) H1)) H
theorem kilnref13_Kernel_Fields_ok {p1 : Option Addr} {n2 : Int} {Q : Value → Heap → Prop} {H : Heap} (h : kilnref13_Kernel_Fields p1 n2 Q H) : callS PP 125 #[.pointer p1, .int .i64 n2] Q H :=
  callS_of good Tryz.func125 rfl (Ls := fun _ => none) (by kernel_rfl) h
abbrev n_kilnref13_Kernel_Under : Nat := 126
def kilnref13_Kernel_Under (p1 : Option Addr) (n2 : Int) (Q : Value → Heap → Prop) (H : Heap) : Prop :=
  callS PP 220 #[.pointer p1, .int .i64 n2] (fun v3 H1 => ∃ n4 : Int, v3 = .int .i64 n4 ∧ callS PP 40 #[.pointer p1] (fun v5 H2 => ∃ a6 : Option Addr, ∃ l6 : Nat, ∃ c6 : Nat, v5 = .slice a6 l6 c6 ∧ ∃ (I7 : List Value → Heap → Prop) (μ7 : List Value → Heap → Nat), I7 [.slice none 0 0, .int .i64 n4] H2 ∧ ∀ w8 H3, I7 w8 H3 → ∀ _g : Nat → Value, ∃ a9 : Option Addr, ∃ l9 : Nat, ∃ c9 : Nat, ∃ n10 : Int, w8 = [.slice a9 l9 c9, .int .i64 n10] ∧ cond (decide (n4 > 0)) (cond (decide (n10 ≤ (l6 : Int))) (((0 : Int) ≤ (IntKind.wrap .i64 (n10 - 1)) ∧ (IntKind.wrap .i64 (n10 - 1)) < (l6 : Int)) ∧ ∃ q11, a6 = some q11 ∧ ∃ n12 : Int, cellH H3 (q11.add (Int.toNat (IntKind.wrap .i64 (n10 - 1)) * 1)) = some (.int .i64 n12) ∧ ∃ (I13 : List Value → Heap → Prop) (μ13 : List Value → Heap → Nat), I13 [.int .i64 n12] H3 ∧ ∀ w14 H4, I13 w14 H4 → ∀ _g : Nat → Value, ∃ n15 : Int, w14 = [.int .i64 n15] ∧ cond (n15 != 0) (cond (n15 != n2) (callS PP 224 #[.pointer p1, .int .i64 n15] (fun v16 H5 => ∃ n17 : Int, v16 = .int .i64 n17 ∧ I13 [.int .i64 n17] H5 ∧ μ13 [.int .i64 n17] H5 < μ13 w14 H4) H4) (cond (n15 == n2) (evS PP (Builtin.append_ #[66, 66] 66 #[.slice a9 l9 c9, .slice (some (⟨H4.size, 0, none⟩ : Addr)) 1 1]) (fun v18 H6 => ∃ a19 : Option Addr, ∃ l19 : Nat, ∃ c19 : Nat, v18 = .slice a19 l19 c19 ∧ I7 [.slice a19 l19 c19, .int .i64 (IntKind.wrap .i64 (n10 + 1))] H6 ∧ μ7 [.slice a19 l19 c19, .int .i64 (IntKind.wrap .i64 (n10 + 1))] H6 < μ7 w8 H3) (H4.push (.cells #[.int .i64 n10] 3))) (I7 [.slice a9 l9 c9, .int .i64 (IntKind.wrap .i64 (n10 + 1))] H4 ∧ μ7 [.slice a9 l9 c9, .int .i64 (IntKind.wrap .i64 (n10 + 1))] H4 < μ7 w8 H3))) (cond (n15 == n2) (evS PP (Builtin.append_ #[66, 66] 66 #[.slice a9 l9 c9, .slice (some (⟨H4.size, 0, none⟩ : Addr)) 1 1]) (fun v20 H7 => ∃ a21 : Option Addr, ∃ l21 : Nat, ∃ c21 : Nat, v20 = .slice a21 l21 c21 ∧ I7 [.slice a21 l21 c21, .int .i64 (IntKind.wrap .i64 (n10 + 1))] H7 ∧ μ7 [.slice a21 l21 c21, .int .i64 (IntKind.wrap .i64 (n10 + 1))] H7 < μ7 w8 H3) (H4.push (.cells #[.int .i64 n10] 3))) (I7 [.slice a9 l9 c9, .int .i64 (IntKind.wrap .i64 (n10 + 1))] H4 ∧ μ7 [.slice a9 l9 c9, .int .i64 (IntKind.wrap .i64 (n10 + 1))] H4 < μ7 w8 H3))) (Q (.slice a9 l9 c9) H3)) (Q (.slice a9 l9 c9) H3)) H1) H
theorem kilnref13_Kernel_Under_ok {p1 : Option Addr} {n2 : Int} {Q : Value → Heap → Prop} {H : Heap} (h : kilnref13_Kernel_Under p1 n2 Q H) : callS PP 126 #[.pointer p1, .int .i64 n2] Q H :=
  callS_of good Tryz.func126 rfl (Ls := fun | 5 => some [(6, 66), (8, 3)] | 8 => some [(9, 3)] | _ => none) (by kernel_rfl) h
abbrev n_kilnref13_Kernel_Text : Nat := 158
def kilnref13_Kernel_Text (p1 : Option Addr) (n2 : Int) (Q : Value → Heap → Prop) (H : Heap) : Prop :=
  cond ((Int.tmod n2 4) != 2) (Q (.string (⟨#[]⟩ : ByteArray)) H) (∃ q3, p1 = some q3 ∧ ∃ p4 : Option Addr, cellH H (q3.add 1) = some (.pointer p4) ∧ callS PP 241 #[.pointer p4, .int .i64 (IntKind.wrap .i64 (Int.tdiv (IntKind.wrap .i64 (n2 - 2)) 4))] (fun v5 H1 => ∃ s6 : ByteArray, ∃ n7 : Int, v5 = .tuple #[.string s6, .int .i64 n7] ∧ Q (.string s6) H1) H)
theorem kilnref13_Kernel_Text_ok {p1 : Option Addr} {n2 : Int} {Q : Value → Heap → Prop} {H : Heap} (h : kilnref13_Kernel_Text p1 n2 Q H) : callS PP 158 #[.pointer p1, .int .i64 n2] Q H :=
  callS_of good Tryz.func158 rfl (Ls := fun _ => none) (by kernel_rfl) h
abbrev n_kilnref13_Kernel_Number : Nat := 189
def kilnref13_Kernel_Number (p1 : Option Addr) (n2 : Int) (Q : Value → Heap → Prop) (H : Heap) : Prop :=
  callS PP 220 #[.pointer p1, .int .i64 n2] (fun v3 H1 => ∃ n4 : Int, v3 = .int .i64 n4 ∧ cond (n4 == 0) (Q (.tuple #[.int .i64 0, .int .i64 130]) H1) (Q (.tuple #[.int .i64 n4, .int .i64 0]) H1)) H
theorem kilnref13_Kernel_Number_ok {p1 : Option Addr} {n2 : Int} {Q : Value → Heap → Prop} {H : Heap} (h : kilnref13_Kernel_Number p1 n2 Q H) : callS PP 189 #[.pointer p1, .int .i64 n2] Q H :=
  callS_of good Tryz.func189 rfl (Ls := fun _ => none) (by kernel_rfl) h
abbrev n_kilnref13_Kernel_Super : Nat := 191
def kilnref13_Kernel_Super (p1 : Option Addr) (n2 : Int) (Q : Value → Heap → Prop) (H : Heap) : Prop :=
  callS PP 220 #[.pointer p1, .int .i64 n2] (fun v3 H1 => ∃ n4 : Int, v3 = .int .i64 n4 ∧ cond (n4 == 0) (Q (.tuple #[.int .i64 0, .int .i64 130]) H1) (callS PP 224 #[.pointer p1, .int .i64 n2] (fun v5 H2 => ∃ n6 : Int, v5 = .int .i64 n6 ∧ Q (.tuple #[.int .i64 n6, .int .i64 0]) H2) H1)) H
theorem kilnref13_Kernel_Super_ok {p1 : Option Addr} {n2 : Int} {Q : Value → Heap → Prop} {H : Heap} (h : kilnref13_Kernel_Super p1 n2 Q H) : callS PP 191 #[.pointer p1, .int .i64 n2] Q H :=
  callS_of good Tryz.func191 rfl (Ls := fun _ => none) (by kernel_rfl) h
abbrev n_kilnref13_Kernel_Layout : Nat := 193
def kilnref13_Kernel_Layout (p1 : Option Addr) (n2 : Int) (Q : Value → Heap → Prop) (H : Heap) : Prop :=
  callS PP 124 #[.pointer p1, .int .i64 n2] (fun v3 H1 => ∃ s4 : ByteArray, ∃ s5 : ByteArray, ∃ a6 : Option Addr, ∃ l6 : Nat, ∃ c6 : Nat, ∃ n7 : Int, ∃ n8 : Int, v3 = .tuple #[.agg #[.string s4, .string s5, .slice a6 l6 c6, .int .i64 n7], .int .i64 n8] ∧ Wr (H1.push (.cells #[.string (⟨#[]⟩ : ByteArray), .string (⟨#[]⟩ : ByteArray), .slice none 0 0, .int .i64 0] 121)) (⟨H1.size, 0, none⟩ : Addr) ∧ Wr (setH (H1.push (.cells #[.string (⟨#[]⟩ : ByteArray), .string (⟨#[]⟩ : ByteArray), .slice none 0 0, .int .i64 0] 121)) (⟨H1.size, 0, none⟩ : Addr) (.string s4)) ((⟨H1.size, 0, none⟩ : Addr).add 1) ∧ Wr (setH (setH (H1.push (.cells #[.string (⟨#[]⟩ : ByteArray), .string (⟨#[]⟩ : ByteArray), .slice none 0 0, .int .i64 0] 121)) (⟨H1.size, 0, none⟩ : Addr) (.string s4)) ((⟨H1.size, 0, none⟩ : Addr).add 1) (.string s5)) ((⟨H1.size, 0, none⟩ : Addr).add 2) ∧ Wr (setH (setH (setH (H1.push (.cells #[.string (⟨#[]⟩ : ByteArray), .string (⟨#[]⟩ : ByteArray), .slice none 0 0, .int .i64 0] 121)) (⟨H1.size, 0, none⟩ : Addr) (.string s4)) ((⟨H1.size, 0, none⟩ : Addr).add 1) (.string s5)) ((⟨H1.size, 0, none⟩ : Addr).add 2) (.slice a6 l6 c6)) ((⟨H1.size, 0, none⟩ : Addr).add 3) ∧ ∃ n9 : Int, cellH (setH (setH (setH (setH (H1.push (.cells #[.string (⟨#[]⟩ : ByteArray), .string (⟨#[]⟩ : ByteArray), .slice none 0 0, .int .i64 0] 121)) (⟨H1.size, 0, none⟩ : Addr) (.string s4)) ((⟨H1.size, 0, none⟩ : Addr).add 1) (.string s5)) ((⟨H1.size, 0, none⟩ : Addr).add 2) (.slice a6 l6 c6)) ((⟨H1.size, 0, none⟩ : Addr).add 3) (.int .i64 n7)) ((⟨H1.size, 0, none⟩ : Addr).add 3) = some (.int .i64 n9) ∧ Q (.tuple #[.int .i64 n9, .int .i64 n8]) (setH (setH (setH (setH (H1.push (.cells #[.string (⟨#[]⟩ : ByteArray), .string (⟨#[]⟩ : ByteArray), .slice none 0 0, .int .i64 0] 121)) (⟨H1.size, 0, none⟩ : Addr) (.string s4)) ((⟨H1.size, 0, none⟩ : Addr).add 1) (.string s5)) ((⟨H1.size, 0, none⟩ : Addr).add 2) (.slice a6 l6 c6)) ((⟨H1.size, 0, none⟩ : Addr).add 3) (.int .i64 n7))) H
theorem kilnref13_Kernel_Layout_ok {p1 : Option Addr} {n2 : Int} {Q : Value → Heap → Prop} {H : Heap} (h : kilnref13_Kernel_Layout p1 n2 Q H) : callS PP 193 #[.pointer p1, .int .i64 n2] Q H :=
  callS_of good Tryz.func193 rfl (Ls := fun _ => none) (by kernel_rfl) h
abbrev n_kilnref13_Kernel_place : Nat := 220
def kilnref13_Kernel_place (p1 : Option Addr) (n2 : Int) (Q : Value → Heap → Prop) (H : Heap) : Prop :=
  callS PP 40 #[.pointer p1] (fun v3 H1 => ∃ a4 : Option Addr, ∃ l4 : Nat, ∃ c4 : Nat, v3 = .slice a4 l4 c4 ∧ ∃ (I5 : List Value → Heap → Prop) (μ5 : List Value → Heap → Nat), I5 [.int .i64 0] H1 ∧ ∀ w6 H2, I5 w6 H2 → ∀ _g : Nat → Value, ∃ n7 : Int, w6 = [.int .i64 n7] ∧ cond (decide (n7 < (l4 : Int))) (((0 : Int) ≤ n7 ∧ n7 < (l4 : Int)) ∧ ∃ q8, a4 = some q8 ∧ ∃ n9 : Int, cellH H2 (q8.add (Int.toNat n7 * 1)) = some (.int .i64 n9) ∧ cond (n9 == n2) (cond (decide (n2 > 0)) (Q (.int .i64 (IntKind.wrap .i64 (n7 + 1))) H2) (I5 [.int .i64 (IntKind.wrap .i64 (n7 + 1))] H2 ∧ μ5 [.int .i64 (IntKind.wrap .i64 (n7 + 1))] H2 < μ5 w6 H2)) (I5 [.int .i64 (IntKind.wrap .i64 (n7 + 1))] H2 ∧ μ5 [.int .i64 (IntKind.wrap .i64 (n7 + 1))] H2 < μ5 w6 H2)) (Q (.int .i64 0) H2)) H
theorem kilnref13_Kernel_place_ok {p1 : Option Addr} {n2 : Int} {Q : Value → Heap → Prop} {H : Heap} (h : kilnref13_Kernel_place p1 n2 Q H) : callS PP 220 #[.pointer p1, .int .i64 n2] Q H :=
  callS_of good Tryz.func220 rfl (Ls := fun | 3 => some [(6, 3)] | _ => none) (by kernel_rfl) h
abbrev n_kilnref13_Kernel_info : Nat := 221
def kilnref13_Kernel_info (p1 : Option Addr) (n2 : Int) (Q : Value → Heap → Prop) (H : Heap) : Prop :=
  callS PP 120 #[.pointer p1, .int .i64 n2, .int .i64 0] (fun v3 H1 => ∃ n4 : Int, v3 = .int .i64 n4 ∧ callS PP 158 #[.pointer p1, .int .i64 n4] (fun v5 H2 => ∃ s6 : ByteArray, v5 = .string s6 ∧ callS PP 120 #[.pointer p1, .int .i64 n2, .int .i64 2] (fun v7 H3 => ∃ n8 : Int, v7 = .int .i64 n8 ∧ callS PP 119 #[.int .i64 n8] (fun v9 H4 => ∃ n10 : Int, v9 = .int .i64 n10 ∧ callS PP 264 #[.pointer p1, .int .i64 n10] (fun v11 H5 => ∃ a12 : Option Addr, ∃ l12 : Nat, ∃ c12 : Nat, v11 = .slice a12 l12 c12 ∧ callS PP 120 #[.pointer p1, .int .i64 n2, .int .i64 5] (fun v13 H6 => ∃ n14 : Int, v13 = .int .i64 n14 ∧ callS PP 265 #[.int .i64 n14] (fun v15 H7 => ∃ n16 : Int, v15 = .int .i64 n16 ∧ Wr (H7.push (.cells #[.string (⟨#[]⟩ : ByteArray), .string (⟨#[]⟩ : ByteArray), .slice none 0 0, .int .i64 0] 121)) (⟨H7.size, 0, none⟩ : Addr) ∧ Wr (setH (H7.push (.cells #[.string (⟨#[]⟩ : ByteArray), .string (⟨#[]⟩ : ByteArray), .slice none 0 0, .int .i64 0] 121)) (⟨H7.size, 0, none⟩ : Addr) (.string s6)) ((⟨H7.size, 0, none⟩ : Addr).add 1) ∧ Wr (setH (setH (H7.push (.cells #[.string (⟨#[]⟩ : ByteArray), .string (⟨#[]⟩ : ByteArray), .slice none 0 0, .int .i64 0] 121)) (⟨H7.size, 0, none⟩ : Addr) (.string s6)) ((⟨H7.size, 0, none⟩ : Addr).add 1) (.string (⟨#[]⟩ : ByteArray))) ((⟨H7.size, 0, none⟩ : Addr).add 2) ∧ Wr (setH (setH (setH (H7.push (.cells #[.string (⟨#[]⟩ : ByteArray), .string (⟨#[]⟩ : ByteArray), .slice none 0 0, .int .i64 0] 121)) (⟨H7.size, 0, none⟩ : Addr) (.string s6)) ((⟨H7.size, 0, none⟩ : Addr).add 1) (.string (⟨#[]⟩ : ByteArray))) ((⟨H7.size, 0, none⟩ : Addr).add 2) (.slice a12 l12 c12)) ((⟨H7.size, 0, none⟩ : Addr).add 3) ∧ callS PP 224 #[.pointer p1, .int .i64 n2] (fun v17 H8 => ∃ n18 : Int, v17 = .int .i64 n18 ∧ cond (n18 != 0) (callS PP 120 #[.pointer p1, .int .i64 n18, .int .i64 0] (fun v19 H9 => ∃ n20 : Int, v19 = .int .i64 n20 ∧ callS PP 158 #[.pointer p1, .int .i64 n20] (fun v21 H10 => ∃ s22 : ByteArray, v21 = .string s22 ∧ Wr H10 ((⟨H7.size, 0, none⟩ : Addr).add 1) ∧ ∃ s23 : ByteArray, cellH (setH H10 ((⟨H7.size, 0, none⟩ : Addr).add 1) (.string s22)) (⟨H7.size, 0, none⟩ : Addr) = some (.string s23) ∧ ∃ s24 : ByteArray, cellH (setH H10 ((⟨H7.size, 0, none⟩ : Addr).add 1) (.string s22)) ((⟨H7.size, 0, none⟩ : Addr).add 1) = some (.string s24) ∧ ∃ a25 : Option Addr, ∃ l25 : Nat, ∃ c25 : Nat, cellH (setH H10 ((⟨H7.size, 0, none⟩ : Addr).add 1) (.string s22)) ((⟨H7.size, 0, none⟩ : Addr).add 2) = some (.slice a25 l25 c25) ∧ ∃ n26 : Int, cellH (setH H10 ((⟨H7.size, 0, none⟩ : Addr).add 1) (.string s22)) ((⟨H7.size, 0, none⟩ : Addr).add 3) = some (.int .i64 n26) ∧ Wr (setH H10 ((⟨H7.size, 0, none⟩ : Addr).add 1) (.string s22)) (⟨H.size, 0, none⟩ : Addr) ∧ Wr (setH (setH H10 ((⟨H7.size, 0, none⟩ : Addr).add 1) (.string s22)) (⟨H.size, 0, none⟩ : Addr) (.string s23)) ((⟨H.size, 0, none⟩ : Addr).add 1) ∧ Wr (setH (setH (setH H10 ((⟨H7.size, 0, none⟩ : Addr).add 1) (.string s22)) (⟨H.size, 0, none⟩ : Addr) (.string s23)) ((⟨H.size, 0, none⟩ : Addr).add 1) (.string s24)) ((⟨H.size, 0, none⟩ : Addr).add 2) ∧ Wr (setH (setH (setH (setH H10 ((⟨H7.size, 0, none⟩ : Addr).add 1) (.string s22)) (⟨H.size, 0, none⟩ : Addr) (.string s23)) ((⟨H.size, 0, none⟩ : Addr).add 1) (.string s24)) ((⟨H.size, 0, none⟩ : Addr).add 2) (.slice a25 l25 c25)) ((⟨H.size, 0, none⟩ : Addr).add 3) ∧ ∃ s27 : ByteArray, cellH (setH (setH (setH (setH (setH H10 ((⟨H7.size, 0, none⟩ : Addr).add 1) (.string s22)) (⟨H.size, 0, none⟩ : Addr) (.string s23)) ((⟨H.size, 0, none⟩ : Addr).add 1) (.string s24)) ((⟨H.size, 0, none⟩ : Addr).add 2) (.slice a25 l25 c25)) ((⟨H.size, 0, none⟩ : Addr).add 3) (.int .i64 n26)) (⟨H.size, 0, none⟩ : Addr) = some (.string s27) ∧ ∃ s28 : ByteArray, cellH (setH (setH (setH (setH (setH H10 ((⟨H7.size, 0, none⟩ : Addr).add 1) (.string s22)) (⟨H.size, 0, none⟩ : Addr) (.string s23)) ((⟨H.size, 0, none⟩ : Addr).add 1) (.string s24)) ((⟨H.size, 0, none⟩ : Addr).add 2) (.slice a25 l25 c25)) ((⟨H.size, 0, none⟩ : Addr).add 3) (.int .i64 n26)) ((⟨H.size, 0, none⟩ : Addr).add 1) = some (.string s28) ∧ ∃ a29 : Option Addr, ∃ l29 : Nat, ∃ c29 : Nat, cellH (setH (setH (setH (setH (setH H10 ((⟨H7.size, 0, none⟩ : Addr).add 1) (.string s22)) (⟨H.size, 0, none⟩ : Addr) (.string s23)) ((⟨H.size, 0, none⟩ : Addr).add 1) (.string s24)) ((⟨H.size, 0, none⟩ : Addr).add 2) (.slice a25 l25 c25)) ((⟨H.size, 0, none⟩ : Addr).add 3) (.int .i64 n26)) ((⟨H.size, 0, none⟩ : Addr).add 2) = some (.slice a29 l29 c29) ∧ ∃ n30 : Int, cellH (setH (setH (setH (setH (setH H10 ((⟨H7.size, 0, none⟩ : Addr).add 1) (.string s22)) (⟨H.size, 0, none⟩ : Addr) (.string s23)) ((⟨H.size, 0, none⟩ : Addr).add 1) (.string s24)) ((⟨H.size, 0, none⟩ : Addr).add 2) (.slice a25 l25 c25)) ((⟨H.size, 0, none⟩ : Addr).add 3) (.int .i64 n26)) ((⟨H.size, 0, none⟩ : Addr).add 3) = some (.int .i64 n30) ∧ Q (.agg #[.string s27, .string s28, .slice a29 l29 c29, .int .i64 n30]) (setH (setH (setH (setH (setH H10 ((⟨H7.size, 0, none⟩ : Addr).add 1) (.string s22)) (⟨H.size, 0, none⟩ : Addr) (.string s23)) ((⟨H.size, 0, none⟩ : Addr).add 1) (.string s24)) ((⟨H.size, 0, none⟩ : Addr).add 2) (.slice a25 l25 c25)) ((⟨H.size, 0, none⟩ : Addr).add 3) (.int .i64 n26))) H9) H8) (∃ s31 : ByteArray, cellH H8 (⟨H7.size, 0, none⟩ : Addr) = some (.string s31) ∧ ∃ s32 : ByteArray, cellH H8 ((⟨H7.size, 0, none⟩ : Addr).add 1) = some (.string s32) ∧ ∃ a33 : Option Addr, ∃ l33 : Nat, ∃ c33 : Nat, cellH H8 ((⟨H7.size, 0, none⟩ : Addr).add 2) = some (.slice a33 l33 c33) ∧ ∃ n34 : Int, cellH H8 ((⟨H7.size, 0, none⟩ : Addr).add 3) = some (.int .i64 n34) ∧ Wr H8 (⟨H.size, 0, none⟩ : Addr) ∧ Wr (setH H8 (⟨H.size, 0, none⟩ : Addr) (.string s31)) ((⟨H.size, 0, none⟩ : Addr).add 1) ∧ Wr (setH (setH H8 (⟨H.size, 0, none⟩ : Addr) (.string s31)) ((⟨H.size, 0, none⟩ : Addr).add 1) (.string s32)) ((⟨H.size, 0, none⟩ : Addr).add 2) ∧ Wr (setH (setH (setH H8 (⟨H.size, 0, none⟩ : Addr) (.string s31)) ((⟨H.size, 0, none⟩ : Addr).add 1) (.string s32)) ((⟨H.size, 0, none⟩ : Addr).add 2) (.slice a33 l33 c33)) ((⟨H.size, 0, none⟩ : Addr).add 3) ∧ ∃ s35 : ByteArray, cellH (setH (setH (setH (setH H8 (⟨H.size, 0, none⟩ : Addr) (.string s31)) ((⟨H.size, 0, none⟩ : Addr).add 1) (.string s32)) ((⟨H.size, 0, none⟩ : Addr).add 2) (.slice a33 l33 c33)) ((⟨H.size, 0, none⟩ : Addr).add 3) (.int .i64 n34)) (⟨H.size, 0, none⟩ : Addr) = some (.string s35) ∧ ∃ s36 : ByteArray, cellH (setH (setH (setH (setH H8 (⟨H.size, 0, none⟩ : Addr) (.string s31)) ((⟨H.size, 0, none⟩ : Addr).add 1) (.string s32)) ((⟨H.size, 0, none⟩ : Addr).add 2) (.slice a33 l33 c33)) ((⟨H.size, 0, none⟩ : Addr).add 3) (.int .i64 n34)) ((⟨H.size, 0, none⟩ : Addr).add 1) = some (.string s36) ∧ ∃ a37 : Option Addr, ∃ l37 : Nat, ∃ c37 : Nat, cellH (setH (setH (setH (setH H8 (⟨H.size, 0, none⟩ : Addr) (.string s31)) ((⟨H.size, 0, none⟩ : Addr).add 1) (.string s32)) ((⟨H.size, 0, none⟩ : Addr).add 2) (.slice a33 l33 c33)) ((⟨H.size, 0, none⟩ : Addr).add 3) (.int .i64 n34)) ((⟨H.size, 0, none⟩ : Addr).add 2) = some (.slice a37 l37 c37) ∧ ∃ n38 : Int, cellH (setH (setH (setH (setH H8 (⟨H.size, 0, none⟩ : Addr) (.string s31)) ((⟨H.size, 0, none⟩ : Addr).add 1) (.string s32)) ((⟨H.size, 0, none⟩ : Addr).add 2) (.slice a33 l33 c33)) ((⟨H.size, 0, none⟩ : Addr).add 3) (.int .i64 n34)) ((⟨H.size, 0, none⟩ : Addr).add 3) = some (.int .i64 n38) ∧ Q (.agg #[.string s35, .string s36, .slice a37 l37 c37, .int .i64 n38]) (setH (setH (setH (setH H8 (⟨H.size, 0, none⟩ : Addr) (.string s31)) ((⟨H.size, 0, none⟩ : Addr).add 1) (.string s32)) ((⟨H.size, 0, none⟩ : Addr).add 2) (.slice a33 l33 c33)) ((⟨H.size, 0, none⟩ : Addr).add 3) (.int .i64 n34)))) (setH (setH (setH (setH (H7.push (.cells #[.string (⟨#[]⟩ : ByteArray), .string (⟨#[]⟩ : ByteArray), .slice none 0 0, .int .i64 0] 121)) (⟨H7.size, 0, none⟩ : Addr) (.string s6)) ((⟨H7.size, 0, none⟩ : Addr).add 1) (.string (⟨#[]⟩ : ByteArray))) ((⟨H7.size, 0, none⟩ : Addr).add 2) (.slice a12 l12 c12)) ((⟨H7.size, 0, none⟩ : Addr).add 3) (.int .i64 n16))) H6) H5) H4) H3) H2) H1) (H.push (.cells #[.string (⟨#[]⟩ : ByteArray), .string (⟨#[]⟩ : ByteArray), .slice none 0 0, .int .i64 0] 121))
theorem kilnref13_Kernel_info_ok {p1 : Option Addr} {n2 : Int} {Q : Value → Heap → Prop} {H : Heap} (h : kilnref13_Kernel_info p1 n2 Q H) : callS PP 221 #[.pointer p1, .int .i64 n2] Q H :=
  callS_of good Tryz.func221 rfl (Ls := fun _ => none) (by kernel_rfl) h
abbrev n_kilnref13_Kernel_Infos : Nat := 223
def kilnref13_Kernel_Infos (p1 : Option Addr) (Q : Value → Heap → Prop) (H : Heap) : Prop :=
  callS PP 40 #[.pointer p1] (fun v2 H1 => ∃ a3 : Option Addr, ∃ l3 : Nat, ∃ c3 : Nat, v2 = .slice a3 l3 c3 ∧ ∃ (I4 : List Value → Heap → Prop) (μ4 : List Value → Heap → Nat), I4 [.slice none 0 0, .int .i64 0] H1 ∧ ∀ w5 H2, I4 w5 H2 → ∀ _g : Nat → Value, ∃ a6 : Option Addr, ∃ l6 : Nat, ∃ c6 : Nat, ∃ n7 : Int, w5 = [.slice a6 l6 c6, .int .i64 n7] ∧ cond (decide (n7 < (l3 : Int))) (((0 : Int) ≤ n7 ∧ n7 < (l3 : Int)) ∧ ∃ q8, a3 = some q8 ∧ ∃ n9 : Int, cellH H2 (q8.add (Int.toNat n7 * 1)) = some (.int .i64 n9) ∧ callS PP 221 #[.pointer p1, .int .i64 n9] (fun v10 H3 => ∃ s11 : ByteArray, ∃ s12 : ByteArray, ∃ a13 : Option Addr, ∃ l13 : Nat, ∃ c13 : Nat, ∃ n14 : Int, v10 = .agg #[.string s11, .string s12, .slice a13 l13 c13, .int .i64 n14] ∧ evS PP (Builtin.append_ #[40, 40] 40 #[.slice a6 l6 c6, .slice (some (⟨H3.size, 0, none⟩ : Addr)) 1 1]) (fun v15 H4 => ∃ a16 : Option Addr, ∃ l16 : Nat, ∃ c16 : Nat, v15 = .slice a16 l16 c16 ∧ I4 [.slice a16 l16 c16, .int .i64 (IntKind.wrap .i64 (n7 + 1))] H4 ∧ μ4 [.slice a16 l16 c16, .int .i64 (IntKind.wrap .i64 (n7 + 1))] H4 < μ4 w5 H2) (H3.push (.cells #[.string s11, .string s12, .slice a13 l13 c13, .int .i64 n14] 121))) H2) (Q (.slice a6 l6 c6) H2)) H
theorem kilnref13_Kernel_Infos_ok {p1 : Option Addr} {Q : Value → Heap → Prop} {H : Heap} (h : kilnref13_Kernel_Infos p1 Q H) : callS PP 223 #[.pointer p1] Q H :=
  callS_of good Tryz.func223 rfl (Ls := fun | 4 => some [(4, 40), (5, 3)] | _ => none) (by kernel_rfl) h
abbrev n_kilnref13_Kernel_up : Nat := 224
def kilnref13_Kernel_up (p1 : Option Addr) (n2 : Int) (Q : Value → Heap → Prop) (H : Heap) : Prop :=
  callS PP 120 #[.pointer p1, .int .i64 n2, .int .i64 1] (fun v3 H1 => ∃ n4 : Int, v3 = .int .i64 n4 ∧ callS PP 119 #[.int .i64 n4] (fun v5 H2 => ∃ n6 : Int, v5 = .int .i64 n6 ∧ cond (n6 == 1) (Q (.int .i64 0) H2) (Q (.int .i64 n6) H2)) H1) H
theorem kilnref13_Kernel_up_ok {p1 : Option Addr} {n2 : Int} {Q : Value → Heap → Prop} {H : Heap} (h : kilnref13_Kernel_up p1 n2 Q H) : callS PP 224 #[.pointer p1, .int .i64 n2] Q H :=
  callS_of good Tryz.func224 rfl (Ls := fun _ => none) (by kernel_rfl) h
abbrev n_kilnref13_Kernel_Texts : Nat := 264
def kilnref13_Kernel_Texts (p1 : Option Addr) (n2 : Int) (Q : Value → Heap → Prop) (H : Heap) : Prop :=
  callS PP 118 #[.pointer p1, .int .i64 n2] (fun v3 H1 => ∃ a4 : Option Addr, ∃ l4 : Nat, ∃ c4 : Nat, v3 = .slice a4 l4 c4 ∧ ∃ (I5 : List Value → Heap → Prop) (μ5 : List Value → Heap → Nat), I5 [.slice none 0 0, .int .i64 0] H1 ∧ ∀ w6 H2, I5 w6 H2 → ∀ _g : Nat → Value, ∃ a7 : Option Addr, ∃ l7 : Nat, ∃ c7 : Nat, ∃ n8 : Int, w6 = [.slice a7 l7 c7, .int .i64 n8] ∧ cond (decide (n8 < (l4 : Int))) (((0 : Int) ≤ n8 ∧ n8 < (l4 : Int)) ∧ ∃ q9, a4 = some q9 ∧ ∃ n10 : Int, cellH H2 (q9.add (Int.toNat n8 * 1)) = some (.int .i64 n10) ∧ callS PP 158 #[.pointer p1, .int .i64 n10] (fun v11 H3 => ∃ s12 : ByteArray, v11 = .string s12 ∧ evS PP (Builtin.append_ #[37, 37] 37 #[.slice a7 l7 c7, .slice (some (⟨H3.size, 0, none⟩ : Addr)) 1 1]) (fun v13 H4 => ∃ a14 : Option Addr, ∃ l14 : Nat, ∃ c14 : Nat, v13 = .slice a14 l14 c14 ∧ I5 [.slice a14 l14 c14, .int .i64 (IntKind.wrap .i64 (n8 + 1))] H4 ∧ μ5 [.slice a14 l14 c14, .int .i64 (IntKind.wrap .i64 (n8 + 1))] H4 < μ5 w6 H2) (H3.push (.cells #[.string s12] 9))) H2) (Q (.slice a7 l7 c7) H2)) H
theorem kilnref13_Kernel_Texts_ok {p1 : Option Addr} {n2 : Int} {Q : Value → Heap → Prop} {H : Heap} (h : kilnref13_Kernel_Texts p1 n2 Q H) : callS PP 264 #[.pointer p1, .int .i64 n2] Q H :=
  callS_of good Tryz.func264 rfl (Ls := fun | 4 => some [(6, 37), (7, 3)] | _ => none) (by kernel_rfl) h
end Go.Proofs.YtmkdkplipbocjaaGreatDoor
namespace Kw
open Go
def gB (s : ByteArray) (i : Nat) : Nat := (s[i]?.getD 0).toNat
def alnum (n : Nat) : Prop := (97 ≤ n ∧ n ≤ 122) ∨ (65 ≤ n ∧ n ≤ 90) ∨ (48 ≤ n ∧ n ≤ 57)
instance (n : Nat) : Decidable (alnum n) := inferInstanceAs (Decidable (_ ∨ _ ∨ _))
/-- A name whose first letter is in a range. -/
def nameOk (lo hi : Nat) (s : ByteArray) : Prop := 1 ≤ s.size ∧ s.size ≤ 32 ∧ lo ≤ gB s 0 ∧ gB s 0 ≤ hi ∧ ∀ i, i < s.size → alnum (gB s i)
noncomputable instance (lo hi : Nat) (s : ByteArray) : Decidable (nameOk lo hi s) := Classical.propDecidable _
/-- Names that no field has. -/
def resvd (s : ByteArray) : Prop := s = ⟨#[115, 101, 108, 102]⟩ ∨ s = ⟨#[115, 117, 112, 101, 114]⟩ ∨ s = ⟨#[110, 105, 108]⟩ ∨ s = ⟨#[116, 114, 117, 101]⟩ ∨ s = ⟨#[102, 97, 108, 115, 101]⟩
instance (s : ByteArray) : Decidable (resvd s) := inferInstanceAs (Decidable (_ ∨ _))
def fieldOk (s : ByteArray) : Prop := ¬ resvd s ∧ nameOk 97 122 s
noncomputable instance (s : ByteArray) : Decidable (fieldOk s) := Classical.propDecidable _
noncomputable instance memBA (s : ByteArray) (l : List ByteArray) : Decidable (s ∈ l) := Classical.propDecidable _
def takenK (v : KV) (t : TB) (name : ByteArray) : Prop := (findK v t name).2 = 0 ∨ name ∈ globsK v t
noncomputable instance (v : KV) (t : TB) (name : ByteArray) : Decidable (takenK v t name) := Classical.propDecidable _
end Kw
set_option maxRecDepth 100000
namespace Kw
open Go
def bootPlan : List (Int × Int) := [(5, 0), (6, 0), (7, 0), (12, 7), (12, 7), (12, 7), (12, 7), (12, 7), (12, 7), (12, 7), (12, 7), (12, 7), (12, 7), (12, 7), (12, 7), (12, 7), (12, 7), (11, 0), (11, 8), (11, 14)]
def RH.allocAll (r : RH) : List (Int × Int) → Int × RH
  | [] => (0, r)
  | (c, n) :: l => if (r.alloc (4 * c) n 0).1.2 ≠ 0 then ((r.alloc (4 * c) n 0).1.2, (r.alloc (4 * c) n 0).2) else RH.allocAll (r.alloc (4 * c) n 0).2 l
def growO (p : List RO × Int) (x : Int × Int) : List RO × Int := (p.1 ++ [⟨lowFree p.1, 0, endL p.1, p.2, 4 * x.1, List.replicate x.2.toNat 4⟩], IntKind.wrap .i64 (p.2 + 1))
def growAll (p : List RO × Int) : List (Int × Int) → List RO × Int
  | [] => p
  | x :: l => growAll (growO p x) l
theorem alloc_grow {r : RH} (hm : r.mark = 0) {c n : Int} (h : (r.alloc (4 * c) n 0).1.2 = 0) : (r.alloc (4 * c) n 0).2 = { r with objs := (growO (r.objs, r.born) (c, n)).1, born := (growO (r.objs, r.born) (c, n)).2 } := by
  unfold RH.alloc at h ⊢
  split at h
  · cases h
  rename_i g1
  split at h
  · cases h
  rename_i g2
  split at h
  · cases h
  rename_i g3
  split at h
  · cases h
  rename_i g4
  rw [if_neg g1, if_neg g2, if_neg g3, if_neg g4]
  simp [growO, newO, hm]
theorem allocAll_grow (l : List (Int × Int)) : ∀ {r : RH}, r.mark = 0 → (r.allocAll l).1 = 0 → (r.allocAll l).2 = { r with objs := (growAll (r.objs, r.born) l).1, born := (growAll (r.objs, r.born) l).2 } := by
  induction l with
  | nil => intro r _ _; rfl
  | cons x l ih =>
    intro r hm h
    obtain ⟨c, n⟩ := x
    unfold RH.allocAll at h ⊢
    split at h
    · rename_i hn; exact absurd h hn
    rename_i hn
    rw [if_neg hn]
    have e := alloc_grow hm (Classical.byContradiction hn)
    have := ih (r := (r.alloc (4 * c) n 0).2) (by rw [e]; exact hm) h
    rw [this, e]
    rfl
theorem allocAll_wf (l : List (Int × Int)) : ∀ {r : RH}, WFH r → WFH (r.allocAll l).2 := by
  induction l with
  | nil => intro r h; exact h
  | cons x l ih =>
    intro r h
    obtain ⟨c, n⟩ := x
    unfold RH.allocAll
    split
    · exact alloc_wf h _ _ _
    · exact ih (alloc_wf h _ _ _)
/-- The names of the kernel's classes. -/
def kNames : List ByteArray := [⟨#[79, 98, 106, 101, 99, 116]⟩, ⟨#[85, 110, 100, 101, 102, 105, 110, 101, 100, 79, 98, 106, 101, 99, 116]⟩, ⟨#[70, 97, 108, 115, 101]⟩, ⟨#[84, 114, 117, 101]⟩, ⟨#[73, 110, 116, 101, 103, 101, 114]⟩, ⟨#[83, 121, 109, 98, 111, 108]⟩, ⟨#[83, 116, 114, 105, 110, 103]⟩, ⟨#[65, 114, 114, 97, 121]⟩, ⟨#[67, 108, 97, 115, 115]⟩, ⟨#[77, 101, 116, 104, 111, 100]⟩, ⟨#[66, 108, 111, 99, 107]⟩, ⟨#[67, 111, 110, 116, 101, 120, 116]⟩, ⟨#[80, 114, 111, 99, 101, 115, 115]⟩, ⟨#[77, 101, 115, 115, 97, 103, 101]⟩]
def fillW (i : Nat) : List Int := [4 * (i : Int) + 2, if i = 0 then 4 else 16, 72, 72, 72, 1, 2 * ((i : Int) + 1) + 1]
def fillC (i : Nat) (r : RH) : RH := ((r.lay (4 + i) 0 (fillW i)).put 20 i (4 * (4 + i))).2
def fillN (r : RH) : Nat → RH
  | 0 => r
  | n + 1 => fillC n (fillN r n)
def fillR : List Int := [80, 72, 72, 72, 4, 8, 12]
def bootH (r : RH) : RH := (fillN r 14).lay 19 0 fillR
def bootL : List RO := (growAll ([], 0) bootPlan).1
def bootR0 (words oops : Int) : RH := ⟨words, oops, 0, 0, 0, []⟩
def bootRH (words oops : Int) : RH := bootH (((bootR0 words oops).allocAll bootPlan).2)
def bootS (words oops : Int) : SP := ⟨bootRH words oops, 19, [], false, 0, 0, 0⟩
def bootT : TB := ⟨4096, kNames⟩
def bootV : KV := ⟨(List.range 14).map fun i : Nat => ⟨4 + i, i, if i = 0 then 1 else 4, [], 18, 18, 18, [], [], 0⟩, 20, [], 18, [72, 72, 4, 8, 12, 4]⟩
/-- The slots at the end. -/
def bootO : List (Int × List Int) := [(1, []), (2, []), (3, [])] ++ (List.range 14).map (fun i : Nat => ((4 + i : Int), fillW i)) ++ [(18, []), (19, [80, 72, 72, 72, 4, 8, 12, 4]), (20, (List.range 14).map fun i : Nat => 4 * (4 + (i : Int)))]
/-- The objects of a heap that is laid, whatever its room. -/
theorem bootH_objs (w o m b t : Int) : ((bootH ⟨w, o, m, b, t, bootL⟩).objs.map fun x => (x.oop, x.slots)) = bootO := by kernel_rfl
theorem bootH_fmt (w o m b t : Int) : ((bootH ⟨w, o, m, b, t, bootL⟩).objs.all fun x => decide (x.fmt = 0) && decide (kindW x.cls = 3)) = true := by kernel_rfl
theorem bootL_fmt : (bootL.all fun x => decide (x.fmt = 0)) = true := by kernel_rfl
theorem kNames_good : (kNames.all fun s => decide (goodText s)) = true := by kernel_rfl
theorem kNames_nodup : kNames.Nodup := by decide +kernel
theorem newRH_wf' {words oops : Int} (h0 : 0 ≤ words) (h1 : words ≤ 1048576) (h2 : 0 ≤ oops) (h3 : oops ≤ 65536) : WFH (bootR0 words oops) :=
  ⟨h0, h1, h2, h3, Int.le_refl _, by simp [bootR0], ⟨by simp [bootR0], by simp [bootR0]⟩⟩
theorem fillN_wf {r : RH} (h : WFH r) (n : Nat) : WFH (fillN r n) := by
  induction n with
  | zero => exact h
  | succ n ih => exact put_wf (lay_wf ih _ _ _) _ _ _
theorem bootH_wf {r : RH} (h : WFH r) : WFH (bootH r) := lay_wf (fillN_wf h 14) _ _ _
theorem bootT_wf : WFT bootT := ⟨by decide, by decide, by decide, kNames_nodup, fun s hs => by simpa using List.all_eq_true.1 kNames_good s hs⟩
/-- A name that is added. -/
theorem bootAdd {i : Nat} (hi : i < kNames.length) : TB.add ⟨4096, kNames.take i⟩ kNames[i] = (((i : Int), 0), ⟨4096, kNames.take (i + 1)⟩) := by
  have hg : goodText kNames[i] := by simpa using List.all_eq_true.1 kNames_good _ (List.getElem_mem hi)
  have hn : numOf (kNames.take i) kNames[i] = none := numOf_none.2 fun hm => by
    obtain ⟨j, hj, e⟩ := List.getElem_of_mem hm
    rw [List.getElem_take] at e
    have := (List.getElem_inj kNames_nodup).1 e
    simp only [List.length_take] at hj
    omega
  have h14 : kNames.length = 14 := rfl
  unfold TB.add
  rw [if_neg (by simpa using hg)]
  simp only [hn]
  rw [if_neg (by simp only [List.length_take]; omega)]
  have e1 : (kNames.take i).length = i := by rw [List.length_take]; omega
  rw [e1, List.take_add_one, List.getElem?_eq_getElem hi]
  rfl
theorem bootRoles : (bootV.roles.all fun p => decide (p ∈ bootO)) = true := by kernel_rfl
theorem bootSep : Sep bootV := by unfold Sep; decide +kernel
theorem bootO_eq {words oops : Int} (h : ((bootR0 words oops).allocAll bootPlan).1 = 0) : (bootRH words oops).objs = (bootH ⟨words, oops, 0, 20, 0, bootL⟩).objs := by
  have e : ((bootR0 words oops).allocAll bootPlan).2 = ⟨words, oops, 0, 20, 0, bootL⟩ := by
    rw [allocAll_grow bootPlan (r := bootR0 words oops) rfl h]
    kernel_rfl
  unfold bootRH
  rw [e]
theorem bootArr {words oops : Int} (hw : WFH (bootRH words oops)) (h : ((bootR0 words oops).allocAll bootPlan).1 = 0) {p : Role} (hp : p ∈ bootO) : Arr (bootRH words oops) p.1 p.2 := by
  have e := bootO_eq h
  rw [← bootH_objs words oops 0 20 0, ← e] at hp
  obtain ⟨x, hx, rfl⟩ := List.mem_map.1 hp
  have hf := bootH_fmt words oops 0 20 0
  rw [← e] at hf
  have := List.all_eq_true.1 hf x hx
  simp only [Bool.and_eq_true, decide_eq_true_eq] at this
  exact ⟨x, objAt_mem hw.objs hx, this.1, rfl⟩
theorem bootV_cls (i : Nat) (hi : i < bootV.cls.length) : bootV.cls[i] = ⟨4 + i, i, if i = 0 then 1 else 4, [], 18, 18, 18, [], [], 0⟩ := by simp [bootV]
theorem bootRH_wf {words oops : Int} (h0 : 0 ≤ words) (h1 : words ≤ 1048576) (h2 : 0 ≤ oops) (h3 : oops ≤ 65536) : WFH (bootRH words oops) := by
  unfold bootRH
  exact bootH_wf (allocAll_wf _ (newRH_wf' h0 h1 h2 h3))
attribute [local irreducible] bootRH
theorem boot_ok {words oops : Int} (h0 : 0 ≤ words) (h1 : words ≤ 1048576) (h2 : 0 ≤ oops) (h3 : oops ≤ 65536) (h : ((bootR0 words oops).allocAll bootPlan).1 = 0) : KAll (bootS words oops) bootT bootV := by
  have hw : WFH (bootRH words oops) := bootRH_wf h0 h1 h2 h3
  have hl : bootV.cls.length = 14 := rfl
  refine ⟨⟨⟨hw, (by decide : (0 : Int) ≤ 19), (by decide : (19 : Int) ≤ 65536), (Nat.zero_le _ : ([] : List Int).length ≤ 65536), fun w hw => by cases hw⟩, ?_, rfl, rfl, ?_, bootSep, ?_⟩, ⟨bootT_wf, ?_, ?_, ?_, ?_⟩, rfl⟩
  · intro x hx
    have hf := bootH_fmt words oops 0 20 0
    rw [← bootO_eq h] at hf
    have := List.all_eq_true.1 hf x hx
    simp only [Bool.and_eq_true, decide_eq_true_eq] at this
    exact this.2
  · intro p hp
    exact bootArr hw h (of_decide_eq_true (List.all_eq_true.1 bootRoles p hp))
  · refine ⟨rfl, by rw [hl]; decide, by rw [hl]; decide, by decide, fun _ => ?_, fun i hi hpos => ?_, fun i hi h14 => ?_, fun c hc => ?_⟩
    · rw [bootV_cls]; exact ⟨rfl, rfl⟩
    · refine ⟨0, by decide, hpos, ?_⟩
      rw [bootV_cls, bootV_cls]
      simp only
      rw [if_neg (by omega)]
      rfl
    · rw [bootV_cls]
    · obtain ⟨i, hi, rfl⟩ := List.getElem_of_mem hc
      rw [bootV_cls]; simp
  · intro c hc
    obtain ⟨i, hi, rfl⟩ := List.getElem_of_mem hc
    rw [bootV_cls]
    show i < 14
    rw [hl] at hi; exact hi
  · intro c hc n hn
    obtain ⟨i, hi, rfl⟩ := List.getElem_of_mem hc
    rw [bootV_cls] at hn
    cases hn
  · intro p hp; cases hp
  · have : bootV.cls.map (·.name) = List.range 14 := by kernel_rfl
    rw [this]; exact List.nodup_range
end Kw
set_option maxRecDepth 100000
set_option maxHeartbeats 1000000
namespace Go.Proofs.YtmkdkplipbocjaaGreatDoor
open Kw
/-- The document's kernel: its block, all its blocks, its space and its symbols. -/
def RK (H : Heap) (b : Nat) (F : Foot) (s : SP) (t : TB) : Prop := ∃ sb tb F1 F2, F = b :: (F1 ++ F2) ∧ b ∉ F1 ∧ b ∉ F2 ∧ Disj F1 F2 ∧
  Blk H b #[.pointer (some ⟨sb, 0, none⟩), .pointer (some ⟨tb, 0, none⟩)] ∧ RSp H sb F1 s ∧ RTb H tb F2 t
theorem RK.lt {H : Heap} {b : Nat} {F : Foot} {s : SP} {t : TB} (h : RK H b F s t) : ∀ x ∈ F, x < H.size := by
  obtain ⟨sb, tb, F1, F2, rfl, h1, h2, h3, hB, hS, hT⟩ := h
  intro x hx
  rcases List.mem_cons.1 hx with rfl | hx
  · exact hB.lt
  · rcases List.mem_append.1 hx with hx | hx
    · exact hS.lt x hx
    · exact hT.lt x hx
theorem RK.bmem {H : Heap} {b : Nat} {F : Foot} {s : SP} {t : TB} (h : RK H b F s t) : b ∈ F := by obtain ⟨_, _, _, _, rfl, _⟩ := h; simp
theorem RK.fr {H H' : Heap} {b : Nat} {F G : Foot} {s : SP} {t : TB} (h : RK H b F s t) (hf : Fr G H H') (hd : Disj F G) : RK H' b F s t := by
  obtain ⟨sb, tb, F1, F2, rfl, h1, h2, h3, hB, hS, hT⟩ := h
  exact ⟨sb, tb, F1, F2, rfl, h1, h2, h3, hB.fr hf (hd b (by simp)), hS.fr hf (hd.mono (fun x hx => by simp [hx]) fun _ h => h), hT.fr hf (hd.mono (fun x hx => by simp [hx]) fun _ h => h)⟩
theorem RK.nil {H H' : Heap} {b : Nat} {F : Foot} {s : SP} {t : TB} (h : RK H b F s t) (hf : Fr [] H H') : RK H' b F s t := h.fr hf (Disj.nil_right _)
theorem RK.wfs {H : Heap} {b : Nat} {F : Foot} {s : SP} {t : TB} (h : RK H b F s t) : WFS s := by obtain ⟨_, _, _, _, _, _, _, _, _, hS, _⟩ := h; exact hS.wf
/-- Its space. -/
theorem RK.sp {H : Heap} {b : Nat} {F : Foot} {s : SP} {t : TB} (h : RK H b F s t) : ∃ sb F1, cellH H ⟨b, 0, none⟩ = some (.pointer (some ⟨sb, 0, none⟩)) ∧ RSp H sb F1 s ∧ (∀ x ∈ F1, x ∈ F) ∧ b ∉ F1 ∧
    ∀ H' F1' s', RSp H' sb F1' s' → Up F1 H F1' H' → ∃ F', RK H' b F' s' t ∧ Up F H F' H' := by
  have hlt := h.lt
  obtain ⟨sb, tb, F1, F2, rfl, h1, h2, h3, hB, hS, hT⟩ := h
  refine ⟨sb, F1, hB.cell 0, hS, fun x hx => by simp [hx], h1, fun H' F1' s' hS' hu => ⟨b :: (F1' ++ F2), ⟨sb, tb, F1', F2, rfl, fun hx => ?_, h2, fun x hx hx2 => ?_, hB.fr hu.1 h1, hS', hT.fr hu.1 h3.symm⟩, hu.1.mono fun x hx => by simp [hx], fun x hx => ?_⟩⟩
  · rcases hu.2 b hx with h4 | h4
    · exact h1 h4
    · have := hlt b (by simp); omega
  · rcases hu.2 x hx with h4 | h4
    · exact h3 x h4 hx2
    · have := hlt x (by simp [hx2]); omega
  · rcases List.mem_cons.1 hx with rfl | hx
    · exact .inl (by simp)
    · rcases List.mem_append.1 hx with hx | hx
      · exact (hu.2 x hx).imp (fun h4 => by simp [h4]) id
      · exact .inl (by simp [hx])
/-- Its symbols. -/
theorem RK.tb {H : Heap} {b : Nat} {F : Foot} {s : SP} {t : TB} (h : RK H b F s t) : ∃ tb F2, cellH H ⟨b, 1, none⟩ = some (.pointer (some ⟨tb, 0, none⟩)) ∧ RTb H tb F2 t ∧ (∀ x ∈ F2, x ∈ F) ∧ b ∉ F2 ∧
    ∀ H' F2' t', RTb H' tb F2' t' → Up F2 H F2' H' → ∃ F', RK H' b F' s t' ∧ Up F H F' H' := by
  have hlt := h.lt
  obtain ⟨sb, tb, F1, F2, rfl, h1, h2, h3, hB, hS, hT⟩ := h
  refine ⟨tb, F2, hB.cell 1, hT, fun x hx => by simp [hx], h2, fun H' F2' t' hT' hu => ⟨b :: (F1 ++ F2'), ⟨sb, tb, F1, F2', rfl, h1, fun hx => ?_, fun x hx hx2 => ?_, hB.fr hu.1 h2, hS.fr hu.1 h3, hT'⟩, hu.1.mono fun x hx => by simp [hx], fun x hx => ?_⟩⟩
  · rcases hu.2 b hx with h4 | h4
    · exact h2 h4
    · have := hlt b (by simp); omega
  · rcases hu.2 x hx2 with h4 | h4
    · exact h3 x hx h4
    · have := hlt x (by simp [hx]); omega
  · rcases List.mem_cons.1 hx with rfl | hx
    · exact .inl (by simp)
    · rcases List.mem_append.1 hx with hx | hx
      · exact .inl (by simp [hx])
      · exact (hu.2 x hx).imp (fun h4 => by simp [h4]) id
/-- Its heap: where it stands, and what comes of its changes. -/
theorem RK.hp {H : Heap} {b : Nat} {F : Foot} {s : SP} {t : TB} (h : RK H b F s t) : ∃ sb hb F1, cellH H ⟨b, 0, none⟩ = some (.pointer (some ⟨sb, 0, none⟩)) ∧ cellH H ⟨sb, 0, none⟩ = some (.pointer (some ⟨hb, 0, none⟩)) ∧ RRep H hb F1 s.h ∧ (∀ x ∈ F1, x ∈ F) ∧ b ∉ F1 ∧
    ∀ H' F1' r', RRep H' hb F1' r' → Up F1 H F1' H' → ∃ F', RK H' b F' { s with h := r' } t ∧ Up F H F' H' := by
  obtain ⟨sb, F1, hc, hS, hsub, hbn, hup⟩ := h.sp
  obtain ⟨hb, F2, hR, c0, _, hsub2, _, hup2⟩ := hS.upd
  refine ⟨sb, hb, F2, hc, c0, hR, fun x hx => hsub x (hsub2 x hx), fun hm => hbn (hsub2 _ hm), fun H' F1' r' hR' hu => ?_⟩
  obtain ⟨F3, hS', hu'⟩ := hup2 H' F1' r' hR' hu
  exact hup H' F3 _ hS' hu'
def ktextW (t : TB) (w : Int) : ByteArray := if Int.tmod w 4 ≠ 2 then ⟨#[]⟩ else if h : 0 ≤ (w - 2) / 4 ∧ (w - 2) / 4 < t.texts.length then t.texts[((w - 2) / 4).toNat]'(by omega) else ⟨#[]⟩
theorem ktextW_sym {t : TB} (hw : WFT t) {n : Nat} (h : n < t.texts.length) : ktextW t (symW n) = tx t n := by
  unfold ktextW symW
  have e : (4 * (n : Int) + 2 - 2) / 4 = n := by omega
  rw [if_neg (by rw [Int.tmod_eq_emod_of_nonneg (by omega)]; omega)]
  rw [dif_pos (by omega)]
  unfold tx
  rw [List.getD_eq_getElem?_getD, List.getElem?_eq_getElem h]
  simp only [Option.getD_some]
  congr 1
  omega
section
variable {H : Heap} {b : Nat} {F : Foot} {s : SP} {t : TB} {Q : Value → Heap → Prop}
theorem slot_r (hK : RK H b F s t) {o i : Int} (h : Q (.int .i64 (kslot s.h o i)) H) : callS PP n_kilnref13_Kernel_Slot #[.pointer (some ⟨b, 0, none⟩), .int .i64 o, .int .i64 i] Q H := by
  obtain ⟨sb, hb, F1, hc, c0, hR, _⟩ := hK.hp
  apply kilnref13_Kernel_Slot_ok
  unfold kilnref13_Kernel_Slot
  exact ⟨_, rfl, _, hc, _, rfl, _, c0, rat_c hR ⟨_, _, rfl, h⟩⟩
theorem text_r (hK : RK H b F s t) {w : Int} (hw : I64 w) (h : Q (.string (ktextW t w)) H) : callS PP n_kilnref13_Kernel_Text #[.pointer (some ⟨b, 0, none⟩), .int .i64 w] Q H := by
  apply kilnref13_Kernel_Text_ok
  unfold kilnref13_Kernel_Text
  unfold ktextW at h
  rw [bneI, cond_dec]
  refine ite_i (fun h1 => ?_) fun h1 => ?_
  · rw [if_pos h1] at h; exact h
  rw [if_neg h1] at h
  obtain ⟨tb, F2, hc, hT, _⟩ := hK.tb
  have hw1 := hw.1
  have hw2 := hw.2
  have h2 : Int.tmod w 4 = 2 := Classical.byContradiction h1
  have hge : 0 ≤ w := by
    rcases Int.lt_or_le w 0 with h3 | h3
    · exfalso
      have h4 : Int.tmod w 4 ≤ 0 := by
        have e : w = -(-w) := by omega
        rw [e, Int.neg_tmod, Int.tmod_eq_emod_of_nonneg (by omega)]
        omega
      omega
    · exact h3
  have hm : w % 4 = 2 := by rw [← h2, Int.tmod_eq_emod_of_nonneg hge]
  have e1 : IntKind.wrap .i64 (w - 2) = w - 2 := wrap64_id (by omega) (by omega)
  have e2 : Int.tdiv (w - 2) 4 = (w - 2) / 4 := Int.tdiv_eq_ediv_of_nonneg (by omega)
  have e3 : IntKind.wrap .i64 ((w - 2) / 4) = (w - 2) / 4 := wrap64_id (by omega) (by omega)
  rw [e1, e2, e3]
  refine ⟨_, rfl, _, hc, ttext_c hT ?_⟩
  unfold textV
  split at h
  · rename_i h5
    rw [dif_pos h5]
    exact ⟨_, _, rfl, h⟩
  · rename_i h5
    rw [dif_neg h5]
    exact ⟨_, _, rfl, h⟩
theorem words_r (hK : RK H b F s t) {o : Int} (h : ∀ a l c G H', Own 1 H' a l c (intsV (kwords s.h o)) G → Fr [] H H' → (∀ x ∈ G, H.size ≤ x) → Q (.slice a l c) H') : callS PP n_kilnref13_Kernel_Words #[.pointer (some ⟨b, 0, none⟩), .int .i64 o] Q H := by
  have hs1 : sliceInfo PP 108 = some (1, 8, some (.int .i64 0)) := by kernel_rfl
  have hn0 := size_nonneg (r := s.h) o
  have hn1 := size_le hK.wfs.h o
  apply kilnref13_Kernel_Words_ok
  unfold kilnref13_Kernel_Words
  obtain ⟨sb, hb, F1, hc, c0, hR, _⟩ := hK.hp
  refine ⟨_, rfl, _, hc, _, rfl, _, c0, rsize_c hR ⟨_, _, _, rfl, ?_⟩⟩
  show ∃ (I11 : List Value → Heap → Prop) (μ11 : List Value → Heap → Nat), I11 [.slice none 0 0, .int .i64 0] H ∧ ∀ w12 H2, I11 w12 H2 → ∀ _g : Nat → Value, ∃ a13 : Option Addr, ∃ l13 : Nat, ∃ c13 : Nat, ∃ n14 : Int, w12 = [.slice a13 l13 c13, .int .i64 n14] ∧ cond (decide (n14 < ksize s.h o)) _ _
  refine ⟨fun w H' => ∃ (i : Nat) (a : Option Addr) (l' c : Nat) (G : Foot), w = [.slice a l' c, .int .i64 i] ∧ (i : Int) ≤ ksize s.h o ∧ Own 1 H' a l' c (intsV ((kwords s.h o).take i)) G ∧ Fr [] H H' ∧ (∀ x ∈ G, H.size ≤ x), fun w _ => match w with
    | [_, .int _ i] => (ksize s.h o - i).toNat
    | _ => 0, ⟨0, none, 0, 0, [], rfl, hn0, by simpa [intsV] using Own.nil 1 H, Fr.refl _ _, by simp⟩, ?_⟩
  rintro w H1 ⟨i, a1, l1, c1, G, rfl, hi, ho, hf1, hG⟩ _
  have hlen : (kwords s.h o).length = (ksize s.h o).toNat := by simp [kwords]
  have hl1 : l1 = i := by have := ho.len; simp only [intsV, List.length_map, List.length_take] at this; omega
  refine ⟨_, _, _, _, rfl, ?_⟩
  rw [cond_dec]
  refine ite_i (fun hlt => ?_) fun hlt => ?_
  · have htk : (kwords s.h o).take (i + 1) = (kwords s.h o).take i ++ [kslot s.h o i] := by
      rw [List.take_add_one, List.getElem?_eq_getElem (by omega)]; simp [kwords]
    have e : IntKind.wrap .i64 ((i : Int) + 1) = ((i + 1 : Nat) : Int) := by rw [wrap64_id (by omega) (by omega)]; omega
    refine slot_r (hK.nil hf1) ⟨_, rfl, ?_⟩
    refine evS_append1 hs1 rfl (by kernel_rfl) ho rfl (by simp [oneC]) (by omega) (by decide) (by decide) fun a' c' G2 H3 g1 g2 g3 => ⟨_, _, _, rfl, ?_⟩
    have hfr := Up.fresh hf1 g2 hG
    rw [e]
    refine ⟨⟨i + 1, a', l1 + 1, c', G2, rfl, by omega, ?_, hfr.1, hfr.2⟩, by simp; omega⟩
    rw [htk, intsV_append]; exact g1
  · rw [List.take_of_length_le (by omega)] at ho
    exact h _ _ _ _ H1 ho hf1 hG
end
end Go.Proofs.YtmkdkplipbocjaaGreatDoor
set_option maxRecDepth 100000
set_option maxHeartbeats 1000000
namespace Go.Proofs.YtmkdkplipbocjaaGreatDoor
open Kw
theorem refOop_obj {o : Int} (h : 1 ≤ o) : refOop (4 * o) = o := by
  unfold refOop; rw [if_pos (by omega)]; omega
theorem I64_small {n : Int} (h0 : -1000000000000 ≤ n) (h1 : n ≤ 1000000000000) : I64 n := ⟨by omega, by omega⟩
section
variable {H : Heap} {b : Nat} {F : Foot} {s : SP} {t : TB} {v : KV} {Q : Value → Heap → Prop}
theorem root_r (hK : RK H b F s t) (hv : KS s v) {i : Int} {x : Int} (hx : kslot s.h 19 i = 4 * x) (h0 : 1 ≤ x) (h1 : x ≤ 65536) {Q : Value → Heap → Prop} (h : Q (.int .i64 x) H) :
    callS PP n_kilnref13_Kernel_Slot #[.pointer (some ⟨b, 0, none⟩), .int .i64 19, .int .i64 i] (fun v2 H1 => ∃ n3 : Int, v2 = .int .i64 n3 ∧ callS PP n_kilnref13_Oop #[.int .i64 n3] Q H1) H := by
  refine slot_r hK ⟨_, rfl, ?_⟩
  rw [hx]
  refine refOop13_c (I64_small (by omega) (by omega)) ?_
  rw [refOop_obj h0]; exact h
theorem KS.s0 (h : KS s v) : kslot s.h 19 0 = 4 * v.clsA ∧ 1 ≤ v.clsA ∧ v.clsA ≤ 65536 := by
  have hb := h.view.all.bnd h.wf.h
  exact ⟨h.view.root.kslot (i := 0) (by simp [KV.rootW]), hb.1, hb.2.1⟩
theorem KS.s1 (h : KS s v) : kslot s.h 19 1 = 4 * v.globA ∧ 1 ≤ v.globA ∧ v.globA ≤ 65536 := by
  have hb := h.view.globs.bnd h.wf.h
  exact ⟨h.view.root.kslot (i := 1) (by simp [KV.rootW]), hb.1, hb.2.1⟩
/-- The oops of all classes. -/
def oopsK (v : KV) : List Int := v.cls.map (·.oop)
theorem all_r (hK : RK H b F s t) (hv : KS s v) (h : ∀ a l c G H', Own 1 H' a l c (intsV (oopsK v)) G → Fr [] H H' → (∀ x ∈ G, H.size ≤ x) → Q (.slice a l c) H') : callS PP n_kilnref13_Kernel_All #[.pointer (some ⟨b, 0, none⟩)] Q H := by
  have hs1 : sliceInfo PP 66 = some (1, 8, some (.int .i64 0)) := by kernel_rfl
  have hm1 := hv.shape.many1
  obtain ⟨e0, b0, b1⟩ := KS.s0 hv
  apply kilnref13_Kernel_All_ok
  unfold kilnref13_Kernel_All
  refine root_r hK hv e0 b0 b1 ⟨_, rfl, words_r hK fun aw lw cw Gw H0 how hfw hGw => ⟨_, _, _, rfl, ?_⟩⟩
  rw [show kwords s.h v.clsA = v.clsW from hv.view.all.kwords] at how
  have hlw : lw = v.cls.length := by have := how.len; simpa [intsV, KV.clsW] using this.symm
  have hlen : (oopsK v).length = v.cls.length := by simp [oopsK]
  refine ⟨fun w H' => ∃ (i : Nat) (a : Option Addr) (l' c : Nat) (G : Foot), w = [.slice a l' c, .int .i64 i] ∧ i ≤ v.cls.length ∧ Own 1 H' a l' c (intsV ((oopsK v).take i)) G ∧ Fr [] H0 H' ∧ (∀ x ∈ G, H0.size ≤ x), fun w _ => match w with
    | [_, .int _ i] => (v.cls.length - i).toNat
    | _ => 0, ⟨0, none, 0, 0, [], rfl, Nat.zero_le _, by simpa [intsV] using Own.nil 1 H0, Fr.refl _ _, by simp⟩, ?_⟩
  rintro w H1 ⟨i, a1, l1, c1, G, rfl, hi, ho, hf1, hG⟩ _
  have hl1 : l1 = i := by have := ho.len; simp only [intsV, List.length_map, List.length_take] at this; omega
  refine ⟨_, _, _, _, rfl, ?_⟩
  rw [cond_dec]
  refine ite_i (fun hlt => ?_) fun hlt => ?_
  · have hlt' : i < v.cls.length := by omega
    obtain ⟨p, rfl, hcell, hlt2⟩ := (how.rd.fr' hf1 (by simp)).int (i := (i : Int)) (by omega) hlt
    rw [Int.toNat_natCast] at hcell hlt2
    have hx : v.clsW.getD i 0 = 4 * (v.cls[i]).oop := by simp [KV.clsW, hlt']
    rw [hx] at hcell
    have hb := up_arr hv hlt'
    have htk : (oopsK v).take (i + 1) = (oopsK v).take i ++ [(v.cls[i]).oop] := by
      rw [List.take_add_one, List.getElem?_eq_getElem (by omega)]; simp [oopsK]
    have e : IntKind.wrap .i64 ((i : Int) + 1) = ((i + 1 : Nat) : Int) := by rw [wrap64_id (by omega) (by omega)]; omega
    refine ⟨⟨by omega, hlt⟩, _, rfl, _, by rw [Int.toNat_natCast, Nat.mul_one]; exact hcell, refOop13_c (I64_small (by omega) (by omega)) ⟨_, rfl, ?_⟩⟩
    rw [refOop_obj hb.1]
    refine evS_append1 hs1 rfl (by kernel_rfl) ho rfl (by simp [oneC]) (by omega) (by decide) (by decide) fun a' c' G2 H3 g1 g2 g3 => ⟨_, _, _, rfl, ?_⟩
    have hfr := Up.fresh hf1 g2 hG
    rw [e]
    refine ⟨⟨i + 1, a', l1 + 1, c', G2, rfl, by omega, ?_, hfr.1, hfr.2⟩, by simp; omega⟩
    rw [htk, intsV_append]; exact g1
  · rw [List.take_of_length_le (by omega)] at ho
    exact h _ _ _ _ H1 ho (hfw.trans hf1) fun x hx => Nat.le_trans hfw.1 (hG x hx)
theorem rd_oops {a : Option Addr} {l c : Nat} {G : Foot} (ho : Own 1 H a l c (intsV (oopsK v)) G) {H' : Heap} (hf : Fr [] H H') {i : Nat} (hi : i < v.cls.length) : ∃ p, a = some p ∧ cellH H' (p.add (i * 1)) = some (.int .i64 (v.cls[i]).oop) := by
  have hl : l = v.cls.length := by have := ho.len; simpa [intsV, oopsK] using this.symm
  obtain ⟨p, hp, hcell, hlt2⟩ := (ho.rd.fr' hf (by simp)).int (i := (i : Int)) (by omega) (by omega)
  rw [Int.toNat_natCast] at hcell
  refine ⟨p, hp, ?_⟩
  rw [Nat.mul_one, hcell]
  simp [oopsK, hi]
/-- A class's number; 0: it is none. -/
def placeN (v : KV) (o : Int) : Int := match plK v o with
  | some i => (i : Int) + 1
  | none => 0
theorem place_r (hK : RK H b F s t) (hv : KS s v) {o : Int} (h : ∀ H', Fr [] H H' → Q (.int .i64 (placeN v o)) H') : callS PP n_kilnref13_Kernel_place #[.pointer (some ⟨b, 0, none⟩), .int .i64 o] Q H := by
  have hm1 := hv.shape.many1
  apply kilnref13_Kernel_place_ok
  unfold kilnref13_Kernel_place
  refine all_r hK hv fun a l c G H1 ho hf1 hG => ⟨_, _, _, rfl, ?_⟩
  have hl : l = v.cls.length := by have := ho.len; simpa [intsV, oopsK] using this.symm
  refine ⟨fun w H' => H' = H1 ∧ ∃ i : Nat, w = [.int .i64 i] ∧ i ≤ v.cls.length ∧ ∀ j (hj : j < v.cls.length), j < i → (v.cls[j]).oop ≠ o, fun w _ => match w with
    | [.int _ i] => (v.cls.length - i).toNat
    | _ => 0, ⟨rfl, 0, rfl, Nat.zero_le _, fun j _ hj => by omega⟩, ?_⟩
  rintro w H2 ⟨rfl, i, rfl, hi, hall⟩ _
  refine ⟨_, rfl, ?_⟩
  rw [cond_dec]
  refine ite_i (fun hlt => ?_) fun hlt => ?_
  · have hlt' : i < v.cls.length := by omega
    obtain ⟨p, rfl, hcell⟩ := rd_oops ho (Fr.refl _ _) hlt'
    have e : IntKind.wrap .i64 ((i : Int) + 1) = ((i + 1 : Nat) : Int) := by rw [wrap64_id (by omega) (by omega)]; omega
    have hb := (up_arr hv hlt').1
    refine ⟨⟨by omega, hlt⟩, _, rfl, _, by rw [Int.toNat_natCast]; exact hcell, ?_⟩
    rw [beqI, cond_dec]
    refine ite_i (fun he => ?_) fun he => ?_
    · rw [cond_dec, if_pos (by omega), e]
      have : placeN v o = ((i + 1 : Nat) : Int) := by
        unfold placeN
        rw [← he, hv.idx hlt']
        simp
      rw [← this]; exact h _ hf1
    · rw [e]
      refine ⟨⟨rfl, i + 1, rfl, by omega, fun j hj hji => ?_⟩, by simp; omega⟩
      rcases Nat.lt_or_ge j i with h5 | h5
      · exact hall j hj h5
      · have : j = i := by omega
        subst this; exact he
  · have : placeN v o = 0 := by
      unfold placeN
      cases hp : plK v o with
      | none => rfl
      | some j =>
        obtain ⟨hj, e⟩ := plK_some hp
        exact absurd e (hall j hj (by omega))
    rw [← this]; exact h _ hf1
theorem up_r (hK : RK H b F s t) (hv : KS s v) {i : Nat} (hi : i < v.cls.length) (h : Q (.int .i64 (superK v i)) H) : callS PP n_kilnref13_Kernel_up #[.pointer (some ⟨b, 0, none⟩), .int .i64 (v.cls[i]).oop] Q H := by
  have hb := hv.upB hi
  apply kilnref13_Kernel_up_ok
  unfold kilnref13_Kernel_up
  refine slot_r hK ⟨_, rfl, ?_⟩
  rw [hv.c1 hi]
  refine refOop13_c (I64_small (by omega) (by omega)) ⟨_, rfl, ?_⟩
  rw [refOop_obj hb.1, beqI, cond_dec]
  unfold superK at h
  rw [List.getElem?_eq_getElem hi] at h
  simp only at h
  refine ite_i (fun h1 => ?_) fun h1 => ?_
  · rw [if_pos h1] at h; exact h
  · rw [if_neg h1] at h; exact h
theorem name_r (hK : RK H b F s t) (hv : KAll s t v) {i : Nat} (hi : i < v.cls.length) {Q : Value → Heap → Prop} (h : Q (.string (tx t (v.cls[i]).name)) H) :
    callS PP n_kilnref13_Kernel_Slot #[.pointer (some ⟨b, 0, none⟩), .int .i64 (v.cls[i]).oop, .int .i64 0] (fun v2 H1 => ∃ n3 : Int, v2 = .int .i64 n3 ∧ callS PP n_kilnref13_Kernel_Text #[.pointer (some ⟨b, 0, none⟩), .int .i64 n3] Q H1) H := by
  have hn := hv.names.name _ (List.getElem_mem hi)
  have h3 := hv.names.wf.m1
  have h4 := hv.names.wf.len
  refine slot_r hK ⟨_, rfl, ?_⟩
  rw [hv.ks.c0 hi]
  refine text_r hK (I64_small (by unfold symW; omega) (by unfold symW; omega)) ?_
  rw [ktextW_sym hv.names.wf hn]; exact h
theorem number_r (hK : RK H b F s t) (hv : KAll s t v) {o : Int} (h : ∀ H', Fr [] H H' → Q (match plK v o with | some i => .tuple #[.int .i64 ((i : Int) + 1), .int .i64 0] | none => .tuple #[.int .i64 0, .int .i64 130]) H') : callS PP n_kilnref13_Kernel_Number #[.pointer (some ⟨b, 0, none⟩), .int .i64 o] Q H := by
  apply kilnref13_Kernel_Number_ok
  unfold kilnref13_Kernel_Number
  refine place_r hK hv.ks fun H1 hf1 => ⟨_, rfl, ?_⟩
  have := h H1 hf1
  unfold placeN
  cases hp : plK v o with
  | none => rw [hp] at this; exact this
  | some i =>
    rw [hp] at this
    rw [beqI, cond_dec, if_neg (by simp only; omega)]; exact this
theorem super_r (hK : RK H b F s t) (hv : KAll s t v) {o : Int} (h : ∀ H', Fr [] H H' → Q (match plK v o with | some i => .tuple #[.int .i64 (superK v i), .int .i64 0] | none => .tuple #[.int .i64 0, .int .i64 130]) H') : callS PP n_kilnref13_Kernel_Super #[.pointer (some ⟨b, 0, none⟩), .int .i64 o] Q H := by
  apply kilnref13_Kernel_Super_ok
  unfold kilnref13_Kernel_Super
  refine place_r hK hv.ks fun H1 hf1 => ⟨_, rfl, ?_⟩
  have := h H1 hf1
  unfold placeN
  cases hp : plK v o with
  | none => rw [hp] at this; exact this
  | some i =>
    rw [hp] at this
    obtain ⟨hi, rfl⟩ := plK_some hp
    rw [beqI, cond_dec, if_neg (by simp only; omega)]
    exact up_r (hK.nil hf1) hv.ks hi ⟨_, rfl, this⟩
end
end Go.Proofs.YtmkdkplipbocjaaGreatDoor
set_option maxRecDepth 100000
namespace Go.Proofs.YtmkdkplipbocjaaGreatDoor
open Kw
section
variable {H : Heap} {b : Nat} {F : Foot} {s : SP} {t : TB} {v : KV} {Q : Value → Heap → Prop}
theorem class_k (hK : PK H b F s t) (hv : KAll s t v) {o : Int} (h : ∀ H', Fr [] H H' → Q (.bool (plK v o).isSome) H') : callS PP n_class_reader_class #[rd b, .int .i64 o] Q H := by
  have hm1 := hv.ks.shape.many1
  apply class_reader_class_ok
  unfold class_reader_class
  have hf : Fr [] H (H.push (.cells #[.pointer (some ⟨b, 0, none⟩)] 131)) := Fr.push _ _ _
  have hB := Blk.new H #[.pointer (some ⟨b, 0, none⟩)] 131
  refine ⟨_, hB.cell 0, num_k (hK.nil hf) fun H1 hf1 => ⟨_, rfl, _, (hB.fr hf1 (by simp)).cell 0, ?_⟩⟩
  have hF1 := hf.trans hf1
  refine root_k (hK.nil hF1) fun H2 hf2 => ⟨_, rfl, ?_⟩
  rw [hv.ks.root0]
  have hF2 := hF1.trans hf2
  have hB2 := (hB.fr hf1 (by simp)).fr hf2 (by simp)
  cases hp : plK v o with
  | some i =>
    rw [hp] at h
    obtain ⟨hi, he⟩ := plK_some hp
    have hb := (up_arr hv.ks hi).1
    have hn : knum s.h o 6 = (i : Int) + 1 := by rw [← he]; exact hv.ks.num hi
    rw [hn, cond_dec, if_pos (by omega), cond_dec, if_pos (by omega)]
    refine ⟨_, hB2.cell 0, size_k (hK.nil hF2) fun H3 hf3 => ⟨_, rfl, ?_⟩⟩
    rw [hv.ks.size0, cond_dec, if_pos (by omega)]
    refine ⟨_, (hB2.fr hf3 (by simp)).cell 0, oop_k (hK.nil (hF2.trans hf3)) fun H4 hf4 => ⟨_, rfl, ?_⟩⟩
    have e : IntKind.wrap .i64 ((i : Int) + 1 - 1) = (i : Nat) := by rw [wrap64_id (by omega) (by omega)]; omega
    rw [e, (hv.ks.clsAt hi).2, he]
    have := h H4 ((hF2.trans hf3).trans hf4)
    simpa using this
  | none =>
    rw [hp] at h
    rw [cond_dec]
    refine ite_i (fun h1 => ?_) fun h1 => h _ hF2
    rw [cond_dec]
    refine ite_i (fun h2 => ?_) fun h2 => h _ hF2
    refine ⟨_, hB2.cell 0, size_k (hK.nil hF2) fun H3 hf3 => ⟨_, rfl, ?_⟩⟩
    rw [hv.ks.size0, cond_dec]
    refine ite_i (fun h3 => ?_) fun h3 => h _ (hF2.trans hf3)
    refine ⟨_, (hB2.fr hf3 (by simp)).cell 0, oop_k (hK.nil (hF2.trans hf3)) fun H4 hf4 => ⟨_, rfl, ?_⟩⟩
    have hi : (knum s.h o 6 - 1).toNat < v.cls.length := by omega
    have e : IntKind.wrap .i64 (knum s.h o 6 - 1) = ((knum s.h o 6 - 1).toNat : Nat) := by rw [wrap64_id (by omega) (by omega)]; omega
    have hne := plK_none hp _ hi
    rw [e, (hv.ks.clsAt hi).2]
    have := h H4 ((hF2.trans hf3).trans hf4)
    rw [beqI, decide_eq_false hne]; exact this
/-- What look hands on. -/
theorem look_k (hK : PK H b F s t) (hv : KAll s t v) {o : Int} (h1 : ∀ i, plK v o = some i → ∀ H', Fr [] H H' → Q (.tuple #[rd b, .int .i64 0]) H') (h2 : plK v o = none → ∀ H', Fr [] H H' → Q (.tuple #[.agg #[.pointer none], .int .i64 130]) H') : callS PP n_class_Kernel_look #[.pointer (some ⟨b, 0, none⟩), .int .i64 o] Q H := by
  apply class_Kernel_look_ok
  unfold class_Kernel_look
  have hf : Fr [] H (H.push (.cells #[.pointer none] 131)) := Fr.push _ _ _
  have hB := Blk.new H #[.pointer none] 131
  have hK1 := hK.nil hf
  generalize (H.push (.cells #[.pointer none] 131)) = H1 at hf hB hK1 ⊢
  refine there_c hK1 ⟨_, rfl, ?_⟩
  simp only [Bool.not_true, cond_false]
  rw [locB]
  have hf1 : Fr [] H1 (H1.push (.cells #[.pointer (some ⟨b, 0, none⟩)] 131)) := Fr.push _ _ _
  have hB1 := Blk.new H1 #[.pointer (some ⟨b, 0, none⟩)] 131
  refine ⟨Wr_push.2 (by simp), _, hB1.cell 0, class_k (hK1.nil hf1) hv fun H2 hf2 => ⟨_, rfl, ?_⟩⟩
  have hB2 := (hB.fr hf1 (by simp)).fr hf2 (by simp)
  have hF2 := (hf.trans hf1).trans hf2
  have hset : ∀ x, Fr [] H (setH H2 ⟨H.size, 0, none⟩ x) := fun x => Fr.late hF2 (Nat.le_refl _)
  cases hp : plK v o with
  | none =>
    simp only [Option.isSome_none, Bool.not_false, cond_true]
    exact ⟨hB2.wr (by simp), _, (hB2.set 0 _).cell 0, h2 hp _ (hset _)⟩
  | some i =>
    simp only [Option.isSome_some, Bool.not_true, cond_false]
    exact ⟨_, (hB1.fr hf2 (by simp)).cell 0, hB2.wr (by simp), _, (hB2.set 0 _).cell 0, h1 i hp _ (hset _)⟩
/-- The rest of what is asked of one class. -/
theorem number_k (hK : PK H b F s t) (hv : KAll s t v) {o : Int} (h : ∀ H', Fr [] H H' → Q (match plK v o with | some i => .tuple #[.int .i64 ((i : Int) + 1), .int .i64 0] | none => .tuple #[.int .i64 0, .int .i64 130]) H') : callS PP n_class_Kernel_Number #[.pointer (some ⟨b, 0, none⟩), .int .i64 o] Q H := by
  apply class_Kernel_Number_ok
  unfold class_Kernel_Number
  refine look_k hK hv (fun i hp H1 hf => ?_) fun hp H1 hf => ?_
  · refine ⟨_, _, rfl, Wr_push.2 (by simp), ?_⟩
    rw [hp] at h
    simp only [show ((0 : Int) != 0) = false from rfl, cond_false]
    rw [locB]
    have hf1 : Fr [] H1 (H1.push (.cells #[.pointer (some ⟨b, 0, none⟩)] 131)) := Fr.push _ _ _
    obtain ⟨hi, he⟩ := plK_some hp
    refine ⟨_, (Blk.new H1 _ _).cell 0, num_k (hK.nil (hf.trans hf1)) fun H2 hf2 => ⟨_, rfl, ?_⟩⟩
    have hn : knum s.h o 6 = (i : Int) + 1 := by rw [← he]; exact hv.ks.num hi
    rw [hn]; exact h _ ((hf.trans hf1).trans hf2)
  · refine ⟨_, _, rfl, Wr_push.2 (by simp), ?_⟩
    rw [hp] at h
    simp only [show ((130 : Int) != 0) = true from rfl, cond_true]
    rw [locB]
    exact h _ hf.more
theorem ksuper_k (hK : PK H b F s t) (hv : KAll s t v) {o : Int} (h : ∀ H', Fr [] H H' → Q (match plK v o with | some i => .tuple #[.int .i64 (superK v i), .int .i64 0] | none => .tuple #[.int .i64 0, .int .i64 130]) H') : callS PP n_class_Kernel_Super #[.pointer (some ⟨b, 0, none⟩), .int .i64 o] Q H := by
  apply class_Kernel_Super_ok
  unfold class_Kernel_Super
  refine look_k hK hv (fun i hp H1 hf => ?_) fun hp H1 hf => ?_
  · refine ⟨_, _, rfl, Wr_push.2 (by simp), ?_⟩
    rw [hp] at h
    simp only [show ((0 : Int) != 0) = false from rfl, cond_false]
    rw [locB]
    have hf1 : Fr [] H1 (H1.push (.cells #[.pointer (some ⟨b, 0, none⟩)] 131)) := Fr.push _ _ _
    obtain ⟨hi, he⟩ := plK_some hp
    refine ⟨_, (Blk.new H1 _ _).cell 0, super_k (hK.nil (hf.trans hf1)) fun H2 hf2 => ⟨_, rfl, ?_⟩⟩
    have hn : koop s.h o 1 = (v.cls[i]).up := by rw [← he]; exact hv.ks.up hi
    have := h _ ((hf.trans hf1).trans hf2)
    simp only [superK, List.getElem?_eq_getElem hi] at this
    rw [hn]; exact this
  · refine ⟨_, _, rfl, Wr_push.2 (by simp), ?_⟩
    rw [hp] at h
    simp only [show ((130 : Int) != 0) = true from rfl, cond_true]
    rw [locB]
    exact h _ hf.more
theorem layout_k (hK : PK H b F s t) (hv : KAll s t v) {o : Int} (h : ∀ H', Fr [] H H' → Q (match plK v o with | some i => .tuple #[.int .i64 (infoK v t i).lay, .int .i64 0] | none => .tuple #[.int .i64 0, .int .i64 130]) H') : callS PP n_class_Kernel_Layout #[.pointer (some ⟨b, 0, none⟩), .int .i64 o] Q H := by
  apply class_Kernel_Layout_ok
  unfold class_Kernel_Layout
  refine look_k hK hv (fun i hp H1 hf => ?_) fun hp H1 hf => ?_
  · refine ⟨_, _, rfl, Wr_push.2 (by simp), ?_⟩
    rw [hp] at h
    simp only [show ((0 : Int) != 0) = false from rfl, cond_false]
    rw [locB]
    have hf1 : Fr [] H1 (H1.push (.cells #[.pointer (some ⟨b, 0, none⟩)] 131)) := Fr.push _ _ _
    obtain ⟨hi, he⟩ := plK_some hp
    refine ⟨_, (Blk.new H1 _ _).cell 0, num_k (hK.nil (hf.trans hf1)) fun H2 hf2 => ⟨_, rfl, ?_⟩⟩
    have hn : knum s.h o 5 = (infoK v t i).lay := by
      rw [← he, hv.ks.layN hi]
      unfold infoK
      rw [List.getElem?_eq_getElem hi]
    rw [hn]; exact h _ ((hf.trans hf1).trans hf2)
  · refine ⟨_, _, rfl, Wr_push.2 (by simp), ?_⟩
    rw [hp] at h
    simp only [show ((130 : Int) != 0) = true from rfl, cond_true]
    rw [locB]
    exact h _ hf.more
theorem count_ks (hK : PK H b F s t) (hv : KS s v) (h : ∀ H', Fr [] H H' → Q (.int .i64 (v.cls.length : Int)) H') : callS PP n_class_Kernel_Count #[.pointer (some ⟨b, 0, none⟩)] Q H := by
  apply class_Kernel_Count_ok
  unfold class_Kernel_Count
  refine there_c hK ⟨_, rfl, ?_⟩
  simp only [Bool.not_true, cond_false]
  rw [locB]
  have hf1 : Fr [] H (H.push (.cells #[.pointer (some ⟨b, 0, none⟩)] 131)) := Fr.push _ _ _
  have hB := Blk.new H #[.pointer (some ⟨b, 0, none⟩)] 131
  refine ⟨Wr_push.2 (by simp), _, hB.cell 0, _, hB.cell 0, root_k (hK.nil hf1) fun H2 hf2 => ⟨_, rfl, ⟨⟨(hB.fr hf2 (by simp)).cell 0, trivial⟩, trivial⟩, ?_⟩⟩
  rw [hv.root0]
  refine size_k (hK.nil (hf1.trans hf2)) fun H3 hf3 => ⟨_, rfl, trivial, ?_⟩
  rw [hv.size0]; exact h _ ((hf1.trans hf2).trans hf3)
theorem count_k (hK : PK H b F s t) (hv : KAll s t v) (h : ∀ H', Fr [] H H' → Q (.int .i64 (v.cls.length : Int)) H') : callS PP n_class_Kernel_Count #[.pointer (some ⟨b, 0, none⟩)] Q H := count_ks hK hv.ks h
theorem count_nil (h : Q (.int .i64 0) H) : callS PP n_class_Kernel_Count #[.pointer none] Q H := by
  apply class_Kernel_Count_ok
  unfold class_Kernel_Count
  exact there_nil ⟨_, rfl, h⟩
theorem numbered_k (hK : PK H b F s t) (hv : KAll s t v) {n : Int} (h : ∀ H', Fr [] H H' → Q (.tuple #[.int .i64 (numberedK v n).1, .int .i64 (numberedK v n).2]) H') : callS PP n_class_Kernel_Numbered #[.pointer (some ⟨b, 0, none⟩), .int .i64 n] Q H := by
  have hm1 := hv.ks.shape.many1
  apply class_Kernel_Numbered_ok
  unfold class_Kernel_Numbered
  unfold numberedK at h
  refine there_c hK ⟨_, rfl, ?_⟩
  simp only [Bool.not_true, cond_false]
  rw [locB]
  have hf1 : Fr [] H (H.push (.cells #[.pointer (some ⟨b, 0, none⟩)] 131)) := Fr.push _ _ _
  have hB := Blk.new H #[.pointer (some ⟨b, 0, none⟩)] 131
  refine ⟨Wr_push.2 (by simp), _, hB.cell 0, root_k (hK.nil hf1) fun H2 hf2 => ⟨_, rfl, ?_⟩⟩
  rw [hv.ks.root0, cond_dec]
  have hF2 := hf1.trans hf2
  refine ite_i (fun h1 => ?_) fun h1 => ?_
  · rw [dif_neg (by omega)] at h; exact h _ hF2
  have hB2 := hB.fr hf2 (by simp)
  refine ⟨_, hB2.cell 0, size_k (hK.nil hF2) fun H3 hf3 => ⟨_, rfl, ?_⟩⟩
  rw [hv.ks.size0, cond_dec]
  refine ite_i (fun h2 => ?_) fun h2 => ?_
  · rw [dif_neg (by omega)] at h; exact h _ (hF2.trans hf3)
  rw [dif_pos (by omega)] at h
  refine ⟨_, (hB2.fr hf3 (by simp)).cell 0, oop_k (hK.nil (hF2.trans hf3)) fun H4 hf4 => ⟨_, rfl, ?_⟩⟩
  have e : IntKind.wrap .i64 (n - 1) = ((n - 1).toNat : Nat) := by rw [wrap64_id (by omega) (by omega)]; omega
  rw [e, (hv.ks.clsAt (by omega)).2]
  exact h _ ((hF2.trans hf3).trans hf4)
theorem kfind_nil {name : ByteArray} (h : Q (.tuple #[.int .i64 0, .int .i64 2]) H) : callS PP n_class_Kernel_Find #[.pointer none, .string name] Q H := by
  apply class_Kernel_Find_ok
  unfold class_Kernel_Find
  exact there_nil ⟨_, rfl, h⟩
end
end Go.Proofs.YtmkdkplipbocjaaGreatDoor
set_option maxRecDepth 100000
namespace Go.Proofs.YtmkdkplipbocjaaGreatDoor
open Kw
section
variable {H : Heap} {b : Nat} {F : Foot} {s : SP} {t : TB} {v : KV} {Q : Value → Heap → Prop}
theorem globals_k (hK : PK H b F s t) (hv : KAll s t v) (h : ∀ a l c G H', Own 1 H' a l c (strsV (globsK v t)) G → Fr [] H H' → (∀ x ∈ G, H.size ≤ x) → Q (.slice a l c) H') : callS PP n_class_Kernel_Globals #[.pointer (some ⟨b, 0, none⟩)] Q H := by
  have hs1 : sliceInfo PP 37 = some (1, 16, some (.string (⟨#[]⟩ : ByteArray))) := by kernel_rfl
  have hg := hv.ks.shape.globs
  apply class_Kernel_Globals_ok
  unfold class_Kernel_Globals
  refine there_c hK ⟨_, rfl, ?_⟩
  simp only [Bool.not_true, cond_false]
  rw [locB]
  have hf1 : Fr [] H (H.push (.cells #[.pointer (some ⟨b, 0, none⟩)] 131)) := Fr.push _ _ _
  have hB := Blk.new H #[.pointer (some ⟨b, 0, none⟩)] 131
  refine ⟨Wr_push.2 (by simp), _, hB.cell 0, root_k (hK.nil hf1) fun H2 hf2 => ⟨_, rfl, ?_⟩⟩
  rw [hv.ks.root1]
  have hF2 := hf1.trans hf2
  have hB2 := hB.fr hf2 (by simp)
  refine ⟨_, hB2.cell 0, size_k (hK.nil hF2) fun H0 hf0 => ⟨_, rfl, ?_⟩⟩
  rw [hv.ks.size1]
  have hF0 := hF2.trans hf0
  have hB0 := hB2.fr hf0 (by simp)
  have ed : IntKind.wrap .i64 (Int.tdiv (2 * (v.glob.length : Int)) 2) = v.glob.length := by
    rw [show Int.tdiv (2 * (v.glob.length : Int)) 2 = v.glob.length by rw [Int.tdiv_eq_ediv_of_nonneg (by omega)]; omega]
    exact wrap64_id (by omega) (by omega)
  have hlen : (globsK v t).length = v.glob.length := by simp [globsK]
  refine ⟨fun w H' => ∃ (i : Nat) (a : Option Addr) (l' c : Nat) (G : Foot), w = [.slice a l' c, .int .i64 i] ∧ i ≤ v.glob.length ∧ Own 1 H' a l' c (strsV ((globsK v t).take i)) G ∧ Fr [] H0 H' ∧ (∀ x ∈ G, H0.size ≤ x), fun w _ => match w with
    | [_, .int _ i] => (v.glob.length - i).toNat
    | _ => 0, ⟨0, none, 0, 0, [], rfl, Nat.zero_le _, by simpa [strsV] using Own.nil 1 H0, Fr.refl _ _, by simp⟩, ?_⟩
  rintro w H1 ⟨i, a1, l1, c1, G, rfl, hi, ho, hf3, hG⟩ _
  have hl1 : l1 = i := by have := ho.len; simp only [strsV, List.length_map, List.length_take] at this; omega
  have hF1 : Fr [] H H1 := hF0.trans hf3
  refine ⟨_, _, _, _, rfl, ?_⟩
  rw [ed, cond_dec]
  refine ite_i (fun hlt => ?_) fun hlt => ?_
  · have hlt' : i < v.glob.length := by omega
    have htk : (globsK v t).take (i + 1) = (globsK v t).take i ++ [tx t v.glob[i].1] := by
      rw [List.take_add_one, List.getElem?_eq_getElem (by omega)]; simp [globsK]
    have e : IntKind.wrap .i64 ((i : Int) + 1) = ((i + 1 : Nat) : Int) := by rw [wrap64_id (by omega) (by omega)]; omega
    have e2 : IntKind.wrap .i64 (2 * (i : Int)) = ((2 * i : Nat) : Int) := by rw [wrap64_id (by omega) (by omega)]; omega
    rw [e2]
    refine ⟨_, (hB0.fr hf3 (by simp)).cell 0, text_k (hK.nil hF1) fun H2 hf4 => ⟨_, rfl, ?_⟩⟩
    rw [hv.gname hlt']
    refine evS_append1 hs1 rfl (by kernel_rfl) (ho.fr hf4 (by simp)) rfl (by simp [oneC]) (by omega) (by decide) (by decide) fun a' c' G2 H3 g1 g2 g3 => ⟨_, _, _, rfl, ?_⟩
    have hfr := Up.fresh (hf3.trans hf4) g2 hG
    rw [e]
    refine ⟨⟨i + 1, a', l1 + 1, c', G2, rfl, by omega, ?_, hfr.1, hfr.2⟩, by simp; omega⟩
    rw [htk, strsV_append]; exact g1
  · rw [List.take_of_length_le (by omega)] at ho
    exact h _ _ _ _ H1 ho hF1 fun x hx => Nat.le_trans hF0.1 (hG x hx)
theorem globals_nil (h : Q (.slice none 0 0) H) : callS PP n_class_Kernel_Globals #[.pointer none] Q H := by
  apply class_Kernel_Globals_ok
  unfold class_Kernel_Globals
  exact there_nil ⟨_, rfl, h⟩
theorem value_nil {n : Int} (h : Q (.tuple #[.int .i64 0, .int .i64 2]) H) : callS PP n_class_Kernel_Value #[.pointer none, .int .i64 n] Q H := by
  apply class_Kernel_Value_ok
  unfold class_Kernel_Value
  exact there_nil ⟨_, rfl, h⟩
theorem setValue_nil {n w : Int} (h : Q (.int .i64 2) H) : callS PP n_class_Kernel_SetValue #[.pointer none, .int .i64 n, .int .i64 w] Q H := by
  apply class_Kernel_SetValue_ok
  unfold class_Kernel_SetValue
  exact value_nil ⟨_, _, rfl, h⟩
end
end Go.Proofs.YtmkdkplipbocjaaGreatDoor
set_option maxRecDepth 100000
namespace Go.Proofs.YtmkdkplipbocjaaGreatDoor
open Kw
section
variable {H : Heap} {b : Nat} {F : Foot} {s : SP} {t : TB} {v : KV} {Q : Value → Heap → Prop}
theorem ktexts_own (hv : KAll s t v) {i : Nat} (hi : i < v.cls.length) : ktexts s.h t (v.cls[i]).ownA = (v.cls[i]).own.map (tx t) := by
  unfold ktexts
  rw [hv.ks.ownL hi, Int.toNat_natCast]
  apply List.ext_getElem (by simp)
  intro j h1 h2
  simp only [List.getElem_map, List.getElem_range]
  exact hv.ownT hi (by simpa using h2)
theorem fields_k (hv : KAll s t v) : ∀ (i : Nat) {H : Heap} {Q : Value → Heap → Prop} (hK : PK H b F s t) (hi : i < v.cls.length) (h : ∀ a l c G H', Own 1 H' a l c (strsV ((fieldsK v i).map (tx t))) G → Fr [] H H' → (∀ x ∈ G, H.size ≤ x) → Q (.slice a l c) H'), callS PP n_class_reader_fields #[rd b, .int .i64 (v.cls[i]).oop] Q H := by
  intro i
  induction i using Nat.strongRecOn with
  | ind i ih =>
    intro H Q hK hi h
    have hs1 : sliceInfo PP 37 = some (1, 16, some (.string (⟨#[]⟩ : ByteArray))) := by kernel_rfl
    have hm1 := hv.ks.shape.many1
    have hb := up_arr hv.ks hi
    have hfl := fields_len hv.ks i hi
    apply class_reader_fields_ok
    unfold class_reader_fields
    rw [beqI, cond_dec, if_neg (by omega)]
    have hf : Fr [] H (H.push (.cells #[.pointer (some ⟨b, 0, none⟩)] 131)) := Fr.push _ _ _
    have hB := Blk.new H #[.pointer (some ⟨b, 0, none⟩)] 131
    refine ⟨_, hB.cell 0, _, hB.cell 0, _, hB.cell 0, _, hB.cell 0, super_k (hK.nil hf) fun H1 hf1 => ⟨_, rfl, ?_⟩⟩
    have hB1 := hB.fr hf1 (by simp)
    have hF1 := hf.trans hf1
    refine ⟨⟨⟨hB1.cell 0, trivial⟩, ⟨hB1.cell 0, trivial⟩, ⟨hB1.cell 0, trivial⟩, trivial⟩, ?_⟩
    have es : (if koop s.h (v.cls[i]).oop 1 = 1 then 0 else koop s.h (v.cls[i]).oop 1) = superK v i := by
      rw [hv.ks.up hi]; unfold superK; rw [List.getElem?_eq_getElem hi]
    rw [es]
    -- what the superclass has
    have fin : ∀ (l : List Nat) (hl : fieldsK v i = l ++ (v.cls[i]).own) (a : Option Addr) (n c : Nat) (G : Foot) (H2 : Heap), Own 1 H2 a n c (strsV (l.map (tx t))) G → Fr [] H1 H2 → (∀ x ∈ G, H1.size ≤ x) →
        ∃ a10 l10 c10, Value.slice a n c = .slice a10 l10 c10 ∧ ((cellH H2 ⟨H.size, 0, none⟩ = some (.pointer (some ⟨b, 0, none⟩)) ∧ True) ∧ ((cellH H2 ⟨H.size, 0, none⟩ = some (.pointer (some ⟨b, 0, none⟩)) ∧ True) ∧ True)) ∧ callS PP n_class_reader_oop #[rd b, .int .i64 (v.cls[i]).oop, .int .i64 2] (fun v11 H3 => ∃ n12 : Int, v11 = .int .i64 n12 ∧ ((cellH H3 ⟨H.size, 0, none⟩ = some (.pointer (some ⟨b, 0, none⟩)) ∧ True) ∧ True) ∧ callS PP n_class_reader_texts #[rd b, .int .i64 n12] (fun v13 H4 => ∃ a14 : Option Addr, ∃ l14 : Nat, ∃ c14 : Nat, v13 = .slice a14 l14 c14 ∧ True ∧ evS PP (Builtin.append_ #[37, 37] 37 #[.slice a10 l10 c10, .slice a14 l14 c14]) (fun v15 H5 => ∃ a16 : Option Addr, ∃ l16 : Nat, ∃ c16 : Nat, v15 = .slice a16 l16 c16 ∧ True ∧ Q (.slice a16 l16 c16) H5) H4) H3) H2 := by
      intro l hl a n c G H2 ho hf2 hG
      have hB2 := hB1.fr hf2 (by simp)
      refine ⟨_, _, _, rfl, ⟨⟨hB2.cell 0, trivial⟩, ⟨hB2.cell 0, trivial⟩, trivial⟩, oop_k (hK.nil (hF1.trans hf2)) fun H3 hf3 => ⟨_, rfl, ⟨⟨(hB2.fr hf3 (by simp)).cell 0, trivial⟩, trivial⟩, ?_⟩⟩
      rw [hv.ks.ownO hi]
      refine texts_k (hK.nil ((hF1.trans hf2).trans hf3)) fun a3 l3 c3 G3 H4 ho3 hf4 hG3 => ⟨_, _, _, rfl, trivial, ?_⟩
      rw [ktexts_own hv hi] at ho3
      have hlen : n + l3 ≤ 8192 * (i + 1) := by
        have h1 := ho.len
        have h2 := ho3.len
        rw [hl, List.length_append] at hfl
        simp only [strsV, List.length_map] at h1 h2
        omega
      refine evS_append hs1 rfl (by kernel_rfl) (ho.fr (hf3.trans hf4) (by simp)) ho3.rd strsV_one (by omega) (by decide) (by decide) fun a' c' G4 H5 g1 g2 g3 => ⟨_, _, _, rfl, trivial, ?_⟩
      have hfr := Up.fresh ((hf2.trans hf3).trans hf4) g2 hG
      refine h _ _ _ G4 H5 ?_ (hF1.trans hfr.1) fun x hx => Nat.le_trans hF1.1 (hfr.2 x hx)
      rw [hl, List.map_append, strsV_append]; exact g1
    rcases hv.ks.upI hi with ⟨h0, e0, _⟩ | ⟨j, hj, hlt, e0, _, e⟩
    · rw [e0]
      show callS PP n_class_reader_fields #[rd b, .int .i64 0] _ H1
      apply class_reader_fields_ok
      unfold class_reader_fields
      simp only [show ((0 : Int) == 0) = true from rfl, cond_true]
      subst h0
      exact fin [] (by rw [hv.ks.fields0 hi]; rfl) none 0 0 [] _ (by simpa [strsV] using Own.nil 1 _) (Fr.push _ _ _) (by simp)
    · rw [e0]
      exact ih j hlt (hK.nil hF1) hj fun a n c G H2 ho hf2 hG => fin (fieldsK v j) (hv.ks.fieldsS hi hlt e) a n c G H2 ho hf2 hG
theorem kfields_k (hK : PK H b F s t) (hv : KAll s t v) {o : Int} (h1 : ∀ i, plK v o = some i → ∀ a l c G H', Own 1 H' a l c (strsV ((fieldsK v i).map (tx t))) G → Fr [] H H' → (∀ x ∈ G, H.size ≤ x) → Q (.tuple #[.slice a l c, .int .i64 0]) H')
    (h2 : plK v o = none → ∀ H', Fr [] H H' → Q (.tuple #[.slice none 0 0, .int .i64 130]) H') : callS PP n_class_Kernel_Fields #[.pointer (some ⟨b, 0, none⟩), .int .i64 o] Q H := by
  apply class_Kernel_Fields_ok
  unfold class_Kernel_Fields
  refine look_k hK hv (fun i hp H1 hf => ?_) fun hp H1 hf => ?_
  · refine ⟨_, _, rfl, Wr_push.2 (by simp), ?_⟩
    simp only [show ((0 : Int) != 0) = false from rfl, cond_false]
    rw [locB]
    have hf1 : Fr [] H1 (H1.push (.cells #[.pointer (some ⟨b, 0, none⟩)] 131)) := Fr.push _ _ _
    obtain ⟨hi, he⟩ := plK_some hp
    refine ⟨_, (Blk.new H1 _ _).cell 0, ?_⟩
    rw [← he]
    refine fields_k hv i (hK.nil (hf.trans hf1)) hi fun a l c G H2 ho hf2 hG => ⟨_, _, _, rfl, h1 i hp _ _ _ G H2 ho ((hf.trans hf1).trans hf2) fun x hx => Nat.le_trans (hf.trans hf1).1 (hG x hx)⟩
  · refine ⟨_, _, rfl, Wr_push.2 (by simp), ?_⟩
    simp only [show ((130 : Int) != 0) = true from rfl, cond_true]
    rw [locB]
    exact h2 hp _ hf.more
theorem under_k (hK : PK H b F s t) (hv : KAll s t v) {o : Int} (h1 : ∀ i, plK v o = some i → ∀ a l c G H', Own 1 H' a l c (intsV (underK v o)) G → Fr [] H H' → (∀ x ∈ G, H.size ≤ x) → Q (.slice a l c) H')
    (h2 : plK v o = none → ∀ H', Fr [] H H' → Q (.slice none 0 0) H') : callS PP n_class_Kernel_Under #[.pointer (some ⟨b, 0, none⟩), .int .i64 o] Q H := by
  have hs1 : sliceInfo PP 66 = some (1, 8, some (.int .i64 0)) := by kernel_rfl
  have hmi : mapInfo PP 236 = some (.int .i64, some (.bool false)) := by kernel_rfl
  have hm1 := hv.ks.shape.many1
  apply class_Kernel_Under_ok
  unfold class_Kernel_Under
  refine look_k hK hv (fun i hp H1 hf => ?_) fun hp H1 hf => ?_
  rotate_left
  · refine ⟨_, _, rfl, Wr_push.2 (by simp), ?_⟩
    simp only [show ((130 : Int) != 0) = true from rfl, cond_true]
    rw [locB]
    exact h2 hp _ hf.more
  refine ⟨_, _, rfl, Wr_push.2 (by simp), ?_⟩
  simp only [show ((0 : Int) != 0) = false from rfl, cond_false]
  rw [locB]
  have hf1 : Fr [] H1 (H1.push (.cells #[.pointer (some ⟨b, 0, none⟩)] 131)) := Fr.push _ _ _
  have hB := Blk.new H1 #[.pointer (some ⟨b, 0, none⟩)] 131
  have hF1 := hf.trans hf1
  refine ⟨_, hB.cell 0, root_k (hK.nil hF1) fun H2 hf2 => ⟨_, rfl, ?_⟩⟩
  rw [hv.ks.root0]
  have hB2 := hB.fr hf2 (by simp)
  have hF2 := hF1.trans hf2
  have ho0 : ∀ p ∈ ([] : List (Key × Value)), p.1.of (.int .i64) := by simp
  refine evS_mapUpdate (k := .int o) hmi trivial ho0 (MapAt.new H2) fun H3 hM3 hf3 => ?_
  have hm3 : ∀ x, setK ([] : List (Key × Value)) x (.bool true) = [(x, .bool true)] := fun x => rfl
  rw [hm3] at hM3
  have hfm : Fr [] H2 H3 := ⟨Nat.le_trans (by simp) hf3.1, fun x hx _ => by rw [hf3.2 x (by simp; omega) (by simp; omega), (Fr.push [] H2 (.map #[] 0)).2 x hx (by simp)]⟩
  have hB3 := hB2.fr hfm (by simp)
  have hF3 := hF2.trans hfm
  have hbl : H1.size < H2.size := hB2.lt
  refine ⟨_, hB3.cell 0, size_k (hK.nil hF3) fun H4 hf4 => ⟨_, rfl, ?_⟩⟩
  rw [hv.ks.size0]
  have hB4 := hB3.fr hf4 (by simp)
  have hM4 := hM3.fr hf4 (by simp)
  -- the loop
  let D : CV := ⟨0, 0, 0, [], 0, 0, 0, [], [], 0⟩
  let f : Nat → Bool := fun i => decide (Und v o (v.cls.getD i D).oop)
  let pre : Nat → List Int := fun n => ((List.range n).filter f).map fun i : Nat => (i : Int) + 1
  have hpre : ∀ n, pre (n + 1) = pre n ++ if f n then [(n : Int) + 1] else [] := by
    intro n
    simp only [pre, List.range_succ, List.filter_append, List.map_append]
    congr 1
    by_cases hfn : f n <;> simp [hfn]
  have hprel : ∀ n, (pre n).length ≤ n := fun n => by simp only [pre, List.length_map]; exact Nat.le_trans (List.length_filter_le _ _) (by simp)
  have hend : pre v.cls.length = underK v o := rfl
  -- the map's keys: the oop, and those classes that were found
  let okM : Nat → List (Key × Value) → Prop := fun n es => (∀ p ∈ es, p.1.of (.int .i64)) ∧ ∀ x : Int, (getK es (.int x)).getD (.bool false) = .bool (decide (x = o ∨ ∃ j, ∃ hj : j < v.cls.length, j < n ∧ (v.cls[j]).oop = x ∧ Und v o x))
  refine ⟨fun w H' => ∃ (i : Nat) (a : Option Addr) (l' c : Nat) (G : Foot) (es : List (Key × Value)), w = [.slice a l' c, .int .i64 i] ∧ i ≤ v.cls.length ∧ Own 1 H' a l' c (intsV (pre i)) G ∧ MapAt H' H2.size es ∧ okM i es ∧ Fr [] H2 H' ∧ (∀ x ∈ G, H2.size < x), fun w _ => match w with
    | [_, .int _ i] => (v.cls.length - i).toNat
    | _ => 0, ⟨0, none, 0, 0, [], _, rfl, Nat.zero_le _, by simpa [intsV, pre] using Own.nil 1 H4, hM4, ⟨by simp [Key.of], fun x => ?_⟩, hfm.trans hf4, by simp⟩, ?_⟩
  · unfold getK
    by_cases hx : x = o
    · subst hx; simp
    · rw [if_neg (by simpa using hx)]
      have : ¬ (x = o ∨ ∃ j, ∃ hj : j < v.cls.length, j < 0 ∧ (v.cls[j]).oop = x ∧ Und v o x) := by
        rintro (h | ⟨j, _, hj, _⟩)
        · exact hx h
        · omega
      rw [decide_eq_false this]; rfl
  rintro w H5 ⟨i, a1, l1, c1, G, es, rfl, hi, ho, hM, ⟨hok1, hok2⟩, hf5, hG⟩ _
  have hl1 : l1 ≤ i := by have h1 := ho.len; have h2 := hprel i; simp only [intsV, List.length_map] at h1; omega
  have hF5 := hF2.trans hf5
  have hB5 := hB2.fr hf5 (by simp)
  refine ⟨_, _, _, _, rfl, ?_⟩
  rw [cond_dec]
  refine ite_i (fun hlt => ?_) fun hlt => ?_
  rotate_left
  · have : i = v.cls.length := by omega
    subst this
    rw [hend] at ho
    exact h1 _ hp _ _ _ G H5 ho hF5 fun x hx => by have := hG x hx; have := hF2.1; omega
  have hlt' : i < v.cls.length := by omega
  have e : IntKind.wrap .i64 ((i : Int) + 1) = ((i + 1 : Nat) : Int) := by rw [wrap64_id (by omega) (by omega)]; omega
  have hgd : v.cls.getD i D = v.cls[i] := by simp [hlt']
  have hui := und_iff hv.ks (o := o) hlt'
  refine ⟨_, hB5.cell 0, oop_k (hK.nil hF5) fun H6 hf6 => ⟨_, rfl, ?_⟩⟩
  rw [(hv.ks.clsAt hlt').2]
  have hM6 := hM.fr hf6 (by simp)
  have hB6 := hB5.fr hf6 (by simp)
  have hF6 := hF5.trans hf6
  have hstep : ∀ x : Int, (x = o ∨ ∃ j, ∃ hj : j < v.cls.length, j < i + 1 ∧ (v.cls[j]).oop = x ∧ Und v o x) ↔ ((x = o ∨ ∃ j, ∃ hj : j < v.cls.length, j < i ∧ (v.cls[j]).oop = x ∧ Und v o x) ∨ ((v.cls[i]).oop = x ∧ Und v o x)) := by
    intro x
    constructor
    · rintro (h | ⟨j, hj, hji, h3, h4⟩)
      · exact .inl (.inl h)
      · by_cases hjj : j = i
        · subst hjj; exact .inr ⟨h3, h4⟩
        · exact .inl (.inr ⟨j, hj, by omega, h3, h4⟩)
    · rintro ((h | ⟨j, hj, hji, h3, h4⟩) | ⟨h3, h4⟩)
      · exact .inl h
      · exact .inr ⟨j, hj, by omega, h3, h4⟩
      · exact .inr ⟨i, hlt', by omega, h3, h4⟩
  -- what comes when it is one
  have yes : ∀ (hU : Und v o (v.cls[i]).oop) (H7 : Heap) (_ : MapAt H7 H2.size es) (_ : Fr [] H5 H7) {K : Value → Heap → Prop} (_ : ∀ a' n' c' G' es' H9, Own 1 H9 a' n' c' (intsV (pre (i + 1))) G' → MapAt H9 H2.size es' → okM (i + 1) es' → Fr [] H2 H9 → (∀ x ∈ G', H2.size < x) → K (.slice a' n' c') H9),
      evS PP (Instr.mapUpdate 236 (.map (some H2.size)) (.int .i64 (v.cls[i]).oop) (.bool true)) (fun _ H8 => evS PP (Builtin.append_ #[66, 66] 66 #[.slice a1 l1 c1, .slice (some (⟨H8.size, 0, none⟩ : Addr)) 1 1]) K (H8.push (.cells #[.int .i64 (IntKind.wrap .i64 ((i : Int) + 1))] 3))) H7 := by
    intro hU H7 hM7 hf7 K hk
    refine evS_mapUpdate (k := .int (v.cls[i]).oop) hmi trivial hok1 hM7 fun H8 hM8 hf8 => ?_
    have hnG : H2.size ∉ G := fun hm => by have := hG _ hm; omega
    have ho8 : Own 1 H8 a1 l1 c1 (intsV (pre i)) G := (ho.fr hf7 (by simp)).fr hf8 (fun x hx hn => by simp only [List.mem_singleton] at hn; subst hn; exact hnG hx)
    refine evS_append1 hs1 rfl (by kernel_rfl) ho8 rfl (by simp [oneC]) (by omega) (by decide) (by decide) fun a' c' G2 H9 g1 g2 g3 => ?_
    have hsz : H2.size < H8.size := by have := hM7.lt; have := hf8.1; omega
    have hnG2 : H2.size ∉ G2 := fun hm => by
      rcases g2.2 _ hm with h3 | h3
      · exact hnG h3
      · omega
    refine hk _ _ _ G2 _ H9 ?_ (hM8.fr g2.1 hnG) ⟨?_, fun x => ?_⟩ ?_ ?_
    · have hfi : f i = true := by simp only [f, hgd]; simpa using hU
      rw [hpre, hfi, e] at *
      simp only [if_pos, intsV_append]
      exact g1
    · intro p hp
      have : ∀ (es : List (Key × Value)), (∀ p ∈ es, p.1.of (.int .i64)) → ∀ p ∈ setK es (.int (v.cls[i]).oop) (.bool true), p.1.of (.int .i64) := by
        intro es
        induction es with
        | nil => intro _ p hp; simp [setK] at hp; subst hp; trivial
        | cons q es ih =>
          intro hes p hp
          unfold setK at hp
          split at hp
          · rcases List.mem_cons.1 hp with rfl | hp
            · trivial
            · exact hes p (by simp [hp])
          · rcases List.mem_cons.1 hp with rfl | hp
            · exact hes _ (by simp)
            · exact ih (fun p hp => hes p (by simp [hp])) p hp
      exact this es hok1 p hp
    · rw [getK_setK]
      by_cases hx : x = (v.cls[i]).oop
      · subst hx
        rw [if_pos rfl]
        have : (v.cls[i]).oop = o ∨ ∃ j, ∃ hj : j < v.cls.length, j < i + 1 ∧ (v.cls[j]).oop = (v.cls[i]).oop ∧ Und v o (v.cls[i]).oop := .inr ⟨i, hlt', by omega, rfl, hU⟩
        rw [decide_eq_true this]; rfl
      · rw [if_neg (by simpa using hx), hok2 x]
        congr 1
        rw [decide_eq_decide, hstep x]
        constructor
        · exact .inl
        · rintro (h | ⟨h, _⟩)
          · exact h
          · exact absurd h.symm hx
    · have hfx : Fr [] H2 H8 := ⟨Nat.le_of_lt hsz, fun x hx _ => by rw [hf8.2 x (by have := hf7.1; have := hf5.1; omega) (by simp; omega), hf7.2 x (by have := hf5.1; omega) (by simp), hf5.2 x hx (by simp)]⟩
      exact ⟨Nat.le_trans hfx.1 g2.1.1, fun x hx hn => by rw [g2.1.2 x (by omega) (fun hm => by have := hG _ hm; omega), hfx.2 x hx hn]⟩
    · intro x hx
      rcases g2.2 x hx with h3 | h3
      · exact hG x h3
      · omega
  refine evS_lookup (k := .int (v.cls[i]).oop) hmi trivial hok1 hM6 ?_
  simp only [Bool.false_eq_true, if_false]
  rw [hok2]
  refine ⟨_, rfl, ?_⟩
  rw [cond_dec]
  refine ite_i (fun hin => ?_) fun hin => ?_
  · have hU : Und v o (v.cls[i]).oop := by
      rcases hin with h | ⟨_, _, _, _, h⟩
      · rw [h]; exact .self
      · exact h
    refine yes hU H6 hM6 hf6 fun a' n' c' G' es' H9 g1 g2 g3 g4 g5 => ⟨_, _, _, rfl, ?_⟩
    rw [e]
    exact ⟨⟨i + 1, a', n', c', G', es', rfl, by omega, g1, g2, g3, g4, g5⟩, by simp; omega⟩
  · refine ⟨_, hB6.cell 0, super_k (hK.nil hF6) fun H7 hf7 => ⟨_, rfl, ?_⟩⟩
    have es' : (if koop s.h (v.cls[i]).oop 1 = 1 then 0 else koop s.h (v.cls[i]).oop 1) = superK v i := by
      rw [hv.ks.up hlt']; unfold superK; rw [List.getElem?_eq_getElem hlt']
    rw [es']
    refine evS_lookup (k := .int (superK v i)) hmi trivial hok1 (hM6.fr hf7 (by simp)) ?_
    simp only [Bool.false_eq_true, if_false]
    rw [hok2]
    refine ⟨_, rfl, ?_⟩
    rw [cond_dec]
    have hsup : (superK v i = o ∨ ∃ j, ∃ hj : j < v.cls.length, j < i ∧ (v.cls[j]).oop = superK v i ∧ Und v o (superK v i)) ↔ (superK v i ≠ 0 ∧ Und v o (superK v i)) := by
      obtain ⟨hpi, hpe⟩ := plK_some hp
      have ho1 := (up_arr hv.ks hpi).1
      rw [hpe] at ho1
      constructor
      · rintro (h | ⟨j, hj, _, h3, h4⟩)
        · rw [h]; exact ⟨by omega, .self⟩
        · have := (up_arr hv.ks hj).1
          exact ⟨by omega, h4⟩
      · rintro ⟨h3, h4⟩
        rcases hv.ks.upI hlt' with ⟨_, h5, _⟩ | ⟨j, hj, hji, h5, _, _⟩
        · exact absurd h5 h3
        · exact .inr ⟨j, hj, hji, h5.symm, h4⟩
    refine ite_i (fun hin2 => ?_) fun hin2 => ?_
    · have hU : Und v o (v.cls[i]).oop := hui.2 (.inr (hsup.1 hin2))
      refine yes hU H7 (hM6.fr hf7 (by simp)) (hf6.trans hf7) fun a' n' c' G' es' H9 g1 g2 g3 g4 g5 => ⟨_, _, _, rfl, ?_⟩
      rw [e]
      exact ⟨⟨i + 1, a', n', c', G', es', rfl, by omega, g1, g2, g3, g4, g5⟩, by simp; omega⟩
    · have hnU : ¬ Und v o (v.cls[i]).oop := fun hU => by
        rcases hui.1 hU with h | h
        · exact hin (.inl h)
        · exact hin2 (hsup.2 h)
      have hfi : f i = false := by simp only [f, hgd]; simpa using hnU
      rw [e]
      have hf67 := hf6.trans hf7
      refine ⟨⟨i + 1, a1, l1, c1, G, es, rfl, by omega, ?_, hM.fr hf67 (by simp), ⟨hok1, fun x => ?_⟩, hf5.trans hf67, hG⟩, by simp; omega⟩
      · rw [hpre, hfi]
        simpa using ho.fr hf67 (by simp)
      · rw [hok2 x]
        congr 1
        rw [decide_eq_decide, hstep x]
        constructor
        · exact .inl
        · rintro (h | ⟨h, h'⟩)
          · exact h
          · rw [← h] at h'; exact absurd h' hnU
end
end Go.Proofs.YtmkdkplipbocjaaGreatDoor
set_option maxRecDepth 100000
set_option maxHeartbeats 1000000
namespace Go.Proofs.YtmkdkplipbocjaaGreatDoor
open Kw
/-- The last steps of Info: the data are copied to where the answer is. -/
abbrev infoTail (R0 LC : Addr) (Q : Value → Heap → Prop) (H6 : Heap) : Prop :=
  ∃ s36 : ByteArray, cellH H6 LC = some (.string s36) ∧ ∃ s37 : ByteArray, cellH H6 (LC.add 1) = some (.string s37) ∧ ∃ a38 : Option Addr, ∃ l38 : Nat, ∃ c38 : Nat, cellH H6 (LC.add 2) = some (.slice a38 l38 c38) ∧ ∃ n39 : Int, cellH H6 (LC.add 3) = some (.int .i64 n39) ∧
  Wr H6 R0 ∧ Wr (setH H6 R0 (.string s36)) (R0.add 1) ∧ Wr (setH (setH H6 R0 (.string s36)) (R0.add 1) (.string s37)) (R0.add 2) ∧ Wr (setH (setH (setH H6 R0 (.string s36)) (R0.add 1) (.string s37)) (R0.add 2) (.slice a38 l38 c38)) (R0.add 3) ∧
  ∃ s40 : ByteArray, cellH (setH (setH (setH (setH H6 R0 (.string s36)) (R0.add 1) (.string s37)) (R0.add 2) (.slice a38 l38 c38)) (R0.add 3) (.int .i64 n39)) R0 = some (.string s40) ∧
  ∃ s41 : ByteArray, cellH (setH (setH (setH (setH H6 R0 (.string s36)) (R0.add 1) (.string s37)) (R0.add 2) (.slice a38 l38 c38)) (R0.add 3) (.int .i64 n39)) (R0.add 1) = some (.string s41) ∧
  ∃ a42 : Option Addr, ∃ l42 : Nat, ∃ c42 : Nat, cellH (setH (setH (setH (setH H6 R0 (.string s36)) (R0.add 1) (.string s37)) (R0.add 2) (.slice a38 l38 c38)) (R0.add 3) (.int .i64 n39)) (R0.add 2) = some (.slice a42 l42 c42) ∧
  ∃ n43 : Int, cellH (setH (setH (setH (setH H6 R0 (.string s36)) (R0.add 1) (.string s37)) (R0.add 2) (.slice a38 l38 c38)) (R0.add 3) (.int .i64 n39)) (R0.add 3) = some (.int .i64 n43) ∧
  Q (.tuple #[.agg #[.string s40, .string s41, .slice a42 l42 c42, .int .i64 n43], .int .i64 0]) (setH (setH (setH (setH H6 R0 (.string s36)) (R0.add 1) (.string s37)) (R0.add 2) (.slice a38 l38 c38)) (R0.add 3) (.int .i64 n39))
abbrev infoMid (R0 LC RD : Addr) (o : Int) (Q : Value → Heap → Prop) (H : Heap) : Prop :=
  ∃ p22 : Option Addr, cellH H RD = some (.pointer p22) ∧ callS PP n_class_reader_super #[.agg #[.pointer p22], .int .i64 o] (fun v23 H6 => ∃ n24 : Int, v23 = .int .i64 n24 ∧ cond (decide (n24 > 0)) (∃ p25 : Option Addr, cellH H6 RD = some (.pointer p25) ∧
    callS PP n_class_reader_text #[.agg #[.pointer p25], .int .i64 n24, .int .i64 0] (fun v26 H7 => ∃ s27 : ByteArray, v26 = .string s27 ∧ Wr H7 (LC.add 1) ∧ infoTail R0 LC Q (setH H7 (LC.add 1) (.string s27))) H6) (infoTail R0 LC Q H6)) H
section
variable {H : Heap} {b : Nat} {F : Foot} {s : SP} {t : TB} {v : KV} {Q : Value → Heap → Prop}
theorem info_tail {r0 lc : Nat} {nm sup : ByteArray} {a : Option Addr} {l c : Nat} {ly : Int} {cs : Array Value} (hLC : Blk H lc #[.string nm, .string sup, .slice a l c, .int .i64 ly]) (hR0 : Blk H r0 cs) (hsz : cs.size = 4)
    (h : ∀ H', Fr [r0] H H' → Q (.tuple #[.agg #[.string nm, .string sup, .slice a l c, .int .i64 ly], .int .i64 0]) H') : infoTail ⟨r0, 0, none⟩ ⟨lc, 0, none⟩ Q H := by
  obtain ⟨x0, x1, x2, x3, rfl⟩ : ∃ x0 x1 x2 x3, cs = #[x0, x1, x2, x3] := by
    obtain ⟨l⟩ := cs
    match l, hsz with
    | [x0, x1, x2, x3], _ => exact ⟨_, _, _, _, rfl⟩
  obtain ⟨w0, w1, w2, w3, hB, hf⟩ := st4 hR0 (o := 0) (by omega) (.string nm) (.string sup) (.slice a l c) (.int .i64 ly)
  exact ⟨_, hLC.cell 0, _, hLC.cell 1, _, _, _, hLC.cell 2, _, hLC.cell 3, w0, w1, w2, w3, _, hB.cell 0, _, hB.cell 1, _, _, _, hB.cell 2, _, hB.cell 3, h _ hf⟩
theorem info_mid {r0 lc rb : Nat} {nm : ByteArray} {a : Option Addr} {l c : Nat} {ly : Int} {cs : Array Value} (hK : PK H b F s t) (hv : KAll s t v) {i : Nat} (hi : i < v.cls.length) (hLC : Blk H lc #[.string nm, .string ⟨#[]⟩, .slice a l c, .int .i64 ly]) (hRD : Blk H rb #[.pointer (some ⟨b, 0, none⟩)]) (hR0 : Blk H r0 cs) (hsz : cs.size = 4) (hne : lc ≠ r0)
    (h : ∀ H', Fr [lc, r0] H H' → Q (.tuple #[.agg #[.string nm, .string (infoK v t i).sup, .slice a l c, .int .i64 ly], .int .i64 0]) H') : infoMid ⟨r0, 0, none⟩ ⟨lc, 0, none⟩ ⟨rb, 0, none⟩ (v.cls[i]).oop Q H := by
  refine ⟨_, hRD.cell 0, super_k hK fun H6 hf6 => ⟨_, rfl, ?_⟩⟩
  have es : (if koop s.h (v.cls[i]).oop 1 = 1 then 0 else koop s.h (v.cls[i]).oop 1) = superK v i := by
    rw [hv.ks.up hi]; unfold superK; rw [List.getElem?_eq_getElem hi]
  rw [es]
  rw [cond_dec]
  have hsup : (infoK v t i).sup = match upIdx v i with
    | some j => match v.cls[j]? with
      | some d => tx t d.name
      | none => ⟨#[]⟩
    | none => ⟨#[]⟩ := by unfold infoK; rw [List.getElem?_eq_getElem hi] <;> rfl
  rcases hv.ks.upI hi with ⟨_, e0, e1⟩ | ⟨j, hj, hlt, e0, _, e1⟩
  · rw [e1] at hsup
    simp only at hsup
    rw [e0, if_neg (by decide)]
    rw [hsup] at h
    exact info_tail (hLC.fr hf6 (by simp)) (hR0.fr hf6 (by simp)) hsz fun H' hf => h H' ((hf6.of_nil).trans (hf.mono (by simp)))
  · rw [e1] at hsup
    simp only [List.getElem?_eq_getElem hj] at hsup
    have hb := (up_arr hv.ks hj).1
    rw [e0, if_pos (by omega)]
    refine ⟨_, (hRD.fr hf6 (by simp)).cell 0, text_k (hK.nil hf6) fun H7 hf7 => ⟨_, rfl, ?_⟩⟩
    have hL7 := (hLC.fr hf6 (by simp)).fr hf7 (by simp)
    rw [hv.name hj, ← hsup]
    refine ⟨hL7.wr (o := 1) (by simp), ?_⟩
    have hfl : Fr [lc] H7 (setH H7 ⟨lc, 1, none⟩ (.string (infoK v t i).sup)) := Fr.set (by simp)
    exact info_tail (hL7.set 1 (.string (infoK v t i).sup)) (((hR0.fr hf6 (by simp)).fr hf7 (by simp)).fr hfl (by simpa using Ne.symm hne)) hsz fun H' hf => h H' ((((hf6.trans hf7).of_nil).trans (hfl.mono (by simp))).trans (hf.mono (by simp)))
theorem kinfo_k (hK : PK H b F s t) (hv : KAll s t v) {o : Int} (h1 : ∀ i, plK v o = some i → ∀ a l c G H', Own 1 H' a l c (strsV (infoK v t i).own) G → Fr [] H H' → (∀ x ∈ G, H.size ≤ x) → Q (.tuple #[.agg #[.string (infoK v t i).name, .string (infoK v t i).sup, .slice a l c, .int .i64 (infoK v t i).lay], .int .i64 0]) H')
    (h2 : plK v o = none → ∀ H', Fr [] H H' → Q (.tuple #[.agg #[.string ⟨#[]⟩, .string ⟨#[]⟩, .slice none 0 0, .int .i64 0], .int .i64 130]) H') : callS PP n_class_Kernel_Info #[.pointer (some ⟨b, 0, none⟩), .int .i64 o] Q H := by
  apply class_Kernel_Info_ok
  unfold class_Kernel_Info
  have hf0 : Fr [] H (H.push (.cells #[.string (⟨#[]⟩ : ByteArray), .string (⟨#[]⟩ : ByteArray), .slice none 0 0, .int .i64 0] 121)) := Fr.push _ _ _
  have hR0 := Blk.new H #[.string (⟨#[]⟩ : ByteArray), .string (⟨#[]⟩ : ByteArray), .slice none 0 0, .int .i64 0] 121
  have hK0 := hK.nil hf0
  generalize (H.push (.cells #[.string (⟨#[]⟩ : ByteArray), .string (⟨#[]⟩ : ByteArray), .slice none 0 0, .int .i64 0] 121)) = H0 at hf0 hR0 hK0 ⊢
  refine look_k hK0 hv (fun i hp H1 hf1 => ?_) fun hp H1 hf1 => ?_
  rotate_left
  · refine ⟨_, _, rfl, Wr_push.2 (by simp), ?_⟩
    simp only [show ((130 : Int) != 0) = true from rfl, cond_true]
    rw [locB]
    have hf2 : Fr [] H1 (H1.push (.cells #[.pointer none] 131)) := Fr.push _ _ _
    have hR2 := (hR0.fr hf1 (by simp)).fr hf2 (by simp)
    obtain ⟨w0, w1, w2, w3, hB, hf⟩ := st4 hR2 (o := 0) (by simp) (.string ⟨#[]⟩) (.string ⟨#[]⟩) (.slice none 0 0) (.int .i64 0)
    refine ⟨w0, w1, w2, w3, _, hB.cell 0, _, hB.cell 1, _, _, _, hB.cell 2, _, hB.cell 3, h2 hp _ ?_⟩
    exact (Up.fresh ((hf0.trans hf1).trans hf2) (F := [H.size]) (F' := [H.size]) ⟨hf, fun _ h => .inl h⟩ (by simp)).1
  refine ⟨_, _, rfl, Wr_push.2 (by simp), ?_⟩
  simp only [show ((0 : Int) != 0) = false from rfl, cond_false]
  rw [locB]
  have hfr : Fr [] H1 (H1.push (.cells #[.pointer (some ⟨b, 0, none⟩)] 131)) := Fr.push _ _ _
  have hRD := Blk.new H1 #[.pointer (some ⟨b, 0, none⟩)] 131
  have hR1 := (hR0.fr hf1 (by simp)).fr hfr (by simp)
  have hF1 := (hf0.trans hf1).trans hfr
  have hK1 := hK.nil hF1
  have hlt1 : H.size < H1.size := (hR0.fr hf1 (by simp)).lt
  generalize (H1.push (.cells #[.pointer (some ⟨b, 0, none⟩)] 131)) = HR at hfr hRD hR1 hF1 hK1 ⊢
  obtain ⟨hi, rfl⟩ := plK_some hp
  have hI : infoK v t i = ⟨tx t (v.cls[i]).name, (infoK v t i).sup, (v.cls[i]).own.map (tx t), (v.cls[i]).lay⟩ := by
    unfold infoK; rw [List.getElem?_eq_getElem hi]
  have en : (infoK v t i).name = tx t (v.cls[i]).name := by rw [hI]
  have eo : (infoK v t i).own = (v.cls[i]).own.map (tx t) := by rw [hI]
  have el : (infoK v t i).lay = (v.cls[i]).lay := by rw [hI]
  have hq := h1 i hp
  rw [en, eo, el] at hq
  -- the end, wherever the local stands
  have fin : ∀ (H9 : Heap) (lc : Nat) (a : Option Addr) (l c : Nat) (G : Foot), Fr [] HR H9 → Blk H9 lc #[.string ⟨#[]⟩, .string ⟨#[]⟩, .slice none 0 0, .int .i64 0] → HR.size ≤ lc → Own 1 H9 a l c (strsV ((v.cls[i]).own.map (tx t))) G → (∀ x ∈ G, HR.size ≤ x) → lc ∉ G →
      Wr H9 ⟨lc, 0, none⟩ ∧ Wr (setH H9 ⟨lc, 0, none⟩ (.string (tx t (v.cls[i]).name))) ⟨lc, 1, none⟩ ∧ Wr (setH (setH H9 ⟨lc, 0, none⟩ (.string (tx t (v.cls[i]).name))) ⟨lc, 1, none⟩ (.string ⟨#[]⟩)) ⟨lc, 2, none⟩ ∧ Wr (setH (setH (setH H9 ⟨lc, 0, none⟩ (.string (tx t (v.cls[i]).name))) ⟨lc, 1, none⟩ (.string ⟨#[]⟩)) ⟨lc, 2, none⟩ (.slice a l c)) ⟨lc, 3, none⟩ ∧ True ∧
      infoMid ⟨H.size, 0, none⟩ ⟨lc, 0, none⟩ ⟨H1.size, 0, none⟩ (v.cls[i]).oop Q (setH (setH (setH (setH H9 ⟨lc, 0, none⟩ (.string (tx t (v.cls[i]).name))) ⟨lc, 1, none⟩ (.string ⟨#[]⟩)) ⟨lc, 2, none⟩ (.slice a l c)) ⟨lc, 3, none⟩ (.int .i64 (v.cls[i]).lay)) := by
    intro H9 lc a l c G hf9 hL hlc ho hG hn
    obtain ⟨w0, w1, w2, w3, hB, hf⟩ := st4 hL (o := 0) (by simp) (.string (tx t (v.cls[i]).name)) (.string ⟨#[]⟩) (.slice a l c) (.int .i64 (v.cls[i]).lay)
    have hlR : H1.size < HR.size := hRD.lt
    refine ⟨w0, w1, w2, w3, trivial, info_mid (F := F) ?_ hv hi hB ((hRD.fr hf9 (by simp)).fr hf (by simp; omega)) ((hR1.fr hf9 (by simp)).fr hf (by simp; omega)) (by simp) (by omega) fun H' hf' => ?_⟩
    · have := Up.fresh (hF1.trans hf9) (F := [lc]) (F' := [lc]) ⟨hf, fun _ h => .inl h⟩ (by have := hF1.1; simp; omega)
      exact hK.nil this.1
    · have hall : Fr [lc, H.size] H9 H' := (hf.mono (by simp)).trans hf'
      have := Up.fresh (hF1.trans hf9) (F := [lc, H.size]) (F' := [lc, H.size]) ⟨hall, fun _ h => .inl h⟩ (by have := hF1.1; simp; omega)
      refine hq a l c G H' (ho.fr hall fun x hx hm => ?_) this.1 fun x hx => Nat.le_trans hF1.1 (hG x hx)
      simp only [List.mem_cons, List.not_mem_nil, or_false] at hm
      rcases hm with rfl | rfl
      · exact hn hx
      · have := hG _ hx; omega
  have rdc : ∀ {H9 : Heap}, Fr [] HR H9 → cellH H9 ⟨H1.size, 0, none⟩ = some (.pointer (some ⟨b, 0, none⟩)) := fun hf => (hRD.fr hf (by simp)).cell 0
  have r0 := rdc (Fr.refl [] HR)
  have eown := ktexts_own hv hi
  have eoo := hv.ks.ownO hi
  have eln := hv.ks.layN hi
  have enm := hv.name hi
  refine ⟨_, r0, _, r0, _, r0, _, r0, ?_, ?_⟩
  · refine text_k hK1 fun H2 f2 => ⟨_, rfl, ⟨⟨rdc f2, trivial⟩, ⟨rdc f2, trivial⟩, ⟨rdc f2, trivial⟩, trivial⟩, ?_, ?_⟩
    · refine oop_k (hK1.nil f2) fun H3 f3 => ?_
      have F3 := f2.trans f3
      refine ⟨_, rfl, ⟨⟨rdc F3, trivial⟩, ⟨rdc F3, trivial⟩, trivial⟩, ?_, ?_⟩
      · rw [eoo]
        refine texts_k (hK1.nil F3) fun a l c G H4 ho f4 hG => ?_
        have F4 := F3.trans f4
        rw [eown] at ho
        have hG' : ∀ x ∈ G, HR.size ≤ x := fun x hx => Nat.le_trans F3.1 (hG x hx)
        refine ⟨_, _, _, rfl, ⟨⟨rdc F4, trivial⟩, trivial⟩, ?_, ?_⟩
        · refine num_k (hK1.nil F4) fun H5 f5 => ⟨_, rfl, trivial, trivial, ?_⟩
          rw [enm, eln]
          have F5 := F4.trans f5
          have fp : Fr [] H5 (H5.push (.cells #[.string (⟨#[]⟩ : ByteArray), .string (⟨#[]⟩ : ByteArray), .slice none 0 0, .int .i64 0] 121)) := Fr.push _ _ _
          exact fin _ H5.size a l c G (F5.trans fp) (Blk.new _ _ _) F5.1 (ho.fr (f5.trans fp) (by simp)) hG' fun hm => by have := (ho.fr f5 (by simp)).lt _ hm; omega
        · have fp : Fr [] H4 (H4.push (.cells #[.string (⟨#[]⟩ : ByteArray), .string (⟨#[]⟩ : ByteArray), .slice none 0 0, .int .i64 0] 121)) := Fr.push _ _ _
          have F5 := F4.trans fp
          refine ⟨⟨⟨rdc F5, trivial⟩, trivial⟩, num_k (hK1.nil F5) fun H5 f5 => ⟨_, rfl, trivial, ?_⟩⟩
          rw [enm, eln]
          exact fin _ H4.size a l c G (F5.trans f5) ((Blk.new _ _ _).fr f5 (by simp)) F4.1 (ho.fr (fp.trans f5) (by simp)) hG' fun hm => by have := ho.lt _ hm; omega
      · have fp : Fr [] H3 (H3.push (.cells #[.string (⟨#[]⟩ : ByteArray), .string (⟨#[]⟩ : ByteArray), .slice none 0 0, .int .i64 0] 121)) := Fr.push _ _ _
        have F4 := F3.trans fp
        have hL := Blk.new H3 #[.string (⟨#[]⟩ : ByteArray), .string (⟨#[]⟩ : ByteArray), .slice none 0 0, .int .i64 0] 121
        refine ⟨⟨⟨rdc F4, trivial⟩, ⟨rdc F4, trivial⟩, trivial⟩, ?_⟩
        rw [eoo]
        refine texts_k (hK1.nil F4) fun a l c G H5 ho f5 hG => ⟨_, _, _, rfl, ⟨⟨rdc (F4.trans f5), trivial⟩, trivial⟩, num_k (hK1.nil (F4.trans f5)) fun H6 f6 => ⟨_, rfl, trivial, ?_⟩⟩
        rw [eown] at ho
        rw [enm, eln]
        exact fin _ H3.size a l c G ((F4.trans f5).trans f6) ((hL.fr f5 (by simp)).fr f6 (by simp)) F3.1 (ho.fr f6 (by simp)) (fun x hx => Nat.le_trans F4.1 (hG x hx)) fun hm => by have := hG _ hm; have := hL.lt; omega
    · have fp : Fr [] H2 (H2.push (.cells #[.string (⟨#[]⟩ : ByteArray), .string (⟨#[]⟩ : ByteArray), .slice none 0 0, .int .i64 0] 121)) := Fr.push _ _ _
      have F3 := f2.trans fp
      have hL := Blk.new H2 #[.string (⟨#[]⟩ : ByteArray), .string (⟨#[]⟩ : ByteArray), .slice none 0 0, .int .i64 0] 121
      refine ⟨⟨⟨rdc F3, trivial⟩, ⟨rdc F3, trivial⟩, ⟨rdc F3, trivial⟩, trivial⟩, oop_k (hK1.nil F3) fun H4 f4 => ?_⟩
      have F4 := F3.trans f4
      refine ⟨_, rfl, ⟨⟨rdc F4, trivial⟩, ⟨rdc F4, trivial⟩, trivial⟩, ?_⟩
      rw [eoo]
      refine texts_k (hK1.nil F4) fun a l c G H5 ho f5 hG => ⟨_, _, _, rfl, ⟨⟨rdc (F4.trans f5), trivial⟩, trivial⟩, num_k (hK1.nil (F4.trans f5)) fun H6 f6 => ⟨_, rfl, trivial, ?_⟩⟩
      rw [eown] at ho
      rw [enm, eln]
      exact fin _ H2.size a l c G ((F4.trans f5).trans f6) (((hL.fr f4 (by simp)).fr f5 (by simp)).fr f6 (by simp)) f2.1 (ho.fr f6 (by simp)) (fun x hx => Nat.le_trans F4.1 (hG x hx)) fun hm => by have := hG _ hm; have := (hL.fr f4 (by simp)).lt; omega
  · have fp : Fr [] HR (HR.push (.cells #[.string (⟨#[]⟩ : ByteArray), .string (⟨#[]⟩ : ByteArray), .slice none 0 0, .int .i64 0] 121)) := Fr.push _ _ _
    have hL := Blk.new HR #[.string (⟨#[]⟩ : ByteArray), .string (⟨#[]⟩ : ByteArray), .slice none 0 0, .int .i64 0] 121
    refine ⟨⟨⟨rdc fp, trivial⟩, ⟨rdc fp, trivial⟩, ⟨rdc fp, trivial⟩, ⟨rdc fp, trivial⟩, trivial⟩, text_k (hK1.nil fp) fun H2 f2 => ?_⟩
    have F2 := fp.trans f2
    refine ⟨_, rfl, ⟨⟨rdc F2, trivial⟩, ⟨rdc F2, trivial⟩, ⟨rdc F2, trivial⟩, trivial⟩, oop_k (hK1.nil F2) fun H4 f4 => ?_⟩
    have F4 := F2.trans f4
    refine ⟨_, rfl, ⟨⟨rdc F4, trivial⟩, ⟨rdc F4, trivial⟩, trivial⟩, ?_⟩
    rw [eoo]
    refine texts_k (hK1.nil F4) fun a l c G H5 ho f5 hG => ⟨_, _, _, rfl, ⟨⟨rdc (F4.trans f5), trivial⟩, trivial⟩, num_k (hK1.nil (F4.trans f5)) fun H6 f6 => ⟨_, rfl, trivial, ?_⟩⟩
    rw [eown] at ho
    rw [enm, eln]
    exact fin _ HR.size a l c G ((F4.trans f5).trans f6) ((((hL.fr f2 (by simp)).fr f4 (by simp)).fr f5 (by simp)).fr f6 (by simp)) (Nat.le_refl _) (ho.fr f6 (by simp)) (fun x hx => Nat.le_trans F4.1 (hG x hx)) fun hm => by have := hG _ hm; have := ((hL.fr f2 (by simp)).fr f4 (by simp)).lt; omega
/-- No kernel. -/
theorem look_nil {o : Int} (h : ∀ H', Fr [] H H' → Q (.tuple #[.agg #[.pointer none], .int .i64 2]) H') : callS PP n_class_Kernel_look #[.pointer none, .int .i64 o] Q H := by
  apply class_Kernel_look_ok
  unfold class_Kernel_look
  have hf : Fr [] H (H.push (.cells #[.pointer none] 131)) := Fr.push _ _ _
  have hB := Blk.new H #[.pointer none] 131
  refine there_nil ⟨_, rfl, ?_⟩
  simp only [Bool.not_false, cond_true]
  exact ⟨hB.wr (by simp), _, (hB.set 0 _).cell 0, h _ (Fr.late hf (Nat.le_refl _))⟩
theorem kinfo_nil {o : Int} (h : ∀ H', Fr [] H H' → Q (.tuple #[.agg #[.string ⟨#[]⟩, .string ⟨#[]⟩, .slice none 0 0, .int .i64 0], .int .i64 2]) H') : callS PP n_class_Kernel_Info #[.pointer none, .int .i64 o] Q H := by
  apply class_Kernel_Info_ok
  unfold class_Kernel_Info
  have hf0 : Fr [] H (H.push (.cells #[.string (⟨#[]⟩ : ByteArray), .string (⟨#[]⟩ : ByteArray), .slice none 0 0, .int .i64 0] 121)) := Fr.push _ _ _
  have hR0 := Blk.new H #[.string (⟨#[]⟩ : ByteArray), .string (⟨#[]⟩ : ByteArray), .slice none 0 0, .int .i64 0] 121
  generalize (H.push (.cells #[.string (⟨#[]⟩ : ByteArray), .string (⟨#[]⟩ : ByteArray), .slice none 0 0, .int .i64 0] 121)) = H0 at hf0 hR0 ⊢
  refine look_nil fun H1 hf1 => ?_
  refine ⟨_, _, rfl, Wr_push.2 (by simp), ?_⟩
  simp only [show ((2 : Int) != 0) = true from rfl, cond_true]
  rw [locB]
  have hf2 : Fr [] H1 (H1.push (.cells #[.pointer none] 131)) := Fr.push _ _ _
  have hR2 := (hR0.fr hf1 (by simp)).fr hf2 (by simp)
  obtain ⟨w0, w1, w2, w3, hB, hf⟩ := st4 hR2 (o := 0) (by simp) (.string ⟨#[]⟩) (.string ⟨#[]⟩) (.slice none 0 0) (.int .i64 0)
  refine ⟨w0, w1, w2, w3, _, hB.cell 0, _, hB.cell 1, _, _, _, hB.cell 2, _, hB.cell 3, h _ ?_⟩
  exact (Up.fresh ((hf0.trans hf1).trans hf2) (F := [H.size]) (F' := [H.size]) ⟨hf, fun _ h => .inl h⟩ (by simp)).1
theorem under_nil {o : Int} (h : ∀ H', Fr [] H H' → Q (.slice none 0 0) H') : callS PP n_class_Kernel_Under #[.pointer none, .int .i64 o] Q H := by
  apply class_Kernel_Under_ok
  unfold class_Kernel_Under
  refine look_nil fun H1 hf => ⟨_, _, rfl, Wr_push.2 (by simp), ?_⟩
  simp only [show ((2 : Int) != 0) = true from rfl, cond_true]
  rw [locB]
  exact h _ hf.more
end
end Go.Proofs.YtmkdkplipbocjaaGreatDoor
set_option maxRecDepth 100000
set_option maxHeartbeats 1000000
namespace Go.Proofs.YtmkdkplipbocjaaGreatDoor
open Kw
/-- A maker: its block, its kernel. -/
structure PM (H : Heap) (mb b : Nat) (F : Foot) (s : SP) (t : TB) (cnt mk kp : Int) : Prop where
  k : PK H b F s t
  m : Blk H mb #[.pointer (some ⟨b, 0, none⟩), .int .i64 cnt, .int .i64 mk, .int .i64 kp]
  out : mb ∉ F
theorem Up.out {F F' : Foot} {H H' : Heap} (h : Up F H F' H') {x : Nat} (hx : x ∉ F) (hl : x < H.size) : x ∉ F' := fun hm => by
  rcases h.2 x hm with h1 | h1
  · exact hx h1
  · omega
theorem PM.up {H H' : Heap} {mb b : Nat} {F F' : Foot} {s s' : SP} {t t' : TB} {cnt mk kp : Int} (h : PM H mb b F s t cnt mk kp) (hk : PK H' b F' s' t') (hu : Up F H F' H') : PM H' mb b F' s' t' cnt mk kp :=
  ⟨hk, h.m.fr hu.1 h.out, Up.out hu h.out h.m.lt⟩
theorem PM.nil {H H' : Heap} {mb b : Nat} {F : Foot} {s : SP} {t : TB} {cnt mk kp : Int} (h : PM H mb b F s t cnt mk kp) (hf : Fr [] H H') : PM H' mb b F s t cnt mk kp := ⟨h.k.nil hf, h.m.fr hf (by simp), h.out⟩
theorem Up.of_nil {F : Foot} {H H' : Heap} (h : Fr [] H H') : Up F H F H' := ⟨Kw.Fr.of_nil h, fun _ h => .inl h⟩
theorem put_fmt {r : RH} (k i w j : Int) {y : RO} (h : objAt (r.put k i w).2.objs j = some y) : ∃ x, objAt r.objs j = some x ∧ y.fmt = x.fmt := by
  unfold RH.put at h
  split at h
  · exact ⟨y, h, rfl⟩
  split at h
  · exact ⟨y, h, rfl⟩
  split at h
  · exact ⟨y, h, rfl⟩
  · simp only at h
    rw [objAt_updO (f := setO i w) (fun o => rfl)] at h
    cases hx : objAt r.objs j with
    | none => rw [hx] at h; cases h
    | some x =>
      rw [hx] at h
      simp only [Option.map_some, Option.some.injEq] at h
      refine ⟨x, rfl, ?_⟩
      rw [← h]
      split <;> rfl
section
variable {H : Heap} {mb b : Nat} {F : Foot} {s : SP} {t : TB} {v : KV} {cnt mk kp : Int} {Q : Value → Heap → Prop}
end
end Go.Proofs.YtmkdkplipbocjaaGreatDoor
set_option maxRecDepth 100000
set_option maxHeartbeats 2000000
namespace Go.Proofs.YtmkdkplipbocjaaGreatDoor
open Kw
/-- A slice's block lies apart. -/
def Out (H : Heap) (a : Option Addr) (F : Foot) : Prop := ∀ p, a = some p → p.block < H.size ∧ p.block ∉ F
theorem Out.up {H H' : Heap} {a : Option Addr} {F F' : Foot} (h : Out H a F) (hu : Up F H F' H') : Out H' a F' := fun p hp => ⟨Nat.lt_of_lt_of_le (h p hp).1 hu.1.1, Up.out hu (h p hp).2 (h p hp).1⟩
theorem Out.rd {H H' : Heap} {a : Option Addr} {F F' : Foot} {l : Nat} {ys : List Value} (h : Out H a F) (hu : Up F H F' H') (hk : Rd 1 H a l ys) : Rd 1 H' a l ys := hk.fr' hu.1 fun p hp => (h p hp).2
/-- .. or is of no length. -/
def Outs (H : Heap) (a : Option Addr) (l : Nat) (F : Foot) : Prop := l = 0 ∨ Out H a F
theorem Outs.up {H H' : Heap} {a : Option Addr} {l : Nat} {F F' : Foot} (h : Outs H a l F) (hu : Up F H F' H') : Outs H' a l F' := h.imp id fun h => h.up hu
theorem Outs.rd {H H' : Heap} {a : Option Addr} {F F' : Foot} {l : Nat} {ys : List Value} (h : Outs H a l F) (hu : Up F H F' H') (hk : Rd 1 H a l ys) : Rd 1 H' a l ys := by
  rcases h with h | h
  · subst h
    exact ⟨hk.1, hk.2.1, fun p _ i hi => by simp at hi⟩
  · exact h.rd hu hk
theorem Own.out {H : Heap} {a : Option Addr} {l c : Nat} {xs : List Value} {F G : Foot} (h : Own 1 H a l c xs G) (hd : Disj G F) : Out H a F := fun p hp => by
  have hlt := h.lt
  rcases h.2.2 with ⟨h1, _⟩ | ⟨b', cs, h1, rfl, _⟩
  · rw [h1] at hp; cases hp
  · rw [h1] at hp; cases hp
    exact ⟨hlt _ (by simp), hd _ (by simp)⟩
theorem cell_fr {F : Foot} {H H' : Heap} {b o : Nat} (hf : Fr F H H') (hb : b ∉ F) (hl : b < H.size) : cellH H' ⟨b, o, none⟩ = cellH H ⟨b, o, none⟩ := by
  unfold cellH; rw [hf.2 b hl hb]
theorem rd_new {H : Heap} {cs : List Int} {t : TypeId} : Rd 1 (H.push (.cells (intsV cs).toArray t)) (some ⟨H.size, 0, none⟩) cs.length (intsV cs) := by
  refine ⟨by simp [intsV], (fun h => by cases h), fun p hp k hk => ?_⟩
  cases hp
  rw [add_none, Nat.zero_add, (Blk.new H _ _).cell]
  simp
section
variable {H : Heap} {mb b : Nat} {F : Foot} {s : SP} {t : TB} {v : KV} {cnt mk kp : Int} {Q : Value → Heap → Prop}
theorem KS.words {s : SP} {v : KV} (h : KS s v) : kwords s.h v.clsA = v.clsW := h.view.all.kwords
end
end Go.Proofs.YtmkdkplipbocjaaGreatDoor
set_option maxRecDepth 100000
set_option maxHeartbeats 2000000
namespace Go.Proofs.YtmkdkplipbocjaaGreatDoor
open Kw
section
variable {H : Heap} {b : Nat} {F : Foot} {s : SP} {t : TB} {v : KV} {Q : Value → Heap → Prop}
theorem kdefine_nil {name sup : ByteArray} {a : Option Addr} {l c : Nat} (h : Q (.tuple #[.int .i64 0, .int .i64 2]) H) : callS PP n_class_Kernel_Define #[.pointer none, .string name, .string sup, .slice a l c] Q H := by
  apply class_Kernel_Define_ok
  unfold class_Kernel_Define
  exact there_nil ⟨_, rfl, h⟩
theorem kglobal_nil {name : ByteArray} (h : Q (.int .i64 2) H) : callS PP n_class_Kernel_Global #[.pointer none, .string name] Q H := by
  apply class_Kernel_Global_ok
  unfold class_Kernel_Global
  exact there_nil ⟨_, rfl, h⟩
theorem over_nil {q : Option Addr} (h : Q (.tuple #[.pointer none, .int .i64 2]) H) : callS PP n_class_Over #[.pointer none, .pointer q] Q H := by
  apply class_Over_ok
  unfold class_Over
  exact h
theorem kspace_k (hK : PK H b F s t) (h : ∀ sb F1, cellH H ⟨b, 0, none⟩ = some (.pointer (some ⟨sb, 0, none⟩)) → PSp H sb F1 s → (∀ x ∈ F1, x ∈ F) → (∀ H' F1' s', PSp H' sb F1' s' → Up F1 H F1' H' → ∃ F', PK H' b F' s' t ∧ Up F H F' H') → (∀ H' s', PSp H' sb F1 s' → Fr F1 H H' → PK H' b F s' t) → Q (.pointer (some ⟨sb, 0, none⟩)) H) : callS PP n_class_Kernel_Space #[.pointer (some ⟨b, 0, none⟩)] Q H := by
  obtain ⟨sb, F1, hc, hS, hsub, _, hup, hup2⟩ := hK.sp
  apply class_Kernel_Space_ok
  unfold class_Kernel_Space
  exact ⟨_, rfl, _, hc, h sb F1 hc hS hsub hup hup2⟩
theorem kspace_nil (h : Q (.pointer none) H) : callS PP n_class_Kernel_Space #[.pointer none] Q H := by
  apply class_Kernel_Space_ok
  unfold class_Kernel_Space
  exact h
theorem ksymbols_k (hK : PK H b F s t) (h : ∀ tb F1, cellH H ⟨b, 1, none⟩ = some (.pointer (some ⟨tb, 0, none⟩)) → PTb H tb F1 t → Q (.pointer (some ⟨tb, 0, none⟩)) H) : callS PP n_class_Kernel_Symbols #[.pointer (some ⟨b, 0, none⟩)] Q H := by
  obtain ⟨tb, F1, hc, hT, _⟩ := hK.tb
  apply class_Kernel_Symbols_ok
  unfold class_Kernel_Symbols
  exact ⟨_, rfl, _, hc, h tb F1 hc hT⟩
theorem ksymbols_nil (h : Q (.pointer none) H) : callS PP n_class_Kernel_Symbols #[.pointer none] Q H := by
  apply class_Kernel_Symbols_ok
  unfold class_Kernel_Symbols
  exact h
end
end Go.Proofs.YtmkdkplipbocjaaGreatDoor
set_option maxRecDepth 100000
set_option maxHeartbeats 1000000
namespace Go.Proofs.YtmkdkplipbocjaaGreatDoor
open Kw
section
variable {H : Heap} {b : Nat} {F : Foot} {s : SP} {t : TB} {v : KV} {Q : Value → Heap → Prop}
theorem globals_r (hK : RK H b F s t) (hv : KAll s t v) (h : ∀ a l c G H', Own 1 H' a l c (strsV (globsK v t)) G → Fr [] H H' → (∀ x ∈ G, H.size ≤ x) → Q (.slice a l c) H') : callS PP n_kilnref13_Kernel_Globals #[.pointer (some ⟨b, 0, none⟩)] Q H := by
  have hs1 : sliceInfo PP 37 = some (1, 16, some (.string (⟨#[]⟩ : ByteArray))) := by kernel_rfl
  have hg := hv.ks.shape.globs
  obtain ⟨e0, b0, b1⟩ := KS.s1 hv.ks
  have h3 := hv.names.wf.m1
  have h4 := hv.names.wf.len
  apply kilnref13_Kernel_Globals_ok
  unfold kilnref13_Kernel_Globals
  refine root_r hK hv.ks e0 b0 b1 ⟨_, rfl, words_r hK fun aw lw cw Gw H0 how hfw hGw => ⟨_, _, _, rfl, ?_⟩⟩
  rw [show kwords s.h v.globA = globW v.glob from hv.ks.view.globs.kwords] at how
  have hgl := globW_len v.glob
  have hlw : lw = 2 * v.glob.length := by have := how.len; simp only [intsV, List.length_map, hgl] at this; omega
  have hlen : (globsK v t).length = v.glob.length := by simp [globsK]
  refine ⟨fun w H' => ∃ (i : Nat) (a : Option Addr) (l' c : Nat) (G : Foot), w = [.slice a l' c, .int .i64 (2 * i : Nat)] ∧ i ≤ v.glob.length ∧ Own 1 H' a l' c (strsV ((globsK v t).take i)) G ∧ Fr [] H0 H' ∧ (∀ x ∈ G, H0.size ≤ x), fun w _ => match w with
    | [_, .int _ i] => (2 * v.glob.length - i).toNat
    | _ => 0, ⟨0, none, 0, 0, [], rfl, Nat.zero_le _, by simpa [strsV] using Own.nil 1 H0, Fr.refl _ _, by simp⟩, ?_⟩
  rintro w H1 ⟨i, a1, l1, c1, G, rfl, hi, ho, hf1, hG⟩ _
  have hl1 : l1 = i := by have := ho.len; simp only [strsV, List.length_map, List.length_take] at this; omega
  refine ⟨_, _, _, _, rfl, ?_⟩
  have ew : IntKind.wrap .i64 (((2 * i : Nat) : Int) + 1) = ((2 * i : Nat) : Int) + 1 := wrap64_id (by omega) (by omega)
  rw [ew, cond_dec]
  refine ite_i (fun hlt => ?_) fun hlt => ?_
  · have hlt' : i < v.glob.length := by omega
    obtain ⟨p, rfl, hcell, hlt2⟩ := (how.rd.fr' hf1 (by simp)).int (i := ((2 * i : Nat) : Int)) (by omega) (by omega)
    rw [Int.toNat_natCast] at hcell hlt2
    have hx : (globW v.glob).getD (2 * i) 0 = symW v.glob[i].1 := by
      rw [List.getD_eq_getElem?_getD, (globW_get hlt').1]; rfl
    rw [hx] at hcell
    have hn := hv.names.glob _ (List.getElem_mem hlt')
    have htk : (globsK v t).take (i + 1) = (globsK v t).take i ++ [tx t v.glob[i].1] := by
      rw [List.take_add_one, List.getElem?_eq_getElem (by omega)]; simp [globsK]
    have e : IntKind.wrap .i64 (((2 * i : Nat) : Int) + 2) = ((2 * (i + 1) : Nat) : Int) := by rw [wrap64_id (by omega) (by omega)]; omega
    refine ⟨⟨by omega, by omega⟩, _, rfl, _, by rw [Int.toNat_natCast, Nat.mul_one]; exact hcell, text_r (hK.nil (hfw.trans hf1)) (I64_small (by unfold symW; omega) (by unfold symW; omega)) ⟨_, rfl, ?_⟩⟩
    rw [ktextW_sym hv.names.wf hn]
    refine evS_append1 hs1 rfl (by kernel_rfl) ho rfl (by simp [oneC]) (by omega) (by decide) (by decide) fun a' c' G2 H3 g1 g2 g3 => ⟨_, _, _, rfl, ?_⟩
    have hfr := Up.fresh hf1 g2 hG
    rw [e]
    refine ⟨⟨i + 1, a', l1 + 1, c', G2, rfl, by omega, ?_, hfr.1, hfr.2⟩, by simp; omega⟩
    rw [htk, strsV_append]; exact g1
  · rw [List.take_of_length_le (by omega)] at ho
    exact h _ _ _ _ H1 ho (hfw.trans hf1) fun x hx => Nat.le_trans hfw.1 (hG x hx)
theorem texts_r (hK : RK H b F s t) (hv : KAll s t v) {i : Nat} (hi : i < v.cls.length) (h : ∀ a l c G H', Own 1 H' a l c (strsV ((v.cls[i]).own.map (tx t))) G → Fr [] H H' → (∀ x ∈ G, H.size ≤ x) → Q (.slice a l c) H') : callS PP n_kilnref13_Kernel_Texts #[.pointer (some ⟨b, 0, none⟩), .int .i64 (v.cls[i]).ownA] Q H := by
  have hs1 : sliceInfo PP 37 = some (1, 16, some (.string (⟨#[]⟩ : ByteArray))) := by kernel_rfl
  have h3 := hv.names.wf.m1
  have h4 := hv.names.wf.len
  have hown := hv.ks.view.own hi
  have hol : (v.cls[i]).own.length ≤ 8192 := by have := (hown.bnd hv.ks.wf.h).2.2.1; simpa using this
  apply kilnref13_Kernel_Texts_ok
  unfold kilnref13_Kernel_Texts
  refine words_r hK fun aw lw cw Gw H0 how hfw hGw => ⟨_, _, _, rfl, ?_⟩
  rw [hown.kwords] at how
  have hlw : lw = (v.cls[i]).own.length := by have := how.len; simpa [intsV] using this.symm
  refine ⟨fun w H' => ∃ (k : Nat) (a : Option Addr) (l' c : Nat) (G : Foot), w = [.slice a l' c, .int .i64 k] ∧ k ≤ (v.cls[i]).own.length ∧ Own 1 H' a l' c (strsV (((v.cls[i]).own.map (tx t)).take k)) G ∧ Fr [] H0 H' ∧ (∀ x ∈ G, H0.size ≤ x), fun w _ => match w with
    | [_, .int _ k] => ((v.cls[i]).own.length - k).toNat
    | _ => 0, ⟨0, none, 0, 0, [], rfl, Nat.zero_le _, by simpa [strsV] using Own.nil 1 H0, Fr.refl _ _, by simp⟩, ?_⟩
  rintro w H1 ⟨k, a1, l1, c1, G, rfl, hk, ho, hf1, hG⟩ _
  have hl1 : l1 = k := by have := ho.len; simp only [strsV, List.length_map, List.length_take] at this; omega
  refine ⟨_, _, _, _, rfl, ?_⟩
  rw [cond_dec]
  refine ite_i (fun hlt => ?_) fun hlt => ?_
  · have hlt' : k < (v.cls[i]).own.length := by omega
    obtain ⟨p, rfl, hcell, hlt2⟩ := (how.rd.fr' hf1 (by simp)).int (i := (k : Int)) (by omega) hlt
    rw [Int.toNat_natCast] at hcell hlt2
    have hx : ((v.cls[i]).own.map symW).getD k 0 = symW (v.cls[i]).own[k] := by simp [hlt']
    rw [hx] at hcell
    have hn := hv.names.own _ (List.getElem_mem hi) _ (List.getElem_mem hlt')
    have htk : ((v.cls[i]).own.map (tx t)).take (k + 1) = ((v.cls[i]).own.map (tx t)).take k ++ [tx t (v.cls[i]).own[k]] := by
      rw [List.take_add_one, List.getElem?_eq_getElem (by simpa using hlt')]; simp
    have e : IntKind.wrap .i64 ((k : Int) + 1) = ((k + 1 : Nat) : Int) := by rw [wrap64_id (by omega) (by omega)]; omega
    refine ⟨⟨by omega, hlt⟩, _, rfl, _, by rw [Int.toNat_natCast, Nat.mul_one]; exact hcell, text_r (hK.nil (hfw.trans hf1)) (I64_small (by unfold symW; omega) (by unfold symW; omega)) ⟨_, rfl, ?_⟩⟩
    rw [ktextW_sym hv.names.wf hn]
    refine evS_append1 hs1 rfl (by kernel_rfl) ho rfl (by simp [oneC]) (by omega) (by decide) (by decide) fun a' c' G2 H3 g1 g2 g3 => ⟨_, _, _, rfl, ?_⟩
    have hfr := Up.fresh hf1 g2 hG
    rw [e]
    refine ⟨⟨k + 1, a', l1 + 1, c', G2, rfl, by omega, ?_, hfr.1, hfr.2⟩, by simp; omega⟩
    rw [htk, strsV_append]; exact g1
  · rw [List.take_of_length_le (by simp; omega)] at ho
    exact h _ _ _ _ H1 ho (hfw.trans hf1) fun x hx => Nat.le_trans hfw.1 (hG x hx)
end
end Go.Proofs.YtmkdkplipbocjaaGreatDoor
set_option maxRecDepth 100000
set_option maxHeartbeats 1000000
namespace Go.Proofs.YtmkdkplipbocjaaGreatDoor
open Kw
/-- The data are copied to where the answer is. -/
abbrev infoTailR (R0 LC : Addr) (Q : Value → Heap → Prop) (H6 : Heap) : Prop :=
  ∃ s36 : ByteArray, cellH H6 LC = some (.string s36) ∧ ∃ s37 : ByteArray, cellH H6 (LC.add 1) = some (.string s37) ∧ ∃ a38 : Option Addr, ∃ l38 : Nat, ∃ c38 : Nat, cellH H6 (LC.add 2) = some (.slice a38 l38 c38) ∧ ∃ n39 : Int, cellH H6 (LC.add 3) = some (.int .i64 n39) ∧
  Wr H6 R0 ∧ Wr (setH H6 R0 (.string s36)) (R0.add 1) ∧ Wr (setH (setH H6 R0 (.string s36)) (R0.add 1) (.string s37)) (R0.add 2) ∧ Wr (setH (setH (setH H6 R0 (.string s36)) (R0.add 1) (.string s37)) (R0.add 2) (.slice a38 l38 c38)) (R0.add 3) ∧
  ∃ s40 : ByteArray, cellH (setH (setH (setH (setH H6 R0 (.string s36)) (R0.add 1) (.string s37)) (R0.add 2) (.slice a38 l38 c38)) (R0.add 3) (.int .i64 n39)) R0 = some (.string s40) ∧
  ∃ s41 : ByteArray, cellH (setH (setH (setH (setH H6 R0 (.string s36)) (R0.add 1) (.string s37)) (R0.add 2) (.slice a38 l38 c38)) (R0.add 3) (.int .i64 n39)) (R0.add 1) = some (.string s41) ∧
  ∃ a42 : Option Addr, ∃ l42 : Nat, ∃ c42 : Nat, cellH (setH (setH (setH (setH H6 R0 (.string s36)) (R0.add 1) (.string s37)) (R0.add 2) (.slice a38 l38 c38)) (R0.add 3) (.int .i64 n39)) (R0.add 2) = some (.slice a42 l42 c42) ∧
  ∃ n43 : Int, cellH (setH (setH (setH (setH H6 R0 (.string s36)) (R0.add 1) (.string s37)) (R0.add 2) (.slice a38 l38 c38)) (R0.add 3) (.int .i64 n39)) (R0.add 3) = some (.int .i64 n43) ∧
  Q (.agg #[.string s40, .string s41, .slice a42 l42 c42, .int .i64 n43]) (setH (setH (setH (setH H6 R0 (.string s36)) (R0.add 1) (.string s37)) (R0.add 2) (.slice a38 l38 c38)) (R0.add 3) (.int .i64 n39))
section
variable {H : Heap} {b : Nat} {F : Foot} {s : SP} {t : TB} {v : KV} {Q : Value → Heap → Prop}
theorem info_tailR {r0 lc : Nat} {nm sup : ByteArray} {a : Option Addr} {l c : Nat} {ly : Int} {cs : Array Value} (hLC : Blk H lc #[.string nm, .string sup, .slice a l c, .int .i64 ly]) (hR0 : Blk H r0 cs) (hsz : cs.size = 4)
    (h : ∀ H', Fr [r0] H H' → Q (.agg #[.string nm, .string sup, .slice a l c, .int .i64 ly]) H') : infoTailR ⟨r0, 0, none⟩ ⟨lc, 0, none⟩ Q H := by
  obtain ⟨x0, x1, x2, x3, rfl⟩ : ∃ x0 x1 x2 x3, cs = #[x0, x1, x2, x3] := by
    obtain ⟨l⟩ := cs
    match l, hsz with
    | [x0, x1, x2, x3], _ => exact ⟨_, _, _, _, rfl⟩
  obtain ⟨w0, w1, w2, w3, hB, hf⟩ := st4 hR0 (o := 0) (by omega) (.string nm) (.string sup) (.slice a l c) (.int .i64 ly)
  exact ⟨_, hLC.cell 0, _, hLC.cell 1, _, _, _, hLC.cell 2, _, hLC.cell 3, w0, w1, w2, w3, _, hB.cell 0, _, hB.cell 1, _, _, _, hB.cell 2, _, hB.cell 3, h _ hf⟩
theorem rnum_c {n : Int} (h0 : -1000000000000 ≤ n) (h1 : n ≤ 1000000000000) (h : Q (.int .i64 n) H) : callS PP n_kilnref13_Num #[.int .i64 (2 * n + 1)] Q H := by
  apply kilnref13_Num_ok
  unfold kilnref13_Num
  have e1 : IntKind.wrap .i64 (2 * n + 1 - 1) = 2 * n := by rw [wrap64_id (by omega) (by omega)]; omega
  have e2 : Int.tdiv (2 * n) 2 = n := by rw [Int.mul_comm]; exact Int.mul_tdiv_cancel _ (by decide)
  have e3 : IntKind.wrap .i64 n = n := wrap64_id (by omega) (by omega)
  rw [e1, e2, e3]
  exact h
/-- A class as data, of any class. -/
theorem info0_r (hK : RK H b F s t) (hv : KAll s t v) {i : Nat} (hi : i < v.cls.length) (h : ∀ a l c G H', Own 1 H' a l c (strsV (infoK v t i).own) G → Fr [] H H' → (∀ x ∈ G, H.size ≤ x) → Q (.agg #[.string (infoK v t i).name, .string (infoK v t i).sup, .slice a l c, .int .i64 (infoK v t i).lay]) H') :
    callS PP n_kilnref13_Kernel_info #[.pointer (some ⟨b, 0, none⟩), .int .i64 (v.cls[i]).oop] Q H := by
  apply kilnref13_Kernel_info_ok
  unfold kilnref13_Kernel_info
  have hob := (hv.ks.view.own hi).bnd hv.ks.wf.h
  have hlay := hv.ks.shape.lay _ (List.getElem_mem hi)
  have hf0 : Fr [] H (H.push (.cells #[.string (⟨#[]⟩ : ByteArray), .string (⟨#[]⟩ : ByteArray), .slice none 0 0, .int .i64 0] 121)) := Fr.push _ _ _
  have hR0 := Blk.new H #[.string (⟨#[]⟩ : ByteArray), .string (⟨#[]⟩ : ByteArray), .slice none 0 0, .int .i64 0] 121
  have hK0 := hK.nil hf0
  generalize (H.push (.cells #[.string (⟨#[]⟩ : ByteArray), .string (⟨#[]⟩ : ByteArray), .slice none 0 0, .int .i64 0] 121)) = H0 at hf0 hR0 hK0 ⊢
  have hI : infoK v t i = ⟨tx t (v.cls[i]).name, (infoK v t i).sup, (v.cls[i]).own.map (tx t), (v.cls[i]).lay⟩ := by
    unfold infoK; rw [List.getElem?_eq_getElem hi]
  have en : (infoK v t i).name = tx t (v.cls[i]).name := by rw [hI]
  have eo : (infoK v t i).own = (v.cls[i]).own.map (tx t) := by rw [hI]
  have el : (infoK v t i).lay = (v.cls[i]).lay := by rw [hI]
  rw [en, eo, el] at h
  refine name_r hK0 hv hi ⟨_, rfl, slot_r hK0 ⟨_, rfl, ?_⟩⟩
  rw [hv.ks.c2 hi]
  refine refOop13_c (I64_small (by omega) (by omega)) ⟨_, rfl, ?_⟩
  rw [refOop_obj hob.1]
  refine texts_r hK0 hv hi fun a l c G H1 ho hf1 hG => ⟨_, _, _, rfl, slot_r (hK0.nil hf1) ⟨_, rfl, ?_⟩⟩
  rw [hv.ks.c5 hi]
  refine rnum_c (by omega) (by omega) ⟨_, rfl, ?_⟩
  have hf2 : Fr [] H1 (H1.push (.cells #[.string (⟨#[]⟩ : ByteArray), .string (⟨#[]⟩ : ByteArray), .slice none 0 0, .int .i64 0] 121)) := Fr.push _ _ _
  have hL := Blk.new H1 #[.string (⟨#[]⟩ : ByteArray), .string (⟨#[]⟩ : ByteArray), .slice none 0 0, .int .i64 0] 121
  have hl0 : H.size < H1.size := Nat.lt_of_lt_of_le hR0.lt hf1.1
  generalize hH2 : (H1.push (.cells #[.string (⟨#[]⟩ : ByteArray), .string (⟨#[]⟩ : ByteArray), .slice none 0 0, .int .i64 0] 121)) = H2 at hf2 hL ⊢
  obtain ⟨w0, w1, w2, w3, hB, hf3⟩ := st4 hL (o := 0) (by simp) (.string (tx t (v.cls[i]).name)) (.string ⟨#[]⟩) (.slice a l c) (.int .i64 (v.cls[i]).lay)
  refine ⟨w0, w1, w2, w3, ?_⟩
  have hF2 := (hf0.trans hf1).trans hf2
  have hF3 := (Up.fresh hF2 (F := [H1.size]) (F' := [H1.size]) ⟨hf3, fun _ h => .inl h⟩ (by simp; omega)).1
  have hG' : ∀ x ∈ G, H.size < x ∧ x < H1.size := fun x hx => ⟨Nat.lt_of_lt_of_le hR0.lt (hG x hx), ho.lt x hx⟩
  have hR3 := ((hR0.fr hf1 (by simp)).fr hf2 (by simp)).fr hf3 (by simp; omega)
  have hB' : Blk _ H1.size #[.string (tx t (v.cls[i]).name), .string ⟨#[]⟩, .slice a l c, .int .i64 (v.cls[i]).lay] := hB
  have ho3 : Own 1 (setH (setH (setH (setH H2 ⟨H1.size, 0, none⟩ (.string (tx t (v.cls[i]).name))) ⟨H1.size, 0 + 1, none⟩ (.string ⟨#[]⟩)) ⟨H1.size, 0 + 2, none⟩ (.slice a l c)) ⟨H1.size, 0 + 3, none⟩ (.int .i64 (v.cls[i]).lay)) a l c (strsV ((v.cls[i]).own.map (tx t))) G :=
    (ho.fr hf2 (by simp)).fr hf3 fun x hx hm => by simp only [List.mem_singleton] at hm; have := (hG' x hx).2; omega
  -- what is at the end
  have fin : ∀ H' (_ : Fr [H1.size, H.size] (setH (setH (setH (setH H2 ⟨H1.size, 0, none⟩ (.string (tx t (v.cls[i]).name))) ⟨H1.size, 0 + 1, none⟩ (.string ⟨#[]⟩)) ⟨H1.size, 0 + 2, none⟩ (.slice a l c)) ⟨H1.size, 0 + 3, none⟩ (.int .i64 (v.cls[i]).lay)) H'), Q (.agg #[.string (tx t (v.cls[i]).name), .string (infoK v t i).sup, .slice a l c, .int .i64 (v.cls[i]).lay]) H' := by
    intro H' hf'
    refine h a l c G H' (ho3.fr hf' fun x hx hm => ?_) ?_ fun x hx => Nat.le_of_lt (hG' x hx).1
    · have := hG' x hx
      simp only [List.mem_cons, List.not_mem_nil, or_false] at hm
      omega
    · exact (Up.fresh hF3 (F := [H1.size, H.size]) (F' := [H1.size, H.size]) ⟨hf', fun _ h => .inl h⟩ (by simp; omega)).1
  have hK3 := hK.nil hF3
  show callS PP n_kilnref13_Kernel_up _ _ (setH (setH (setH (setH H2 ⟨H1.size, 0, none⟩ (.string (tx t (v.cls[i]).name))) ⟨H1.size, 0 + 1, none⟩ (.string ⟨#[]⟩)) ⟨H1.size, 0 + 2, none⟩ (.slice a l c)) ⟨H1.size, 0 + 3, none⟩ (.int .i64 (v.cls[i]).lay))
  generalize (setH (setH (setH (setH H2 ⟨H1.size, 0, none⟩ (.string (tx t (v.cls[i]).name))) ⟨H1.size, 0 + 1, none⟩ (.string ⟨#[]⟩)) ⟨H1.size, 0 + 2, none⟩ (.slice a l c)) ⟨H1.size, 0 + 3, none⟩ (.int .i64 (v.cls[i]).lay)) = H3 at *
  refine up_r hK3 hv.ks hi ⟨_, rfl, ?_⟩
  have hsup : (infoK v t i).sup = match upIdx v i with
    | some j => match v.cls[j]? with
      | some d => tx t d.name
      | none => ⟨#[]⟩
    | none => ⟨#[]⟩ := by unfold infoK; rw [List.getElem?_eq_getElem hi] <;> rfl
  rw [bneI, cond_dec]
  rcases hv.ks.upI hi with ⟨_, e0, e1⟩ | ⟨j, hj, hlt, e0, _, e1⟩
  · rw [e1] at hsup
    simp only at hsup
    rw [e0, if_neg (by decide)]
    rw [hsup] at fin
    exact info_tailR hB' hR3 (by simp) fun H' hf' => fin H' (hf'.mono (by simp))
  · rw [e1] at hsup
    simp only [List.getElem?_eq_getElem hj] at hsup
    have hb := (up_arr hv.ks hj).1
    rw [e0, if_pos (by omega)]
    refine name_r hK3 hv hj ⟨_, rfl, hB'.wr (o := 1) (by simp), ?_⟩
    rw [← hsup]
    have hfl : Fr [H1.size] H3 (setH H3 ⟨H1.size, 1, none⟩ (.string (infoK v t i).sup)) := Fr.set (by simp)
    exact info_tailR (hB'.set 1 (.string (infoK v t i).sup)) (hR3.fr hfl (by simp; omega)) (by simp) fun H' hf' => fin H' ((hfl.mono (by simp)).trans (hf'.mono (by simp)))
theorem info_r (hK : RK H b F s t) (hv : KAll s t v) {o : Int} (h1 : ∀ i, plK v o = some i → ∀ a l c G H', Own 1 H' a l c (strsV (infoK v t i).own) G → Fr [] H H' → (∀ x ∈ G, H.size ≤ x) → Q (.tuple #[.agg #[.string (infoK v t i).name, .string (infoK v t i).sup, .slice a l c, .int .i64 (infoK v t i).lay], .int .i64 0]) H')
    (h2 : plK v o = none → ∀ H', Fr [] H H' → Q (.tuple #[.agg #[.string ⟨#[]⟩, .string ⟨#[]⟩, .slice none 0 0, .int .i64 0], .int .i64 130]) H') : callS PP n_kilnref13_Kernel_Info #[.pointer (some ⟨b, 0, none⟩), .int .i64 o] Q H := by
  apply kilnref13_Kernel_Info_ok
  unfold kilnref13_Kernel_Info
  have hf0 : Fr [] H (H.push (.cells #[.string (⟨#[]⟩ : ByteArray), .string (⟨#[]⟩ : ByteArray), .slice none 0 0, .int .i64 0] 121)) := Fr.push _ _ _
  have hR0 := Blk.new H #[.string (⟨#[]⟩ : ByteArray), .string (⟨#[]⟩ : ByteArray), .slice none 0 0, .int .i64 0] 121
  have hK0 := hK.nil hf0
  generalize (H.push (.cells #[.string (⟨#[]⟩ : ByteArray), .string (⟨#[]⟩ : ByteArray), .slice none 0 0, .int .i64 0] 121)) = H0 at hf0 hR0 hK0 ⊢
  refine place_r hK0 hv.ks fun H1 hf1 => ⟨_, rfl, ?_⟩
  unfold placeN
  cases hp : plK v o with
  | none =>
    simp only [show ((0 : Int) == 0) = true from rfl, cond_true]
    obtain ⟨w0, w1, w2, w3, hB, hf⟩ := st4 (hR0.fr hf1 (by simp)) (o := 0) (by simp) (.string ⟨#[]⟩) (.string ⟨#[]⟩) (.slice none 0 0) (.int .i64 0)
    refine ⟨w0, w1, w2, w3, _, hB.cell 0, _, hB.cell 1, _, _, _, hB.cell 2, _, hB.cell 3, h2 hp _ ?_⟩
    exact (Up.fresh (hf0.trans hf1) (F := [H.size]) (F' := [H.size]) ⟨hf, fun _ h => .inl h⟩ (by simp)).1
  | some i =>
    obtain ⟨hi, rfl⟩ := plK_some hp
    rw [beqI, cond_dec, if_neg (by simp only; omega)]
    refine info0_r (hK0.nil hf1) hv hi fun a l c G H2 ho hf2 hG => ⟨_, _, _, _, _, _, rfl, ?_⟩
    obtain ⟨w0, w1, w2, w3, hB, hf⟩ := st4 ((hR0.fr hf1 (by simp)).fr hf2 (by simp)) (o := 0) (by simp) (.string (infoK v t i).name) (.string (infoK v t i).sup) (.slice a l c) (.int .i64 (infoK v t i).lay)
    have hl0 : H.size < H1.size := Nat.lt_of_lt_of_le hR0.lt hf1.1
    refine ⟨w0, w1, w2, w3, _, hB.cell 0, _, hB.cell 1, _, _, _, hB.cell 2, _, hB.cell 3, h1 i hp a l c G _ (ho.fr hf fun x hx hm => ?_) ?_ fun x hx => ?_⟩
    · simp only [List.mem_singleton] at hm
      have := hG x hx; omega
    · exact (Up.fresh ((hf0.trans hf1).trans hf2) (F := [H.size]) (F' := [H.size]) ⟨hf, fun _ h => .inl h⟩ (by simp)).1
    · have := hG x hx; omega
theorem layout_r (hK : RK H b F s t) (hv : KAll s t v) {o : Int} (h : ∀ H', Fr [] H H' → Q (match plK v o with | some i => .tuple #[.int .i64 (infoK v t i).lay, .int .i64 0] | none => .tuple #[.int .i64 0, .int .i64 130]) H') : callS PP n_kilnref13_Kernel_Layout #[.pointer (some ⟨b, 0, none⟩), .int .i64 o] Q H := by
  apply kilnref13_Kernel_Layout_ok
  unfold kilnref13_Kernel_Layout
  refine info_r hK hv (fun i hp a l c G H1 ho hf hG => ?_) fun hp H1 hf => ?_
  · rw [hp] at h
    have hL := Blk.new H1 #[.string (⟨#[]⟩ : ByteArray), .string (⟨#[]⟩ : ByteArray), .slice none 0 0, .int .i64 0] 121
    obtain ⟨w0, w1, w2, w3, hB, hf3⟩ := st4 hL (o := 0) (by simp) (.string (infoK v t i).name) (.string (infoK v t i).sup) (.slice a l c) (.int .i64 (infoK v t i).lay)
    refine ⟨_, _, _, _, _, _, _, rfl, w0, w1, w2, w3, _, hB.cell 3, h _ ?_⟩
    exact (Up.fresh (hf.trans (Fr.push [] H1 _)) (F := [H1.size]) (F' := [H1.size]) ⟨hf3, fun _ h => .inl h⟩ (by have := hf.1; simpa using this)).1
  · rw [hp] at h
    have hL := Blk.new H1 #[.string (⟨#[]⟩ : ByteArray), .string (⟨#[]⟩ : ByteArray), .slice none 0 0, .int .i64 0] 121
    obtain ⟨w0, w1, w2, w3, hB, hf3⟩ := st4 hL (o := 0) (by simp) (.string ⟨#[]⟩) (.string ⟨#[]⟩) (.slice none 0 0) (.int .i64 0)
    refine ⟨_, _, _, _, _, _, _, rfl, w0, w1, w2, w3, _, hB.cell 3, h _ ?_⟩
    exact (Up.fresh (hf.trans (Fr.push [] H1 _)) (F := [H1.size]) (F' := [H1.size]) ⟨hf3, fun _ h => .inl h⟩ (by have := hf.1; simpa using this)).1
end
end Go.Proofs.YtmkdkplipbocjaaGreatDoor
set_option maxRecDepth 100000
set_option maxHeartbeats 1000000
namespace Go.Proofs.YtmkdkplipbocjaaGreatDoor
open Kw
def letterN (n : Nat) : Prop := (97 ≤ n ∧ n ≤ 122) ∨ (65 ≤ n ∧ n ≤ 90)
instance (n : Nat) : Decidable (letterN n) := inferInstanceAs (Decidable (_ ∨ _))
def plainN (s : ByteArray) : Prop := 1 ≤ s.size ∧ s.size ≤ 32 ∧ letterN (gB s 0) ∧ ∀ i, i < s.size → alnum (gB s i)
noncomputable instance (s : ByteArray) : Decidable (plainN s) := Classical.propDecidable _
section
variable {H : Heap} {Q : Value → Heap → Prop}
end
end Go.Proofs.YtmkdkplipbocjaaGreatDoor
