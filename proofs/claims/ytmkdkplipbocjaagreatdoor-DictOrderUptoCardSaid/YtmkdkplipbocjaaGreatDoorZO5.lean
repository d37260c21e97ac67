/- Lemmas for ROrder: functions of the program as predicate transformers, and their contracts. -/
import Derived.Test.YtmkdkplipbocjaaGreatDoorZO4
import Derived.Deep.DeepHandedRow
set_option linter.all false
set_option maxRecDepth 100000
set_option maxHeartbeats 4000000
namespace Go.Proofs.YtmkdkplipbocjaaGreatDoor
open Kw
variable {Q:QT}{H:Heap}
abbrev n_k34:Nat:=34
def k34 (p1:Option Addr) (n2:Int) (s3:ByteArray) (n4:Int) (Q:QT) (H:Heap):Prop :=
 callS PP 135 #[pV p1,iV n2] (fun v5 H1=>∃ a6 l6 c6 a7 l7 c7 n8,v5=.tuple #[lV a6 l6 c6,lV a7 l7 c7,iV n8]∧cond (n8 != 0) (Q (iV n8) H1) (∃ q9,p1=some q9∧∃ p10,cellH H1 q9=some (pV p10)∧cS 26 #[pV p10] (fun v11 H2=>∃ p12,v11=pV p12∧cS 136 #[pV p12,sV s3] (fun v13 H3=>∃ n14 b15,v13=.tuple #[iV n14,.bool b15]∧cond (!b15) (Q (iV 61) H3) (∃ q16,p1=some q16∧∃ p17,cellH H3 q16=some (pV p17)∧cS 19 #[pV p17] (fun v18 H4=>∃ p19,v18=pV p19∧cS 20 #[pV p19] (fun v20 H5=>∃ p21,v20=pV p21∧cS 137 #[pV p21,iV n4] (fun v22 H6=>∃ n23 n24,v22=.tuple #[iV n23,iV n24]∧cond (n24 != 0) (Q (iV n24) H6) (cS 138 #[iV n4] (fun v25 H7=>∃ n26 n27,v25=.tuple #[iV n26,iV n27]∧cS 139 #[pV p1,lV a6 l6 c6,sV s3] (fun v28 H8=>∃ n29 b30,v28=.tuple #[iV n29,.bool b30]∧cond b30 (cS 141 #[pV p1,iV n2,iV 4] (fun v31 H9=>∃ n32,v31=iV n32∧cS 140 #[pV p21,iV n32,iV n29,iV n26] (fun v33 H10=>∃ n34,v33=iV n34∧cS 142 #[pV p1] (fun v35 H11=>v35=.tuple #[]∧Q (iV 0) H11) H10) H9) H8) (cond (decide ((l6:Int) ≥ 128)) (Q (iV 138) H8) (cS 143 #[iV n14] (fun v36 H12=>∃ n37 n38,v36=.tuple #[iV n37,iV n38]∧cS 145 #[lV a6 l6 c6,iV n29,iV n37] (fun v39 H13=>∃ a40 l40 c40,v39=lV a40 l40 c40∧cS 145 #[lV a7 l7 c7,iV n29,iV n26] (fun v41 H14=>∃ a42 l42 c42,v41=lV a42 l42 c42∧cS 144 #[pV p1,iV n2,lV a40 l40 c40,lV a42 l42 c42,lV (some (A0 H14.size)) 1 1] (fun v43 H15=>∃ n44,v43=iV n44∧Q (iV n44) H15) (H14.push (.cells #[iV n26] 36))) H13) H12) H8))) H7) H6)) H5) H4) H3)) H2) H1)) H
theorem k34_ok {p1:Option Addr}{n2:Int}{s3:ByteArray}{n4:Int} (h:k34 p1 n2 s3 n4 Q H):callS PP 34 #[.pointer p1,.int .i64 n2,.string s3,.int .i64 n4] Q H :=
 okF Tryz.func34 rfl h
abbrev n_k35:Nat:=35
def k35 (p1:Option Addr) (n2:Int) (s3:ByteArray) (n4:Int) (Q:QT) (H:Heap):Prop :=
 callS PP 146 #[pV p1,iV n2] (fun v5 H1=>∃ a6 l6 c6 a7 l7 c7 n8,v5=.tuple #[lV a6 l6 c6,lV a7 l7 c7,iV n8]∧cond (n8 != 0) (Q (iV n8) H1) (∃ q9,p1=some q9∧∃ p10,cellH H1 q9=some (pV p10)∧∃ q11,p10=some q11∧∃ p12,cellH H1 (q11.add 1)=some (pV p12)∧cS 147 #[pV p12,sV s3] (fun v13 H2=>∃ n14 b15,v13=.tuple #[iV n14,.bool b15]∧cond (!b15) (Q (iV 61) H2) (∃ q16,p1=some q16∧∃ p17,cellH H2 q16=some (pV p17)∧∃ q18,p17=some q18∧∃ p19,cellH H2 q18=some (pV p19)∧∃ q20,p19=some q20∧∃ p21,cellH H2 q20=some (pV p21)∧cS 148 #[pV p21,iV n4] (fun v22 H3=>∃ n23 n24,v22=.tuple #[iV n23,iV n24]∧cond (n24 != 0) (Q (iV n24) H3) (cS 149 #[pV p1,lV a6 l6 c6,sV s3] (fun v25 H4=>∃ n26 n27,v25=.tuple #[iV n26,iV n27]∧cond (decide (n26 ≥ 0)) (∃ q28,p1=some q28∧∃ p29,cellH H4 q28=some (pV p29)∧∃ q30,p29=some q30∧∃ p31,cellH H4 q30=some (pV p31)∧∃ q32,p31=some q32∧∃ p33,cellH H4 q32=some (pV p33)∧∃ q34,p1=some q34∧∃ p35,cellH H4 q34=some (pV p35)∧cS 120 #[pV p35,iV n2,iV 4] (fun v36 H5=>∃ n37,v36=iV n37∧((cellH H5 q32=some (pV p33)∧True)∧((cellH H5 q30=some (pV p31)∧True)∧((cellH H5 q28=some (pV p29)∧True)∧True)))∧cS 119 #[iV n37] (fun v38 H6=>∃ n39,v38=iV n39∧((cellH H6 q32=some (pV p33)∧True)∧((cellH H6 q30=some (pV p31)∧True)∧((cellH H6 q28=some (pV p29)∧True)∧True)))∧cS 59 #[iV n4] (fun v40 H7=>∃ n41,v40=iV n41∧((cellH H7 q32=some (pV p33)∧True)∧((cellH H7 q30=some (pV p31)∧True)∧((cellH H7 q28=some (pV p29)∧True)∧True)))∧cS 64 #[pV p33,iV n39,iV n26,iV n41] (fun v42 H8=>∃ n43,v42=iV n43∧True∧∃ q44,p1=some q44∧Wr H8 (q44.add 1)∧Q (iV 0) (setH H8 (q44.add 1) (lV none 0 0))) H7) H6) H5) H4) (cond (decide ((l6:Int) ≥ 128)) (Q (iV 138) H4) (cS 59 #[iV n4] (fun v45 H9=>∃ n46,v45=iV n46∧cS 151 #[lV a6 l6 c6,iV (-1),iV n27,iV (wW ((wW (4*n14))+2))] (fun v47 H10=>∃ a48 l48 c48,v47=lV a48 l48 c48∧cS 151 #[lV a7 l7 c7,iV (-1),iV n27,iV n46] (fun v49 H11=>∃ a50 l50 c50,v49=lV a50 l50 c50∧cS 150 #[pV p1,iV n2,lV a48 l48 c48,lV a50 l50 c50,iV n46] (fun v51 H12=>∃ n52,v51=iV n52∧Q (iV n52) H12) H11) H10) H9) H4))) H3)) H2)) H1)) H
theorem k35_ok {p1:Option Addr}{n2:Int}{s3:ByteArray}{n4:Int} (h:k35 p1 n2 s3 n4 Q H):callS PP 35 #[.pointer p1,.int .i64 n2,.string s3,.int .i64 n4] Q H :=
 okF Tryz.func35 rfl h
abbrev n_k36:Nat:=36
def k36 (p1:Option Addr) (n2:Int) (s3:ByteArray) (Q:QT) (H:Heap):Prop :=
 callS PP 135 #[pV p1,iV n2] (fun v4 H1=>∃ a5 l5 c5 a6 l6 c6 n7,v4=.tuple #[lV a5 l5 c5,lV a6 l6 c6,iV n7]∧cond (n7 != 0) (Q (iV n7) H1) (cS 139 #[pV p1,lV a5 l5 c5,sV s3] (fun v8 H2=>∃ n9 b10,v8=.tuple #[iV n9,.bool b10]∧cond (!b10) (Q (iV 140) H2) (cS 152 #[lV a5 l5 c5,iV n9] (fun v11 H3=>∃ a12 l12 c12,v11=lV a12 l12 c12∧cS 152 #[lV a6 l6 c6,iV n9] (fun v13 H4=>∃ a14 l14 c14,v13=lV a14 l14 c14∧cS 144 #[pV p1,iV n2,lV a12 l12 c12,lV a14 l14 c14,lV none 0 0] (fun v15 H5=>∃ n16,v15=iV n16∧Q (iV n16) H5) H4) H3) H2)) H1)) H
theorem k36_ok {p1:Option Addr}{n2:Int}{s3:ByteArray} (h:k36 p1 n2 s3 Q H):callS PP 36 #[.pointer p1,.int .i64 n2,.string s3] Q H :=
 okF Tryz.func36 rfl h
abbrev n_k37:Nat:=37
def k37 (p1:Option Addr) (n2:Int) (s3:ByteArray) (Q:QT) (H:Heap):Prop :=
 callS PP 146 #[pV p1,iV n2] (fun v4 H1=>∃ a5 l5 c5 a6 l6 c6 n7,v4=.tuple #[lV a5 l5 c5,lV a6 l6 c6,iV n7]∧cond (n7 != 0) (Q (iV n7) H1) (cS 149 #[pV p1,lV a5 l5 c5,sV s3] (fun v8 H2=>∃ n9 n10,v8=.tuple #[iV n9,iV n10]∧cond (decide (n9<0)) (Q (iV 140) H2) (cS 151 #[lV a5 l5 c5,iV n9,iV (-1),iV 0] (fun v11 H3=>∃ a12 l12 c12,v11=lV a12 l12 c12∧cS 151 #[lV a6 l6 c6,iV n9,iV (-1),iV 0] (fun v13 H4=>∃ a14 l14 c14,v13=lV a14 l14 c14∧cS 150 #[pV p1,iV n2,lV a12 l12 c12,lV a14 l14 c14,iV 0] (fun v15 H5=>∃ n16,v15=iV n16∧Q (iV n16) H5) H4) H3) H2)) H1)) H
theorem k37_ok {p1:Option Addr}{n2:Int}{s3:ByteArray} (h:k37 p1 n2 s3 Q H):callS PP 37 #[.pointer p1,.int .i64 n2,.string s3] Q H :=
 okF Tryz.func37 rfl h
abbrev n_k41:Nat:=41
def k41 (p1:Option Addr) (n2:Int) (Q:QT) (H:Heap):Prop :=
 callS PP 135 #[pV p1,iV n2] (fun v3 H1=>∃ a4 l4 c4 a5 l5 c5 n6,v3=.tuple #[lV a4 l4 c4,lV a5 l5 c5,iV n6]∧∃(I7:IT) (μ7:MT),I7 [lV none 0 0,iV 0] H1∧∀ w8 H2,I7 w8 H2→∀ _g:Nat→Value,∃ a9 l9 c9 n10,w8=[lV a9 l9 c9,iV n10]∧cond (decide (n10<(l4:Int))) (((0:Int)≤n10∧n10<(l4:Int))∧∃ q11,a4=some q11∧∃ n12,cellH H2 (q11.add (Int.toNat n10*1))=some (iV n12)∧cS 157 #[pV p1,iV n12] (fun v13 H3=>∃ s14,v13=sV s14∧evS PP (Builtin.append_ #[37,37] 37 #[lV a9 l9 c9,lV (some (A0 H3.size)) 1 1]) (fun v15 H4=>∃ a16 l16 c16,v15=lV a16 l16 c16∧I7 [lV a16 l16 c16,iV (wW (n10+1))] H4∧μ7 [lV a16 l16 c16,iV (wW (n10+1))] H4<μ7 w8 H2) (H3.push (.cells #[sV s14] 9))) H2) (Q (lV a9 l9 c9) H2)) H
theorem k41_ok {p1:Option Addr}{n2:Int} (h:k41 p1 n2 Q H):callS PP 41 #[.pointer p1,.int .i64 n2] Q H :=
 callS_of good Tryz.func41 rfl (Ls:=fun | 4=>some [(8,37),(20,3)] | _=>none) (by kernel_rfl) h
abbrev n_k42:Nat:=42
def k42 (p1:Option Addr) (n2:Int) (Q:QT) (H:Heap):Prop :=
 callS PP 146 #[pV p1,iV n2] (fun v3 H1=>∃ a4 l4 c4 a5 l5 c5 n6,v3=.tuple #[lV a4 l4 c4,lV a5 l5 c5,iV n6]∧∃(I7:IT) (μ7:MT),I7 [lV none 0 0,iV 0] H1∧∀ w8 H2,I7 w8 H2→∀ _g:Nat→Value,∃ a9 l9 c9 n10,w8=[lV a9 l9 c9,iV n10]∧cond (decide (n10<(l4:Int))) (∃ q11,p1=some q11∧∃ p12,cellH H2 q11=some (pV p12)∧((0:Int)≤n10∧n10<(l4:Int))∧∃ q13,a4=some q13∧∃ n14,cellH H2 (q13.add (Int.toNat n10*1))=some (iV n14)∧cS 158 #[pV p12,iV n14] (fun v15 H3=>∃ s16,v15=sV s16∧True∧True∧evS PP (Builtin.append_ #[37,37] 37 #[lV a9 l9 c9,lV (some (A0 H3.size)) 1 1]) (fun v17 H4=>∃ a18 l18 c18,v17=lV a18 l18 c18∧True∧I7 [lV a18 l18 c18,iV (wW (n10+1))] H4∧μ7 [lV a18 l18 c18,iV (wW (n10+1))] H4<μ7 w8 H2) (H3.push (.cells #[sV s16] 9))) H2) (Q (lV a9 l9 c9) H2)) H
theorem k42_ok {p1:Option Addr}{n2:Int} (h:k42 p1 n2 Q H):callS PP 42 #[.pointer p1,.int .i64 n2] Q H :=
 callS_of good Tryz.func42 rfl (Ls:=fun | 4=>some [(8,37),(9,3)] | _=>none) (by kernel_rfl) h
abbrev n_k129:Nat:=129
def k129 (p1:Option Addr) (Q:QT) (H:Heap):Prop :=
 cond (Option.isNone p1) (Q (.tuple #[pV none,iV 2]) H) (Q (.tuple #[pV (some (⟨(H.push (.map #[] 0)).size,0,none⟩:Addr)),iV 0]) ((H.push (.map #[] 0)).push (.cells #[pV p1,.map (some H.size),iV 0] 196)))
theorem k129_ok {p1:Option Addr} (h:k129 p1 Q H):callS PP 129 #[.pointer p1] Q H :=
 okF Tryz.func129 rfl h
abbrev n_k130:Nat:=130
def k130 (p1:Option Addr) (Q:QT) (H:Heap):Prop :=
 Q (pV (some (A0 H.size))) (H.push (.cells #[pV p1,lV none 0 0,iV 0] 206))
theorem k130_ok {p1:Option Addr} (h:k130 p1 Q H):callS PP 130 #[.pointer p1] Q H :=
 okF Tryz.func130 rfl h
abbrev n_k132:Nat:=132
def k132 (p1:Option Addr) (n2:Int) (n3:Int) (Q:QT) (H:Heap):Prop :=
 callS PP 225 #[pV p1] (fun v4 H1=>∃ b5,v4=.bool b5∧cond (!b5) (Q (.tuple #[iV 0,iV 0]) H1) (∃ q6,p1=some q6∧∃ p7,cellH H1 q6=some (pV p7)∧cS 188 #[pV p7,iV n2] (fun v8 H2=>∃ n9 n10,v8=.tuple #[iV n9,iV n10]∧cond (n10 != 0) (Q (.tuple #[iV 0,iV 0]) H2) (∃ q11,p1=some q11∧∃ r12:Option Nat,cellH H2 (q11.add 1)=some (.map r12)∧evS PP (Instr.lookup 194 (.map r12) (.agg #[iV n2,iV n3]) true) (fun v13 H3=>∃ n14:Int,shH (setH (H3.push (.cells #[iV 0,iV 0] 265)) (A0 H3.size) (iV n14)) fun C4=>∃ n15:Int,shH (setH C4 ((A0 H3.size).add 1) (iV n15)) fun C1=>∃ b16,v13=.tuple #[.agg #[iV n14,iV n15],.bool b16]∧Wr (H3.push (.cells #[iV 0,iV 0] 265)) (A0 H3.size)∧Wr C4 ((A0 H3.size).add 1)∧cond b16 (∃ q17,p1=some q17∧∃ n18,cellH C1 (q17.add 2)=some (iV n18)∧∃ q19,shH (setH C1 (q19.add 2) (iV (wW (n18+1)))) fun C3=>p1=some q19∧Wr C1 (q19.add 2)∧∃ n20,cellH C3 (A0 H3.size)=some (iV n20)∧∃ n21,cellH C3 ((A0 H3.size).add 1)=some (iV n21)∧Q (.tuple #[iV n20,iV n21]) C3) (cS 226 #[pV p1,iV n2,iV n3] (fun v22 H4=>∃ n23:Int,shH (setH (H4.push (.cells #[iV 0,iV 0] 265)) (A0 H4.size) (iV n23)) fun C5=>∃ n24:Int,shH (setH C5 ((A0 H4.size).add 1) (iV n24)) fun C2=>v22=.agg #[iV n23,iV n24]∧Wr (H4.push (.cells #[iV 0,iV 0] 265)) (A0 H4.size)∧Wr C5 ((A0 H4.size).add 1)∧∃ q25,p1=some q25∧∃ r26:Option Nat,cellH C2 (q25.add 1)=some (.map r26)∧∃ n27,cellH C2 (A0 H4.size)=some (iV n27)∧∃ n28,cellH C2 ((A0 H4.size).add 1)=some (iV n28)∧evS PP (Instr.mapUpdate 194 (.map r26) (.agg #[iV n2,iV n3]) (.agg #[iV n27,iV n28])) (fun _ H5=>True∧∃ n29,cellH H5 (A0 H4.size)=some (iV n29)∧∃ n30,cellH H5 ((A0 H4.size).add 1)=some (iV n30)∧Q (.tuple #[iV n29,iV n30]) H5) C2) C1)) H2)) H1)) H
theorem k132_ok {p1:Option Addr}{n2:Int}{n3:Int} (h:k132 p1 n2 n3 Q H):callS PP 132 #[.pointer p1,.int .i64 n2,.int .i64 n3] Q H :=
 okF Tryz.func132 rfl h
abbrev n_k133:Nat:=133
def k133 (p1:Option Addr) (n2:Int) (s3:ByteArray) (Q:QT) (H:Heap):Prop :=
 callS PP 135 #[pV p1,iV n2] (fun v4 H1=>∃ a5 l5 c5 a6 l6 c6 n7,v4=.tuple #[lV a5 l5 c5,lV a6 l6 c6,iV n7]∧cond (n7 != 0) (Q (.tuple #[iV 0,iV n7]) H1) (cS 139 #[pV p1,lV a5 l5 c5,sV s3] (fun v8 H2=>∃ n9 b10,v8=.tuple #[iV n9,.bool b10]∧cond (!b10) (Q (.tuple #[iV 0,iV 140]) H2) (((0:Int)≤n9∧n9<(l6:Int))∧∃ q11,a6=some q11∧∃ n12,cellH H2 (q11.add (Int.toNat n9*1))=some (iV n12)∧cS 183 #[iV n12] (fun v13 H3=>∃ n14 n15,v13=.tuple #[iV n14,iV n15]∧Q (.tuple #[iV n14,iV n15]) H3) H2)) H1)) H
theorem k133_ok {p1:Option Addr}{n2:Int}{s3:ByteArray} (h:k133 p1 n2 s3 Q H):callS PP 133 #[.pointer p1,.int .i64 n2,.string s3] Q H :=
 okF Tryz.func133 rfl h
abbrev n_k134:Nat:=134
def k134 (p1:Option Addr) (Q:QT) (H:Heap):Prop :=
 callS PP 225 #[pV p1] (fun v2 H1=>∃ b3,v2=.bool b3∧cond (!b3) (Q (iV 0) H1) (∃ q4,p1=some q4∧∃ n5,cellH H1 (q4.add 2)=some (iV n5)∧Q (iV n5) H1)) H
theorem k134_ok {p1:Option Addr} (h:k134 p1 Q H):callS PP 134 #[.pointer p1] Q H :=
 okF Tryz.func134 rfl h
abbrev n_k135:Nat:=135
def k135 (p1:Option Addr) (n2:Int) (Q:QT) (H:Heap):Prop :=
 callS PP 225 #[pV p1] (fun v3 H1=>∃ b4,v3=.bool b4∧cond (!b4) (Q (.tuple #[lV none 0 0,lV none 0 0,iV 2]) H1) (∃ q5,p1=some q5∧∃ p6,cellH H1 q5=some (pV p6)∧cS 188 #[pV p6,iV n2] (fun v7 H2=>∃ n8 n9,v7=.tuple #[iV n8,iV n9]∧cond (n9 != 0) (Q (.tuple #[lV none 0 0,lV none 0 0,iV n9]) H2) (cS 141 #[pV p1,iV n2,iV 3] (fun v10 H3=>∃ n11,v10=iV n11∧cS 227 #[pV p1,iV n11] (fun v12 H4=>∃ a13 l13 c13,v12=lV a13 l13 c13∧cS 141 #[pV p1,iV n2,iV 4] (fun v14 H5=>∃ n15,v14=iV n15∧cS 227 #[pV p1,iV n15] (fun v16 H6=>∃ a17 l17 c17,v16=lV a17 l17 c17∧Q (.tuple #[lV a13 l13 c13,lV a17 l17 c17,iV 0]) H6) H5) H4) H3) H2)) H1)) H
theorem k135_ok {p1:Option Addr}{n2:Int} (h:k135 p1 n2 Q H):callS PP 135 #[.pointer p1,.int .i64 n2] Q H :=
 okF Tryz.func135 rfl h
abbrev n_k139:Nat:=139
def k139 (p1:Option Addr) (a2:Option Addr) (l2:Nat) (c2:Nat) (s3:ByteArray) (Q:QT) (H:Heap):Prop :=
 shH ((H.push (.cells #[pV p1] 69)).push (.cells #[lV a2 l2 c2] 108)) fun C1=>∃ a4 l4 c4,cellH (C1.push (.cells #[sV s3] 9)) (⟨(H.push (.cells #[pV p1] 69)).size,0,none⟩:Addr)=some (lV a4 l4 c4)∧cS 229 #[iV (l4:Int),.func (.func 230) #[] #[pV (some (A0 H.size)),pV (some (⟨(H.push (.cells #[pV p1] 69)).size,0,none⟩:Addr)),pV (some (A0 C1.size))]] (fun v5 H1=>∃ n6,v5=iV n6∧∃ a7 l7 c7,cellH H1 (⟨(H.push (.cells #[pV p1] 69)).size,0,none⟩:Addr)=some (lV a7 l7 c7)∧cond (decide (n6<(l7:Int))) (∃ p8,cellH H1 (A0 H.size)=some (pV p8)∧∃ a9 l9 c9,cellH H1 (⟨(H.push (.cells #[pV p1] 69)).size,0,none⟩:Addr)=some (lV a9 l9 c9)∧((0:Int)≤n6∧n6<(l9:Int))∧∃ q10,a9=some q10∧∃ n11,cellH H1 (q10.add (Int.toNat n6*1))=some (iV n11)∧∃ s12,cellH H1 (A0 C1.size)=some (sV s12)∧cS 157 #[pV p8,iV n11] (fun v13 H2=>∃ s14,v13=sV s14∧((cellH H2 (A0 C1.size)=some (sV s12)∧True)∧True)∧Q (.tuple #[iV n6,.bool (strEq s14 s12)]) H2) H1) (Q (.tuple #[iV n6,.bool false]) H1)) (C1.push (.cells #[sV s3] 9))
theorem k139_ok {p1:Option Addr}{a2:Option Addr}{l2:Nat}{c2:Nat}{s3:ByteArray} (h:k139 p1 a2 l2 c2 s3 Q H):callS PP 139 #[.pointer p1,.slice a2 l2 c2,.string s3] Q H :=
 okF Tryz.func139 rfl h
abbrev n_k141:Nat:=141
def k141 (p1:Option Addr) (n2:Int) (n3:Int) (Q:QT) (H:Heap):Prop :=
 ∃ q4,p1=some q4∧∃ p5,cellH H q4=some (pV p5)∧cS 19 #[pV p5] (fun v6 H1=>∃ p7,v6=pV p7∧cS 20 #[pV p7] (fun v8 H2=>∃ p9,v8=pV p9∧cS 233 #[pV p9,iV n2,iV n3] (fun v10 H3=>∃ n11 n12,v10=.tuple #[iV n11,iV n12]∧cS 183 #[iV n11] (fun v13 H4=>∃ n14 n15,v13=.tuple #[iV n14,iV n15]∧Q (iV n14) H4) H3) H2) H1) H
theorem k141_ok {p1:Option Addr}{n2:Int}{n3:Int} (h:k141 p1 n2 n3 Q H):callS PP 141 #[.pointer p1,.int .i64 n2,.int .i64 n3] Q H :=
 okF Tryz.func141 rfl h
abbrev n_k142:Nat:=142
def k142 (p1:Option Addr) (Q:QT) (H:Heap):Prop :=
 callS PP 225 #[pV p1] (fun v2 H1=>∃ b3,v2=.bool b3∧cond b3 (∃ q4,p1=some q4∧∃ r5:Option Nat,cellH H1 (q4.add 1)=some (.map r5)∧evS PP (Builtin.clear_ #[194] 0 #[.map r5]) (fun v6 H2=>Q (.tuple #[]) H2) H1) (Q (.tuple #[]) H1)) H
theorem k142_ok {p1:Option Addr} (h:k142 p1 Q H):callS PP 142 #[.pointer p1] Q H :=
 okF Tryz.func142 rfl h
abbrev n_k144:Nat:=144
def k144 (p1:Option Addr) (n2:Int) (a3:Option Addr) (l3:Nat) (c3:Nat) (a4:Option Addr) (l4:Nat) (c4:Nat) (a5:Option Addr) (l5:Nat) (c5:Nat) (Q:QT) (H:Heap):Prop :=
 ∃ q6,p1=some q6∧∃ p7,cellH H q6=some (pV p7)∧cS 19 #[pV p7] (fun v8 H1=>∃ p9:Option Addr,shH (setH (H1.push (.cells #[pV none] 47)) (A0 H1.size) (pV p9)) fun C2=>v8=pV p9∧Wr (H1.push (.cells #[pV none] 47)) (A0 H1.size)∧∃ p10,cellH C2 (A0 H1.size)=some (pV p10)∧cS 83 #[pV p10] (fun v11 H2=>∃ a12:Option Addr,∃ l12:Nat,shH (setH (H2.push (.cells #[iV 0] 3)) (A0 H2.size) (iV (l12:Int))) fun C1=>∃ c12,v11=lV a12 l12 c12∧Wr (H2.push (.cells #[iV 0] 3)) (A0 H2.size)∧∃ p13,cellH C1 (A0 H1.size)=some (pV p13)∧cS 51 #[pV p13,lV a5 l5 c5] (fun v14 H3=>∃ n15,v14=iV n15∧cond (n15 != 0) (callSD PP 234 #[pV (some (A0 H1.size)),pV (some (A0 H2.size))] (fun H4=>Q (iV n15) H4) H3) (∃(I16:IT) (μ16:MT),I16 [lV none 0 0,iV 0] (H3.push (.cells #[lV a3 l3 c3,lV a4 l4 c4] 108))∧∀ w17 H5,I16 w17 H5→∀ _g:Nat→Value,∃ a18 l18 c18 n19,w17=[lV a18 l18 c18,iV n19]∧cond (decide (n19<(2:Int))) (((0:Int)≤n19∧n19<(2:Int))∧∃ q20,(some (A0 H3.size))=some q20∧∃ a21 l21 c21,cellH H5 (q20.add (Int.toNat n19*1))=some (lV a21 l21 c21)∧cS 235 #[pV p1,lV a21 l21 c21] (fun v22 H6=>∃ n23 n24,v22=.tuple #[iV n23,iV n24]∧cond (n24 != 0) (callSD PP 234 #[pV (some (A0 H1.size)),pV (some (A0 H2.size))] (fun H7=>Q (iV n24) H7) H6) (evS PP (Builtin.append_ #[108,108] 108 #[lV a18 l18 c18,lV (some (A0 H6.size)) 1 1]) (fun v25 H8=>∃ a26 l26 c26,v25=lV a26 l26 c26∧I16 [lV a26 l26 c26,iV (wW (n19+1))] H8∧μ16 [lV a26 l26 c26,iV (wW (n19+1))] H8<μ16 w17 H5) (H6.push (.cells #[iV n23] 36)))) H5) (∃ p27,cellH H5 (A0 H1.size)=some (pV p27)∧((0:Int)≤0∧0<(l18:Int))∧∃ q28,a18=some q28∧∃ n29,cellH H5 (q28.add (Int.toNat 0*1))=some (iV n29)∧cS 20 #[pV p27] (fun v30 H9=>∃ p31,v30=pV p31∧((cellH H9 (q28.add (Int.toNat 0*1))=some (iV n29)∧True)∧True)∧cS 140 #[pV p31,iV n2,iV 3,iV n29] (fun v32 H10=>∃ n33,v32=iV n33∧True∧∃ p34,cellH H10 (A0 H1.size)=some (pV p34)∧((0:Int)≤1∧1<(l18:Int))∧∃ q35,a18=some q35∧∃ n36,cellH H10 (q35.add (Int.toNat 1*1))=some (iV n36)∧cS 20 #[pV p34] (fun v37 H11=>∃ p38,v37=pV p38∧((cellH H11 (q35.add (Int.toNat 1*1))=some (iV n36)∧True)∧True)∧cS 140 #[pV p38,iV n2,iV 4,iV n36] (fun v39 H12=>∃ n40,v39=iV n40∧True∧cS 142 #[pV p1] (fun v41 H13=>v41=.tuple #[]∧callSD PP 234 #[pV (some (A0 H1.size)),pV (some (A0 H2.size))] (fun H14=>Q (iV 0) H14) H13) H12) H11) H10) H9) H5))) C1) C2) H
theorem k144_ok {p1:Option Addr}{n2:Int}{a3:Option Addr}{l3:Nat}{c3:Nat}{a4:Option Addr}{l4:Nat}{c4:Nat}{a5:Option Addr}{l5:Nat}{c5:Nat} (h:k144 p1 n2 a3 l3 c3 a4 l4 c4 a5 l5 c5 Q H):callS PP 144 #[.pointer p1,.int .i64 n2,.slice a3 l3 c3,.slice a4 l4 c4,.slice a5 l5 c5] Q H :=
 callS_ofX good Tryz.func144 rfl (Ls:=fun | 9=>some [(14,108),(38,3)] | _=>none) (mk:=false) (by kernel_rfl) h
abbrev n_k145:Nat:=145
def k145 (a1:Option Addr) (l1:Nat) (c1:Nat) (n2:Int) (n3:Int) (Q:QT) (H:Heap):Prop :=
 ((0:Int)≤n2∧n2≤(c1:Int))∧((0:Int)≤n2∧n2≤(l1:Int))∧(evS PP (Builtin.append_ #[108,108] 108 #[lV none 0 0,lV a1 (Int.toNat n2) c1]) (fun v4 H1=>∃ a5 l5 c5,v4=lV a5 l5 c5∧True∧True∧evS PP (Builtin.append_ #[108,108] 108 #[lV a5 l5 c5,lV (some (A0 H1.size)) 1 1]) (fun v6 H2=>∃ a7 l7 c7,v6=lV a7 l7 c7∧True∧evS PP (Builtin.append_ #[108,108] 108 #[lV a7 l7 c7,lV (offA a1 c1 n2 1) (l1-Int.toNat n2) (c1-Int.toNat n2)]) (fun v8 H3=>∃ a9 l9 c9,v8=lV a9 l9 c9∧True∧Q (lV a9 l9 c9) H3) H2) (H1.push (.cells #[iV n3] 36))) H)∧(True∧evS PP (Builtin.append_ #[108,108] 108 #[lV none 0 0,lV a1 (Int.toNat n2) c1]) (fun v10 H4=>∃ a11 l11 c11,v10=lV a11 l11 c11∧True∧evS PP (Builtin.append_ #[108,108] 108 #[lV a11 l11 c11,lV (some (A0 H.size)) 1 1]) (fun v12 H5=>∃ a13 l13 c13,v12=lV a13 l13 c13∧True∧evS PP (Builtin.append_ #[108,108] 108 #[lV a13 l13 c13,lV (offA a1 c1 n2 1) (l1-Int.toNat n2) (c1-Int.toNat n2)]) (fun v14 H6=>∃ a15 l15 c15,v14=lV a15 l15 c15∧True∧Q (lV a15 l15 c15) H6) H5) H4) (H.push (.cells #[iV n3] 36)))
theorem k145_ok {a1:Option Addr}{l1:Nat}{c1:Nat}{n2:Int}{n3:Int} (h:k145 a1 l1 c1 n2 n3 Q H):callS PP 145 #[.slice a1 l1 c1,.int .i64 n2,.int .i64 n3] Q H :=
 okF Tryz.func145 rfl h
abbrev n_k146:Nat:=146
def k146 (p1:Option Addr) (n2:Int) (Q:QT) (H:Heap):Prop :=
 ∃ q3,p1=some q3∧∃ p4,cellH H q3=some (pV p4)∧cS 189 #[pV p4,iV n2] (fun v5 H1=>∃ n6 n7,v5=.tuple #[iV n6,iV n7]∧cond (n7 != 0) (Q (.tuple #[lV none 0 0,lV none 0 0,iV n7]) H1) (∃ q8,p1=some q8∧∃ p9,cellH H1 q8=some (pV p9)∧∃ q10,p1=some q10∧∃ p11,cellH H1 q10=some (pV p11)∧∃ q12,p1=some q12∧∃ p13,cellH H1 q12=some (pV p13)∧∃ q14,p1=some q14∧∃ p15,cellH H1 q14=some (pV p15)∧cS 120 #[pV p11,iV n2,iV 3] (fun v16 H2=>∃ n17,v16=iV n17∧((cellH H2 q14=some (pV p15)∧True)∧((cellH H2 q12=some (pV p13)∧True)∧((cellH H2 q8=some (pV p9)∧True)∧True)))∧cS 119 #[iV n17] (fun v18 H3=>∃ n19,v18=iV n19∧((cellH H3 q14=some (pV p15)∧True)∧((cellH H3 q12=some (pV p13)∧True)∧((cellH H3 q8=some (pV p9)∧True)∧True)))∧cS 118 #[pV p9,iV n19] (fun v20 H4=>∃ a21 l21 c21,v20=lV a21 l21 c21∧((cellH H4 q14=some (pV p15)∧True)∧((cellH H4 q12=some (pV p13)∧True)∧True))∧cS 120 #[pV p15,iV n2,iV 4] (fun v22 H5=>∃ n23,v22=iV n23∧((cellH H5 q12=some (pV p13)∧True)∧True)∧cS 119 #[iV n23] (fun v24 H6=>∃ n25,v24=iV n25∧((cellH H6 q12=some (pV p13)∧True)∧True)∧cS 118 #[pV p13,iV n25] (fun v26 H7=>∃ a27 l27 c27,v26=lV a27 l27 c27∧True∧Q (.tuple #[lV a21 l21 c21,lV a27 l27 c27,iV 0]) H7) H6) H5) H4) H3) H2) H1)) H
theorem k146_ok {p1:Option Addr}{n2:Int} (h:k146 p1 n2 Q H):callS PP 146 #[.pointer p1,.int .i64 n2] Q H :=
 okF Tryz.func146 rfl h
abbrev n_k149:Nat:=149
def k149 (p1:Option Addr) (a2:Option Addr) (l2:Nat) (_c2:Nat) (s3:ByteArray) (Q:QT) (H:Heap):Prop :=
 ∃(I4:IT) (μ4:MT),I4 [iV 0,iV 0] H∧∀ w5 H1,I4 w5 H1→∀ _g:Nat→Value,∃ n6 n7,w5=[iV n6,iV n7]∧cond (decide (n7<(l2:Int))) (∃ q8,p1=some q8∧∃ p9,cellH H1 q8=some (pV p9)∧((0:Int)≤n7∧n7<(l2:Int))∧∃ q10,a2=some q10∧∃ n11,cellH H1 (q10.add (Int.toNat n7*1))=some (iV n11)∧cS 158 #[pV p9,iV n11] (fun v12 H2=>∃ s13,v12=sV s13∧True∧cond (strEq s13 s3) (Q (.tuple #[iV n7,iV n6]) H2) (cond (Op.bytesLess (ByteArray.toList s13) (ByteArray.toList s3)) (I4 [iV (wW (n6+1)),iV (wW (n7+1))] H2∧μ4 [iV (wW (n6+1)),iV (wW (n7+1))] H2<μ4 w5 H1) (I4 [iV n6,iV (wW (n7+1))] H2∧μ4 [iV n6,iV (wW (n7+1))] H2<μ4 w5 H1))) H1) (Q (.tuple #[iV (-1),iV n6]) H1)
theorem k149_ok {p1:Option Addr}{a2:Option Addr}{l2:Nat}{c2:Nat}{s3:ByteArray} (h:k149 p1 a2 l2 c2 s3 Q H):callS PP 149 #[.pointer p1,.slice a2 l2 c2,.string s3] Q H :=
 callS_of good Tryz.func149 rfl (Ls:=fun | 3=>some [(8,3),(9,3)] | _=>none) (by kernel_rfl) h
abbrev n_k150:Nat:=150
def k150 (p1:Option Addr) (n2:Int) (a3:Option Addr) (l3:Nat) (c3:Nat) (a4:Option Addr) (l4:Nat) (c4:Nat) (n5:Int) (Q:QT) (H:Heap):Prop :=
 ∃ q6,p1=some q6∧∃ p7,cellH H q6=some (pV p7)∧∃ q8,p7=some q8∧∃ p9,cellH H q8=some (pV p9)∧∃ q10,p9=some q10∧∃ a11 l11 c11,cellH H (q10.add 2)=some (lV a11 l11 c11)∧∃ J12:IT,(cond (n5 != 0) (∃ q13,p1=some q13∧∃ p14,cellH H q13=some (pV p14)∧∃ q15,p14=some q15∧∃ p16,cellH H q15=some (pV p16)∧cS 217 #[pV p16,lV (some (A0 H.size)) 1 1] (fun v17 H1=>∃ n18,v17=iV n18∧J12 [] H1) (H.push (.cells #[iV n5] 36))) (J12 [] H))∧∀ w19 H2,J12 w19 H2→∀ _g:Nat→Value,w19=[]∧cS 236 #[pV p1,iV n2,lV a3 l3 c3,lV a4 l4 c4] (fun v20 H3=>∃ n21,v20=iV n21∧∃ q22,p1=some q22∧∃ p23,cellH H3 q22=some (pV p23)∧∃ q24,p23=some q24∧∃ p25,cellH H3 q24=some (pV p25)∧∃ q26,p1=some q26∧∃ p27,cellH H3 q26=some (pV p27)∧∃ q28,p27=some q28∧∃ p29,cellH H3 q28=some (pV p29)∧∃ q30,p29=some q30∧∃ a31 l31 c31,cellH H3 (q30.add 2)=some (lV a31 l31 c31)∧cS 218 #[pV p25,iV (wW ((l31:Int)-(l11:Int)))] (fun v32 H4=>∃ n33,v32=iV n33∧True∧Q (iV n21) H4) H3) H2
theorem k150_ok {p1:Option Addr}{n2:Int}{a3:Option Addr}{l3:Nat}{c3:Nat}{a4:Option Addr}{l4:Nat}{c4:Nat}{n5:Int} (h:k150 p1 n2 a3 l3 c3 a4 l4 c4 n5 Q H):callS PP 150 #[.pointer p1,.int .i64 n2,.slice a3 l3 c3,.slice a4 l4 c4,.int .i64 n5] Q H :=
 callS_of good Tryz.func150 rfl (Ls:=fun | 1004=>some [] | _=>none) (by kernel_rfl) h
abbrev n_k151:Nat:=151
def k151 (a1:Option Addr) (l1:Nat) (_c1:Nat) (n2:Int) (n3:Int) (n4:Int) (Q:QT) (H:Heap):Prop :=
 ∃(I5:IT) (μ5:MT),I5 [lV none 0 0,iV 0] H∧∀ w6 H1,I5 w6 H1→∀ _g:Nat→Value,∃ a7 l7 c7 n8,w6=[lV a7 l7 c7,iV n8]∧cond (decide (n8≤(l1:Int))) (cond (n8 == n3) (cond (n4 != 0) (evS PP (Builtin.append_ #[108,108] 108 #[lV a7 l7 c7,lV (some (A0 H1.size)) 1 1]) (fun v9 H2=>∃ a10 l10 c10,v9=lV a10 l10 c10∧cond (decide (n8<(l1:Int))) (cond (n8 != n2) (((0:Int)≤n8∧n8<(l1:Int))∧∃ q11,a1=some q11∧∃ n12,cellH H2 (q11.add (Int.toNat n8*1))=some (iV n12)∧evS PP (Builtin.append_ #[108,108] 108 #[lV a10 l10 c10,lV (some (A0 H2.size)) 1 1]) (fun v13 H3=>∃ a14 l14 c14,v13=lV a14 l14 c14∧I5 [lV a14 l14 c14,iV (wW (n8+1))] H3∧μ5 [lV a14 l14 c14,iV (wW (n8+1))] H3<μ5 w6 H1) (H2.push (.cells #[iV n12] 36))) (I5 [lV a10 l10 c10,iV (wW (n8+1))] H2∧μ5 [lV a10 l10 c10,iV (wW (n8+1))] H2<μ5 w6 H1)) (I5 [lV a10 l10 c10,iV (wW (n8+1))] H2∧μ5 [lV a10 l10 c10,iV (wW (n8+1))] H2<μ5 w6 H1)) (H1.push (.cells #[iV n4] 36))) (cond (decide (n8<(l1:Int))) (cond (n8 != n2) (((0:Int)≤n8∧n8<(l1:Int))∧∃ q15,a1=some q15∧∃ n16,cellH H1 (q15.add (Int.toNat n8*1))=some (iV n16)∧evS PP (Builtin.append_ #[108,108] 108 #[lV a7 l7 c7,lV (some (A0 H1.size)) 1 1]) (fun v17 H4=>∃ a18 l18 c18,v17=lV a18 l18 c18∧I5 [lV a18 l18 c18,iV (wW (n8+1))] H4∧μ5 [lV a18 l18 c18,iV (wW (n8+1))] H4<μ5 w6 H1) (H1.push (.cells #[iV n16] 36))) (I5 [lV a7 l7 c7,iV (wW (n8+1))] H1∧μ5 [lV a7 l7 c7,iV (wW (n8+1))] H1<μ5 w6 H1)) (I5 [lV a7 l7 c7,iV (wW (n8+1))] H1∧μ5 [lV a7 l7 c7,iV (wW (n8+1))] H1<μ5 w6 H1))) (cond (decide (n8<(l1:Int))) (cond (n8 != n2) (((0:Int)≤n8∧n8<(l1:Int))∧∃ q19,a1=some q19∧∃ n20,cellH H1 (q19.add (Int.toNat n8*1))=some (iV n20)∧evS PP (Builtin.append_ #[108,108] 108 #[lV a7 l7 c7,lV (some (A0 H1.size)) 1 1]) (fun v21 H5=>∃ a22 l22 c22,v21=lV a22 l22 c22∧I5 [lV a22 l22 c22,iV (wW (n8+1))] H5∧μ5 [lV a22 l22 c22,iV (wW (n8+1))] H5<μ5 w6 H1) (H1.push (.cells #[iV n20] 36))) (I5 [lV a7 l7 c7,iV (wW (n8+1))] H1∧μ5 [lV a7 l7 c7,iV (wW (n8+1))] H1<μ5 w6 H1)) (I5 [lV a7 l7 c7,iV (wW (n8+1))] H1∧μ5 [lV a7 l7 c7,iV (wW (n8+1))] H1<μ5 w6 H1))) (Q (lV a7 l7 c7) H1)
theorem k151_ok {a1:Option Addr}{l1:Nat}{c1:Nat}{n2:Int}{n3:Int}{n4:Int} (h:k151 a1 l1 c1 n2 n3 n4 Q H):callS PP 151 #[.slice a1 l1 c1,.int .i64 n2,.int .i64 n3,.int .i64 n4] Q H :=
 callS_of good Tryz.func151 rfl (Ls:=fun | 3=>some [(9,108),(10,3)] | _=>none) (by kernel_rfl) h
abbrev n_k152:Nat:=152
def k152 (a1:Option Addr) (l1:Nat) (c1:Nat) (n2:Int) (Q:QT) (H:Heap):Prop :=
 ((0:Int)≤n2∧n2≤(c1:Int))∧((0:Int)≤(wW (n2+1))∧(wW (n2+1))≤(l1:Int))∧evS PP (Builtin.append_ #[108,108] 108 #[lV none 0 0,lV a1 (Int.toNat n2) c1]) (fun v3 H1=>∃ a4 l4 c4,v3=lV a4 l4 c4∧True∧evS PP (Builtin.append_ #[108,108] 108 #[lV a4 l4 c4,lV (offA a1 c1 (wW (n2+1)) 1) (l1-Int.toNat (wW (n2+1))) (c1-Int.toNat (wW (n2+1)))]) (fun v5 H2=>∃ a6 l6 c6,v5=lV a6 l6 c6∧True∧Q (lV a6 l6 c6) H2) H1) H
theorem k152_ok {a1:Option Addr}{l1:Nat}{c1:Nat}{n2:Int} (h:k152 a1 l1 c1 n2 Q H):callS PP 152 #[.slice a1 l1 c1,.int .i64 n2] Q H :=
 okF Tryz.func152 rfl h
abbrev n_k153:Nat:=153
def k153 (p1:Option Addr) (n2:Int) (n3:Int) (Q:QT) (H:Heap):Prop :=
 ∃ q4,p1=some q4∧∃ p5,cellH H q4=some (pV p5)∧cS 189 #[pV p5,iV n2] (fun v6 H1=>∃ n7 n8,v6=.tuple #[iV n7,iV n8]∧cond (n8 != 0) (Q (.tuple #[iV 0,iV 0]) H1) (cS 237 #[pV p1,iV n2,iV n3] (fun v9 H2=>v9=.tuple #[]∧∃(I10:IT) (μ10:MT),I10 [iV n2] H2∧∀ w11 H3,I10 w11 H3→∀ _g:Nat→Value,∃ n12,w11=[iV n12]∧cond (n12 != 0) (cS 146 #[pV p1,iV n12] (fun v13 H4=>∃ a14 l14 c14 a15 l15 c15 n16,v13=.tuple #[lV a14 l14 c14,lV a15 l15 c15,iV n16]∧∃(I17:IT) (μ17:MT),I17 [iV 0] H4∧∀ w18 H5,I17 w18 H5→∀ _g:Nat→Value,∃ n19,w18=[iV n19]∧cond (decide (n19<(l14:Int))) (cond (decide (n3 ≥ 0)) (∃ q20,p1=some q20∧∃ p21,cellH H5 q20=some (pV p21)∧∃ q22,p21=some q22∧∃ p23,cellH H5 (q22.add 1)=some (pV p23)∧cS 214 #[pV p23] (fun v24 H6=>∃ n25,v24=iV n25∧cond (decide (n3<n25)) (((0:Int)≤n19∧n19<(l14:Int))∧∃ q26,a14=some q26∧∃ n27,cellH H6 (q26.add (Int.toNat n19*1))=some (iV n27)∧cond (n27 == (wW ((wW (4*n3))+2))) (((0:Int)≤n19∧n19<(l15:Int))∧∃ q28,a15=some q28∧∃ n29,cellH H6 (q28.add (Int.toNat n19*1))=some (iV n29)∧cS 119 #[iV n29] (fun v30 H7=>∃ n31,v30=iV n31∧Q (.tuple #[iV n31,iV n12]) H7) H6) (I17 [iV (wW (n19+1))] H6∧μ17 [iV (wW (n19+1))] H6<μ17 w18 H5)) (I17 [iV (wW (n19+1))] H6∧μ17 [iV (wW (n19+1))] H6<μ17 w18 H5)) H5) (I17 [iV (wW (n19+1))] H5∧μ17 [iV (wW (n19+1))] H5<μ17 w18 H5)) (∃ q32,p1=some q32∧∃ p33,cellH H5 q32=some (pV p33)∧cS 191 #[pV p33,iV n12] (fun v34 H8=>∃ n35 n36,v34=.tuple #[iV n35,iV n36]∧I10 [iV n35] H8∧μ10 [iV n35] H8<μ10 w11 H3) H5)) H3) (Q (.tuple #[iV 0,iV 0]) H3)) H1)) H
theorem k153_ok {p1:Option Addr}{n2:Int}{n3:Int} (h:k153 p1 n2 n3 Q H):callS PP 153 #[.pointer p1,.int .i64 n2,.int .i64 n3] Q H :=
 callS_of good Tryz.func153 rfl (Ls:=fun | 6=>some [(10,3)] | 9=>some [(14,3)] | _=>none) (by kernel_rfl) h
abbrev n_k154:Nat:=154
def k154 (p1:Option Addr) (n2:Int) (s3:ByteArray) (Q:QT) (H:Heap):Prop :=
 callS PP 146 #[pV p1,iV n2] (fun v4 H1=>∃ a5 l5 c5 a6 l6 c6 n7,v4=.tuple #[lV a5 l5 c5,lV a6 l6 c6,iV n7]∧cond (n7 != 0) (Q (.tuple #[iV 0,iV n7]) H1) (cS 149 #[pV p1,lV a5 l5 c5,sV s3] (fun v8 H2=>∃ n9 n10,v8=.tuple #[iV n9,iV n10]∧cond (decide (n9<0)) (Q (.tuple #[iV 0,iV 140]) H2) (((0:Int)≤n9∧n9<(l6:Int))∧∃ q11,a6=some q11∧∃ n12,cellH H2 (q11.add (Int.toNat n9*1))=some (iV n12)∧cS 119 #[iV n12] (fun v13 H3=>∃ n14,v13=iV n14∧Q (.tuple #[iV n14,iV 0]) H3) H2)) H1)) H
theorem k154_ok {p1:Option Addr}{n2:Int}{s3:ByteArray} (h:k154 p1 n2 s3 Q H):callS PP 154 #[.pointer p1,.int .i64 n2,.string s3] Q H :=
 okF Tryz.func154 rfl h
abbrev n_k155:Nat:=155
def k155 (p1:Option Addr) (Q:QT) (H:Heap):Prop :=
 ∃ q2,p1=some q2∧Wr H (q2.add 1)∧Q (.tuple #[]) (setH H (q2.add 1) (lV none 0 0))
theorem k155_ok {p1:Option Addr} (h:k155 p1 Q H):callS PP 155 #[.pointer p1] Q H :=
 okF Tryz.func155 rfl h
abbrev n_k157:Nat:=157
def k157 (p1:Option Addr) (n2:Int) (Q:QT) (H:Heap):Prop :=
 callS PP 239 #[iV n2] (fun v3 H1=>∃ n4 n5,v3=.tuple #[iV n4,iV n5]∧∃ q6,p1=some q6∧∃ p7,cellH H1 q6=some (pV p7)∧cS 26 #[pV p7] (fun v8 H2=>∃ p9,v8=pV p9∧cS 240 #[pV p9,iV n4] (fun v10 H3=>∃ s11 n12,v10=.tuple #[sV s11,iV n12]∧Q (sV s11) H3) H2) H1) H
theorem k157_ok {p1:Option Addr}{n2:Int} (h:k157 p1 n2 Q H):callS PP 157 #[.pointer p1,.int .i64 n2] Q H :=
 okF Tryz.func157 rfl h
abbrev n_k225:Nat:=225
def k225 (p1:Option Addr) (Q:QT) (H:Heap):Prop :=
 cond (!(Option.isNone p1)) (∃ q2,p1=some q2∧∃ p3,cellH H q2=some (pV p3)∧Q (.bool (!(Option.isNone p3))) H) (Q (.bool false) H)
theorem k225_ok {p1:Option Addr} (h:k225 p1 Q H):callS PP 225 #[.pointer p1] Q H :=
 okF Tryz.func225 rfl h
abbrev n_k226:Nat:=226
def k226 (p1:Option Addr) (n2:Int) (n3:Int) (Q:QT) (H:Heap):Prop :=
 callS PP 143 #[iV n3] (fun v4 H1=>∃ n5 n6,v4=.tuple #[iV n5,iV n6]∧∃(I7:IT) (μ7:MT),I7 [iV n2] H1∧∀ w8 H2,shH (setH H2 (A0 H.size) (iV 0)) fun C3=>shH (setH C3 ((A0 H.size).add 1) (iV 0)) fun C1=>I7 w8 H2→∀ _g:Nat→Value,∃ n9,w8=[iV n9]∧cond (n9 != 0) (cond (n6 == 0) (cS 141 #[pV p1,iV n9,iV 3] (fun v10 H3=>∃ n11,v10=iV n11∧cS 227 #[pV p1,iV n11] (fun v12 H4=>∃ a13 l13 c13,v12=lV a13 l13 c13∧∃(I14:IT) (μ14:MT),I14 [iV 0] H4∧∀ w15 H5,I14 w15 H5→∀ _g:Nat→Value,∃ n16,w15=[iV n16]∧cond (decide (n16<(l13:Int))) (((0:Int)≤n16∧n16<(l13:Int))∧∃ q17,a13=some q17∧∃ n18,cellH H5 (q17.add (Int.toNat n16*1))=some (iV n18)∧cond (n18 == n5) (∃ q19,p1=some q19∧∃ p20,cellH H5 q19=some (pV p20)∧cS 19 #[pV p20] (fun v21 H6=>∃ p22,v21=pV p22∧cS 20 #[pV p22] (fun v23 H7=>∃ p24,v23=pV p24∧cS 141 #[pV p1,iV n9,iV 4] (fun v25 H8=>∃ n26,v25=iV n26∧cS 233 #[pV p24,iV n26,iV n16] (fun v27 H9=>∃ n28 n29,v27=.tuple #[iV n28,iV n29]∧cS 183 #[iV n28] (fun v30 H10=>∃ n31:Int,shH (setH (setH H10 (A0 H.size) (iV n31)) ((A0 H.size).add 1) (iV n9)) fun C2=>∃ n32,v30=.tuple #[iV n31,iV n32]∧Wr H10 (A0 H.size)∧Wr (setH H10 (A0 H.size) (iV n31)) ((A0 H.size).add 1)∧∃ n33,cellH C2 (A0 H.size)=some (iV n33)∧∃ n34,cellH C2 ((A0 H.size).add 1)=some (iV n34)∧Q (.agg #[iV n33,iV n34]) C2) H9) H8) H7) H6) H5) (I14 [iV (wW (n16+1))] H5∧μ14 [iV (wW (n16+1))] H5<μ14 w15 H5)) (∃ q35,p1=some q35∧∃ p36,cellH H5 q35=some (pV p36)∧cS 190 #[pV p36,iV n9] (fun v37 H11=>∃ n38 n39,v37=.tuple #[iV n38,iV n39]∧I7 [iV n38] H11∧μ7 [iV n38] H11<μ7 w8 H2) H5)) H3) H2) (Wr H2 (A0 H.size)∧Wr C3 ((A0 H.size).add 1)∧∃ n40,cellH C1 (A0 H.size)=some (iV n40)∧∃ n41,cellH C1 ((A0 H.size).add 1)=some (iV n41)∧Q (.agg #[iV n40,iV n41]) C1)) (Wr H2 (A0 H.size)∧Wr C3 ((A0 H.size).add 1)∧∃ n42,cellH C1 (A0 H.size)=some (iV n42)∧∃ n43,cellH C1 ((A0 H.size).add 1)=some (iV n43)∧Q (.agg #[iV n42,iV n43]) C1)) (H.push (.cells #[iV 0,iV 0] 265))
theorem k226_ok {p1:Option Addr}{n2:Int}{n3:Int} (h:k226 p1 n2 n3 Q H):callS PP 226 #[.pointer p1,.int .i64 n2,.int .i64 n3] Q H :=
 callS_of good Tryz.func226 rfl (Ls:=fun | 3=>some [(9,3)] | 6=>some [(44,3)] | _=>none) (by kernel_rfl) h
abbrev n_k227:Nat:=227
def k227 (p1:Option Addr) (n2:Int) (Q:QT) (H:Heap):Prop :=
 ∃ q3,p1=some q3∧∃ p4,cellH H q3=some (pV p4)∧cS 19 #[pV p4] (fun v5 H1=>∃ p6,v5=pV p6∧cS 20 #[pV p6] (fun v7 H2=>∃ p8,v7=pV p8∧cS 182 #[pV p8,iV n2] (fun v9 H3=>∃ n10 n11 n12,v9=.tuple #[iV n10,iV n11,iV n12]∧∃(I13:IT) (μ13:MT),I13 [lV none 0 0,iV 0] H3∧∀ w14 H4,I13 w14 H4→∀ _g:Nat→Value,∃ a15 l15 c15 n16,w14=[lV a15 l15 c15,iV n16]∧cond (decide (n16<n10)) (cS 233 #[pV p8,iV n2,iV n16] (fun v17 H5=>∃ n18 n19,v17=.tuple #[iV n18,iV n19]∧evS PP (Builtin.append_ #[108,108] 108 #[lV a15 l15 c15,lV (some (A0 H5.size)) 1 1]) (fun v20 H6=>∃ a21 l21 c21,v20=lV a21 l21 c21∧I13 [lV a21 l21 c21,iV (wW (n16+1))] H6∧μ13 [lV a21 l21 c21,iV (wW (n16+1))] H6<μ13 w14 H4) (H5.push (.cells #[iV n18] 36))) H4) (Q (lV a15 l15 c15) H4)) H2) H1) H
theorem k227_ok {p1:Option Addr}{n2:Int} (h:k227 p1 n2 Q H):callS PP 227 #[.pointer p1,.int .i64 n2] Q H :=
 callS_of good Tryz.func227 rfl (Ls:=fun | 5=>some [(9,108),(27,3)] | _=>none) (by kernel_rfl) h
abbrev n_k229:Nat:=229
def k229 (n1:Int) (f1:Nat) (g1:Array Value) (h1:Array Value) (Q:QT) (H:Heap):Prop :=
 ∃(I2:IT) (μ2:MT),I2 [iV 0,iV n1] H∧∀ w3 H1,I2 w3 H1→∀ _g:Nat→Value,∃ n4 n5,w3=[iV n4,iV n5]∧cond (decide (n4<n5)) (callS PP f1 ((g1++#[iV (wW (Int.tdiv (wW (n4+n5)) 2))])++h1) (fun v6 H2=>∃ b7,v6=.bool b7∧cond b7 (I2 [iV n4,iV (wW (Int.tdiv (wW (n4+n5)) 2))] H2∧μ2 [iV n4,iV (wW (Int.tdiv (wW (n4+n5)) 2))] H2<μ2 w3 H1) (I2 [iV (wW ((wW (Int.tdiv (wW (n4+n5)) 2))+1)),iV n5] H2∧μ2 [iV (wW ((wW (Int.tdiv (wW (n4+n5)) 2))+1)),iV n5] H2<μ2 w3 H1)) H1) (Q (iV n4) H1)
theorem k229_ok {n1:Int}{f1:Nat}{g1:Array Value}{h1:Array Value} (h:k229 n1 f1 g1 h1 Q H):callS PP 229 #[.int .i64 n1,.func (.func f1) g1 h1] Q H :=
 callS_of good Tryz.func229 rfl (Ls:=fun | 2=>some [(5,3),(6,3)] | _=>none) (by kernel_rfl) h
abbrev n_k230:Nat:=230
def k230 (n1:Int) (q_0:Addr) (q_1:Addr) (q_2:Addr) (Q:QT) (H:Heap):Prop :=
 ∃ p2,cellH H q_0=some (pV p2)∧∃ a3 l3 c3,cellH H q_1=some (lV a3 l3 c3)∧((0:Int)≤n1∧n1<(l3:Int))∧∃ q4,a3=some q4∧∃ n5,cellH H (q4.add (Int.toNat n1*1))=some (iV n5)∧∃ s6,cellH H q_2=some (sV s6)∧cS 157 #[pV p2,iV n5] (fun v7 H1=>∃ s8,v7=sV s8∧((cellH H1 q_2=some (sV s6)∧True)∧True)∧Q (.bool (!(Op.bytesLess (ByteArray.toList s8) (ByteArray.toList s6)))) H1) H
theorem k230_ok {n1:Int}{q_0:Addr}{q_1:Addr}{q_2:Addr} (h:k230 n1 q_0 q_1 q_2 Q H):callS PP 230 #[.int .i64 n1,.pointer (some q_0),.pointer (some q_1),.pointer (some q_2)] Q H :=
 okF Tryz.func230 rfl h
abbrev n_k234:Nat:=234
def k234 (q_0:Addr) (q_1:Addr) (Q:QT) (H:Heap):Prop :=
 ∃ p1,cellH H q_0=some (pV p1)∧∃ p2,cellH H q_0=some (pV p2)∧∃ n3,cellH H q_1=some (iV n3)∧cS 83 #[pV p2] (fun v4 H1=>∃ a5 l5 c5,v4=lV a5 l5 c5∧((cellH H1 q_1=some (iV n3)∧True)∧((cellH H1 q_0=some (pV p1)∧True)∧True))∧cS 54 #[pV p1,iV (wW ((l5:Int)-n3))] (fun v6 H2=>∃ n7,v6=iV n7∧True∧Q (.tuple #[]) H2) H1) H
theorem dict_Book_write_1_okD {q_0:Addr}{q_1:Addr}{Q:Heap→Prop}{H:Heap} (h:k234 q_0 q_1 (fun _ H1=>Q H1) H):callSD PP 234 #[.pointer (some q_0),.pointer (some q_1)] Q H :=
 callSD_of good Tryz.func234 rfl (Ls:=fun _=>none) (by kernel_rfl) h
abbrev n_k235:Nat:=235
def k235 (p1:Option Addr) (a2:Option Addr) (l2:Nat) (_c2:Nat) (Q:QT) (H:Heap):Prop :=
 cond ((l2:Int) == 0) (cS 138 #[iV 18] (fun v3 H1=>∃ n4 n5,v3=.tuple #[iV n4,iV n5]∧Q (.tuple #[iV n4,iV n5]) H1) H) (∃ q6,p1=some q6∧∃ p7,cellH H q6=some (pV p7)∧cS 19 #[pV p7] (fun v8 H2=>∃ p9,v8=pV p9∧cS 138 #[iV 11] (fun v10 H3=>∃ n11 n12,v10=.tuple #[iV n11,iV n12]∧cS 238 #[pV p9,iV n11,iV (l2:Int),iV 0] (fun v13 H4=>∃ n14 n15,v13=.tuple #[iV n14,iV n15]∧cond (n15 != 0) (Q (.tuple #[iV 0,iV n15]) H4) (cS 183 #[iV n14] (fun v16 H5=>∃ n17 n18,v16=.tuple #[iV n17,iV n18]∧∃(I19:IT) (μ19:MT),I19 [iV 0] H5∧∀ w20 H6,I19 w20 H6→∀ _g:Nat→Value,∃ n21,w20=[iV n21]∧cond (decide (n21<(l2:Int))) (((0:Int)≤n21∧n21<(l2:Int))∧∃ q22,a2=some q22∧∃ n23,cellH H6 (q22.add (Int.toNat n21*1))=some (iV n23)∧cS 20 #[pV p9] (fun v24 H7=>∃ p25,v24=pV p25∧cS 140 #[pV p25,iV n17,iV n21,iV n23] (fun v26 H8=>∃ n27,v26=iV n27∧I19 [iV (wW (n21+1))] H8∧μ19 [iV (wW (n21+1))] H8<μ19 w20 H6) H7) H6) (cS 51 #[pV p9,lV (some (A0 H6.size)) 1 1] (fun v28 H9=>∃ n29,v28=iV n29∧Q (.tuple #[iV n14,iV n29]) H9) (H6.push (.cells #[iV n14] 36)))) H4)) H3) H2) H)
theorem k235_ok {p1:Option Addr}{a2:Option Addr}{l2:Nat}{c2:Nat} (h:k235 p1 a2 l2 c2 Q H):callS PP 235 #[.pointer p1,.slice a2 l2 c2] Q H :=
 callS_of good Tryz.func235 rfl (Ls:=fun | 10=>some [(48,3)] | _=>none) (by kernel_rfl) h
abbrev n_k236:Nat:=236
def k236 (p1:Option Addr) (n2:Int) (a3:Option Addr) (l3:Nat) (c3:Nat) (a4:Option Addr) (l4:Nat) (c4:Nat) (Q:QT) (H:Heap):Prop :=
 ∃ q5,p1=some q5∧∃ p6,cellH H q5=some (pV p6)∧cS 121 #[pV p6,iV 11,lV a3 l3 c3] (fun v7 H1=>∃ n8 n9,v7=.tuple #[iV n8,iV n9]∧cond (n9 != 0) (Q (iV n9) H1) (∃ q10,p1=some q10∧∃ p11,cellH H1 q10=some (pV p11)∧cS 121 #[pV p11,iV 11,lV a4 l4 c4] (fun v12 H2=>∃ n13 n14,v12=.tuple #[iV n13,iV n14]∧cond (n14 != 0) (Q (iV n14) H2) (∃ q15,p1=some q15∧∃ p16,cellH H2 q15=some (pV p16)∧∃ q17,p16=some q17∧∃ p18,cellH H2 q17=some (pV p18)∧∃ q19,p18=some q19∧∃ p20,cellH H2 q19=some (pV p20)∧cS 64 #[pV p20,iV n2,iV 3,iV n8] (fun v21 H3=>∃ n22,v21=iV n22∧∃ q23,p1=some q23∧∃ p24,cellH H3 q23=some (pV p24)∧∃ q25,p24=some q25∧∃ p26,cellH H3 q25=some (pV p26)∧∃ q27,p26=some q27∧∃ p28,cellH H3 q27=some (pV p28)∧cS 64 #[pV p28,iV n2,iV 4,iV n13] (fun v29 H4=>∃ n30,v29=iV n30∧∃ q31,p1=some q31∧Wr H4 (q31.add 1)∧Q (iV 0) (setH H4 (q31.add 1) (lV none 0 0))) H3) H2)) H1)) H
theorem k236_ok {p1:Option Addr}{n2:Int}{a3:Option Addr}{l3:Nat}{c3:Nat}{a4:Option Addr}{l4:Nat}{c4:Nat} (h:k236 p1 n2 a3 l3 c3 a4 l4 c4 Q H):callS PP 236 #[.pointer p1,.int .i64 n2,.slice a3 l3 c3,.slice a4 l4 c4] Q H :=
 okF Tryz.func236 rfl h
abbrev n_k237:Nat:=237
def k237 (p1:Option Addr) (n2:Int) (n3:Int) (Q:QT) (H:Heap):Prop :=
 ∃(I4:IT) (μ4:MT),I4 [iV 0] H∧∀ w5 H1,I4 w5 H1→∀ _g:Nat→Value,∃ n6,w5=[iV n6]∧∃ q7,p1=some q7∧∃ a8 l8 c8,cellH H1 (q7.add 1)=some (lV a8 l8 c8)∧cond (decide (n6<(l8:Int))) (∃ q9,p1=some q9∧∃ a10 l10 c10,cellH H1 (q9.add 1)=some (lV a10 l10 c10)∧((0:Int)≤n6∧n6<(l10:Int))∧∃ q11,a10=some q11∧∃ n12,cellH H1 (q11.add (Int.toNat n6*2))=some (iV n12)∧cond (n12 == n2) (∃ q13,p1=some q13∧∃ a14 l14 c14,cellH H1 (q13.add 1)=some (lV a14 l14 c14)∧((0:Int)≤n6∧n6<(l14:Int))∧∃ q15,a14=some q15∧∃ n16,cellH H1 ((q15.add (Int.toNat n6*2)).add 1)=some (iV n16)∧cond (n16 == n3) (∃ q17,p1=some q17∧∃ n18,cellH H1 (q17.add 2)=some (iV n18)∧∃ q19,p1=some q19∧Wr H1 (q19.add 2)∧Q (.tuple #[]) (setH H1 (q19.add 2) (iV (wW (n18+1))))) (I4 [iV (wW (n6+1))] H1∧μ4 [iV (wW (n6+1))] H1<μ4 w5 H1)) (I4 [iV (wW (n6+1))] H1∧μ4 [iV (wW (n6+1))] H1<μ4 w5 H1)) (∃ q20,p1=some q20∧∃ a21 l21 c21,cellH H1 (q20.add 1)=some (lV a21 l21 c21)∧evS PP (Builtin.append_ #[204,204] 204 #[lV a21 l21 c21,lV (some (A0 H1.size)) 1 1]) (fun v22 H2=>∃ a23 l23 c23,v22=lV a23 l23 c23∧∃ q24,p1=some q24∧Wr H2 (q24.add 1)∧Q (.tuple #[]) (setH H2 (q24.add 1) (lV a23 l23 c23))) (H1.push (.cells #[iV n2,iV n3] 301)))
theorem k237_ok {p1:Option Addr}{n2:Int}{n3:Int} (h:k237 p1 n2 n3 Q H):callS PP 237 #[.pointer p1,.int .i64 n2,.int .i64 n3] Q H :=
 callS_of good Tryz.func237 rfl (Ls:=fun | 1=>some [(6,3)] | _=>none) (by kernel_rfl) h
end Go.Proofs.YtmkdkplipbocjaaGreatDoor
namespace Go.Proofs.YtmkdkplipbocjaaGreatDoor
open Kw
abbrev KP (H:Heap) (bb b:Nat):Prop:=cellH H ⟨bb,0,none⟩=some (.pointer (some ⟨b,0,none⟩))
theorem KP.nil {H H':Heap}{bb b:Nat} (h:KP H bb b) (f:Fr [] H H'):KP H' bb b:=by
 unfold KP at h ⊢
 rw [cell_fr f (by simp) (cell_lt h)];exact h
section
variable {H:Heap}{bb b:Nat}{F:Foot}{s:SP}{t:TB}{v:KV}{Q:QT}
theorem bthere_c (hc:KP H bb b) (h:Q (.bool true) H):callS PP n_k225 #[.pointer (some ⟨bb,0,none⟩)] Q H:=by
 apply k225_ok
 unfold k225 pV
 exact ⟨_,rfl,_,hc,h⟩
theorem barray_c (hK:PK H b F s t) (hc:KP H bb b){o i:Int} (h:Q (.int .i64 (koop s.h o i)) H):callS PP n_k141 #[.pointer (some ⟨bb,0,none⟩),.int .i64 o,.int .i64 i] Q H:=by
 apply k141_ok
 unfold k141 iV pV cS
 refine ⟨_,rfl,_,hc,kspace_k hK fun sb F1 _ hS _ _ _=>⟨_,rfl,psHeap_c hS fun hb F2 hR _ _=>⟨_,rfl,hat_c hR ⟨_,_,rfl,oop_c hK.kinds ?_⟩⟩⟩⟩
 have:=h
 unfold koop oopW at this
 unfold ofW
 split
 ·rename_i hk;rw [if_pos (show kindW (kslot s.h o i)=3 from hk)] at this;exact ⟨_,_,rfl,this⟩
 ·rename_i hk;rw [if_neg (show ¬ kindW (kslot s.h o i)=3 from hk)] at this;exact ⟨_,_,rfl,this⟩
theorem btext_c (hK:PK H b F s t) (hc:KP H bb b){n:Nat} (hn:n<t.texts.length) (h:Q (.string (tx t n)) H):callS PP n_k157 #[.pointer (some ⟨bb,0,none⟩),.int .i64 (symW n)] Q H:=by
 apply k157_ok
 unfold k157 iV pV sV cS
 refine symOf_c hK.kinds ?_
 have hk:kindW (symW n)=2:=by
  have:=isW_sym hK.wft hn
  unfold isW at this
  unfold symW at this ⊢
  have:=kind_cases (4*(n:Int)+2)
  omega
 have e1:symW n / 4=n:=by unfold symW;omega
 unfold ofW
 rw [if_pos hk]
 simp only [e1]
 refine ⟨_,_,rfl,_,rfl,_,hc,ksymbols_k hK fun tb F2 _ hT=>⟨_,rfl,ptText_c hT ?_⟩⟩
 unfold textV
 rw [dif_pos ⟨by omega,by omega⟩]
 refine ⟨_,_,rfl,?_⟩
 have e:t.texts[((n:Int)).toNat]'(by omega)=tx t n:=by
  unfold tx
  rw [List.getD_eq_getElem?_getD,List.getElem?_eq_getElem hn];rfl
 rw [e];exact h
theorem bslots_c (hK:PK H b F s t) (hc:KP H bb b){o:Int} (h:∀ a l c G H',Own 1 H' a l c (intsV (kwords s.h o)) G→Fr [] H H'→(∀ x∈G,H.size≤x)→Q (.slice a l c) H'):callS PP n_k227 #[.pointer (some ⟨bb,0,none⟩),.int .i64 o] Q H:=by
 have hs1:sliceInfo PP 108=some (1,8,some (.int .i64 0)):=by kernel_rfl
 have hn0:=size_nonneg (r:=s.h) o
 have hn1:=size_le hK.wfs.h o
 apply k227_ok
 unfold k227 A0 iV wW pV lV cS
 refine ⟨_,rfl,_,hc,kspace_k hK fun sb F1 _ hS _ _ _=>⟨_,rfl,psHeap_c hS fun hb F2 hR _ _=>⟨_,rfl,hsize_c hR ⟨_,_,_,rfl,?_⟩⟩⟩⟩
 refine ⟨fun w H'=>∃(i:Nat) (a:Option Addr) (l' c:Nat) (G:Foot),w=[.slice a l' c,.int .i64 i]∧(i:Int)≤ksize s.h o∧Own 1 H' a l' c (intsV ((kwords s.h o).take i)) G∧Fr [] H H'∧(∀ x∈G,H.size≤x),fun w _=>match w with
  | [_,.int _ i]=>(ksize s.h o-i).toNat
  | _=>0,⟨0,none,0,0,[],rfl,hn0,by simpa [intsV] using Own.nil 1 H,Fr.refl _ _,by simp⟩,?_⟩
 rintro w H1 ⟨i,a1,l1,c1,G,rfl,hi,ho,hf1,hG⟩ _
 have hlen:(kwords s.h o).length=(ksize s.h o).toNat:=by simp [kwords]
 have hl1:l1=i:=by have:=ho.len;simp only [intsV,List.length_map,List.length_take] at this;omega
 refine ⟨_,_,_,_,rfl,?_⟩
 rw [cond_dec]
 refine ite_i (fun hlt=>?_) fun hlt=>?_
 ·have hlt:(i:Int)<ksize s.h o:=hlt
  have htk:(kwords s.h o).take (i+1)=(kwords s.h o).take i++[kslot s.h o i]:=by
   rw [List.take_add_one,List.getElem?_eq_getElem (by omega)];simp [kwords]
  have e:IntKind.wrap .i64 ((i:Int)+1)=((i+1:Nat):Int):=by rw [wrap64_id (by omega) (by omega)];omega
  refine hat_c (hR.fr hf1 (Disj.nil_right _) (by simp)) ⟨_,_,rfl,?_⟩
  refine evS_append1 hs1 rfl (by kernel_rfl) ho rfl (by simp [oneC]) (by omega) (by decide) (by decide) fun a' c' G2 H3 g1 g2 g3=>⟨_,_,_,rfl,?_⟩
  have hfr:=Up.fresh hf1 g2 hG
  rw [e]
  refine ⟨⟨i+1,a',l1+1,c',G2,rfl,by omega,?_,hfr.1,hfr.2⟩,by simp;omega⟩
  rw [htk,intsV_append];exact g1
 ·have hlt:¬ (i:Int)<ksize s.h o:=hlt
  rw [List.take_of_length_le (by omega)] at ho
  exact h _ _ _ _ H1 ho hf1 hG
theorem blists_c (hK:PK H b F s t) (hv:KAll s t v) (hc:KP H bb b){o:Int}
  (h1:∀ i (hi:i<v.cls.length),plK v o=some i→∀ a l c G a' l' c' G' H',Own 1 H' a l c (intsV (v.cls[i]).sels) G→Own 1 H' a' l' c' (intsV (v.cls[i]).mets) G'→Fr [] H H'→(∀ x∈G,H.size≤x)→(∀ x∈G',H.size≤x)→Q (.tuple #[.slice a l c,.slice a' l' c',.int .i64 0]) H')
  (h2:plK v o=none→∀ H',Fr [] H H'→Q (.tuple #[.slice none 0 0,.slice none 0 0,.int .i64 130]) H'):callS PP n_k135 #[.pointer (some ⟨bb,0,none⟩),.int .i64 o] Q H:=by
 apply k135_ok
 unfold k135 iV pV lV cS
 refine bthere_c hc ⟨_,rfl,?_⟩
 simp only [Bool.not_true,cond_false]
 refine ⟨_,rfl,_,hc,number_k hK hv fun H1 f1=>?_⟩
 cases hp:plK v o with
 | none=>exact ⟨_,_,rfl,h2 hp H1 f1⟩
 | some i =>
  refine ⟨_,_,rfl,?_⟩
  obtain ⟨hi,rfl⟩:=plK_some hp
  have b3:=(hv.ks.view.sel hi).bnd hv.ks.wf.h
  have b4:=(hv.ks.view.met hi).bnd hv.ks.wf.h
  have e3:koop s.h (v.cls[i]).oop 3=(v.cls[i]).selA:=by
   unfold koop;rw [hv.ks.c3 hi,oopW_obj b3.1 b3.2.1]
  have e4:koop s.h (v.cls[i]).oop 4=(v.cls[i]).metA:=by
   unfold koop;rw [hv.ks.c4 hi,oopW_obj b4.1 b4.2.1]
  simp only [show ((0:Int) != 0)=false from rfl,cond_false]
  refine barray_c (hK.nil f1) (hc.nil f1) ⟨_,rfl,?_⟩
  rw [e3]
  refine bslots_c (hK.nil f1) (hc.nil f1) fun a l c G H2 ho f2 hG=>⟨_,_,_,rfl,?_⟩
  have f12:=f1.trans f2
  refine barray_c (hK.nil f12) (hc.nil f12) ⟨_,rfl,?_⟩
  rw [e4]
  refine bslots_c (hK.nil f12) (hc.nil f12) fun a' l' c' G' H3 ho' f3 hG'=>⟨_,_,_,rfl,?_⟩
  rw [(hv.ks.view.sel hi).kwords] at ho
  rw [(hv.ks.view.met hi).kwords] at ho'
  exact h1 i hi hp _ _ _ _ _ _ _ _ H3 (ho.fr f3 (by simp)) ho' (f12.trans f3) (fun x hx=>Nat.le_trans f1.1 (hG x hx)) fun x hx=>Nat.le_trans f12.1 (hG' x hx)
theorem first_c {n:Nat} (hn:n≤1000000000){f:Nat}{g hh:Array Value}{p:Nat→Bool} (hm:∀ i j,i≤j→j<n→p i=true→p j=true)
  (hf:∀ H1,Fr [] H H1→∀ i,i<n→∀ Q':Value→Heap→Prop,Q' (.bool (p i)) H1→callS PP f ((g++#[.int .i64 (i:Int)])++hh) Q' H1)
  (h:∀ k,k≤n→(∀ j,j<k→p j=false)→(∀ j,k≤j→j<n→p j=true)→Q (.int .i64 (k:Int)) H):callS PP n_k229 #[.int .i64 (n:Int),.func (.func f) g hh] Q H:=by
 apply k229_ok
 unfold k229 iV wW
 refine ⟨fun w H'=>∃(i j:Nat),w=[.int .i64 i,.int .i64 j]∧i≤j∧j≤n∧(∀ k,k<i→p k=false)∧(∀ k,j≤k→k<n→p k=true)∧H'=H,fun w _=>match w with
  | [.int _ i,.int _ j]=>(j-i).toNat
  | _=>0,⟨0,n,rfl,Nat.zero_le _,Nat.le_refl _,fun _ hk=>by omega,fun _ h1 h2=>by omega,rfl⟩,?_⟩
 rintro w H1 ⟨i,j,rfl,hij,hjn,hlo,hhi,rfl⟩ _
 refine ⟨_,_,rfl,?_⟩
 rw [cond_dec]
 refine ite_i (fun hlt=>?_) fun hlt=>?_
 ·have hlt:i<j:=by omega
  have e1:IntKind.wrap .i64 ((i:Int)+j)=((i+j:Nat):Int):=by rw [wrap64_id (by omega) (by omega)];omega
  have e2:Int.tdiv ((i+j:Nat):Int) 2=(((i+j) / 2:Nat):Int):=by rw [Int.tdiv_eq_ediv_of_nonneg (by omega)];omega
  have e3:IntKind.wrap .i64 (((i+j) / 2:Nat):Int)=(((i+j) / 2:Nat):Int):=wrap64_id (by omega) (by omega)
  have e4:IntKind.wrap .i64 ((((i+j) / 2:Nat):Int)+1)=(((i+j) / 2+1:Nat):Int):=by rw [wrap64_id (by omega) (by omega)];omega
  rw [e1,e2,e3,e4]
  refine hf _ (Fr.refl _ _) ((i+j) / 2) (by omega) _ ⟨_,rfl,?_⟩
  cases hp:p ((i+j) / 2) with
  | true =>
   simp only [cond_true]
   exact ⟨⟨i,(i+j) / 2,rfl,by omega,by omega,hlo,fun k h1 h2=>hm _ _ h1 h2 hp,trivial⟩,by simp;omega⟩
  | false =>
   simp only [cond_false]
   refine ⟨⟨(i+j) / 2+1,j,rfl,by omega,hjn,fun k hk=>?_,hhi,trivial⟩,by simp;omega⟩
   cases hpk:p k with
   | false=>rfl
   | true=>rw [hm k ((i+j) / 2) (by omega) (by omega) hpk] at hp;cases hp
 ·have:i=j:=by omega
  subst this
  exact h i hjn hlo hhi
theorem bplace1_c (hK:PK H b F s t) (hc:KP H bb b){a:Option Addr}{l c:Nat}{ns:List Nat} (hr:Rd 1 H a l (intsV (ns.map symW))) (hn:∀ n∈ns,n<t.texts.length){x:ByteArray}{q0 q1 q2:Addr}
  (h0:cellH H q0=some (.pointer (some ⟨bb,0,none⟩))) (h1:cellH H q1=some (.slice a l c)) (h2:cellH H q2=some (.string x)){i:Nat} (hi:i<ns.length)
  (h:Q (.bool (!decide (ltS (tx t ns[i]) x))) H):callS PP n_k230 #[.int .i64 (i:Int),.pointer (some q0),.pointer (some q1),.pointer (some q2)] Q H:=by
 apply k230_ok
 unfold k230 iV pV sV lV cS
 have hl:l=ns.length:=by have:=hr.1;simpa [intsV] using this.symm
 obtain ⟨p,rfl,hcell,_⟩:=hr.int (i:=(i:Int)) (by omega) (by omega)
 refine ⟨_,h0,_,_,_,h1,⟨by omega,by omega⟩,_,rfl,_,by rw [Nat.mul_one];exact hcell,_,h2,?_⟩
 rw [Int.toNat_natCast]
 have e:(ns.map symW).getD i 0=symW ns[i]:=by simp [hi]
 rw [e]
 refine btext_c hK hc (hn _ (List.getElem_mem hi)) ⟨_,rfl,⟨⟨h2,trivial⟩,trivial⟩,?_⟩
 have e2:Op.bytesLess (tx t ns[i]).toList x.toList=decide (ltS (tx t ns[i]) x):=by rw [Bool.eq_iff_iff,decide_eq_true_iff];exact Iff.rfl
 rw [e2];exact h
theorem bplace_c (hK:PK H b F s t) (hc:KP H bb b){a:Option Addr}{l c:Nat}{ns:List Nat} (hr:Rd 1 H a l (intsV (ns.map symW))) (ha:Outs H a l []) (hn:∀ n∈ns,n<t.texts.length) (hsr:(ns.map (tx t)).Pairwise ltS) (hlk:l≤1000000){x:ByteArray}
  (h:∀ H',Fr [] H H'→Q (.tuple #[.int .i64 (posS (ns.map (tx t)) x:Nat),.bool (decide (x∈ns.map (tx t)))]) H'):callS PP n_k139 #[.pointer (some ⟨bb,0,none⟩),.slice a l c,.string x] Q H:=by
 apply k139_ok
 unfold k139 A0 iV pV sV lV cS;dsimp only [shH]
 have hl:l=ns.length:=by have:=hr.1;simpa [intsV] using this.symm
 generalize hH1:H.push (.cells #[.pointer (some ⟨bb,0,none⟩)] 69)=H1
 have g1:Fr [] H H1:=by rw [←hH1];exact Fr.push _ _ _
 have b1:Blk H1 H.size #[.pointer (some ⟨bb,0,none⟩)]:=by rw [←hH1];exact Blk.new _ _ _
 generalize hH2:H1.push (.cells #[.slice a l c] 108)=H2
 have g2:Fr [] H1 H2:=by rw [←hH2];exact Fr.push _ _ _
 have b2:Blk H2 H1.size #[.slice a l c]:=by rw [←hH2];exact Blk.new _ _ _
 generalize hH3:H2.push (.cells #[.string x] 9)=H3
 have g3:Fr [] H2 H3:=by rw [←hH3];exact Fr.push _ _ _
 have b3:Blk H3 H2.size #[.string x]:=by rw [←hH3];exact Blk.new _ _ _
 have f3:Fr [] H H3:=(g1.trans g2).trans g3
 have c1:cellH H3 ⟨H.size,0,none⟩=some (.pointer (some ⟨bb,0,none⟩)):=((b1.fr g2 (by simp)).fr g3 (by simp)).cell 0
 have c2:cellH H3 ⟨H1.size,0,none⟩=some (.slice a l c):=(b2.fr g3 (by simp)).cell 0
 have c3:cellH H3 ⟨H2.size,0,none⟩=some (.string x):=b3.cell 0
 have hK3:=hK.nil f3
 have hc3:=hc.nil f3
 have hr3:Rd 1 H3 a l (intsV (ns.map symW)):=outs_rd ha f3 hr
 refine ⟨_,_,_,c2,?_⟩
 have hts:∀ i (hi:i<ns.length),(ns.map (tx t))[i]?=some (tx t ns[i]):=fun i hi=>by simp [hi]
 rw [hl]
 refine first_c (p:=fun i=>!decide (ltS ((ns.map (tx t)).getD i ⟨#[]⟩) x)) (by omega) (fun i j hij hj hp=>?_) (fun H4 f4 i hi Q' hq=>?_) fun k hk hlo hhi=>⟨_,rfl,?_⟩
 ·have hi:i<ns.length:=by omega
  simp only [Bool.not_eq_true',decide_eq_false_iff_not,List.getD_eq_getElem?_getD,hts i hi,hts j hj,Option.getD_some] at hp ⊢
  rcases Nat.lt_or_ge i j with h1 | h1
  ·intro hlt
   have:=(List.pairwise_iff_getElem.1 hsr) i j (by simpa using hi) (by simpa using hj) h1
   simp only [List.getElem_map] at this
   exact hp (ltS_trans this hlt)
  ·have:i=j:=by omega
   subst this;exact hp
 ·refine bplace1_c (hK3.nil f4) (hc3.nil f4) (outs_rd (ha.more f3.1) f4 hr3) hn (a:=a) (l:=l) (c:=c) (by rw [cell_fr f4 (by simp) (cell_lt c1)];exact c1) (by rw [cell_fr f4 (by simp) (cell_lt c2)];exact c2) (by rw [cell_fr f4 (by simp) (cell_lt c3)];exact c3) hi ?_
  simp only [List.getD_eq_getElem?_getD,hts i hi,Option.getD_some] at hq
  exact hq
 ·have hpos:k=posS (ns.map (tx t)) x:=by
   refine posS_eq hsr (by simpa using hk) (fun j y hj hy=>?_) fun j y hj hy=>?_
   ·have:=hlo j hj
    simp only [List.getD_eq_getElem?_getD,hy,Option.getD_some] at this
    simpa using this
   ·have hjl:j<ns.length:=by have:=(List.getElem?_eq_some_iff.1 hy).1;simpa using this
    have:=hhi j hj hjl
    simp only [List.getD_eq_getElem?_getD,hy,Option.getD_some] at this
    simpa using this
  subst hpos
  refine ⟨_,_,_,c2,?_⟩
  rw [cond_dec,hl]
  have hmem:=posS_mem hsr (x:=x)
  refine ite_i (fun hlt=>?_) fun hlt=>?_
  ·have hlt:posS (ns.map (tx t)) x<ns.length:=by omega
   obtain ⟨p,rfl,hcell,_⟩:=hr3.int (i:=((posS (ns.map (tx t)) x:Nat):Int)) (by omega) (by omega)
   refine ⟨_,c1,_,_,_,c2,⟨by omega,by omega⟩,_,rfl,_,by rw [Nat.mul_one];exact hcell,_,c3,?_⟩
   rw [Int.toNat_natCast]
   have e:(ns.map symW).getD (posS (ns.map (tx t)) x) 0=symW ns[posS (ns.map (tx t)) x]:=by simp [hlt]
   rw [e]
   refine btext_c hK3 hc3 (hn _ (List.getElem_mem hlt)) ⟨_,rfl,⟨⟨c3,trivial⟩,trivial⟩,?_⟩
   have e2:strEq (tx t ns[posS (ns.map (tx t)) x]) x=decide (x∈ns.map (tx t)):=by
    rw [strEq_dec]
    congr 1
    rw [hmem,hts _ hlt]
    simp
   rw [e2]
   exact h _ f3
  ·have e2:decide (x∈ns.map (tx t))=false:=by
    rw [decide_eq_false_iff_not,hmem,List.getElem?_eq_none (by simp;omega)]
    simp
   have:=h _ f3
   rw [e2] at this
   exact this
theorem bselectors_c (hK:PK H b F s t) (hv:KAll s t v) (hd:KD v t) (hc:KP H bb b){o:Int} (h1:∀ i (hi:i<v.cls.length),plK v o=some i→∀ a l c G H',Own 1 H' a l c (strsV (selT t v.cls[i])) G→Fr [] H H'→(∀ x∈G,H.size≤x)→Q (.slice a l c) H')
  (h2:plK v o=none→∀ H',Fr [] H H'→Q (.slice none 0 0) H'):callS PP n_k41 #[.pointer (some ⟨bb,0,none⟩),.int .i64 o] Q H:=by
 have hs1:sliceInfo PP 37=some (1,16,some (.string ⟨#[]⟩)):=by kernel_rfl
 apply k41_ok
 unfold k41 A0 iV wW pV sV lV cS
 refine blists_c hK hv hc (fun i hi hp a l c G a' l' c' G' H1 ho ho' f1 hG hG'=>⟨_,_,_,_,_,_,_,rfl,?_⟩) fun hp H1 f1=>⟨_,_,_,_,_,_,_,rfl,?_⟩
 ·obtain ⟨ns,hdc⟩:=hd _ (List.getElem_mem hi)
  have ht:=hdc.texts hv.names.wf
  have h1:=h1 i hi hp
  rw [ht] at h1
  rw [hdc.sel] at ho
  have hl:l=ns.length:=by have:=ho.len;simpa [intsV] using this.symm
  have hmost:=hdc.most
  refine ⟨fun w H'=>∃(i:Nat) (a:Option Addr) (l' c:Nat) (G:Foot),w=[.slice a l' c,.int .i64 i]∧i≤l∧Own 1 H' a l' c (strsV ((ns.map (tx t)).take i)) G∧Fr [] H1 H'∧(∀ x∈G,H1.size≤x),fun w _=>match w with
   | [_,.int _ i]=>((l:Int)-i).toNat
   | _=>0,⟨0,none,0,0,[],rfl,Nat.zero_le _,by simpa [strsV] using Own.nil 1 H1,Fr.refl _ _,by simp⟩,?_⟩
  rintro w H2 ⟨j,a2,l2,c2,G2,rfl,hj,ho2,f2,hG2⟩ _
  have hl2:l2=j:=by have:=ho2.len;simp only [strsV,List.length_map,List.length_take] at this;omega
  refine ⟨_,_,_,_,rfl,?_⟩
  rw [cond_dec]
  refine ite_i (fun hlt=>?_) fun hlt=>?_
  ·have hjl:j<ns.length:=by omega
   have htk:(ns.map (tx t)).take (j+1)=(ns.map (tx t)).take j++[tx t ns[j]]:=by
    rw [List.take_add_one,List.getElem?_eq_getElem (by simpa using hjl)];simp
   have e:IntKind.wrap .i64 ((j:Int)+1)=((j+1:Nat):Int):=by rw [wrap64_id (by omega) (by omega)];omega
   obtain ⟨p,rfl,hcell,_⟩:=(ho.fr f2 (by simp)).rd.int (i:=(j:Int)) (by omega) (by omega)
   refine ⟨⟨by omega,hlt⟩,_,rfl,_,by rw [Nat.mul_one];exact hcell,?_⟩
   rw [Int.toNat_natCast]
   have e3:(ns.map symW).getD j 0=symW ns[j]:=by simp [hjl]
   rw [e3]
   refine btext_c (hK.nil (f1.trans f2)) (hc.nil (f1.trans f2)) (hdc.num _ (List.getElem_mem hjl)) ⟨_,rfl,?_⟩
   refine evS_append1 hs1 rfl (by kernel_rfl) ho2 rfl (by simp [oneC]) (by omega) (by decide) (by decide) fun a' c' G3 H3 g1 g2 g3=>⟨_,_,_,rfl,?_⟩
   have hfr:=Up.fresh f2 g2 hG2
   rw [e]
   refine ⟨⟨j+1,a',l2+1,c',G3,rfl,by omega,?_,hfr.1,hfr.2⟩,by simp;omega⟩
   rw [htk,strsV_append];exact g1
  ·rw [List.take_of_length_le (by simp;omega)] at ho2
   exact h1 _ _ _ _ H2 ho2 (f1.trans f2) fun x hx=>Nat.le_trans f1.1 (hG2 x hx)
 ·refine ⟨fun w H'=>w=[.slice none 0 0,.int .i64 0]∧H'=H1,fun _ _=>0,⟨rfl,rfl⟩,?_⟩
  rintro w H2 ⟨rfl,rfl⟩ _
  refine ⟨_,_,_,_,rfl,?_⟩
  rw [cond_dec,if_neg (by omega)]
  exact h2 hp _ f1
theorem bat_c (hK:PK H b F s t) (hv:KAll s t v) (hd:KD v t) (hc:KP H bb b){o:Int}{x:ByteArray} (h1:∀ i (hi:i<v.cls.length),plK v o=some i→∀ H',Fr [] H H'→Q (two (atI t v.cls[i] x)) H')
  (h2:plK v o=none→∀ H',Fr [] H H'→Q (.tuple #[.int .i64 0,.int .i64 130]) H'):callS PP n_k133 #[.pointer (some ⟨bb,0,none⟩),.int .i64 o,.string x] Q H:=by
 apply k133_ok
 unfold k133 iV pV sV lV cS
 refine blists_c hK hv hc (fun i hi hp a l c G a' l' c' G' H1 ho ho' f1 hG hG'=>⟨_,_,_,_,_,_,_,rfl,?_⟩) fun hp H1 f1=>⟨_,_,_,_,_,_,_,rfl,?_⟩
 ·obtain ⟨ns,hdc⟩:=hd _ (List.getElem_mem hi)
  have ht:=hdc.texts hv.names.wf
  have h1:=h1 i hi hp
  unfold atI at h1
  rw [ht] at h1
  rw [hdc.sel] at ho
  have hl:l=ns.length:=by have:=ho.len;simpa [intsV] using this.symm
  have hl':l'=ns.length:=by have:=ho'.len;rw [←hdc.len];simpa [intsV] using this.symm
  have hmost:=hdc.most
  simp only [show ((0:Int) != 0)=false from rfl,cond_false]
  refine bplace_c (hK.nil f1) (hc.nil f1) ho.rd (.inr (Own.out ho (Disj.nil_right _))) hdc.num hdc.srt (by omega) fun H2 f2=>⟨_,_,rfl,?_⟩
  by_cases hm:x∈ns.map (tx t)
  ·rw [decide_eq_true hm]
   simp only [Bool.not_true,cond_false]
   have hps:posS (ns.map (tx t)) x<ns.length:=by
    have:=(List.getElem?_eq_some_iff.1 ((posS_mem hdc.srt).1 hm)).1
    simpa using this
   have f12:=f1.trans f2
   obtain ⟨p,rfl,hcell,_⟩:=(ho'.fr f2 (by simp)).rd.int (i:=((posS (ns.map (tx t)) x:Nat):Int)) (by omega) (by omega)
   refine ⟨⟨by omega,by omega⟩,_,rfl,_,by rw [Nat.mul_one];exact hcell,?_⟩
   rw [Int.toNat_natCast]
   have hml:posS (ns.map (tx t)) x<(v.cls[i]).mets.length:=by rw [hdc.len];exact hps
   obtain ⟨o',eo,o1,o2⟩:=hdc.obj _ (List.getElem_mem hml)
   have e:((v.cls[i]).mets).getD (posS (ns.map (tx t)) x) 0=4*o':=by rw [List.getD_eq_getElem?_getD,List.getElem?_eq_getElem hml,←eo];rfl
   have h1:=h1 _ f12
   rw [if_pos hm,e,oopW_obj o1 o2] at h1
   rw [e]
   refine oop_c (hK.nil f12).kinds ?_
   unfold ofW
   have hk:kindW (4*o')=3:=by have:=kind_cases (4*o');omega
   rw [if_pos hk]
   simp only [show 4*o' / 4=o' by omega]
   exact ⟨_,_,rfl,h1⟩
  ·rw [decide_eq_false hm]
   simp only [Bool.not_false,cond_true]
   have h1:=h1 _ (f1.trans f2)
   rw [if_neg hm] at h1
   exact h1
 ·exact h2 hp _ f1
end
theorem rd_take {H:Heap}{a:Option Addr}{l:Nat}{ws:List Int} (h:Rd 1 H a l (intsV ws)){n:Nat} (hn:n≤l):Rd 1 H a n (intsV (ws.take n)):=by
 have hl:=h.1
 simp only [intsV,List.length_map] at hl
 refine ⟨by simp [intsV];omega,fun ha=>by have:=h.2.1 ha;omega,fun p hp i hi=>?_⟩
 rw [h.2.2 p hp i (by omega)]
 simp only [intsV,←List.map_take]
 rw [List.getElem?_map,List.getElem?_map,List.getElem?_take,if_pos (by omega)]
theorem rd_drop {H:Heap}{a:Option Addr}{l c:Nat}{ws:List Int} (h:Rd 1 H a l (intsV ws)){n:Nat} (hn:n≤l) (hc:l≤c){k:Int} (hk:k=n):Rd 1 H (offA a c k 1) (l-k.toNat) (intsV (ws.drop n)):=by
 subst hk
 have hl:=h.1
 simp only [intsV,List.length_map] at hl
 rw [Int.toNat_natCast]
 refine ⟨by simp [intsV];omega,fun ha=>?_,fun p hp i hi=>?_⟩
 ·unfold offA at ha
  split at ha
  ·rename_i h1;rw [Int.toNat_natCast] at h1;omega
  ·cases a with
   | none=>have:=h.2.1 rfl;omega
   | some p=>simp at ha
 ·have hlt:n+i<l:=by omega
  unfold offA at hp
  rw [if_neg (by rw [Int.toNat_natCast];omega)] at hp
  cases a with
  | none=>simp at hp
  | some q =>
   simp only [Option.map_some,Option.some.injEq] at hp
   subst hp
   have:=h.2.2 q rfl (n+i) (by omega)
   have e:(q.add (((n:Int)).toNat*1)).add i=q.add (n+i):=by
    rw [Int.toNat_natCast,Nat.mul_one]
    unfold Addr.add
    by_cases h1:n=0
    ·subst h1;simp
    ·by_cases h2:i=0
     ·subst h2;simp
     ·rw [if_neg h1,if_neg h2,if_neg (by omega)]
      simp only [Nat.add_assoc]
   rw [e,this]
   simp only [intsV]
   rw [List.getElem?_map,List.getElem?_map,List.getElem?_drop]
section
variable {H:Heap}{Q:QT}
theorem dwith_c {a:Option Addr}{l c:Nat}{ws:List Int} (hr:Rd 1 H a l (intsV ws)) (hlc:l≤c) (ho:Outs H a l []) (hlk:l≤1000000){n:Nat} (hn:n≤l){x:Int}
  (h:∀ a' l' c' G H',Own 1 H' a' l' c' (intsV (insA ws n x)) G→Fr [] H H'→(∀ y∈G,H.size≤y)→Q (.slice a' l' c') H'):callS PP n_k145 #[.slice a l c,.int .i64 (n:Int),.int .i64 x] Q H:=by
 have hs1:sliceInfo PP 108=some (1,8,some (.int .i64 0)):=by kernel_rfl
 have hl:=hr.1
 simp only [intsV,List.length_map] at hl
 apply k145_ok
 unfold k145 A0 iV lV
 have hT:=rd_take hr hn
 have e0:([]:List Value)++intsV (ws.take n)=intsV (ws.take n):=by simp
 have last:∀ {a5:Option Addr}{l5 c5:Nat}{G:Foot}{H2:Heap},Own 1 H2 a5 l5 c5 (intsV (ws.take n++[x])) G→Fr [] H H2→(∀ y∈G,H.size≤y)→l5≤1000001 →
   evS PP (Builtin.append_ #[108,108] 108 #[.slice a5 l5 c5,.slice (offA a c (n:Int) 1) (l-Int.toNat (n:Int)) (c-Int.toNat (n:Int))]) (fun v8 H3=>∃ a9:Option Addr,∃ l9:Nat,∃ c9:Nat,v8=.slice a9 l9 c9∧True∧Q (.slice a9 l9 c9) H3) H2:=fun ho5 f2 hG hl5=>by
  refine evS_append hs1 rfl (by kernel_rfl) ho5 (rd_drop (outs_rd ho f2 hr) hn hlc rfl) intsV_one (by simp only [Int.toNat_natCast];omega) (by decide) (by decide) fun a' c' G2 H3 g1 g2 g3=>⟨_,_,_,rfl,trivial,?_⟩
  have hfr:=Up.fresh f2 g2 hG
  refine h _ _ _ _ H3 ?_ hfr.1 hfr.2
  unfold insA
  rw [←intsV_append] at g1
  simpa using g1
 refine ⟨⟨by omega,by omega⟩,⟨by omega,by omega⟩,?_,trivial,?_⟩
 ·refine evS_append hs1 rfl (by kernel_rfl) (Own.nil 1 H) (by rw [Int.toNat_natCast];exact hT) intsV_one (by rw [Int.toNat_natCast];omega) (by decide) (by decide) fun a' c' G2 H1 g1 g2 g3=>⟨_,_,_,rfl,trivial,trivial,?_⟩
  have hf1:=Up.fresh (Fr.refl [] H) g2 (by simp)
  rw [e0] at g1
  refine evS_append1 hs1 rfl (by kernel_rfl) g1 rfl (by simp [oneC]) (by rw [Int.toNat_natCast];omega) (by decide) (by decide) fun a2 c2 G3 H2 k1 k2 k3=>⟨_,_,_,rfl,trivial,?_⟩
  have hf2:=Up.fresh hf1.1 k2 hf1.2
  refine last (by rw [intsV_append];exact k1) hf2.1 hf2.2 (by rw [Int.toNat_natCast];omega)
 ·have fp:Fr [] H (H.push (.cells #[.int .i64 x] 36)):=Fr.push _ _ _
  have hb0:=Blk.new H #[.int .i64 x] 36
  have hT':Rd 1 (H.push (.cells #[.int .i64 x] 36)) a n (intsV (ws.take n)):=by
   refine hT.fr' fp (by simp)
  refine evS_append hs1 rfl (by kernel_rfl) (Own.nil 1 _) (by rw [Int.toNat_natCast];exact hT') intsV_one (by rw [Int.toNat_natCast];omega) (by decide) (by decide) fun a' c' G2 H1 g1 g2 g3=>⟨_,_,_,rfl,trivial,?_⟩
  have hf1:=Up.fresh (Fr.refl [] _) g2 (by simp)
  rw [e0] at g1
  have hb1:=hb0.fr hf1.1 (by simp)
  refine evS_append hs1 rfl (by kernel_rfl) g1 (l2:=1) (ys:=intsV [x]) ⟨rfl,(fun h=>by cases h),fun p hp k hk=>?_⟩ intsV_one (by rw [Int.toNat_natCast];omega) (by decide) (by decide) fun a2 c2 G3 H2 k1 k2 k3=>⟨_,_,_,rfl,trivial,?_⟩
  ·cases hp
   have:k=0:=by omega
   subst this
   rw [add_none]
   exact hb1.cell 0
  have hf2:=Up.fresh (fp.trans hf1.1) k2 (fun y hy=>Nat.le_trans fp.1 (hf1.2 y hy))
  refine last (by rw [intsV_append];exact k1) hf2.1 hf2.2 (by rw [Int.toNat_natCast];omega)
theorem dwithout_c {a:Option Addr}{l c:Nat}{ws:List Int} (hr:Rd 1 H a l (intsV ws)) (hlc:l≤c) (ho:Outs H a l []) (hlk:l≤1000000){n:Nat} (hn:n<l)
  (h:∀ a' l' c' G H',Own 1 H' a' l' c' (intsV (ws.eraseIdx n)) G→Fr [] H H'→(∀ y∈G,H.size≤y)→Q (.slice a' l' c') H'):callS PP n_k152 #[.slice a l c,.int .i64 (n:Int)] Q H:=by
 have hs1:sliceInfo PP 108=some (1,8,some (.int .i64 0)):=by kernel_rfl
 have hl:=hr.1
 simp only [intsV,List.length_map] at hl
 apply k152_ok
 unfold k152 wW lV
 have hT:=rd_take hr (n:=n) (by omega)
 have e0:([]:List Value)++intsV (ws.take n)=intsV (ws.take n):=by simp
 have e:IntKind.wrap .i64 ((n:Int)+1)=((n+1:Nat):Int):=by rw [wrap64_id (by omega) (by omega)];omega
 rw [e]
 refine ⟨⟨by omega,by omega⟩,⟨by omega,by omega⟩,?_⟩
 refine evS_append hs1 rfl (by kernel_rfl) (Own.nil 1 H) (by rw [Int.toNat_natCast];exact hT) intsV_one (by rw [Int.toNat_natCast];omega) (by decide) (by decide) fun a' c' G2 H1 g1 g2 g3=>⟨_,_,_,rfl,trivial,?_⟩
 have hf1:=Up.fresh (Fr.refl [] H) g2 (by simp)
 rw [e0] at g1
 refine evS_append hs1 rfl (by kernel_rfl) g1 (rd_drop (outs_rd ho hf1.1 hr) (n:=n+1) hn hlc rfl) intsV_one (by simp only [Int.toNat_natCast];omega) (by decide) (by decide) fun a2 c2 G3 H2 k1 k2 k3=>⟨_,_,_,rfl,trivial,?_⟩
 have hf2:=Up.fresh hf1.1 k2 hf1.2
 refine h _ _ _ _ H2 ?_ hf2.1 hf2.2
 rw [←intsV_append] at k1
 rw [List.eraseIdx_eq_take_drop_succ]
 exact k1
end
section
variable {H:Heap}{bb b sb:Nat}{F:Foot}{s:SP}{t:TB}{v:KV}{Q:QT}
abbrev KSb (H:Heap) (b sb:Nat):Prop:=cellH H ⟨b,0,none⟩=some (.pointer (some ⟨sb,0,none⟩))
theorem PK.spAt (hK:PK H b F s t) (hs:KSb H b sb):∃ F1,PSp H sb F1 s∧(∀ x∈F1,x∈F)∧(∀ H' F1' s',PSp H' sb F1' s'→Up F1 H F1' H'→(∃ F',PK H' b F' s' t∧Up F H F' H')∧KSb H' b sb)∧(∀ H' s',PSp H' sb F1 s'→Fr F1 H H'→PK H' b F s' t∧KSb H' b sb):=by
 obtain ⟨sb',F1,hc,hS,hsub,hnb,hup,hup2⟩:=hK.sp
 have hc':=hc
 rw [hs] at hc'
 have e:sb'=sb:=by simpa using hc'.symm
 subst e
 have hl:=cell_lt hc
 exact ⟨F1,hS,hsub,fun H' F1' s' h1 h2=>⟨hup H' F1' s' h1 h2,by unfold KSb;rw [cell_fr h2.1 hnb hl];exact hc⟩,fun H' s' h1 h2=>⟨hup2 H' s' h1 h2,by unfold KSb;rw [cell_fr h2 hnb hl];exact hc⟩⟩
theorem kspaceAt (hs:KSb H b sb) (h:Q (.pointer (some ⟨sb,0,none⟩)) H):callS PP n_k19 #[.pointer (some ⟨b,0,none⟩)] Q H:=by
 apply k19_ok
 unfold k19 pV
 exact ⟨_,rfl,_,hs,h⟩
theorem KSb.nil {H':Heap} (h:KSb H b sb) (f:Fr [] H H'):KSb H' b sb:=by
 unfold KSb at h ⊢
 rw [cell_fr f (by simp) (cell_lt h)];exact h
theorem KP.fr {H':Heap} (h:KP H bb b){G:Foot} (f:Fr G H H') (hn:bb∉G):KP H' bb b:=by
 unfold KP at h ⊢
 rw [cell_fr f hn (cell_lt h)];exact h
theorem blaid_c (hK:PK H b F s t) (hc:KP H bb b) (hbb:bb∉F) (hs:KSb H b sb){a:Option Addr}{l c:Nat}{ws:List Int} (hk:Rd 1 H a l (intsV ws)) (hd:∀ p,a=some p→p.block∉F) (hlk:l≤1000000000)
  (h:∀ H' F',PK H' b F' (s.array ws).2 t→KSb H' b sb→Up F H F' H'→Q (.tuple #[.int .i64 (s.array ws).1.1,.int .i64 (s.array ws).1.2]) H'):callS PP n_k235 #[.pointer (some ⟨bb,0,none⟩),.slice a l c] Q H:=by
 have hl:l=ws.length:=by have:=hk.1;simpa [intsV] using this.symm
 apply k235_ok
 unfold k235 A0 iV wW pV lV cS
 unfold SP.array at h
 rw [beqI,cond_dec]
 refine ite_i (fun h0=>?_) fun h0=>?_
 ·have:ws=[]:=List.eq_nil_of_length_eq_zero (by omega)
  rw [if_pos this] at h
  exact obj_c (by decide) ⟨_,_,rfl,h H F hK hs (Up.refl _ _)⟩
 have hne:ws≠[]:=fun e=>h0 (by rw [hl,e];rfl)
 rw [if_neg hne] at h
 unfold SP.make at h
 obtain ⟨F1,hS,hsub,_,hup⟩:=hK.spAt hs
 refine ⟨_,rfl,_,hc,kspaceAt hs ⟨_,rfl,obj_c (by decide) ⟨_,_,rfl,?_⟩⟩⟩
 rw [hl]
 refine psAlloc_c hS fun H1 hS1 hf1=>⟨_,_,rfl,?_⟩
 have hfF:=hf1.mono hsub
 have hu':Up F H F H1:=⟨hfF,fun _ h=>.inl h⟩
 obtain ⟨hK1,hs1⟩:=hup H1 _ hS1 hf1
 have hd':=hk.fr' hfF hd
 rw [bneI,cond_dec]
 refine ite_i (fun h1=>?_) fun h1=>?_
 ·rw [if_pos h1] at h;exact h _ _ hK1 hs1 hu'
 rw [if_neg h1] at h
 have hz:(s.alloc (4*11) ws.length 0).1.2=0:=Classical.byContradiction h1
 obtain ⟨o,e1,o1,o2,_,_,harr,_⟩:=salloc_ok hK.wfs hz
 rw [if_pos hz]
 rw [e1] at h ⊢
 have e2:4*o / 4=o:=by omega
 rw [e2] at h
 generalize (s.alloc (4*11) ws.length 0).2=s1 at *
 have hk3:kindW (4*o)=3:=by have:=kind_cases (4*o);omega
 refine oop_c hK1.kinds ?_
 unfold ofW
 rw [if_pos hk3]
 simp only [e2]
 refine ⟨_,_,rfl,?_⟩
 refine ⟨fun w H'=>∃(i:Nat) (r:RH),w=[.int .i64 i]∧i≤ws.length∧PK H' b F { s1 with h:=r } t∧KSb H' b sb∧Fr F H1 H'∧r.lay o i (ws.drop i)=s1.h.lay o 0 ws∧∀ x,objAt r.objs o=some x→x.fmt=0,fun w _=>match w with
  | [.int _ i]=>(ws.length-i).toNat
  | _=>0,⟨0,s1.h,rfl,Nat.zero_le _,hK1,hs1,Fr.refl _ _,rfl,fun x hx=>by obtain ⟨y,h2,h3,_⟩:=harr;rw [h2] at hx;cases hx;exact h3⟩,?_⟩
 rintro w H4 ⟨i,r,rfl,hi,hK4,hs4,hf4,hlay,hfmt⟩ _
 refine ⟨_,rfl,?_⟩
 rw [cond_dec]
 refine ite_i (fun hlt=>?_) fun hlt=>?_
 ·obtain ⟨p,rfl,hcell,hlt2⟩:=(hd'.fr' hf4 hd).int (i:=(i:Int)) (by omega) (by omega)
  rw [Int.toNat_natCast] at hcell hlt2
  have hx:ws.getD i 0=ws[i]:=by simp [hlt2]
  rw [hx] at hcell
  have ed:ws.drop i=ws[i] :: ws.drop (i+1):=List.drop_eq_getElem_cons hlt2
  have e:IntKind.wrap .i64 ((i:Int)+1)=((i+1:Nat):Int):=by rw [wrap64_id (by omega) (by omega)];omega
  obtain ⟨F4,hS4,hsub4,_,hup4⟩:=hK4.spAt hs4
  refine ⟨⟨by omega,hlt⟩,_,rfl,_,by rw [Int.toNat_natCast,Nat.mul_one];exact hcell,psHeap_c hS4 fun hb F5 hR hsub5 hup5=>⟨_,rfl,put_c hR hfmt fun H6 hR6 hf6=>⟨_,rfl,?_⟩⟩⟩
  have hS6:=hup5 H6 _ hR6 hf6
  obtain ⟨hK6,hs6⟩:=hup4 H6 _ hS6 (hf6.mono hsub5)
  have hf6':Fr F H4 H6:=(hf6.mono hsub5).mono hsub4
  rw [e]
  refine ⟨⟨i+1,(r.put o i ws[i]).2,rfl,by omega,hK6,hs6,hf4.trans hf6',?_,fun x hx=>?_⟩,by simp;omega⟩
  ·rw [←hlay,ed]
   simp only [RH.lay]
   congr 1
   all_goals omega
  ·obtain ⟨y,h2,h3⟩:=put_fmt o i ws[i] o hx
   rw [h3];exact hfmt y h2
 ·have hil:i=ws.length:=by omega
  subst hil
  rw [List.drop_length] at hlay
  simp only [RH.lay] at hlay
  rw [hlay] at hK4
  have fp:Fr [] H4 (H4.push (.cells #[.int .i64 (4*o)] 36)):=Fr.push _ _ _
  have hK5:=hK4.nil fp
  have hs5:=hs4.nil fp
  obtain ⟨F5,hS5,hsub5,hup5,_⟩:=hK5.spAt hs5
  refine psKeep_c hS5 (ws:=[4*o]) ?_ (by omega) fun H7 F7 hS7 hu7=>⟨_,rfl,?_⟩
  ·refine ⟨rfl,(fun h=>by cases h),fun p hp k hk=>?_⟩
   cases hp
   have:k=0:=by omega
   subst this
   rw [add_none]
   exact (Blk.new H4 _ _).cell 0
  ·obtain ⟨⟨F',hK7,hu7'⟩,hs7⟩:=hup5 H7 F7 _ hS7 hu7
   exact h H7 F' hK7 hs7 ((hu'.trans ⟨hf4,fun _ h=>.inl h⟩).trans ((Up.of_nil fp).trans hu7'))
end
theorem KD.set {v:KV}{t:TB} (h:KD v t){i:Nat}{c:CV} (hc:∃ ns,DC t c ns):KD (v.setC i c) t:=fun c' hc'=>by
 rcases List.mem_or_eq_of_mem_set hc' with h1 | rfl
 ·exact h c' h1
 ·exact hc
structure Chg (v:KV) (t:TB) (i:Nat) (n:Int) (E:List (ByteArray × Int)) (v':KV):Prop where
 kd:KD v' t
 bad:n≠0→v'=v
 good:n=0→∃ hi:i<v.cls.length,∃ a b l m,v'=v.setC i ((v.cls[i]).lists a b l m)∧(entsC t ((v.cls[i]).lists a b l m)).Perm E
theorem write_chg {s:SP}{t:TB}{v:KV} (h:KAll s t v) (hd:KD v t){i:Nat} (hi:i<v.cls.length){kp l m:List Int}{E:List (ByteArray × Int)} (hkp:∀ w∈kp,isW w) (hk1:kp.length≤1) (ho:DOK t (v.cls[i]) l m E) :
  ∃ v',KAll (kWrite s (v.cls[i]).oop kp l m).2 t v'∧Chg v t i (kWrite s (v.cls[i]).oop kp l m).1 E v':=by
 obtain ⟨ns,hdc⟩:=ho.dc 0 0
 have hl:∀ w∈l,isW w:=fun w hw=>by
  have e:l=ns.map symW:=hdc.sel
  rw [e] at hw
  obtain ⟨n,hn,rfl⟩:=List.mem_map.1 hw
  exact isW_sym h.names.wf (hdc.num n hn)
 have hm:∀ w∈m,isW w:=fun w hw=>by
  obtain ⟨o,rfl,h1,h2⟩:=hdc.obj w hw
  exact isW_obj h1 h2
 have hlm:l.length=m.length:=by
  have e:l=ns.map symW:=hdc.sel
  have e2:m.length=ns.length:=hdc.len
  rw [e,e2];simp
 obtain ⟨h1,h2⟩:=kWrite_ok h hi hkp hk1 hl hm hlm
 by_cases he:(kWrite s (v.cls[i]).oop kp l m).1=0
 ·obtain ⟨a,b,hv⟩:=h2 he
  exact ⟨_,hv,hd.set (ho.dc a b),fun hn=>absurd he hn,fun _=>⟨hi,a,b,l,m,rfl,ho.ent a b⟩⟩
 ·exact ⟨v,h1 he,hd,fun _=>rfl,fun hn=>absurd hn he⟩
theorem kPutI_ok {s:SP}{t:TB}{v:KV} (h:KAll s t v) (hd:KD v t){i:Nat} (hi:i<v.cls.length) (name:ByteArray) (m:Int) :
  ∃ v',KAll (kPutI s t (v.cls[i]) name m).2 t v'∧Chg v t i (kPutI s t (v.cls[i]) name m).1 ((name,m) :: (entsC t (v.cls[i])).filter fun e=>decide (e.1≠name)) v':=by
 have stay:∀ {n:Int}{E:List (ByteArray × Int)},n≠0→∃ v',KAll s t v'∧Chg v t i n E v':=fun hn=>⟨v,h,hd,fun _=>rfl,fun h0=>absurd h0 hn⟩
 obtain ⟨ns,hdc⟩:=hd _ (List.getElem_mem hi)
 have hw:=h.names.wf
 unfold kPutI
 cases hn:numOf t.texts name with
 | none=>exact stay (n:=61) (by decide)
 | some n =>
  simp only
  by_cases hc:(s.h.clsAt m).2=0
  rotate_left
  ·rw [if_pos (by simpa using hc)];exact stay hc
  rw [if_neg (by simpa using hc)]
  obtain ⟨m1,m2⟩:=clsAt_bnd h.ks.wf.h hc
  have hwm:=isW_obj m1 m2
  by_cases hmem:name∈selT t (v.cls[i])
  ·rw [if_pos hmem]
   have ho:=over_ok hdc hw hmem m1 m2
   obtain ⟨_,_,_,hpm,_⟩:=ents_at hdc hw hmem
   obtain ⟨_,hv⟩:=kOver_ok h hi hpm hwm
   exact ⟨_,hv,hd.set (ho.dc _ _),fun h0=>absurd rfl h0,fun _=>⟨hi,_,_,_,_,rfl,ho.ent _ _⟩⟩
  ·rw [if_neg hmem]
   by_cases hl:128≤(v.cls[i]).sels.length
   ·rw [if_pos hl];exact stay (n:=138) (by decide)
   ·rw [if_neg hl]
    exact write_chg h hd hi (by simpa using hwm) (by simp) (insert_ok hdc hw hn hmem (by omega) m1 m2)
theorem kRemI_ok {s:SP}{t:TB}{v:KV} (h:KAll s t v) (hd:KD v t){i:Nat} (hi:i<v.cls.length) (name:ByteArray) :
  ∃ v',KAll (kRemI s t (v.cls[i]) name).2 t v'∧Chg v t i (kRemI s t (v.cls[i]) name).1 ((entsC t (v.cls[i])).filter fun e=>decide (e.1≠name)) v':=by
 obtain ⟨ns,hdc⟩:=hd _ (List.getElem_mem hi)
 unfold kRemI
 by_cases hmem:name∈selT t (v.cls[i])
 ·rw [if_pos hmem]
  exact write_chg h hd hi (by simp) (by simp) (remove_ok hdc h.names.wf hmem)
 ·rw [if_neg hmem]
  exact ⟨v,h,hd,fun _=>rfl,fun h0=>absurd (show (140:Int)=0 from h0) (by decide)⟩
end Go.Proofs.YtmkdkplipbocjaaGreatDoor
namespace Kw
open Go
def pairV (x:Int × Int):Value:=.agg #[.int .i64 x.1,.int .i64 x.2]
def PairK (P : Program) (kt : TypeId) : Prop := P.stoodInHeld kt = false ∧ ∃ f g : Field, P.underlying kt = some (.struct #[f, g]) ∧ f.name ≠ "_" ∧ g.name ≠ "_" ∧ f.offset = 0 ∧ g.offset = 1 ∧ P.underlying f.type = some (.int .i64) ∧ P.underlying g.type = some (.int .i64)
def MapP (H:Heap) (r:Nat) (es:List ((Int × Int) × Value)):Prop:=∃(ents:Array MapEntry) (clock:Nat),H[r]?=some (.map ents clock)∧ents.toList.map (fun e=>(e.key,e.val))=es.map (fun p=>(pairV p.1,p.2))
theorem MapP.new (H:Heap):MapP (H.push (.map #[] 0)) H.size []:=⟨#[],0,by simp,rfl⟩
theorem MapP.lt {H:Heap}{r:Nat}{es:List ((Int × Int) × Value)} (h:MapP H r es):r<H.size:=by
 obtain ⟨ents,clock,hr,_⟩:=h;exact (Array.getElem?_eq_some_iff.1 hr).1
theorem MapP.fr {H H':Heap}{G:Foot}{r:Nat}{es:List ((Int × Int) × Value)} (h:MapP H r es) (hf:Fr G H H') (hn:r∉G):MapP H' r es:=by
 have hl:=h.lt
 obtain ⟨ents,clock,hr,h2⟩:=h;exact ⟨ents,clock,(hf.2 r hl hn).trans hr,h2⟩
def getP:List ((Int × Int) × Value)→Int × Int→Option Value
 | [],_=>none
 | p :: l,k=>if k=p.1 then some p.2 else getP l k
section
variable {P:Program}{H:Heap}
theorem evS_part {t:TypeId}{cs:Array Value}{i:Nat}{v:Value}{Q:Value→Heap→Prop} (hu:P.underlying t=some (.int .i64)) (hv:cs[i]?=some v) (h:Q v H):evS P (part t cs i) Q H:=by
 unfold part isAgg
 refine evS_bind' (evS_bind' (evS_underlying hu ?_))
 simp only [hv]
 exact h
theorem evS_eqInt {t:TypeId}{n:Nat}{a b:Int}{Q:Bool→Heap→Prop} (hu:P.underlying t=some (.int .i64)) (h:Q (decide (a=b)) H):evS P (Op.equalIn (n+1) t (.int .i64 a) (.int .i64 b)) Q H:=by
 unfold Op.equalIn
 refine evS_bind' (evS_underlying hu ?_)
 have e:(a == b)=decide (a=b):=by rw [Bool.eq_iff_iff];simp
 simp only [if_true,e]
 exact h
theorem evS_program {α:Type}{f:Program→Sem α}{Q:α→Heap→Prop} (h:evS P (f P) Q H):evS P (program >>= f) Q H:=evS_bind' h
theorem evS_for2 {f g:Field}{st:Type} (init:st) (body:Field→st→Sem (ForInStep st)){Q:st→Heap→Prop} (h:evS P (body f init) (fun r H1=>match r with
  | .done x=>Q x H1
  | .yield x=>evS P (body g x) (fun r H2=>match r with
   | .done x=>Q x H2
   | .yield x=>Q x H2) H1) H):evS P (forIn #[f,g] init body) Q H:=by
 rw [←Array.forIn_toList]
 show evS P (forIn [f,g] init body) Q H
 rw [List.forIn_cons]
 refine evS_bind' (evS_mono _ h fun r H1 hq=>?_)
 cases r with
 | done x=>exact hq
 | yield x =>
  simp only at hq ⊢
  rw [List.forIn_cons]
  refine evS_bind' (evS_mono _ hq fun r H2 hq=>?_)
  cases r with
  | done x=>exact hq
  | yield x=>simp only [List.forIn_nil] at hq ⊢;exact hq
theorem evS_eqPair {t:TypeId}{x y:Int × Int}{Q:Bool→Heap→Prop} (hk:PairK P t) (h:Q (decide (x=y)) H):evS P (Op.equal t (pairV x) (pairV y)) Q H:=by
 obtain ⟨hs,f,g,hu,n1,n2,o1,o2,u1,u2⟩:=hk
 obtain ⟨x1,x2⟩:=x
 obtain ⟨y1,y2⟩:=y
 unfold Op.equal Op.maxDepth Op.equalIn pairV
 refine evS_bind' (evS_underlying hu ?_)
 refine evS_program ?_
 rw [hs]
 simp only [Bool.false_eq_true,if_false]
 refine evS_bind' (evS_for2 _ _ ?_)
 rw [if_pos n1]
 refine evS_bind' (evS_part u1 (v:=.int .i64 x1) (by rw [o1];rfl) ?_)
 refine evS_bind' (evS_part u1 (v:=.int .i64 y1) (by rw [o1];rfl) ?_)
 refine evS_bind' (evS_eqInt u1 ?_)
 by_cases h1:x1=y1
 ·rw [decide_eq_true h1]
  simp only [Bool.not_true,Bool.false_eq_true,if_false]
  refine evS_pure ?_
  simp only
  rw [if_pos n2]
  refine evS_bind' (evS_part u2 (v:=.int .i64 x2) (by rw [o2];rfl) ?_)
  refine evS_bind' (evS_part u2 (v:=.int .i64 y2) (by rw [o2];rfl) ?_)
  refine evS_bind' (evS_eqInt u2 ?_)
  by_cases h2:x2=y2
  ·rw [decide_eq_true (show (x1,x2)=(y1,y2) by rw [h1,h2])] at h
   rw [decide_eq_true h2]
   exact h
  ·rw [decide_eq_false (show ¬ (x1,x2)=(y1,y2) by simp [h2])] at h
   rw [decide_eq_false h2]
   exact h
 ·rw [decide_eq_false (show ¬ (x1,x2)=(y1,y2) by simp [h1])] at h
  rw [decide_eq_false h1]
  exact h
theorem evS_findP {kt:TypeId} (hk:PairK P kt){k:Int × Int}:∀ (ents:List MapEntry) (es:List ((Int × Int) × Value)) (i:Nat){Q:Option (Nat × Value)→Heap→Prop},ents.map (fun e=>(e.key,e.val))=es.map (fun p=>(pairV p.1,p.2)) →
  (∀ r,(r=none→getP es k=none)→(∀ j v,r=some (j,v)→getP es k=some v)→Q r H)→evS P (Instr.findAsking kt (pairV k) ents i) Q H
 | [],[],i,Q,_,h=>h none (fun _=>rfl) (fun _ _ e=>by cases e)
 | [],_ :: _,_,_,e,_=>by simp at e
 | _ :: _,[],_,_,e,_=>by simp at e
 | e :: ents,p :: es,i,Q,he,h=>by
  simp only [List.map_cons,List.cons.injEq,Prod.mk.injEq] at he
  obtain ⟨⟨h1,h2⟩,h3⟩:=he
  unfold Instr.findAsking
  rw [h1]
  refine evS_bind' (evS_eqPair hk ?_)
  by_cases hkp:k=p.1
  ·rw [decide_eq_true hkp]
   refine evS_pure (h _ (fun e=>by cases e) fun j v e=>?_)
   cases e
   unfold getP
   rw [if_pos hkp,h2]
  ·rw [decide_eq_false hkp]
   simp only [Bool.false_eq_true,if_false]
   refine evS_findP hk ents es (i+1) h3 fun r r1 r2=>h r (fun e=>?_) fun j v e=>?_
   ·unfold getP;rw [if_neg hkp];exact r1 e
   ·unfold getP;rw [if_neg hkp];exact r2 j v e
theorem evS_findKeyP {kt:TypeId} (hk:PairK P kt){k:Int × Int}{ents:List MapEntry}{es:List ((Int × Int) × Value)}{Q:Option (Nat × Value)→Heap→Prop} (he:ents.map (fun e=>(e.key,e.val))=es.map (fun p=>(pairV p.1,p.2)))
  (h:∀ r,(r=none→getP es k=none)→(∀ j v,r=some (j,v)→getP es k=some v)→Q r H):evS P (Instr.findKey kt (pairV k) ents) Q H:=by
 obtain ⟨f,g,hu,_⟩:=hk.2
 unfold Instr.findKey
 refine evS_bind' (evS_underlying hu ?_)
 cases ents with
 | nil =>
  cases es with
  | nil=>exact h none (fun _=>rfl) (fun _ _ e=>by cases e)
  | cons p es=>simp at he
 | cons e ents =>
  cases es with
  | nil=>simp at he
  | cons p es =>
   have:Instr.findNow (.struct #[f,g]) (pairV k) (e :: ents) 0=none:=by
    unfold Instr.findNow
    rfl
   rw [this]
   exact evS_findP hk (e :: ents) (p :: es) 0 he h
theorem evS_checkInt {t:TypeId}{a:Int}{n:Nat}{e:Bool}{Q:Unit→Heap→Prop} (hu:P.underlying t=some (.int .i64)) (h:Q () H):evS P (Instr.checkKey e (n+1) t (.int .i64 a)) Q H:=by
 unfold Instr.checkKey
 exact evS_bind' (evS_underlying hu h)
theorem evS_checkP {kt:TypeId} (hk:PairK P kt){k:Int × Int}{e:Bool}{Q:Unit→Heap→Prop} (h:Q () H):evS P (Instr.checkKey e 10000 kt (pairV k)) Q H:=by
 obtain ⟨_,f,g,hu,n1,n2,o1,o2,u1,u2⟩:=hk
 unfold Instr.checkKey pairV
 refine evS_bind' (evS_underlying hu ?_)
 refine evS_bind' (evS_for2 _ _ ?_)
 rw [if_pos n1]
 refine evS_bind' (evS_part u1 (v:=.int .i64 k.1) (by rw [o1];rfl) ?_)
 refine evS_bind' (evS_checkInt u1 (evS_pure ?_))
 simp only
 rw [if_pos n2]
 refine evS_bind' (evS_part u2 (v:=.int .i64 k.2) (by rw [o2];rfl) ?_)
 exact evS_bind' (evS_checkInt u2 (evS_pure h))
theorem evS_lookupP {T kt et:TypeId}{i:TypeInfo}{z:Value}{r:Nat}{k:Int × Int}{es:List ((Int × Int) × Value)}{Q:Value→Heap→Prop} (hT:P.underlying T=some (.map kt et)) (hk:PairK P kt) (hi:P.info? et=some i) (hz:i.zero=some z) (hm:MapP H r es)
  (h:Q (.tuple #[(getP es k).getD z,.bool (getP es k).isSome]) H):evS P (Instr.lookup T (.map (some r)) (pairV k) true) Q H:=by
 obtain ⟨ents,clock,hr,he⟩:=hm
 unfold Instr.lookup
 refine evS_bind' (evS_underlying hT ?_)
 refine evS_bind' ?_
 refine (⟨_,hr,rfl,?_⟩:∃ o,H[r]?=some o∧isCells o=false∧_)
 refine evS_bind' (evS_pure ?_)
 refine evS_bind' (evS_checkP hk ?_)
 refine evS_bind' (evS_findKeyP hk he fun q q1 q2=>?_)
 cases q with
 | none =>
  rw [q1 rfl] at h
  exact evS_bind' (evS_zeroValue hi hz h)
 | some jv =>
  obtain ⟨j,v⟩:=jv
  rw [q2 j v rfl] at h
  exact h
theorem evS_insertP {T kt et:TypeId}{r:Nat}{k:Int × Int}{v:Value}{es:List ((Int × Int) × Value)}{Q:Unit→Heap→Prop} (hT:P.underlying T=some (.map kt et)) (hk:PairK P kt) (hm:MapP H r es) (hno:getP es k=none)
  (h:∀ H',MapP H' r (es++[(k,v)])→Fr [r] H H'→Q () H'):evS P (Instr.mapUpdate T (.map (some r)) (pairV k) v) Q H:=by
 obtain ⟨ents,clock,hr,he⟩:=hm
 have hrl:r<H.size:=(Array.getElem?_eq_some_iff.1 hr).1
 have hset:∀ o:Obj,Fr [r] H (H.setIfInBounds r o)∧(H.setIfInBounds r o)[r]?=some o:=fun o =>
  ⟨⟨by simp,fun b _ hn=>by rw [Array.getElem?_setIfInBounds,if_neg (by simp only [List.mem_singleton] at hn;exact fun e=>hn e.symm)]⟩,by simp [hrl]⟩
 unfold Instr.mapUpdate
 refine evS_bind' (evS_underlying hT ?_)
 refine evS_bind' ?_
 refine (⟨_,hr,rfl,?_⟩:∃ o,H[r]?=some o∧isCells o=false∧_)
 refine evS_bind' (evS_checkP hk ?_)
 refine evS_bind' (evS_findKeyP hk he fun q q1 q2=>?_)
 cases q with
 | none =>
  refine (⟨⟨_,hr,rfl⟩,?_⟩:(∃ o',H[r]?=some o'∧isCells o'=false)∧_)
  exact h _ ⟨_,_,(hset _).2,by simp [he]⟩ (hset _).1
 | some jv =>
  obtain ⟨j,v⟩:=jv
  rw [q2 j v rfl] at hno;cases hno
theorem evS_clearMapP {T T0 k e:TypeId}{r:Nat}{es:List ((Int × Int) × Value)}{Q:Value→Heap→Prop} (hT:P.underlying T=some (.map k e)) (hm:MapP H r es) (h:∀ H',MapP H' r []→Fr [r] H H'→Q (.tuple #[]) H'):evS P (Builtin.clear_ #[T] T0 #[.map (some r)]) Q H:=by
 obtain ⟨ents,clock,hr,he⟩:=hm
 have hrl:r<H.size:=(Array.getElem?_eq_some_iff.1 hr).1
 have hset:∀ o:Obj,Fr [r] H (H.setIfInBounds r o)∧(H.setIfInBounds r o)[r]?=some o:=fun o =>
  ⟨⟨by simp,fun b _ hn=>by rw [Array.getElem?_setIfInBounds,if_neg (by simp only [List.mem_singleton] at hn;exact fun e=>hn e.symm)]⟩,by simp [hrl]⟩
 unfold Builtin.clear_
 refine evS_bind' (evS_underlying hT ?_)
 refine evS_bind' ?_
 refine (⟨_,hr,rfl,?_⟩:∃ o,H[r]?=some o∧isCells o=false∧_)
 refine (⟨⟨_,hr,rfl⟩,?_⟩:(∃ o',H[r]?=some o'∧isCells o'=false)∧_)
 exact h _ ⟨_,_,(hset _).2,rfl⟩ (hset _).1
end
end Kw
namespace Go.Proofs.YtmkdkplipbocjaaGreatDoor
open Kw
structure PB (H:Heap) (bb b:Nat) (F:Foot) (mb:Nat) (s:SP) (t:TB) (es:List ((Int × Int) × Value)) (hits:Int):Prop where
 k:PK H b F s t
 blk:Blk H bb #[.pointer (some ⟨b,0,none⟩),.map (some mb),.int .i64 hits]
 map:MapP H mb es
 ne:bb≠mb
 nb:bb∉F
 nm:mb∉F
 gb:g_word_kinds≠bb
 gm:g_word_kinds≠mb
def clr (n:Int) (es:List ((Int × Int) × Value)):List ((Int × Int) × Value):=if n=0 then [] else es
theorem clr_ne {n:Int} (h:n≠0) (es:List ((Int × Int) × Value)):clr n es=es:=by unfold clr;rw [if_neg h]
theorem clr_zero (es:List ((Int × Int) × Value)):clr 0 es=[]:=rfl
section
variable {H H':Heap}{bb b mb sb:Nat}{F F':Foot}{s s':SP}{t t':TB}{v:KV}{es:List ((Int × Int) × Value)}{hits:Int}{Q:QT}
theorem PB.up (h:PB H bb b F mb s t es hits) (hK:PK H' b F' s' t') (hu:Up F H F' H'):PB H' bb b F' mb s' t' es hits :=
 ⟨hK,h.blk.fr hu.1 h.nb,h.map.fr hu.1 h.nm,h.ne,Up.out hu h.nb h.blk.lt,Up.out hu h.nm h.map.lt,h.gb,h.gm⟩
theorem PB.nil (h:PB H bb b F mb s t es hits) (f:Fr [] H H'):PB H' bb b F mb s t es hits:=h.up (h.k.nil f) (Up.of_nil f)
theorem PB.kp (h:PB H bb b F mb s t es hits):KP H bb b:=h.blk.cell 0
theorem PB.fr (h:PB H bb b F mb s t es hits){G:Foot} (f:Fr G H H') (hd:Disj (bb :: mb :: F) G) (hg:g_word_kinds∉G):PB H' bb b F mb s t es hits :=
 ⟨h.k.fr f (hd.mono (fun x hx=>by simp [hx]) fun _ h=>h) hg,h.blk.fr f (hd bb (by simp)),h.map.fr f (hd mb (by simp)),h.ne,h.nb,h.nm,h.gb,h.gm⟩
theorem PB.lt (h:PB H bb b F mb s t es hits):∀ x∈bb :: mb :: F,x<H.size:=fun x hx=>by
 simp only [List.mem_cons] at hx
 rcases hx with rfl | rfl | hx
 ·exact h.blk.lt
 ·exact h.map.lt
 ·exact h.k.lt x hx
theorem bflush_c (hB:PB H bb b F mb s t es hits) (h:∀ H',PB H' bb b F mb s t [] hits→Fr [mb] H H'→Q (.tuple #[]) H'):callS PP n_k142 #[.pointer (some ⟨bb,0,none⟩)] Q H:=by
 apply k142_ok
 unfold k142 pV
 refine bthere_c hB.kp ⟨_,rfl,?_⟩
 simp only [cond_true]
 refine ⟨_,rfl,_,by rw [add_none];exact hB.blk.cell 1,evS_clearMapP (k:=268) (e:=265) (by kernel_rfl) hB.map fun H1 h1 f1=>?_⟩
 exact h H1 ⟨hB.k.fr f1 (fun x hx hm=>by simp only [List.mem_singleton] at hm;subst hm;exact hB.nm hx) (by simpa using hB.gm),hB.blk.fr f1 (by simpa using hB.ne),h1,hB.ne,hB.nb,hB.nm,hB.gb,hB.gm⟩ f1
theorem bhits_c (hB:PB H bb b F mb s t es hits) (h:Q (.int .i64 hits) H):callS PP n_k134 #[.pointer (some ⟨bb,0,none⟩)] Q H:=by
 apply k134_ok
 unfold k134 iV pV
 refine bthere_c hB.kp ⟨_,rfl,?_⟩
 simp only [Bool.not_true,cond_false]
 exact ⟨_,rfl,_,by rw [add_none];exact hB.blk.cell 2,h⟩
structure WSt (H0:Heap) (F0:Foot) (b sb:Nat) (t:TB) (q0 q1:Nat) (H:Heap) (F:Foot) (s:SP):Prop where
 k:PK H b F s t
 sp:KSb H b sb
 up:Up F0 H0 F H
 b0:Blk H q0 #[.pointer (some ⟨sb,0,none⟩)]
 b1:Blk H q1 #[.int .i64 0]
 n0:q0∉F
 n1:q1∉F
theorem WSt.step {H0:Heap}{F0:Foot}{q0 q1:Nat} (h:WSt H0 F0 b sb t q0 q1 H F s) (hK:PK H' b F' s' t) (hs:KSb H' b sb) (hu:Up F H F' H'):WSt H0 F0 b sb t q0 q1 H' F' s' :=
 ⟨hK,hs,h.up.trans hu,h.b0.fr hu.1 h.n0,h.b1.fr hu.1 h.n1,Up.out hu h.n0 h.b0.lt,Up.out hu h.n1 h.b1.lt⟩
theorem WSt.nil {H0:Heap}{F0:Foot}{q0 q1:Nat} (h:WSt H0 F0 b sb t q0 q1 H F s) (f:Fr [] H H'):WSt H0 F0 b sb t q0 q1 H' F s:=h.step (h.k.nil f) (h.sp.nil f) (Up.of_nil f)
theorem WSt.late {H0:Heap}{F0:Foot}{q0 q1 n:Nat} (h:WSt H0 F0 b sb t q0 q1 H F s){G:Foot} (f:Fr G H H') (hG:∀ y∈G,n≤y∧y∉F) (h0:H0.size≤n) (hq0:q0<n) (hq1:q1<n) (hg:g_word_kinds<n):WSt H0 F0 b sb t q0 q1 H' F s:=by
 refine ⟨h.k.fr f (fun x hx hm=>(hG x hm).2 hx) (fun hm=>?_),?_,⟨⟨Nat.le_trans h.up.1.1 f.1,fun x hx hn=>?_⟩,h.up.2⟩,h.b0.fr f (fun hm=>?_),h.b1.fr f (fun hm=>?_),h.n0,h.n1⟩
 ·have:=(hG _ hm).1;omega
 ·have:=h.sp
  unfold KSb at this ⊢
  rw [cell_fr f (fun hm=>(hG _ hm).2 h.k.bmem) (cell_lt this)];exact this
 ·rw [f.2 x (Nat.lt_of_lt_of_le hx h.up.1.1) (fun hm=>by have:=(hG _ hm).1;omega),h.up.1.2 x hx hn]
 ·have:=(hG _ hm).1;omega
 ·have:=(hG _ hm).1;omega
theorem WSt.stop {H0:Heap}{F0:Foot}{q0 q1:Nat} (h:WSt H0 F0 b sb t q0 q1 H F s){R:Heap→Prop} (hq:∀ H',PK H' b F { s with stack:=[] } t→Fr F H H'→R H'):callSD PP n_k234 #[.pointer (some ⟨q0,0,none⟩),.pointer (some ⟨q1,0,none⟩)] R H:=by
 apply dict_Book_write_1_okD
 unfold k234 iV wW pV lV cS
 have c0:=h.b0.cell 0
 have c1:=h.b1.cell 0
 obtain ⟨F1,hS,hsub,_,hup⟩:=h.k.spAt h.sp
 have hm:=hS.wf.many
 refine ⟨_,c0,_,c0,_,c1,psKept_c hS fun a c H1 hr f1=>⟨_,_,_,rfl,⟨⟨(h.b1.fr f1 (by simp)).cell 0,trivial⟩,⟨(h.b0.fr f1 (by simp)).cell 0,trivial⟩,trivial⟩,?_⟩⟩
 rw [wrap64_id (by omega) (by omega)]
 refine psDrop_c (hS.nilfr f1) (by unfold I64;omega) fun H2 hS2 f2=>⟨_,rfl,trivial,?_⟩
 rw [drop_all rfl] at hS2
 have f12:Fr F1 H H2:=(Fr.of_nil f1).trans f2
 exact hq H2 (hup H2 _ hS2 f12).1 (f12.mono hsub)
theorem bwrite_c (hB:PB H bb b F mb s t es hits) (hv:KAll s t v){i:Nat} (hi:i<v.cls.length){kp l m:List Int} (hkp:∀ w∈kp,isW w) (hk1:kp.length≤1) (hl:∀ w∈l,isW w) (hm:∀ w∈m,isW w)
  {a3 a4 a5:Option Addr}{l3 c3 l4 c4 l5 c5:Nat} (h3:Rd 1 H a3 l3 (intsV l)) (o3:Out H a3 F) (k3:l3≤1000000) (h4:Rd 1 H a4 l4 (intsV m)) (o4:Out H a4 F) (k4:l4≤1000000) (h5:Rd 1 H a5 l5 (intsV kp)) (o5:Outs H a5 l5 F)
  (h:∀ H' F',PB H' bb b F' mb (kWrite s (v.cls[i]).oop kp l m).2 t (clr (kWrite s (v.cls[i]).oop kp l m).1 es) hits→Up (mb :: F) H (mb :: F') H'→Q (.int .i64 (kWrite s (v.cls[i]).oop kp l m).1) H') :
  callS PP n_k144 #[.pointer (some ⟨bb,0,none⟩),.int .i64 (v.cls[i]).oop,.slice a3 l3 c3,.slice a4 l4 c4,.slice a5 l5 c5] Q H:=by
 have hs1:sliceInfo PP 108=some (1,8,some (.int .i64 0)):=by kernel_rfl
 obtain ⟨hk,hn,hst⟩:=hv
 obtain ⟨ek,hk0⟩:=keepW_ok hk hst hkp hk1
 obtain ⟨A1,A2,⟨la,A3,A3'⟩,A4⟩:=array_ok hk0 (by simp only;omega) hl
 unfold kWrite at h
 rw [ek] at h
 simp only at h
 generalize hRA:SP.array { s with stack:=kp } l=RA at A1 A2 A3 A4 h
 obtain ⟨B1,B2,⟨lb,B3,B3'⟩,B4⟩:=array_ok A1 (by rw [A3];simp only [List.length_append];omega) hm
 generalize hRB:SP.array RA.2 m=RB at B1 B2 B3 B4 h
 have bad1:RA.1.2≠0→∀ H' F',PB H' bb b F' mb { RA.2 with stack:=[] } t es hits→Up (mb :: F) H (mb :: F') H'→Q (.int .i64 RA.1.2) H':=fun hz H' F' hP hu=>by
  have:=h H' F'
  rw [if_pos hz] at this
  exact this (by rw [clr_ne hz];exact hP) hu
 have bad2:RA.1.2=0→RB.1.2≠0→∀ H' F',PB H' bb b F' mb { RB.2 with stack:=[] } t es hits→Up (mb :: F) H (mb :: F') H'→Q (.int .i64 RB.1.2) H':=fun h0 hz H' F' hP hu=>by
  have:=h H' F'
  rw [if_neg (by simpa using h0),if_pos hz] at this
  exact this (by rw [clr_ne hz];exact hP) hu
 have good:RA.1.2=0→RB.1.2=0→∀ H' F',PB H' bb b F' mb { RB.2 with h:=((RB.2.h.put (v.cls[i]).oop 3 RA.1.1).2.put (v.cls[i]).oop 4 RB.1.1).2,stack:=[] } t [] hits→Up (mb :: F) H (mb :: F') H'→Q (.int .i64 0) H':=fun h0 hz H' F' hP hu=>by
  have:=h H' F'
  rw [if_neg (by simpa using h0),if_neg (by simpa using hz)] at this
  exact this (by rw [clr_zero];exact hP) hu
 clear h
 have fin:∀ {H' F' s'}{es'},PB H' bb b F' mb s' t es' hits→Up F H F' H'→Up (mb :: F) H (mb :: F') H':=fun hP hu=>⟨hu.1.mono fun x hx=>by simp [hx],fun x hx=>by
  rcases List.mem_cons.1 hx with rfl | hx
  ·exact .inl (by simp)
  ·exact (hu.2 x hx).imp (fun h=>by simp [h]) id⟩
 apply k144_ok
 unfold k144 A0 iV wW pV lV cS;dsimp only [shH]
 have hkp0:=hB.kp
 obtain ⟨sb,F1,hsb,hS,hsub,_⟩:=hB.k.sp
 have hsb:KSb H b sb:=hsb
 refine ⟨_,rfl,_,hkp0,kspaceAt hsb ⟨_,rfl,?_⟩⟩
 rw [locB]
 have fa:Fr [] H (H.push (.cells #[.pointer (some ⟨sb,0,none⟩)] 47)):=Fr.push _ _ _
 have ba:Blk (H.push (.cells #[.pointer (some ⟨sb,0,none⟩)] 47)) H.size #[.pointer (some ⟨sb,0,none⟩)]:=Blk.new _ _ _
 refine ⟨by rw [Wr_push];decide,_,ba.cell 0,?_⟩
 generalize (H.push (.cells #[.pointer (some ⟨sb,0,none⟩)] 47))=Ha at fa ba ⊢
 have hsa:PSp Ha sb F1 s:=hS.nilfr fa
 refine psKept_c hsa fun ak ck Hb _ fb=>⟨_,_,_,rfl,?_⟩
 rw [hst]
 simp only [List.length_nil]
 rw [locB]
 have fc:Fr [] Hb (Hb.push (.cells #[.int .i64 ((0:Nat):Int)] 3)):=Fr.push _ _ _
 have bc:Blk (Hb.push (.cells #[.int .i64 ((0:Nat):Int)] 3)) Hb.size #[.int .i64 0]:=Blk.new _ _ _
 refine ⟨by rw [Wr_push];decide,_,((ba.fr fb (by simp)).fr fc (by simp)).cell 0,?_⟩
 generalize (Hb.push (.cells #[.int .i64 ((0:Nat):Int)] 3))=Hc at fc bc ⊢
 have f0c:Fr [] H Hc:=(fa.trans fb).trans fc
 have hlt:=hB.k.lt
 have W0:WSt H F b sb t H.size Hb.size Hc F s:=by
  refine ⟨hB.k.nil f0c,hsb.nil f0c,Up.of_nil f0c,(ba.fr fb (by simp)).fr fc (by simp),bc,fun hm=>?_,fun hm=>?_⟩
  ·have:=hlt _ hm;omega
  ·have h1:=hlt _ hm;have h2:=(fa.trans fb).1;omega
 have nq0:H.size≠mb:=by have:=hB.map.lt;omega
 have nq1:Hb.size≠mb:=by have h1:=hB.map.lt;have h2:=(fa.trans fb).1;omega
 generalize H.size=q0 at W0 nq0 ⊢
 generalize Hb.size=q1 at W0 nq1 ⊢
 obtain ⟨F1c,hSc,hsubc,hupc,_⟩:=W0.k.spAt W0.sp
 refine psKeep_c hSc (outs_rd (o5.imp id fun o p hp=>⟨(o p hp).1,by simp⟩) f0c h5) (by
  have:=h5.1
  simp only [intsV,List.length_map] at this
  omega) fun Hd Fd hSd hud=>⟨_,rfl,?_⟩
 rw [ek] at hSd ⊢
 simp only [show ((0:Int) != 0)=false from rfl,cond_false]
 obtain ⟨⟨Fk,hKd,hukd⟩,hsd⟩:=hupc Hd Fd _ hSd hud
 have W1:=W0.step hKd hsd hukd
 clear hSc hsubc hupc hSd hud
 have fe:Fr [] Hd (Hd.push (.cells #[.slice a3 l3 c3,.slice a4 l4 c4] 108)):=Fr.push _ _ _
 have be:Blk (Hd.push (.cells #[.slice a3 l3 c3,.slice a4 l4 c4] 108)) Hd.size #[.slice a3 l3 c3,.slice a4 l4 c4]:=Blk.new _ _ _
 have W2:=W1.nil fe
 have nlb:Hd.size∉Fk:=fun hm=>by have:=W1.k.lt _ hm;omega
 generalize (Hd.push (.cells #[.slice a3 l3 c3,.slice a4 l4 c4] 108))=He at fe be W2 ⊢
 generalize Hd.size=lb at be nlb ⊢
 have kpA:∀ {H':Heap}{F':Foot}{s':SP},WSt H F b sb t q0 q1 H' F' s'→KP H' bb b∧bb∉F':=fun W=>⟨hkp0.fr W.up.1 hB.nb,Up.out W.up hB.nb hB.blk.lt⟩
 refine ⟨fun w H'=>(w=[.slice none 0 0,.int .i64 0]∧H'=He) ∨
  (∃ a c G F',w=[.slice a 1 c,.int .i64 1]∧RA.1.2=0∧WSt H F b sb t q0 q1 H' F' RA.2∧Blk H' lb #[.slice a3 l3 c3,.slice a4 l4 c4]∧lb∉F'∧Own 1 H' a 1 c (intsV [RA.1.1]) G∧(∀ y∈G,He.size≤y∧y∉F')) ∨
  (∃ a c G F',w=[.slice a 2 c,.int .i64 2]∧RA.1.2=0∧RB.1.2=0∧WSt H F b sb t q0 q1 H' F' RB.2∧Own 1 H' a 2 c (intsV [RA.1.1,RB.1.1]) G∧∀ y∈G,y∉F'),fun w _=>match w with
  | [_,.int _ i]=>(2-i).toNat
  | _=>0,.inl ⟨rfl,rfl⟩,?_⟩
 rintro w H5 (⟨rfl,rfl⟩ | ⟨a,c,G,F',rfl,hz1,W,bl,nl,ho,hG⟩ | ⟨a,c,G,F',rfl,hz1,hz2,W,ho,hG⟩) _
 ·refine ⟨_,_,_,_,rfl,?_⟩
  rw [decide_eq_true (by decide)]
  simp only [cond_true]
  obtain ⟨kp5,nb5⟩:=kpA W2
  refine ⟨⟨by decide,by decide⟩,_,rfl,_,_,_,by rw [add_none];exact be.cell 0,?_⟩
  refine blaid_c W2.k kp5 nb5 W2.sp (o3.rd W2.up h3) (fun p hp=>(o3.up W2.up p hp).2) (by omega) fun H6 F6 hK6 hs6 hu6=>⟨_,_,rfl,?_⟩
  rw [hRA] at hK6 ⊢
  have W3:=W2.step hK6 hs6 hu6
  rw [bneI,cond_dec]
  refine ite_i (fun hz=>?_) fun hz=>?_
  ·refine W3.stop fun H7 hK7 f7=>?_
   have hP:=hB.up hK7 (W3.up.trans ⟨f7,fun _ h=>.inl h⟩)
   exact bad1 hz H7 F6 hP (fin hP (W3.up.trans ⟨f7,fun _ h=>.inl h⟩))
  ·have hz1:RA.1.2=0:=Classical.byContradiction hz
   refine evS_append1 hs1 rfl (by kernel_rfl) (Own.nil 1 H6) rfl (by simp [oneC]) (by decide) (by decide) (by decide) fun a' c' G2 H7 g1 g2 g3=>⟨_,_,_,rfl,?_⟩
   have e:IntKind.wrap .i64 ((0:Int)+1)=1:=wrap64_id (by decide) (by decide)
   rw [e]
   have hfr:=Up.fresh (Fr.refl [] H6) g2 (by simp)
   refine ⟨.inr (.inl ⟨a',c',G2,F6,rfl,hz1,W3.nil hfr.1,(be.fr hu6.1 nlb).fr hfr.1 (by simp),Up.out hu6 nlb be.lt,by simpa [intsV] using g1,fun y hy=>?_⟩),by simp⟩
   have h1:=hfr.2 y hy
   refine ⟨Nat.le_trans hu6.1.1 h1,fun hm=>?_⟩
   have h2:=hK6.lt y hm
   omega
 ·refine ⟨_,_,_,_,rfl,?_⟩
  rw [decide_eq_true (by decide)]
  simp only [cond_true]
  obtain ⟨kp5,nb5⟩:=kpA W
  refine ⟨⟨by decide,by decide⟩,_,rfl,_,_,_,by rw [add_none];exact bl.cell 1,?_⟩
  refine blaid_c W.k kp5 nb5 W.sp (o4.rd W.up h4) (fun p hp=>(o4.up W.up p hp).2) (by omega) fun H6 F6 hK6 hs6 hu6=>⟨_,_,rfl,?_⟩
  rw [hRB] at hK6 ⊢
  have W3:=W.step hK6 hs6 hu6
  have hG6:∀ y∈G,He.size≤y∧y∉F6:=fun y hy=>⟨(hG y hy).1,fun hm=>by
   rcases hu6.2 y hm with h1 | h1
   ·exact (hG y hy).2 h1
   ·have:=ho.lt y hy;omega⟩
  rw [bneI,cond_dec]
  refine ite_i (fun hz=>?_) fun hz=>?_
  ·refine W3.stop fun H7 hK7 f7=>?_
   have hP:=hB.up hK7 (W3.up.trans ⟨f7,fun _ h=>.inl h⟩)
   exact bad2 hz1 hz H7 F6 hP (fin hP (W3.up.trans ⟨f7,fun _ h=>.inl h⟩))
  ·have hz2:RB.1.2=0:=Classical.byContradiction hz
   refine evS_append1 hs1 rfl (by kernel_rfl) (ho.fr hu6.1 fun y hy=>(hG y hy).2) rfl (by simp [oneC]) (by decide) (by decide) (by decide) fun a' c' G2 H7 g1 g2 g3=>⟨_,_,_,rfl,?_⟩
   have e:IntKind.wrap .i64 ((1:Int)+1)=2:=wrap64_id (by decide) (by decide)
   rw [e]
   exact ⟨.inr (.inr ⟨a',c',G2,F6,rfl,hz1,hz2,W3.late g2.1 hG6 W2.up.1.1 W2.b0.lt W2.b1.lt W2.k.kinds.lt,by simpa [intsV] using g1,fun y hy hm=>by
    rcases g2.2 y hy with h1 | h1
    ·exact (hG6 y h1).2 hm
    ·have:=hK6.lt y hm;omega⟩),by simp⟩
 ·refine ⟨_,_,_,_,rfl,?_⟩
  rw [decide_eq_false (by decide)]
  simp only [cond_false]
  obtain ⟨p,rfl,hc0,_⟩:=ho.rd.int (i:=0) (by decide) (by decide)
  obtain ⟨p',ep,hc1,_⟩:=ho.rd.int (i:=1) (by decide) (by decide)
  cases ep
  obtain ⟨x,hx,hxf,_⟩:=B1.view.cls hi
  have hfm:∀ y,objAt RB.2.h.objs (v.cls[i]).oop=some y→y.fmt=0:=fun y hy=>by rw [hx] at hy;cases hy;exact hxf
  have hfm2:∀ y,objAt (RB.2.h.put (v.cls[i]).oop 3 RA.1.1).2.objs (v.cls[i]).oop=some y→y.fmt=0:=fun y hy=>by
   obtain ⟨z,h2,h3⟩:=put_fmt _ _ _ _ hy
   rw [h3];exact hfm z h2
  have key:∀ {H':Heap},Fr F' H5 H'→cellH H' (p.add ((1:Int).toNat*1))=some (.int .i64 RB.1.1):=fun {H'} f=>by
   have ho':=ho.fr f hG
   obtain ⟨p',ep,hc1,_⟩:=ho'.rd.int (i:=1) (by decide) (by decide)
   cases ep
   exact hc1
  obtain ⟨F4,hS4,hsub4,_,hup4⟩:=W.k.spAt W.sp
  refine ⟨_,W.b0.cell 0,⟨by decide,by decide⟩,_,rfl,_,hc0,psHeap_c hS4 fun hb F5 hR hsub5 hup5=>⟨_,rfl,⟨⟨hc0,trivial⟩,trivial⟩,put_c hR hfm fun H6 hR6 hf6=>⟨_,rfl,trivial,?_⟩⟩⟩
  obtain ⟨hK6,hs6⟩:=hup4 H6 _ (hup5 H6 _ hR6 hf6) (hf6.mono hsub5)
  have f6:Fr F' H5 H6:=(hf6.mono hsub5).mono hsub4
  have W6:=W.step hK6 hs6 ⟨f6,fun _ h=>.inl h⟩
  obtain ⟨F7,hS7,hsub7,_,hup7⟩:=W6.k.spAt W6.sp
  refine ⟨_,W6.b0.cell 0,⟨by decide,by decide⟩,_,rfl,_,key f6,psHeap_c hS7 fun hb F8 hR8 hsub8 hup8=>⟨_,rfl,⟨⟨key f6,trivial⟩,trivial⟩,put_c hR8 hfm2 fun H9 hR9 hf9=>⟨_,rfl,trivial,?_⟩⟩⟩
  obtain ⟨hK9,hs9⟩:=hup7 H9 _ (hup8 H9 _ hR9 hf9) (hf9.mono hsub8)
  have f9:Fr F' H6 H9:=(hf9.mono hsub8).mono hsub7
  have W9:=W6.step hK9 hs9 ⟨f9,fun _ h=>.inl h⟩
  have hB9:=hB.up hK9 W9.up
  refine bflush_c hB9 fun H10 hB10 f10=>⟨rfl,?_⟩
  have hbm:b≠mb:=fun e=>by
   have:=hB9.nm
   rw [←e] at this
   exact this hB9.k.bmem
  have hs10:KSb H10 b sb:=by
   unfold KSb
   rw [cell_fr f10 (by simpa using hbm) (cell_lt hs9)];exact hs9
  have W10:WSt H10 F' b sb t q0 q1 H10 F' _:=⟨hB10.k,hs10,Up.refl _ _,W9.b0.fr f10 (by simpa using nq0),W9.b1.fr f10 (by simpa using nq1),W9.n0,W9.n1⟩
  refine W10.stop fun H11 hK11 f11=>?_
  have hB11:=hB10.up hK11 ⟨f11,fun _ h=>.inl h⟩
  have u9:=fin hB9 W9.up
  refine good hz1 hz2 H11 F' hB11 ((u9.trans ⟨f10.mono (by simp),fun _ h=>.inl h⟩).trans ⟨f11.mono fun x hx=>by simp [hx],fun _ h=>.inl h⟩)
end
theorem Up.cons {H H':Heap}{F F':Foot}{m:Nat} (hu:Up F H F' H'):Up (m :: F) H (m :: F') H':=⟨hu.1.mono fun x hx=>by simp [hx],fun x hx=>by
 rcases List.mem_cons.1 hx with rfl | hx
 ·exact .inl (by simp)
 ·exact (hu.2 x hx).imp (fun h=>by simp [h]) id⟩
section
variable {H H':Heap}{bb b mb sb:Nat}{F F':Foot}{s s':SP}{t t':TB}{v:KV}{es:List ((Int × Int) × Value)}{hits:Int}{Q:QT}
theorem rd1_new {H:Heap}{x:Int}{ty:TypeId}:Rd 1 (H.push (.cells #[.int .i64 x] ty)) (some ⟨H.size,0,none⟩) 1 (intsV [x]):=by
 refine ⟨rfl,(fun h=>by cases h),fun p hp k hk=>?_⟩
 cases hp
 have:k=0:=by omega
 subst this
 rw [add_none]
 exact (Blk.new H _ _).cell 0
theorem bPut_c (hB:PB H bb b F mb s t es hits) (hv:KAll s t v) (hd:KD v t){o m:Int}{name:ByteArray}
  (h1:∀ i (hi:i<v.cls.length),plK v o=some i→∀ H' F',PB H' bb b F' mb (kPutI s t v.cls[i] name m).2 t (clr (kPutI s t v.cls[i] name m).1 es) hits→Up (mb :: F) H (mb :: F') H'→Q (.int .i64 (kPutI s t v.cls[i] name m).1) H')
  (h2:plK v o=none→∀ H',Fr [] H H'→Q (.int .i64 130) H'):callS PP n_k34 #[.pointer (some ⟨bb,0,none⟩),.int .i64 o,.string name,.int .i64 m] Q H:=by
 apply k34_ok
 unfold k34 A0 iV pV sV lV cS
 refine blists_c hB.k hv hB.kp (fun i hi hp a l c G a' l' c' G' H1 ho ho' f1 hG hG'=>⟨_,_,_,_,_,_,_,rfl,?_⟩) fun hp H1 f1=>⟨_,_,_,_,_,_,_,rfl,?_⟩
 rotate_left
 ·exact h2 hp _ f1
 have h:=h1 i hi hp
 obtain ⟨hi',rfl⟩:=plK_some hp
 clear h1 h2
 obtain ⟨ns,hdc⟩:=hd _ (List.getElem_mem hi)
 have ht:=hdc.texts hv.names.wf
 have hmost:=hdc.most
 have hsl:(v.cls[i]).sels.length=ns.length:=by rw [hdc.sel];simp
 have hl:l=ns.length:=by have:=ho.len;rw [←hsl];simpa [intsV] using this.symm
 have hl':l'=ns.length:=by have:=ho'.len;rw [←hdc.len];simpa [intsV] using this.symm
 have hB1:=hB.nil f1
 simp only [show ((0:Int) != 0)=false from rfl,cond_false]
 unfold kPutI at h
 refine ⟨_,rfl,_,hB1.kp,ksymbols_k hB1.k fun tb F1 _ hT=>⟨_,rfl,ptFind_c hT ?_⟩⟩
 unfold findV
 cases hn:numOf t.texts name with
 | none =>
  rw [hn] at h
  simp only at h
  refine ⟨_,_,rfl,?_⟩
  simp only [Bool.not_false,cond_true]
  exact h H1 F (by rw [clr_ne (n:=61) (by decide)];exact hB1) (Up.cons (Up.of_nil f1))
 | some n =>
 rw [hn] at h
 simp only at h
 refine ⟨_,_,rfl,?_⟩
 simp only [Bool.not_true,cond_false]
 have stay:∀ {e:Int}{H2:Heap},Fr [] H1 H2→(∀ H' F',PB H' bb b F' mb s t (clr e es) hits→Up (mb :: F) H (mb :: F') H'→Q (.int .i64 e) H')→e≠0→Q (.int .i64 e) H2:=fun f2 hq he=>hq _ F (by rw [clr_ne he];exact hB1.nil f2) (Up.cons (Up.of_nil (f1.trans f2)))
 refine ⟨_,rfl,_,hB1.kp,kspace_k hB1.k fun sb F2 _ hS hsub hup hup2=>⟨_,rfl,psHeap_c hS fun hb F3 hR hsub3 hup3=>⟨_,rfl,hclass_c hR ⟨_,_,rfl,?_⟩⟩⟩⟩
 rw [bneI,cond_dec]
 refine ite_i (fun hc=>?_) fun hc=>?_
 ·refine stay (Fr.refl _ _) (fun H' F' hP hu=>?_) hc
  have:=h H' F'
  rw [if_pos hc] at this
  exact this hP hu
 have hc:(s.h.clsAt m).2=0:=Classical.byContradiction hc
 rw [if_neg (by simpa using hc)] at h
 obtain ⟨m1,m2⟩:=clsAt_bnd hv.ks.wf.h hc
 have hoR:=ho.rd
 have hoR':=ho'.rd
 have hoO:Outs H1 a l []:=.inr (Own.out ho (Disj.nil_right _))
 have hoO':Outs H1 a' l' []:=.inr (Own.out ho' (Disj.nil_right _))
 have elc:l≤c:=ho.2.1
 have elc':l'≤c':=ho'.2.1
 refine obj_c ⟨m1,m2⟩ ⟨_,_,rfl,?_⟩
 rw [hdc.sel] at hoR
 refine bplace_c hB1.k hB1.kp hoR hoO hdc.num hdc.srt (by omega) fun H2 f2=>⟨_,_,rfl,?_⟩
 have hB2:=hB1.nil f2
 rw [ht] at h
 by_cases hm:name∈ns.map (tx t)
 ·rw [decide_eq_true hm]
  simp only [cond_true]
  rw [if_pos hm] at h
  simp only at h
  have b4:=(hv.ks.view.met hi).bnd hv.ks.wf.h
  have e4:koop s.h (v.cls[i]).oop 4=(v.cls[i]).metA:=by
   unfold koop;rw [hv.ks.c4 hi,oopW_obj b4.1 b4.2.1]
  refine barray_c hB2.k hB2.kp ⟨_,rfl,?_⟩
  rw [e4]
  obtain ⟨x,hx,hxf,_⟩:=hv.ks.view.met hi
  have hfm:∀ y,objAt s.h.objs (v.cls[i]).metA=some y→y.fmt=0:=fun y hy=>by rw [hx] at hy;cases hy;exact hxf
  refine put_c (hR.fr f2 (Disj.nil_right _) (by simp)) hfm fun H3 hR3 f3=>⟨_,rfl,?_⟩
  have f13:Fr F3 H1 H3:=(Fr.of_nil f2).trans f3
  have hS3:=hup3 H3 _ hR3 f13
  have hK3:=hup2 H3 _ hS3 (f13.mono hsub3)
  have u3:Up F H1 F H3:=⟨(f13.mono hsub3).mono hsub,fun _ h=>.inl h⟩
  have hB3:=hB1.up hK3 u3
  refine bflush_c hB3 fun H4 hB4 f4=>⟨rfl,?_⟩
  refine h H4 F (by rw [clr_zero];exact hB4) ((Up.cons ((Up.of_nil f1).trans u3)).trans ⟨f4.mono (by simp),fun _ h=>.inl h⟩)
 ·rw [decide_eq_false hm]
  simp only [cond_false]
  rw [if_neg hm] at h
  rw [hsl] at h
  rw [cond_dec]
  refine ite_i (fun h128=>?_) fun h128=>?_
  ·rw [if_pos (by omega)] at h
   exact stay f2 h (by decide)
  rw [if_neg (by omega)] at h
  have hps:=posS_le (ns.map (tx t)) name
  rw [List.length_map] at hps
  have hnl:n<t.texts.length:=by
   have:=numOf_get hn
   exact (tx_some this).2
  have ht4:=hv.names.wf.len
  have ht5:=hv.names.wf.m1
  refine sym_c ⟨by omega,by omega⟩ ⟨_,_,rfl,?_⟩
  have hwo:∀ w∈(v.cls[i]).sels,isW w:=((hv.ks.view.sel hi).bnd hv.ks.wf.h).2.2.2
  have hwo':∀ w∈(v.cls[i]).mets,isW w:=((hv.ks.view.met hi).bnd hv.ks.wf.h).2.2.2
  have hoR0:=ho.rd
  refine dwith_c (outs_rd hoO f2 hoR0) elc (hoO.more f2.1) (by omega) (by omega) fun a5 l5 c5 G5 H3 o5 f3 hG5=>⟨_,_,_,rfl,?_⟩
  have f23:=f2.trans f3
  refine dwith_c (outs_rd hoO' f23 hoR') elc' (hoO'.more f23.1) (by omega) (by omega) fun a6 l6 c6 G6 H4 o6 f4 hG6=>⟨_,_,_,rfl,?_⟩
  have fp:Fr [] H4 (H4.push (.cells #[.int .i64 (4*m)] 36)):=Fr.push _ _ _
  have hB5:=hB1.nil ((f23.trans f4).trans fp)
  have o5':=(o5.fr f4 (by simp)).fr fp (by simp)
  have o6':=o6.fr fp (by simp)
  have r7:Rd 1 (H4.push (.cells #[.int .i64 (4*m)] 36)) (some ⟨H4.size,0,none⟩) 1 (intsV [4*m]):=rd1_new
  have q7:H4.size<(H4.push (.cells #[.int .i64 (4*m)] 36)).size:=by simp
  have hlt:=(hB1.nil (f23.trans f4)).k.lt
  have hltB:=hB1.k.lt
  have g5:Disj G5 F:=fun y hy hm=>by have h1:=hG5 y hy;have h2:=hltB y hm;have:=f2.1;omega
  have g6:Disj G6 F:=fun y hy hm=>by have h1:=hG6 y hy;have h2:=hltB y hm;have:=f23.1;omega
  have esy:(4*(n:Int)+2)=symW n:=rfl
  rw [esy] at o5'
  refine bwrite_c hB5 hv hi (kp:=[4*m]) (l:=insA (v.cls[i]).sels (posS (ns.map (tx t)) name) (symW n)) (m:=insA (v.cls[i]).mets (posS (ns.map (tx t)) name) (4*m)) (by simpa using isW_obj m1 m2) (by simp) (fun w hw=>?_) (fun w hw=>?_) o5'.rd (Own.out o5' g5) ?_ o6'.rd (Own.out o6' g6) ?_ r7 (.inr fun p hp=>?_) fun H6 F6 hB6 u6=>⟨_,rfl,?_⟩
  ·rcases ins_mem hw with rfl | hw
   ·exact isW_sym hv.names.wf hnl
   ·exact hwo w hw
  ·rcases ins_mem hw with rfl | hw
   ·exact isW_obj m1 m2
   ·exact hwo' w hw
  ·have:=o5'.len
   have e:=(ins_perm (v.cls[i]).sels (posS (ns.map (tx t)) name) (symW n)).length_eq
   simp only [intsV,List.length_map,e,List.length_cons] at this
   omega
  ·have:=o6'.len
   have e:=(ins_perm (v.cls[i]).mets (posS (ns.map (tx t)) name) (4*m)).length_eq
   have e2:=hdc.len
   simp only [intsV,List.length_map,e,List.length_cons] at this
   omega
  ·cases hp
   exact ⟨q7,fun hm=>by have:=hlt _ hm;exact Nat.lt_irrefl _ this⟩
  ·exact h H6 F6 hB6 ((Up.cons (Up.of_nil (f1.trans ((f23.trans f4).trans fp)))).trans u6)
theorem bRemove_c (hB:PB H bb b F mb s t es hits) (hv:KAll s t v) (hd:KD v t){o:Int}{name:ByteArray}
  (h1:∀ i (hi:i<v.cls.length),plK v o=some i→∀ H' F',PB H' bb b F' mb (kRemI s t v.cls[i] name).2 t (clr (kRemI s t v.cls[i] name).1 es) hits→Up (mb :: F) H (mb :: F') H'→Q (.int .i64 (kRemI s t v.cls[i] name).1) H')
  (h2:plK v o=none→∀ H',Fr [] H H'→Q (.int .i64 130) H'):callS PP n_k36 #[.pointer (some ⟨bb,0,none⟩),.int .i64 o,.string name] Q H:=by
 apply k36_ok
 unfold k36 iV pV sV lV cS
 refine blists_c hB.k hv hB.kp (fun i hi hp a l c G a' l' c' G' H1 ho ho' f1 hG hG'=>⟨_,_,_,_,_,_,_,rfl,?_⟩) fun hp H1 f1=>⟨_,_,_,_,_,_,_,rfl,?_⟩
 rotate_left
 ·exact h2 hp _ f1
 have h:=h1 i hi hp
 obtain ⟨hi',rfl⟩:=plK_some hp
 clear h1 h2
 obtain ⟨ns,hdc⟩:=hd _ (List.getElem_mem hi)
 have ht:=hdc.texts hv.names.wf
 have hmost:=hdc.most
 have hsl:(v.cls[i]).sels.length=ns.length:=by rw [hdc.sel];simp
 have hl:l=ns.length:=by have:=ho.len;rw [←hsl];simpa [intsV] using this.symm
 have hl':l'=ns.length:=by have:=ho'.len;rw [←hdc.len];simpa [intsV] using this.symm
 have hB1:=hB.nil f1
 simp only [show ((0:Int) != 0)=false from rfl,cond_false]
 unfold kRemI at h
 have hoR:=ho.rd
 have hoR0:=ho.rd
 have hoR':=ho'.rd
 have hoO:Outs H1 a l []:=.inr (Own.out ho (Disj.nil_right _))
 have hoO':Outs H1 a' l' []:=.inr (Own.out ho' (Disj.nil_right _))
 have elc:l≤c:=ho.2.1
 have elc':l'≤c':=ho'.2.1
 rw [hdc.sel] at hoR
 refine bplace_c hB1.k hB1.kp hoR hoO hdc.num hdc.srt (by omega) fun H2 f2=>⟨_,_,rfl,?_⟩
 have hB2:=hB1.nil f2
 rw [ht] at h
 by_cases hm:name∈ns.map (tx t)
 ·rw [decide_eq_true hm]
  simp only [Bool.not_true,cond_false]
  rw [if_pos hm] at h
  have hps:posS (ns.map (tx t)) name<ns.length:=by
   have:=(List.getElem?_eq_some_iff.1 ((posS_mem hdc.srt).1 hm)).1
   simpa using this
  have hwo:∀ w∈(v.cls[i]).sels,isW w:=((hv.ks.view.sel hi).bnd hv.ks.wf.h).2.2.2
  have hwo':∀ w∈(v.cls[i]).mets,isW w:=((hv.ks.view.met hi).bnd hv.ks.wf.h).2.2.2
  refine dwithout_c (outs_rd hoO f2 hoR0) elc (hoO.more f2.1) (by omega) (by omega) fun a5 l5 c5 G5 H3 o5 f3 hG5=>⟨_,_,_,rfl,?_⟩
  have f23:=f2.trans f3
  refine dwithout_c (outs_rd hoO' f23 hoR') elc' (hoO'.more f23.1) (by omega) (by omega) fun a6 l6 c6 G6 H4 o6 f4 hG6=>⟨_,_,_,rfl,?_⟩
  have hB5:=hB1.nil (f23.trans f4)
  have o5':=o5.fr f4 (by simp)
  have hltB:=hB1.k.lt
  have g5:Disj G5 F:=fun y hy hm=>by have h1:=hG5 y hy;have h2:=hltB y hm;have:=f2.1;omega
  have g6:Disj G6 F:=fun y hy hm=>by have h1:=hG6 y hy;have h2:=hltB y hm;have:=f23.1;omega
  refine bwrite_c hB5 hv hi (kp:=[]) (l:=(v.cls[i]).sels.eraseIdx (posS (ns.map (tx t)) name)) (m:=(v.cls[i]).mets.eraseIdx (posS (ns.map (tx t)) name)) (by simp) (by simp) (fun w hw=>hwo w (List.mem_of_mem_eraseIdx hw)) (fun w hw=>hwo' w (List.mem_of_mem_eraseIdx hw)) o5'.rd (Own.out o5' g5) ?_ o6.rd (Own.out o6 g6) ?_ ⟨rfl,fun _=>rfl,fun p hp=>by cases hp⟩ (.inl rfl) fun H6 F6 hB6 u6=>⟨_,rfl,?_⟩
  ·have:=o5'.len
   simp only [intsV,List.length_map] at this
   have h3:=(List.eraseIdx_sublist (v.cls[i]).sels (posS (ns.map (tx t)) name)).length_le
   omega
  ·have:=o6.len
   simp only [intsV,List.length_map] at this
   have h3:=(List.eraseIdx_sublist (v.cls[i]).mets (posS (ns.map (tx t)) name)).length_le
   have e2:=hdc.len
   omega
  ·exact h H6 F6 hB6 ((Up.cons (Up.of_nil (f1.trans (f23.trans f4)))).trans u6)
 ·rw [decide_eq_false hm]
  simp only [Bool.not_false,cond_true]
  rw [if_neg hm] at h
  exact h _ F (by rw [clr_ne (n:=140) (by decide)];exact hB2) (Up.cons (Up.of_nil (f1.trans f2)))
end
theorem loc2 {H:Heap}{x y u w:Value}{ty:TypeId}:setH (setH (H.push (.cells #[x,y] ty)) (⟨H.size,0,none⟩:Addr) u) ((⟨H.size,0,none⟩:Addr).add 1) w=H.push (.cells #[u,w] ty):=by
 rw [add_none,setH_push,setH_push]
 rfl
theorem st2 {H:Heap}{b:Nat}{x y:Value} (hB:Blk H b #[x,y]) (u w:Value):Wr H (⟨b,0,none⟩:Addr)∧Wr (setH H (⟨b,0,none⟩:Addr) u) ((⟨b,0,none⟩:Addr).add 1)∧cellH (setH (setH H (⟨b,0,none⟩:Addr) u) ((⟨b,0,none⟩:Addr).add 1) w) (⟨b,0,none⟩:Addr)=some u∧cellH (setH (setH H (⟨b,0,none⟩:Addr) u) ((⟨b,0,none⟩:Addr).add 1) w) ((⟨b,0,none⟩:Addr).add 1)=some w∧Fr [b] H (setH (setH H (⟨b,0,none⟩:Addr) u) ((⟨b,0,none⟩:Addr).add 1) w):=by
 have h1:=hB.set 0 u
 have h2:=h1.set 1 w
 rw [add_none]
 exact ⟨hB.wr (by simp),h1.wr (by simp),h2.cell 0,h2.cell 1,((Fr.refl _ _).step (by simp)).step (by simp)⟩
theorem selI_drop {w:Int}{l:List Int}{j:Nat} (hj:j<l.length):selI w (l.drop j) j=if l[j]=w then some j else selI w (l.drop (j+1)) (j+1):=by
 rw [List.drop_eq_getElem_cons hj]
 rfl
section
variable {H H':Heap}{bb b mb sb:Nat}{F F':Foot}{s s':SP}{t t':TB}{v:KV}{es:List ((Int × Int) × Value)}{hits:Int}{Q:QT}
theorem sym_no {n:Int}{Q:QT}{H:Heap} (hn:n<0∨4095<n) (h:Q (.tuple #[.int .i64 0,.int .i64 1]) H):callS PP n_k143 #[.int .i64 n] Q H:=by
 apply k143_ok
 unfold k143 iV
 simp only [cond_dec]
 split
 ·exact h
 ·rw [if_pos (by omega)];exact h
theorem bsearch0_c (hK:PK H b F s t) (hv:KAll s t v) (hd:KD v t) (hc:KP H bb b){i:Nat} (hi:i<v.cls.length){x:Int} (h:∀ H',Fr [] H H'→Q (pairV (lookK v (4*x+2) i)) H') :
  callS PP n_k226 #[.pointer (some ⟨bb,0,none⟩),.int .i64 (v.cls[i]).oop,.int .i64 x] Q H:=by
 have ht4:=hv.names.wf.len
 have ht5:=hv.names.wf.m1
 apply k226_ok
 unfold k226 A0 iV wW pV lV cS;dsimp only [shH]
 have f0:Fr [] H (H.push (.cells #[.int .i64 0,.int .i64 0] 265)):=Fr.push _ _ _
 have b0:Blk (H.push (.cells #[.int .i64 0,.int .i64 0] 265)) H.size #[.int .i64 0,.int .i64 0]:=Blk.new _ _ _
 generalize (H.push (.cells #[.int .i64 0,.int .i64 0] 265))=H0 at f0 b0 ⊢
 have fin:∀ {H2:Heap}{r:Int × Int},Fr [] H0 H2→lookK v (4*x+2) i=r→Wr H2 (⟨H.size,0,none⟩:Addr)∧Wr (setH H2 (⟨H.size,0,none⟩:Addr) (.int .i64 r.1)) ((⟨H.size,0,none⟩:Addr).add 1)∧∃ n42:Int,cellH (setH (setH H2 (⟨H.size,0,none⟩:Addr) (.int .i64 r.1)) ((⟨H.size,0,none⟩:Addr).add 1) (.int .i64 r.2)) (⟨H.size,0,none⟩:Addr)=some (.int .i64 n42)∧∃ n43:Int,cellH (setH (setH H2 (⟨H.size,0,none⟩:Addr) (.int .i64 r.1)) ((⟨H.size,0,none⟩:Addr).add 1) (.int .i64 r.2)) ((⟨H.size,0,none⟩:Addr).add 1)=some (.int .i64 n43)∧Q (.agg #[.int .i64 n42,.int .i64 n43]) (setH (setH H2 (⟨H.size,0,none⟩:Addr) (.int .i64 r.1)) ((⟨H.size,0,none⟩:Addr).add 1) (.int .i64 r.2)):=fun {H2 r} f2 hr=>by
  obtain ⟨w1,w2,c1,c2,f3⟩:=st2 (b0.fr f2 (by simp)) (.int .i64 r.1) (.int .i64 r.2)
  refine ⟨w1,w2,_,c1,_,c2,?_⟩
  subst hr
  refine h _ ⟨?_,fun y hy hn=>?_⟩
  ·exact Nat.le_trans (f0.trans f2).1 f3.1
  ·rw [f3.2 y (Nat.lt_of_lt_of_le hy (f0.trans f2).1) (by simp;omega)]
   exact (f0.trans f2).2 y hy hn
 have main:∀ {n5 n6:Int},(n6=0→n5=4*x+2)→(n6≠0→lookK v (4*x+2) i=(0,0))→∃(I7:List Value→Heap→Prop) (μ7:List Value→Heap→Nat),I7 [.int .i64 (v.cls[i]).oop] H0∧∀ w8 H2,I7 w8 H2→∀ _g:Nat→Value,∃ n9:Int,w8=[.int .i64 n9]∧cond (n9 != 0) (cond (n6 == 0) (callS PP 141 #[.pointer (some ⟨bb,0,none⟩:Option Addr),.int .i64 n9,.int .i64 3] (fun v10 H3=>∃ n11:Int,v10=.int .i64 n11∧callS PP 227 #[.pointer (some ⟨bb,0,none⟩:Option Addr),.int .i64 n11] (fun v12 H4=>∃ a13:Option Addr,∃ l13:Nat,∃ c13:Nat,v12=.slice a13 l13 c13∧∃(I14:List Value→Heap→Prop) (μ14:List Value→Heap→Nat),I14 [.int .i64 0] H4∧∀ w15 H5,I14 w15 H5→∀ _g:Nat→Value,∃ n16:Int,w15=[.int .i64 n16]∧cond (decide (n16<(l13:Int))) (((0:Int)≤n16∧n16<(l13:Int))∧∃ q17,a13=some q17∧∃ n18:Int,cellH H5 (q17.add (Int.toNat n16*1))=some (.int .i64 n18)∧cond (n18 == n5) (∃ q19,(some ⟨bb,0,none⟩:Option Addr)=some q19∧∃ p20:Option Addr,cellH H5 q19=some (.pointer p20)∧callS PP 19 #[.pointer p20] (fun v21 H6=>∃ p22:Option Addr,v21=.pointer p22∧callS PP 20 #[.pointer p22] (fun v23 H7=>∃ p24:Option Addr,v23=.pointer p24∧callS PP 141 #[.pointer (some ⟨bb,0,none⟩:Option Addr),.int .i64 n9,.int .i64 4] (fun v25 H8=>∃ n26:Int,v25=.int .i64 n26∧callS PP 233 #[.pointer p24,.int .i64 n26,.int .i64 n16] (fun v27 H9=>∃ n28:Int,∃ n29:Int,v27=.tuple #[.int .i64 n28,.int .i64 n29]∧callS PP 183 #[.int .i64 n28] (fun v30 H00=>∃ n31:Int,∃ n32:Int,v30=.tuple #[.int .i64 n31,.int .i64 n32]∧Wr H00 (⟨H.size,0,none⟩:Addr)∧Wr (setH H00 (⟨H.size,0,none⟩:Addr) (.int .i64 n31)) ((⟨H.size,0,none⟩:Addr).add 1)∧∃ n33:Int,cellH (setH (setH H00 (⟨H.size,0,none⟩:Addr) (.int .i64 n31)) ((⟨H.size,0,none⟩:Addr).add 1) (.int .i64 n9)) (⟨H.size,0,none⟩:Addr)=some (.int .i64 n33)∧∃ n34:Int,cellH (setH (setH H00 (⟨H.size,0,none⟩:Addr) (.int .i64 n31)) ((⟨H.size,0,none⟩:Addr).add 1) (.int .i64 n9)) ((⟨H.size,0,none⟩:Addr).add 1)=some (.int .i64 n34)∧Q (.agg #[.int .i64 n33,.int .i64 n34]) (setH (setH H00 (⟨H.size,0,none⟩:Addr) (.int .i64 n31)) ((⟨H.size,0,none⟩:Addr).add 1) (.int .i64 n9))) H9) H8) H7) H6) H5) (I14 [.int .i64 (IntKind.wrap .i64 (n16+1))] H5∧μ14 [.int .i64 (IntKind.wrap .i64 (n16+1))] H5<μ14 w15 H5)) (∃ q35,(some ⟨bb,0,none⟩:Option Addr)=some q35∧∃ p36:Option Addr,cellH H5 q35=some (.pointer p36)∧callS PP 190 #[.pointer p36,.int .i64 n9] (fun v37 H01=>∃ n38:Int,∃ n39:Int,v37=.tuple #[.int .i64 n38,.int .i64 n39]∧I7 [.int .i64 n38] H01∧μ7 [.int .i64 n38] H01<μ7 w8 H2) H5)) H3) H2) (Wr H2 (⟨H.size,0,none⟩:Addr)∧Wr (setH H2 (⟨H.size,0,none⟩:Addr) (.int .i64 0)) ((⟨H.size,0,none⟩:Addr).add 1)∧∃ n40:Int,cellH (setH (setH H2 (⟨H.size,0,none⟩:Addr) (.int .i64 0)) ((⟨H.size,0,none⟩:Addr).add 1) (.int .i64 0)) (⟨H.size,0,none⟩:Addr)=some (.int .i64 n40)∧∃ n41:Int,cellH (setH (setH H2 (⟨H.size,0,none⟩:Addr) (.int .i64 0)) ((⟨H.size,0,none⟩:Addr).add 1) (.int .i64 0)) ((⟨H.size,0,none⟩:Addr).add 1)=some (.int .i64 n41)∧Q (.agg #[.int .i64 n40,.int .i64 n41]) (setH (setH H2 (⟨H.size,0,none⟩:Addr) (.int .i64 0)) ((⟨H.size,0,none⟩:Addr).add 1) (.int .i64 0)))) (Wr H2 (⟨H.size,0,none⟩:Addr)∧Wr (setH H2 (⟨H.size,0,none⟩:Addr) (.int .i64 0)) ((⟨H.size,0,none⟩:Addr).add 1)∧∃ n42:Int,cellH (setH (setH H2 (⟨H.size,0,none⟩:Addr) (.int .i64 0)) ((⟨H.size,0,none⟩:Addr).add 1) (.int .i64 0)) (⟨H.size,0,none⟩:Addr)=some (.int .i64 n42)∧∃ n43:Int,cellH (setH (setH H2 (⟨H.size,0,none⟩:Addr) (.int .i64 0)) ((⟨H.size,0,none⟩:Addr).add 1) (.int .i64 0)) ((⟨H.size,0,none⟩:Addr).add 1)=some (.int .i64 n43)∧Q (.agg #[.int .i64 n42,.int .i64 n43]) (setH (setH H2 (⟨H.size,0,none⟩:Addr) (.int .i64 0)) ((⟨H.size,0,none⟩:Addr).add 1) (.int .i64 0))):=fun {n5 n6} e5 e6=>by
  refine ⟨fun w H'=>Fr [] H0 H'∧((∃ k,∃ hk:k<v.cls.length,w=[.int .i64 (v.cls[k]).oop]∧lookK v (4*x+2) k=lookK v (4*x+2) i)∨(w=[.int .i64 0]∧lookK v (4*x+2) i=(0,0))),fun w _=>match w with
   | [.int _ c]=>(match plK v c with | some k=>k+1 | none=>0)
   | _=>0,⟨Fr.refl _ _,.inl ⟨i,hi,rfl,rfl⟩⟩,?_⟩
  rintro w H2 ⟨f2,hw⟩ _
  rcases hw with ⟨k,hk,rfl,e⟩ | ⟨rfl,e⟩
  rotate_left
  ·refine ⟨_,rfl,?_⟩
   simp only [show ((0:Int) != 0)=false from rfl,cond_false]
   exact fin f2 e
  refine ⟨_,rfl,?_⟩
  have b1:=((hv.ks.view.cls hk).bnd hv.ks.wf.h).1
  rw [bneI,cond_dec,if_pos (by omega),beqI,cond_dec]
  refine ite_i (fun h6=>?_) fun h6=>fin f2 (e6 h6)
  have e5:=e5 h6
  subst e5
  have b3:=(hv.ks.view.sel hk).bnd hv.ks.wf.h
  have b4:=(hv.ks.view.met hk).bnd hv.ks.wf.h
  have e3:koop s.h (v.cls[k]).oop 3=(v.cls[k]).selA:=by
   unfold koop;rw [hv.ks.c3 hk,oopW_obj b3.1 b3.2.1]
  have e4:koop s.h (v.cls[k]).oop 4=(v.cls[k]).metA:=by
   unfold koop;rw [hv.ks.c4 hk,oopW_obj b4.1 b4.2.1]
  have f02:=f0.trans f2
  refine barray_c (hK.nil f02) (hc.nil f02) ⟨_,rfl,?_⟩
  rw [e3]
  refine bslots_c (hK.nil f02) (hc.nil f02) fun a l c G H3 ho f3 hG=>⟨_,_,_,rfl,?_⟩
  rw [(hv.ks.view.sel hk).kwords] at ho
  have hl:l=(v.cls[k]).sels.length:=by have:=ho.len;simpa [intsV] using this.symm
  have f03:=f02.trans f3
  have leq:=lookK_eq hv.ks (4*x+2) hk
  obtain ⟨ns,hdc⟩:=hd _ (List.getElem_mem hk)
  have hsl:(v.cls[k]).sels.length=ns.length:=by rw [hdc.sel];simp
  have hmost:=hdc.most
  refine ⟨fun w H'=>∃ j:Nat,w=[.int .i64 j]∧j≤l∧selI (4*x+2) (v.cls[k]).sels 0=selI (4*x+2) ((v.cls[k]).sels.drop j) j∧H'=H3,fun w _=>match w with
   | [.int _ j]=>(l-j).toNat
   | _=>0,⟨0,rfl,Nat.zero_le _,rfl,rfl⟩,?_⟩
  rintro w H4 ⟨j,rfl,hj,hsel,rfl⟩ _
  refine ⟨_,rfl,?_⟩
  rw [cond_dec]
  refine ite_i (fun hlt=>?_) fun hlt=>?_
  ·have hjl:j<(v.cls[k]).sels.length:=by omega
   obtain ⟨p,rfl,hcell,_⟩:=ho.rd.int (i:=(j:Int)) (by omega) (by omega)
   have eg:((v.cls[k]).sels).getD j 0=(v.cls[k]).sels[j]:=by simp [hjl]
   rw [Int.toNat_natCast,eg] at hcell
   rw [selI_drop hjl] at hsel
   refine ⟨⟨by omega,hlt⟩,_,rfl,_,by rw [Int.toNat_natCast,Nat.mul_one];exact hcell,?_⟩
   rw [beqI,cond_dec]
   refine ite_i (fun hw=>?_) fun hw=>?_
   ·rw [if_pos hw] at hsel
    rw [hsel] at leq
    simp only at leq
    have hml:j<(v.cls[k]).mets.length:=by rw [hdc.len];omega
    obtain ⟨o',eo,o1,o2⟩:=hdc.obj _ (List.getElem_mem hml)
    have egm:((v.cls[k]).mets).getD j 0=4*o':=by rw [List.getD_eq_getElem?_getD,List.getElem?_eq_getElem hml,←eo];rfl
    rw [egm,oopW_obj o1 o2] at leq
    refine ⟨_,rfl,_,hc.nil f03,kspace_k (hK.nil f03) fun sb F1 _ hS _ _ _=>⟨_,rfl,psHeap_c hS fun hb F2 hR _ _=>⟨_,rfl,?_⟩⟩⟩
    refine barray_c (hK.nil f03) (hc.nil f03) ⟨_,rfl,?_⟩
    rw [e4]
    refine hat_c hR ?_
    rw [(hv.ks.view.met hk).at (by omega) (by omega)]
    have egt:((v.cls[k]).mets)[((j:Int)).toNat]'(by rw [Int.toNat_natCast];exact hml)=4*o':=by simp only [Int.toNat_natCast];exact eo
    rw [egt]
    refine ⟨_,_,rfl,oop_c (hK.nil f03).kinds ?_⟩
    unfold ofW
    have hk3:kindW (4*o')=3:=by have:=kind_cases (4*o');omega
    rw [if_pos hk3]
    simp only [show 4*o' / 4=o' by omega]
    refine ⟨_,_,rfl,?_⟩
    exact fin (r:=(o',(v.cls[k]).oop)) (f2.trans f3) (by rw [←e];exact leq)
   ·rw [if_neg hw] at hsel
    have e1:IntKind.wrap .i64 ((j:Int)+1)=((j+1:Nat):Int):=by rw [wrap64_id (by omega) (by omega)];omega
    rw [e1]
    exact ⟨⟨j+1,rfl,by omega,hsel,rfl⟩,by simp;omega⟩
  ·have hjl:j=(v.cls[k]).sels.length:=by omega
   rw [hjl,List.drop_length] at hsel
   rw [hsel] at leq
   simp only [selI] at leq
   refine ⟨_,rfl,_,hc.nil f03,ksuper_k (hK.nil f03) hv fun H5 f5=>?_⟩
   rw [hv.ks.idx hk]
   refine ⟨_,_,rfl,?_⟩
   have f25:=(f2.trans f3).trans f5
   rcases hv.ks.upI hk with ⟨_,s0,u0⟩ | ⟨j',hj',hjk,s1,_,u1⟩
   ·rw [u0] at leq
    rw [s0]
    refine ⟨⟨f25,.inr ⟨rfl,by rw [←e];exact leq⟩⟩,?_⟩
    simp only [plK_zero hv.ks,hv.ks.idx hk]
    omega
   ·rw [u1] at leq
    rw [s1]
    refine ⟨⟨f25,.inl ⟨j',hj',rfl,by rw [←e];exact leq.symm⟩⟩,?_⟩
    simp only [hv.ks.idx hj',hv.ks.idx hk]
    omega
 by_cases hx:0≤x∧x<4096
 ·refine sym_c hx ⟨_,_,rfl,?_⟩
  exact main (fun _=>rfl) fun hn=>absurd rfl hn
 ·refine sym_no (by omega) ⟨_,_,rfl,?_⟩
  exact main (fun hn=>absurd hn (by decide)) fun _=>lookK_out hd (by omega) i
end
def CacheOK (v:KV) (es:List ((Int × Int) × Value)):Prop:=∀ p∈es,∃ i,plK v p.1.1=some i∧p.2=pairV (lookK v (4*p.1.2+2) i)
theorem getP_mem {es:List ((Int × Int) × Value)}{k:Int × Int}{x:Value} (h:getP es k=some x):(k,x)∈es:=by
 induction es with
 | nil=>cases h
 | cons p l ih =>
  unfold getP at h
  by_cases hk:k=p.1
  ·rw [if_pos hk] at h;cases h;subst hk;simp
  ·rw [if_neg hk] at h;exact List.mem_cons_of_mem _ (ih h)
section
variable {H H':Heap}{bb b mb sb:Nat}{F F':Foot}{s s':SP}{t t':TB}{v:KV}{es:List ((Int × Int) × Value)}{hits:Int}{Q:QT}
theorem blookup_c (hB:PB H bb b F mb s t es hits) (hv:KAll s t v) (hd:KD v t) (hes:CacheOK v es){o x:Int}
  (h1:∀ i (hi:i<v.cls.length),plK v o=some i→getP es (o,x)≠none→∀ H',PB H' bb b F mb s t es (IntKind.wrap .i64 (hits+1))→Fr (bb :: mb :: F) H H'→Q (two (lookK v (4*x+2) i)) H')
  (h2:∀ i (hi:i<v.cls.length),plK v o=some i→getP es (o,x)=none→∀ H',PB H' bb b F mb s t (es++[((o,x),pairV (lookK v (4*x+2) i))]) hits→Fr (bb :: mb :: F) H H'→Q (two (lookK v (4*x+2) i)) H')
  (h3:plK v o=none→∀ H',Fr [] H H'→Q (.tuple #[.int .i64 0,.int .i64 0]) H'):callS PP n_k132 #[.pointer (some ⟨bb,0,none⟩),.int .i64 o,.int .i64 x] Q H:=by
 have hmt:PP.underlying 194=some (.map 268 265):=by kernel_rfl
 have hpk : PairK PP 268 := ⟨by kernel_rfl, { name := "class", type := 3, offset := 0, embedded := false, tag := "", pkgPath := "kiln/dict", byteOffset := 0 }, { name := "symbol", type := 3, offset := 1, embedded := false, tag := "", pkgPath := "kiln/dict", byteOffset := 8 }, by kernel_rfl, by decide, by decide, rfl, rfl, by kernel_rfl, by kernel_rfl⟩
 apply k132_ok
 unfold k132 A0 iV wW pV cS;dsimp only [shH]
 refine bthere_c hB.kp ⟨_,rfl,?_⟩
 simp only [Bool.not_true,cond_false]
 refine ⟨_,rfl,_,hB.kp,number_k hB.k hv fun H1 f1=>?_⟩
 cases hp:plK v o with
 | none=>exact ⟨_,_,rfl,h3 hp H1 f1⟩
 | some i =>
 obtain ⟨hi,ho⟩:=plK_some hp
 refine ⟨_,_,rfl,?_⟩
 simp only [show ((0:Int) != 0)=false from rfl,cond_false]
 have hB1:=hB.nil f1
 refine ⟨_,rfl,_,by rw [add_none];exact hB1.blk.cell 1,?_⟩
 have z:(PP.info? 265).bind (·.zero)=some (pairV (0,0)):=by kernel_rfl
 obtain ⟨ti,z1,z2⟩:=Option.bind_eq_some_iff.1 z
 refine evS_lookupP (k:=(o,x)) hmt hpk z1 z2 hB1.map ?_
 cases hg:getP es (o,x) with
 | some val =>
  obtain ⟨i',e1,e2⟩:=hes _ (getP_mem hg)
  simp only at e1 e2
  rw [hp] at e1
  cases e1
  subst e2
  refine ⟨_,_,_,rfl,?_⟩
  rw [loc2]
  have fp:Fr [] H1 (H1.push (.cells #[.int .i64 (lookK v (4*x+2) i).1,.int .i64 (lookK v (4*x+2) i).2] 265)):=Fr.push _ _ _
  have bp:=Blk.new H1 #[.int .i64 (lookK v (4*x+2) i).1,.int .i64 (lookK v (4*x+2) i).2] 265
  refine ⟨(st2 (Blk.new H1 _ _) (.int .i64 0) (.int .i64 0)).1,(st2 (Blk.new H1 _ _) _ (.int .i64 0)).2.1,?_⟩
  generalize (H1.push (.cells #[.int .i64 (lookK v (4*x+2) i).1,.int .i64 (lookK v (4*x+2) i).2] 265))=H2 at fp bp ⊢
  simp only [Option.isSome_some,cond_true]
  have hB2:=hB1.nil fp
  have nb:bb≠H1.size:=by have:=hB1.blk.lt;omega
  have b3:=hB2.blk.set 2 (.int .i64 (IntKind.wrap .i64 (hits+1)))
  have f3:Fr [bb] H2 (setH H2 ⟨bb,2,none⟩ (.int .i64 (IntKind.wrap .i64 (hits+1)))):=Fr.set (by simp)
  have bp3:=bp.fr f3 (by simpa using fun e=>nb e.symm)
  have hB3:PB (setH H2 ⟨bb,2,none⟩ (.int .i64 (IntKind.wrap .i64 (hits+1)))) bb b F mb s t es (IntKind.wrap .i64 (hits+1)):=⟨hB2.k.fr f3 (fun y hy hm=>by simp only [List.mem_singleton] at hm;subst hm;exact hB2.nb hy) (by simpa using hB2.gb),b3,hB2.map.fr f3 (by simpa using fun e=>hB2.ne e.symm),hB2.ne,hB2.nb,hB2.nm,hB2.gb,hB2.gm⟩
  refine ⟨_,rfl,_,by rw [add_none];exact hB2.blk.cell 2,_,rfl,by rw [add_none];exact hB2.blk.wr (by simp),?_⟩
  simp only [add_none,Nat.zero_add]
  refine ⟨_,bp3.cell 0,_,bp3.cell 1,?_⟩
  exact h1 i hi hp (by rw [hg];simp) _ hB3 ((Fr.of_nil (f1.trans fp)).trans (f3.mono (by simp)))
 | none =>
  refine ⟨_,_,_,rfl,?_⟩
  rw [loc2]
  have fp:Fr [] H1 (H1.push (.cells #[.int .i64 0,.int .i64 0] 265)):=Fr.push _ _ _
  refine ⟨(st2 (Blk.new H1 _ _) (.int .i64 0) (.int .i64 0)).1,(st2 (Blk.new H1 _ _) _ (.int .i64 0)).2.1,?_⟩
  simp only [Option.isSome_none,cond_false]
  show callS PP n_k226 _ _ (H1.push (.cells #[.int .i64 0,.int .i64 0] 265))
  generalize (H1.push (.cells #[.int .i64 0,.int .i64 0] 265))=H2 at fp ⊢
  have hB2:=hB1.nil fp
  rw [←ho]
  refine bsearch0_c hB2.k hv hd hB2.kp hi fun H3 f3=>⟨_,_,rfl,?_⟩
  have hB3:=hB2.nil f3
  rw [loc2]
  refine ⟨(st2 (Blk.new H3 _ _) (.int .i64 0) (.int .i64 0)).1,(st2 (Blk.new H3 _ _) _ (.int .i64 0)).2.1,?_⟩
  have fq:Fr [] H3 (H3.push (.cells #[.int .i64 (lookK v (4*x+2) i).1,.int .i64 (lookK v (4*x+2) i).2] 265)):=Fr.push _ _ _
  have bq:=Blk.new H3 #[.int .i64 (lookK v (4*x+2) i).1,.int .i64 (lookK v (4*x+2) i).2] 265
  generalize (H3.push (.cells #[.int .i64 (lookK v (4*x+2) i).1,.int .i64 (lookK v (4*x+2) i).2] 265))=H4 at fq bq ⊢
  have hB4:=hB3.nil fq
  have nm:mb≠H3.size:=by have:=hB3.map.lt;omega
  refine ⟨_,rfl,_,by rw [add_none];exact hB4.blk.cell 1,_,bq.cell 0,_,by rw [add_none];exact bq.cell 1,?_⟩
  rw [ho]
  refine evS_insertP (k:=(o,x)) hmt hpk hB4.map hg fun H5 m5 f5=>⟨trivial,?_⟩
  have bq5:=bq.fr f5 (by simpa using fun e=>nm e.symm)
  refine ⟨_,bq5.cell 0,_,by rw [add_none];exact bq5.cell 1,?_⟩
  have hB5:PB H5 bb b F mb s t (es++[((o,x),pairV (lookK v (4*x+2) i))]) hits:=⟨hB4.k.fr f5 (fun y hy hm=>by simp only [List.mem_singleton] at hm;subst hm;exact hB4.nm hy) (by simpa using hB4.gm),hB4.blk.fr f5 (by simpa using hB4.ne),m5,hB4.ne,hB4.nb,hB4.nm,hB4.gb,hB4.gm⟩
  exact h2 i hi hp hg _ hB5 ((Fr.of_nil (((f1.trans fp).trans f3).trans fq)).trans (f5.mono (by simp)))
theorem bNew_c (hK:PK H b F s t) (h:∀ H',PB H' (H.size+1) b F H.size s t [] 0→Fr [] H H'→Q (.tuple #[.pointer (some ⟨H.size+1,0,none⟩),.int .i64 0]) H'):callS PP n_k129 #[.pointer (some ⟨b,0,none⟩)] Q H:=by
 apply k129_ok
 unfold k129 iV pV
 simp only [Option.isNone_some,cond_false]
 have f1:Fr [] H (H.push (.map #[] 0)):=Fr.push _ _ _
 have e:(H.push (.map #[] 0)).size=H.size+1:=by simp
 have m1:=MapP.new H
 have hlt:=hK.lt
 have hg:=hK.kinds.lt
 rw [e]
 generalize (H.push (.map #[] 0))=H1 at f1 e m1 ⊢
 have f2:Fr [] H1 (H1.push (.cells #[.pointer (some ⟨b,0,none⟩),.map (some H.size),.int .i64 0] 196)):=Fr.push _ _ _
 have b2:=Blk.new H1 #[.pointer (some ⟨b,0,none⟩),.map (some H.size),.int .i64 0] 196
 rw [e] at b2
 exact h _ ⟨hK.nil (f1.trans f2),b2,m1.fr f2 (by simp),by omega,fun hm=>by have:=hlt _ hm;omega,fun hm=>by have:=hlt _ hm;omega,by omega,by omega⟩ (f1.trans f2)
end
section
variable {H H':Heap}{rb b:Nat}{F F':Foot}{s s':SP}{t t':TB}{v:KV}{Q:QT}
theorem dlists_c (hK:RK H b F s t) (hv:KAll s t v) (hc:KP H rb b){o:Int}
  (h1:∀ i (hi:i<v.cls.length),plK v o=some i→∀ a l c G a' l' c' G' H',Own 1 H' a l c (intsV (v.cls[i]).sels) G→Own 1 H' a' l' c' (intsV (v.cls[i]).mets) G'→Fr [] H H'→(∀ x∈G,H.size≤x)→(∀ x∈G',H.size≤x)→Q (.tuple #[.slice a l c,.slice a' l' c',.int .i64 0]) H')
  (h2:plK v o=none→∀ H',Fr [] H H'→Q (.tuple #[.slice none 0 0,.slice none 0 0,.int .i64 130]) H'):callS PP n_k146 #[.pointer (some ⟨rb,0,none⟩),.int .i64 o] Q H:=by
 apply k146_ok
 unfold k146 iV pV lV cS
 refine ⟨_,rfl,_,hc,number_r hK hv fun H1 f1=>?_⟩
 cases hp:plK v o with
 | none=>exact ⟨_,_,rfl,h2 hp H1 f1⟩
 | some i =>
  refine ⟨_,_,rfl,?_⟩
  obtain ⟨hi,rfl⟩:=plK_some hp
  have b3:=(hv.ks.view.sel hi).bnd hv.ks.wf.h
  have b4:=(hv.ks.view.met hi).bnd hv.ks.wf.h
  have hK1:=hK.nil f1
  have hc1:=hc.nil f1
  simp only [show ((0:Int) != 0)=false from rfl,cond_false]
  refine ⟨_,rfl,_,hc1,_,rfl,_,hc1,_,rfl,_,hc1,_,rfl,_,hc1,slot_r hK1 ⟨_,rfl,⟨⟨hc1,trivial⟩,⟨hc1,trivial⟩,⟨hc1,trivial⟩,trivial⟩,?_⟩⟩
  rw [hv.ks.c3 hi]
  refine refOop13_c ⟨by omega,by omega⟩ ⟨_,rfl,⟨⟨hc1,trivial⟩,⟨hc1,trivial⟩,⟨hc1,trivial⟩,trivial⟩,?_⟩
  rw [refOop_obj b3.1]
  refine words_r hK1 fun a l c G H2 ho f2 hG=>⟨_,_,_,rfl,⟨⟨hc1.nil f2,trivial⟩,⟨hc1.nil f2,trivial⟩,trivial⟩,?_⟩
  have hK2:=hK1.nil f2
  have hc2:=hc1.nil f2
  refine slot_r hK2 ⟨_,rfl,⟨⟨hc2,trivial⟩,trivial⟩,?_⟩
  rw [hv.ks.c4 hi]
  refine refOop13_c ⟨by omega,by omega⟩ ⟨_,rfl,⟨⟨hc2,trivial⟩,trivial⟩,?_⟩
  rw [refOop_obj b4.1]
  refine words_r hK2 fun a' l' c' G' H3 ho' f3 hG'=>⟨_,_,_,rfl,trivial,?_⟩
  rw [(hv.ks.view.sel hi).kwords] at ho
  rw [(hv.ks.view.met hi).kwords] at ho'
  have f12:=f1.trans f2
  exact h1 i hi hp _ _ _ _ _ _ _ _ H3 (ho.fr f3 (by simp)) ho' (f12.trans f3) (fun x hx=>Nat.le_trans f1.1 (hG x hx)) fun x hx=>Nat.le_trans f12.1 (hG' x hx)
theorem dtext_c (hK:RK H b F s t){n:Nat} (hn:n<t.texts.length) (h:Q (.string (tx t n)) H):callS PP n_k158 #[.pointer (some ⟨b,0,none⟩),.int .i64 (symW n)] Q H:=by
 have h1:=hK.wft.len
 have h2:=hK.wft.m1
 refine text_r hK ⟨by unfold symW;omega,by unfold symW;omega⟩ ?_
 rw [ktextW_sym hK.wft hn];exact h
theorem dselectors_c (hK:RK H b F s t) (hv:KAll s t v) (hd:KD v t) (hc:KP H rb b){o:Int} (h1:∀ i (hi:i<v.cls.length),plK v o=some i→∀ a l c G H',Own 1 H' a l c (strsV (selT t v.cls[i])) G→Fr [] H H'→(∀ x∈G,H.size≤x)→Q (.slice a l c) H')
  (h2:plK v o=none→∀ H',Fr [] H H'→Q (.slice none 0 0) H'):callS PP n_k42 #[.pointer (some ⟨rb,0,none⟩),.int .i64 o] Q H:=by
 have hs1:sliceInfo PP 37=some (1,16,some (.string ⟨#[]⟩)):=by kernel_rfl
 apply k42_ok
 unfold k42 A0 iV wW pV sV lV cS
 refine dlists_c hK hv hc (fun i hi hp a l c G a' l' c' G' H1 ho ho' f1 hG hG'=>⟨_,_,_,_,_,_,_,rfl,?_⟩) fun hp H1 f1=>⟨_,_,_,_,_,_,_,rfl,?_⟩
 ·obtain ⟨ns,hdc⟩:=hd _ (List.getElem_mem hi)
  have ht:=hdc.texts hv.names.wf
  have h1:=h1 i hi hp
  rw [ht] at h1
  rw [hdc.sel] at ho
  have hl:l=ns.length:=by have:=ho.len;simpa [intsV] using this.symm
  have hmost:=hdc.most
  refine ⟨fun w H'=>∃(i:Nat) (a:Option Addr) (l' c:Nat) (G:Foot),w=[.slice a l' c,.int .i64 i]∧i≤l∧Own 1 H' a l' c (strsV ((ns.map (tx t)).take i)) G∧Fr [] H1 H'∧(∀ x∈G,H1.size≤x),fun w _=>match w with
   | [_,.int _ i]=>((l:Int)-i).toNat
   | _=>0,⟨0,none,0,0,[],rfl,Nat.zero_le _,by simpa [strsV] using Own.nil 1 H1,Fr.refl _ _,by simp⟩,?_⟩
  rintro w H2 ⟨j,a2,l2,c2,G2,rfl,hj,ho2,f2,hG2⟩ _
  have hl2:l2=j:=by have:=ho2.len;simp only [strsV,List.length_map,List.length_take] at this;omega
  refine ⟨_,_,_,_,rfl,?_⟩
  rw [cond_dec]
  refine ite_i (fun hlt=>?_) fun hlt=>?_
  ·have hjl:j<ns.length:=by omega
   have htk:(ns.map (tx t)).take (j+1)=(ns.map (tx t)).take j++[tx t ns[j]]:=by
    rw [List.take_add_one,List.getElem?_eq_getElem (by simpa using hjl)];simp
   have e:IntKind.wrap .i64 ((j:Int)+1)=((j+1:Nat):Int):=by rw [wrap64_id (by omega) (by omega)];omega
   obtain ⟨p,rfl,hcell,_⟩:=(ho.fr f2 (by simp)).rd.int (i:=(j:Int)) (by omega) (by omega)
   refine ⟨_,rfl,_,(hc.nil (f1.trans f2)),⟨by omega,hlt⟩,_,rfl,_,by rw [Nat.mul_one];exact hcell,?_⟩
   rw [Int.toNat_natCast]
   have e3:(ns.map symW).getD j 0=symW ns[j]:=by simp [hjl]
   rw [e3]
   refine dtext_c (hK.nil (f1.trans f2)) (hdc.num _ (List.getElem_mem hjl)) ⟨_,rfl,trivial,trivial,?_⟩
   refine evS_append1 hs1 rfl (by kernel_rfl) ho2 rfl (by simp [oneC]) (by omega) (by decide) (by decide) fun a' c' G3 H3 g1 g2 g3=>⟨_,_,_,rfl,trivial,?_⟩
   have hfr:=Up.fresh f2 g2 hG2
   rw [e]
   refine ⟨⟨j+1,a',l2+1,c',G3,rfl,by omega,?_,hfr.1,hfr.2⟩,by simp;omega⟩
   rw [htk,strsV_append];exact g1
  ·rw [List.take_of_length_le (by simp;omega)] at ho2
   exact h1 _ _ _ _ H2 ho2 (f1.trans f2) fun x hx=>Nat.le_trans f1.1 (hG2 x hx)
 ·refine ⟨fun w H'=>w=[.slice none 0 0,.int .i64 0]∧H'=H1,fun _ _=>0,⟨rfl,rfl⟩,?_⟩
  rintro w H2 ⟨rfl,rfl⟩ _
  refine ⟨_,_,_,_,rfl,?_⟩
  rw [cond_dec,if_neg (by omega)]
  exact h2 hp _ f1
theorem dat0_c (hK:RK H b F s t) (hc:KP H rb b){a:Option Addr}{l c:Nat}{ns:List Nat} (hr:Rd 1 H a l (intsV (ns.map symW))) (hn:∀ n∈ns,n<t.texts.length) (hsr:(ns.map (tx t)).Pairwise ltS) (hlk:l≤1000000){x:ByteArray}
  (h:Q (.tuple #[.int .i64 (if x∈ns.map (tx t) then (posS (ns.map (tx t)) x:Int) else -1),.int .i64 (posS (ns.map (tx t)) x:Nat)]) H):callS PP n_k149 #[.pointer (some ⟨rb,0,none⟩),.slice a l c,.string x] Q H:=by
 have hl:l=ns.length:=by have:=hr.1;simpa [intsV] using this.symm
 have hts:∀ i (hi:i<ns.length),(ns.map (tx t))[i]?=some (tx t ns[i]):=fun i hi=>by simp [hi]
 have hple:=posS_le (ns.map (tx t)) x
 rw [List.length_map] at hple
 apply k149_ok
 unfold k149 iV wW pV sV cS
 refine ⟨fun w H'=>∃ j:Nat,w=[.int .i64 ((min j (posS (ns.map (tx t)) x):Nat):Int),.int .i64 j]∧j≤l∧(∀ k,k<j→(ns.map (tx t))[k]?≠some x)∧H'=H,fun w _=>match w with
  | [_,.int _ j]=>((l:Int)-j).toNat
  | _=>0,⟨0,by simp,Nat.zero_le _,fun k hk=>by omega,rfl⟩,?_⟩
 rintro w H1 ⟨j,rfl,hj,hno,rfl⟩ _
 refine ⟨_,_,rfl,?_⟩
 rw [cond_dec]
 refine ite_i (fun hlt=>?_) fun hlt=>?_
 ·have hjl:j<ns.length:=by omega
  have e:IntKind.wrap .i64 ((j:Int)+1)=((j+1:Nat):Int):=by rw [wrap64_id (by omega) (by omega)];omega
  obtain ⟨p,rfl,hcell,_⟩:=hr.int (i:=(j:Int)) (by omega) (by omega)
  refine ⟨_,rfl,_,hc,⟨by omega,hlt⟩,_,rfl,_,by rw [Nat.mul_one];exact hcell,?_⟩
  rw [Int.toNat_natCast]
  have e3:(ns.map symW).getD j 0=symW ns[j]:=by simp [hjl]
  rw [e3]
  refine dtext_c hK (hn _ (List.getElem_mem hjl)) ⟨_,rfl,trivial,?_⟩
  rw [strEq_dec,cond_dec]
  refine ite_i (fun heq=>?_) fun heq=>?_
  ·have hm:x∈ns.map (tx t):=by rw [←heq];exact List.mem_map.2 ⟨_,List.getElem_mem hjl,rfl⟩
   have hp:=(posS_mem hsr).1 hm
   have:posS (ns.map (tx t)) x=j:=by
    have h1:=(List.getElem?_eq_some_iff.1 hp)
    obtain ⟨hpl,hpe⟩:=h1
    have h2:(ns.map (tx t))[j]'(by simpa using hjl)=x:=by simpa using heq
    exact (List.getElem_inj (srt_nodup hsr)).1 (hpe.trans h2.symm)
   rw [if_pos hm,this] at h
   rw [this,Nat.min_self]
   exact h
  ·have e2:Op.bytesLess (tx t ns[j]).toList x.toList=decide (ltS (tx t ns[j]) x):=by rw [Bool.eq_iff_iff,decide_eq_true_iff];exact Iff.rfl
   have hno':∀ k,k<j+1→(ns.map (tx t))[k]?≠some x:=fun k hk=>by
    rcases Nat.lt_or_ge k j with h1 | h1
    ·exact hno k h1
    ·have:k=j:=by omega
     subst this
     rw [hts _ hjl]
     simpa using heq
   rw [e2,cond_dec,e]
   refine ite_i (fun hls=>?_) fun hls=>?_
   ·have hjp:j<posS (ns.map (tx t)) x:=by
     rcases Nat.lt_or_ge j (posS (ns.map (tx t)) x) with h1 | h1
     ·exact h1
     ·exact absurd hls (posS_ge hsr h1 (hts _ hjl))
    have e4:IntKind.wrap .i64 (((min j (posS (ns.map (tx t)) x):Nat):Int)+1)=((min (j+1) (posS (ns.map (tx t)) x):Nat):Int):=by
     rw [wrap64_id (by omega) (by omega)];omega
    rw [e4]
    exact ⟨⟨j+1,rfl,by omega,hno',rfl⟩,by simp;omega⟩
   ·have hjp:posS (ns.map (tx t)) x≤j:=by
     rcases Nat.lt_or_ge j (posS (ns.map (tx t)) x) with h1 | h1
     ·exact absurd (posS_lt h1 (hts _ hjl)) hls
     ·exact h1
    have e4:min j (posS (ns.map (tx t)) x)=min (j+1) (posS (ns.map (tx t)) x):=by omega
    rw [e4]
    exact ⟨⟨j+1,rfl,by omega,hno',rfl⟩,by simp;omega⟩
 ·have hjl:j=ns.length:=by omega
  have hm:x∉ns.map (tx t):=fun hm=>by
   obtain ⟨k,hk,e⟩:=List.getElem_of_mem hm
   have hk':k<ns.length:=by simpa using hk
   exact hno k (by omega) (by rw [List.getElem?_eq_getElem hk,e])
  rw [if_neg hm] at h
  have e:min j (posS (ns.map (tx t)) x)=posS (ns.map (tx t)) x:=by omega
  rw [e]
  exact h
theorem dat_c (hK:RK H b F s t) (hv:KAll s t v) (hd:KD v t) (hc:KP H rb b){o:Int}{x:ByteArray} (h1:∀ i (hi:i<v.cls.length),plK v o=some i→∀ H',Fr [] H H'→Q (two (atI t v.cls[i] x)) H')
  (h2:plK v o=none→∀ H',Fr [] H H'→Q (.tuple #[.int .i64 0,.int .i64 130]) H'):callS PP n_k154 #[.pointer (some ⟨rb,0,none⟩),.int .i64 o,.string x] Q H:=by
 apply k154_ok
 unfold k154 iV pV sV lV cS
 refine dlists_c hK hv hc (fun i hi hp a l c G a' l' c' G' H1 ho ho' f1 hG hG'=>⟨_,_,_,_,_,_,_,rfl,?_⟩) fun hp H1 f1=>⟨_,_,_,_,_,_,_,rfl,?_⟩
 ·obtain ⟨ns,hdc⟩:=hd _ (List.getElem_mem hi)
  have ht:=hdc.texts hv.names.wf
  have h1:=h1 i hi hp
  unfold atI at h1
  rw [ht] at h1
  rw [hdc.sel] at ho
  have hl:l=ns.length:=by have:=ho.len;simpa [intsV] using this.symm
  have hl':l'=ns.length:=by have:=ho'.len;rw [←hdc.len];simpa [intsV] using this.symm
  have hmost:=hdc.most
  simp only [show ((0:Int) != 0)=false from rfl,cond_false]
  refine dat0_c (hK.nil f1) (hc.nil f1) ho.rd hdc.num hdc.srt (by omega) ⟨_,_,rfl,?_⟩
  by_cases hm:x∈ns.map (tx t)
  ·rw [if_pos hm,cond_dec,if_neg (by omega)]
   have hps:posS (ns.map (tx t)) x<ns.length:=by
    have:=(List.getElem?_eq_some_iff.1 ((posS_mem hdc.srt).1 hm)).1
    simpa using this
   obtain ⟨p,rfl,hcell,_⟩:=ho'.rd.int (i:=((posS (ns.map (tx t)) x:Nat):Int)) (by omega) (by omega)
   refine ⟨⟨by omega,by omega⟩,_,rfl,_,by rw [Nat.mul_one];exact hcell,?_⟩
   rw [Int.toNat_natCast]
   have hml:posS (ns.map (tx t)) x<(v.cls[i]).mets.length:=by rw [hdc.len];exact hps
   obtain ⟨o',eo,o1,o2⟩:=hdc.obj _ (List.getElem_mem hml)
   have e:((v.cls[i]).mets).getD (posS (ns.map (tx t)) x) 0=4*o':=by rw [List.getD_eq_getElem?_getD,List.getElem?_eq_getElem hml,←eo];rfl
   have h1:=h1 _ f1
   rw [if_pos hm,e,oopW_obj o1 o2] at h1
   rw [e]
   refine refOop13_c ⟨by omega,by omega⟩ ⟨_,rfl,?_⟩
   rw [refOop_obj o1]
   exact h1
  ·rw [if_neg hm,cond_dec,if_pos (by omega)]
   have h1:=h1 _ f1
   rw [if_neg hm] at h1
   exact h1
 ·exact h2 hp _ f1
end
theorem turned_tail {a1:Option Addr}{l1:Nat}{n2 n8:Int}{a10:Option Addr}{l10 c10:Nat}{H1 H2:Heap}{w6:List Value}{I5:List Value→Heap→Prop}{μ5:List Value→Heap→Nat}{ws acc:List Int}{G:Foot}
  (hr:Rd 1 H2 a1 l1 (intsV ws)) (ho:Own 1 H2 a10 l10 c10 (intsV acc) G) (hn:0≤n8) (hk:l10<1000000)
  (hnext:∀ a l c G' H',Own 1 H' a l c (intsV (acc++if n8<(l1:Int)∧n8≠n2 then [ws.getD n8.toNat 0] else [])) G'→Up G H2 G' H'→I5 [.slice a l c,.int .i64 (IntKind.wrap .i64 (n8+1))] H'∧μ5 [.slice a l c,.int .i64 (IntKind.wrap .i64 (n8+1))] H'<μ5 w6 H1) :
  cond (decide (n8<(l1:Int))) (cond (n8 != n2) (((0:Int)≤n8∧n8<(l1:Int))∧∃ q11,a1=some q11∧∃ n12:Int,cellH H2 (q11.add (Int.toNat n8*1))=some (.int .i64 n12)∧evS PP (Builtin.append_ #[108,108] 108 #[.slice a10 l10 c10,.slice (some (⟨H2.size,0,none⟩:Addr)) 1 1]) (fun v13 H3=>∃ a14:Option Addr,∃ l14:Nat,∃ c14:Nat,v13=.slice a14 l14 c14∧I5 [.slice a14 l14 c14,.int .i64 (IntKind.wrap .i64 (n8+1))] H3∧μ5 [.slice a14 l14 c14,.int .i64 (IntKind.wrap .i64 (n8+1))] H3<μ5 w6 H1) (H2.push (.cells #[.int .i64 n12] 36))) (I5 [.slice a10 l10 c10,.int .i64 (IntKind.wrap .i64 (n8+1))] H2∧μ5 [.slice a10 l10 c10,.int .i64 (IntKind.wrap .i64 (n8+1))] H2<μ5 w6 H1)) (I5 [.slice a10 l10 c10,.int .i64 (IntKind.wrap .i64 (n8+1))] H2∧μ5 [.slice a10 l10 c10,.int .i64 (IntKind.wrap .i64 (n8+1))] H2<μ5 w6 H1):=by
 have hs1:sliceInfo PP 108=some (1,8,some (.int .i64 0)):=by kernel_rfl
 have skip:¬ (n8<(l1:Int)∧n8≠n2)→I5 [.slice a10 l10 c10,.int .i64 (IntKind.wrap .i64 (n8+1))] H2∧μ5 [.slice a10 l10 c10,.int .i64 (IntKind.wrap .i64 (n8+1))] H2<μ5 w6 H1:=fun hc=>by
  have:=hnext a10 l10 c10 G H2
  rw [if_neg hc,List.append_nil] at this
  exact this ho (Up.refl _ _)
 rw [cond_dec]
 refine ite_i (fun h1=>?_) fun h1=>skip (fun h=>h1 h.1)
 rw [bneI,cond_dec]
 refine ite_i (fun h2=>?_) fun h2=>skip (fun h=>h2 h.2)
 obtain ⟨p,rfl,hcell,_⟩:=hr.int (i:=n8) hn h1
 refine ⟨⟨hn,h1⟩,_,rfl,_,by rw [Nat.mul_one];exact hcell,?_⟩
 refine evS_append1 hs1 rfl (by kernel_rfl) ho rfl (by simp [oneC]) (by omega) (by decide) (by decide) fun a' c' G3 H3 g1 g2 g3=>⟨_,_,_,rfl,?_⟩
 refine hnext _ _ _ G3 H3 ?_ g2
 rw [if_pos ⟨h1,h2⟩,intsV_append];exact g1
def tl (ws:List Int) (i n w:Int):Nat→List Int
 | 0=>[]
 | k+1=>(tl ws i n w k++if (k:Int)=n∧w≠0 then [w] else [])++if (k:Int)<(ws.length:Int)∧(k:Int)≠i then [ws.getD k 0] else []
theorem tl_len (ws:List Int) (i n w:Int) (k:Nat):(tl ws i n w k).length≤2*k:=by
 induction k with
 | zero=>simp [tl]
 | succ k ih =>
  simp only [tl,List.length_append]
  split <;> split <;> simp <;> omega
theorem tl_ins {ws:List Int}{n:Nat}{w:Int} (hw:w≠0) (hn:n≤ws.length):tl ws (-1) n w (ws.length+1)=insA ws n w:=by
 have key:∀ k,k≤ws.length→tl ws (-1) n w k=if k≤n then ws.take k else ws.take n++w :: (ws.drop n).take (k-n):=by
  intro k
  induction k with
  | zero=>intro _;simp [tl]
  | succ k ih =>
   intro hk
   have hkl:k<ws.length:=by omega
   rw [tl,ih (by omega),if_pos (⟨by omega,by omega⟩:(k:Int)<(ws.length:Int)∧(k:Int)≠-1)]
   have e:ws.getD k 0=ws[k]:=by simp [hkl]
   rw [e]
   rcases Nat.lt_trichotomy k n with h | h | h
   ·rw [if_pos (by omega:k≤n),if_neg (by omega:¬ ((k:Int)=n∧w≠0)),if_pos (by omega:k+1≤n),List.append_nil,List.take_add_one,List.getElem?_eq_getElem hkl]
    rfl
   ·subst h
    rw [if_pos (Nat.le_refl k),if_pos (⟨rfl,hw⟩:(k:Int)=k∧w≠0),if_neg (by omega:¬ k+1≤k)]
    have e2:k+1-k=1:=by omega
    rw [e2,List.drop_eq_getElem_cons hkl]
    simp only [List.take_succ_cons,List.take_zero,List.append_assoc,List.cons_append,List.nil_append]
   ·rw [if_neg (by omega:¬ k≤n),if_neg (by omega:¬ ((k:Int)=n∧w≠0)),if_neg (by omega:¬ k+1≤n)]
    have e2:k+1-n=(k-n)+1:=by omega
    rw [e2,List.take_add_one,List.getElem?_drop,show n+(k-n)=k by omega,List.getElem?_eq_getElem hkl]
    simp
 rw [tl,key _ (Nat.le_refl _),if_neg (by omega:¬ ((ws.length:Int)<(ws.length:Int)∧(ws.length:Int)≠-1)),List.append_nil]
 unfold insA
 rcases Nat.lt_or_ge n ws.length with h | h
 ·rw [if_neg (by omega:¬ ws.length≤n),if_neg (by omega:¬ ((ws.length:Int)=n∧w≠0)),List.append_nil,List.take_of_length_le (l:=ws.drop n) (by simp)]
 ·have:n=ws.length:=by omega
  subst this
  rw [if_pos (Nat.le_refl ws.length),if_pos (⟨rfl,hw⟩:(ws.length:Int)=(ws.length:Nat)∧w≠0)]
  simp
theorem tl_del {ws:List Int}{i:Nat} (hi:i<ws.length):tl ws i (-1) 0 (ws.length+1)=ws.eraseIdx i:=by
 have key:∀ k,k≤ws.length→tl ws i (-1) 0 k=if k≤i then ws.take k else ws.take i++(ws.drop (i+1)).take (k-(i+1)):=by
  intro k
  induction k with
  | zero=>intro _;simp [tl]
  | succ k ih =>
   intro hk
   have hkl:k<ws.length:=by omega
   rw [tl,ih (by omega),if_neg (by omega:¬ ((k:Int)=-1∧(0:Int)≠0)),List.append_nil]
   have e:ws.getD k 0=ws[k]:=by simp [hkl]
   rcases Nat.lt_trichotomy k i with h | h | h
   ·rw [if_pos (by omega:k≤i),if_pos (by omega:(k:Int)<(ws.length:Int)∧(k:Int)≠i),if_pos (by omega:k+1≤i),e,List.take_add_one,List.getElem?_eq_getElem hkl]
    rfl
   ·subst h
    rw [if_pos (Nat.le_refl k),if_neg (by omega:¬ ((k:Int)<(ws.length:Int)∧(k:Int)≠(k:Nat))),if_neg (by omega:¬ k+1≤k)]
    simp
   ·rw [if_neg (by omega:¬ k≤i),if_pos (by omega:(k:Int)<(ws.length:Int)∧(k:Int)≠i),if_neg (by omega:¬ k+1≤i),e]
    have e2:k+1-(i+1)=(k-(i+1))+1:=by omega
    rw [e2,List.take_add_one,List.getElem?_drop,show i+1+(k-(i+1))=k by omega,List.getElem?_eq_getElem hkl]
    simp
 rw [tl,key _ (Nat.le_refl _),if_neg (by omega:¬ ((ws.length:Int)<(ws.length:Int)∧(ws.length:Int)≠i)),if_neg (by omega:¬ ((ws.length:Int)=-1∧(0:Int)≠0)),List.append_nil,List.append_nil,if_neg (by omega:¬ ws.length≤i),List.eraseIdx_eq_take_drop_succ,List.take_of_length_le (l:=ws.drop (i+1)) (by simp)]
section
variable {H H':Heap}{Q:QT}
theorem turned_c {a:Option Addr}{l c:Nat}{ws:List Int} (hr:Rd 1 H a l (intsV ws)) (hout:Outs H a l []) (hlk:l≤100000){i n w:Int}
  (h:∀ a' l' c' G H',Own 1 H' a' l' c' (intsV (tl ws i n w (ws.length+1))) G→Fr [] H H'→(∀ x∈G,H.size≤x)→Q (.slice a' l' c') H'):callS PP n_k151 #[.slice a l c,.int .i64 i,.int .i64 n,.int .i64 w] Q H:=by
 have hs1:sliceInfo PP 108=some (1,8,some (.int .i64 0)):=by kernel_rfl
 have hl:l=ws.length:=by have:=hr.1;simpa [intsV] using this.symm
 apply k151_ok
 unfold k151 A0 iV wW lV
 refine ⟨fun v H'=>∃(k:Nat) (a':Option Addr) (l' c':Nat) (G:Foot),v=[.slice a' l' c',.int .i64 k]∧k≤l+1∧Own 1 H' a' l' c' (intsV (tl ws i n w k)) G∧Fr [] H H'∧∀ x∈G,H.size≤x,fun v _=>match v with
  | [_,.int _ k]=>((l:Int)+1-k).toNat
  | _=>0,⟨0,none,0,0,[],rfl,Nat.zero_le _,by simpa [intsV,tl] using Own.nil 1 H,Fr.refl _ _,by simp⟩,?_⟩
 rintro v H1 ⟨k,a',l',c',G,rfl,hk,ho,f1,hG⟩ _
 have hlen:=ho.len
 have htl:=tl_len ws i n w k
 simp only [intsV,List.length_map,Nat.mul_one] at hlen
 refine ⟨_,_,_,_,rfl,?_⟩
 rw [cond_dec]
 refine ite_i (fun hle=>?_) fun hle=>?_
 ·have e:IntKind.wrap .i64 ((k:Int)+1)=((k+1:Nat):Int):=by rw [wrap64_id (by omega) (by omega)];omega
  have next:∀ {a2 l2 c2 G2 H2},Own 1 H2 a2 l2 c2 (intsV (tl ws i n w (k+1))) G2→Fr [] H H2→(∀ x∈G2,H.size≤x)→(∃(k':Nat) (a':Option Addr) (l' c':Nat) (G:Foot),[Value.slice a2 l2 c2,.int .i64 (IntKind.wrap .i64 ((k:Int)+1))]=[.slice a' l' c',.int .i64 k']∧k'≤l+1∧Own 1 H2 a' l' c' (intsV (tl ws i n w k')) G∧Fr [] H H2∧∀ x∈G,H.size≤x) ∧
    (match [Value.slice a2 l2 c2,.int .i64 (IntKind.wrap .i64 ((k:Int)+1))] with
     | [_,.int _ k]=>((l:Int)+1-k).toNat
     | _=>0)<(match [Value.slice a' l' c',.int .i64 (k:Int)] with
     | [_,.int _ k]=>((l:Int)+1-k).toNat
     | _=>0):=fun {a2 l2 c2 G2 H2} o2 f2 g2=>by
   rw [e]
   exact ⟨⟨k+1,a2,l2,c2,G2,rfl,by omega,o2,f2,g2⟩,by simp;omega⟩
  have tail0:¬ ((k:Int)=n∧w≠0)→_:=fun hc=>turned_tail (H1:=H1) (I5:=fun v H'=>∃(k:Nat) (a':Option Addr) (l' c':Nat) (G:Foot),v=[.slice a' l' c',.int .i64 k]∧k≤l+1∧Own 1 H' a' l' c' (intsV (tl ws i n w k)) G∧Fr [] H H'∧∀ x∈G,H.size≤x) (μ5:=fun v _=>match v with
   | [_,.int _ k]=>((l:Int)+1-k).toNat
   | _=>0) (w6:=[.slice a' l' c',.int .i64 k]) (outs_rd hout f1 hr) ho (n2:=i) (n8:=(k:Int)) (by omega) (by omega) fun a2 l2 c2 G2 H2 o2 u2=>by
    have hfr:=Up.fresh f1 u2 hG
    refine next (G2:=G2) ?_ hfr.1 hfr.2
    rw [tl,if_neg hc,List.append_nil,←hl]
    rw [Int.toNat_natCast] at o2
    exact o2
  rw [beqI,cond_dec]
  refine ite_i (fun hn=>?_) fun hn=>tail0 (fun h=>hn h.1)
  rw [bneI,cond_dec]
  refine ite_i (fun hw=>?_) fun hw=>tail0 (fun h=>hw h.2)
  refine evS_append1 hs1 rfl (by kernel_rfl) ho rfl (by simp [oneC]) (by omega) (by decide) (by decide) fun a2 c2 G2 H2 g1 g2 g3=>⟨_,_,_,rfl,?_⟩
  have hfr:=Up.fresh f1 g2 hG
  refine turned_tail (H1:=H1) (n2:=i) (n8:=(k:Int)) (acc:=tl ws i n w k++[w]) (I5:=fun v H'=>∃(k:Nat) (a':Option Addr) (l' c':Nat) (G:Foot),v=[.slice a' l' c',.int .i64 k]∧k≤l+1∧Own 1 H' a' l' c' (intsV (tl ws i n w k)) G∧Fr [] H H'∧∀ x∈G,H.size≤x) (μ5:=fun v _=>match v with
   | [_,.int _ k]=>((l:Int)+1-k).toNat
   | _=>0) (w6:=[.slice a' l' c',.int .i64 k]) (outs_rd hout hfr.1 hr) (by rw [intsV_append];exact g1) (by omega) (by omega) fun a3 l3 c3 G3 H3 o3 u3=>?_
  have hfr3:=Up.fresh hfr.1 u3 hfr.2
  refine next (G2:=G3) ?_ hfr3.1 hfr3.2
  rw [tl,if_pos ⟨hn,hw⟩,←hl]
  rw [Int.toNat_natCast] at o3
  exact o3
 ·have:k=ws.length+1:=by omega
  subst this
  exact h _ _ _ _ H1 ho f1 hG
end
def seenV (l:List (Int × Int)):List Value:=l.flatMap fun p=>[.int .i64 p.1,.int .i64 p.2]
structure RBk (H:Heap) (rb b:Nat) (F G:Foot) (s:SP) (t:TB) (seen:List (Int × Int)) (cnt:Int):Prop where
 k:RK H b F s t
 blk:∃ a l c,Blk H rb #[.pointer (some ⟨b,0,none⟩),.slice a l c,.int .i64 cnt]∧Own 2 H a l c (seenV seen) G
 nb:rb∉F
 ng:rb∉G
 dis:Disj G F
section
variable {H H':Heap}{rb b:Nat}{F F' G:Foot}{s s':SP}{t t':TB}{v:KV}{seen:List (Int × Int)}{cnt:Int}{Q:QT}
theorem RBk.up (h:RBk H rb b F G s t seen cnt) (hK:RK H' b F' s' t') (hu:Up F H F' H'):RBk H' rb b F' G s' t' seen cnt:=by
 obtain ⟨k,⟨a,l,c,hB,ho⟩,nb,ng,dis⟩:=h
 refine ⟨hK,⟨a,l,c,hB.fr hu.1 nb,ho.fr hu.1 dis⟩,Up.out hu nb hB.lt,ng,fun x hx hm=>?_⟩
 rcases hu.2 x hm with h1 | h1
 ·exact dis x hx h1
 ·have:=ho.lt x hx;omega
theorem RBk.nil (h:RBk H rb b F G s t seen cnt) (f:Fr [] H H'):RBk H' rb b F G s t seen cnt:=h.up (h.k.nil f) (Up.of_nil f)
theorem RBk.kp (h:RBk H rb b F G s t seen cnt):KP H rb b:=by obtain ⟨a,l,c,hB,_⟩:=h.blk;exact hB.cell 0
theorem RBk.lt (h:RBk H rb b F G s t seen cnt):∀ x∈rb :: (G++F),x<H.size:=fun x hx=>by
 obtain ⟨a,l,c,hB,ho⟩:=h.blk
 simp only [List.mem_cons,List.mem_append] at hx
 rcases hx with rfl | hx | hx
 ·exact hB.lt
 ·exact ho.lt x hx
 ·exact h.k.lt x hx
theorem RBk.fr (h:RBk H rb b F G s t seen cnt){G0:Foot} (f:Fr G0 H H') (hd:Disj (rb :: (G++F)) G0):RBk H' rb b F G s t seen cnt:=by
 obtain ⟨k,⟨a,l,c,hB,ho⟩,nb,ng,dis⟩:=h
 exact ⟨k.fr f (hd.mono (fun x hx=>by simp [hx]) fun _ h=>h),⟨a,l,c,hB.fr f (hd rb (by simp)),ho.fr f fun x hx=>hd x (by simp [hx])⟩,nb,ng,dis⟩
theorem RBk.fin {G':Foot} (hu:Up F H F' H') (hG:∀ x∈G',x∈G∨H.size≤x):Up (rb :: (G++F)) H (rb :: (G'++F')) H':=⟨hu.1.mono fun x hx=>by simp [hx],fun x hx=>by
 simp only [List.mem_cons,List.mem_append] at hx ⊢
 rcases hx with rfl | hx | hx
 ·exact .inl (.inl rfl)
 ·exact (hG x hx).imp (fun h=>.inr (.inl h)) id
 ·exact (hu.2 x hx).imp (fun h=>.inr (.inr h)) id⟩
theorem RBk.clear (h:RBk H rb b F G s t seen cnt):Wr H ((⟨rb,0,none⟩:Addr).add 1)∧RBk (setH H ((⟨rb,0,none⟩:Addr).add 1) (.slice none 0 0)) rb b F [] s t [] cnt∧Fr [rb] H (setH H ((⟨rb,0,none⟩:Addr).add 1) (.slice none 0 0)):=by
 obtain ⟨k,⟨a,l,c,hB,ho⟩,nb,ng,dis⟩:=h
 have hf:Fr [rb] H (setH H ((⟨rb,0,none⟩:Addr).add 1) (.slice none 0 0)):=by rw [add_none];exact Fr.set (by simp)
 have hB':=hB.set 1 (.slice none 0 0)
 rw [add_none] at hf ⊢
 exact ⟨hB.wr (by simp),⟨k.fr hf (fun x hx hm=>by simp only [List.mem_singleton] at hm;subst hm;exact nb hx),⟨none,0,0,hB',Own.nil 2 _⟩,nb,by simp,Disj.nil_left _⟩,hf⟩
def clrS (n:Int) (seen:List (Int × Int)):List (Int × Int):=if n=0 then [] else seen
theorem clrS_ne {n:Int} (h:n≠0) (l:List (Int × Int)):clrS n l=l:=by unfold clrS;rw [if_neg h]
theorem clrS_zero (l:List (Int × Int)):clrS 0 l=[]:=rfl
end
section
variable {H H':Heap}{rb b:Nat}{F F' G:Foot}{s s':SP}{t t':TB}{v:KV}{seen:List (Int × Int)}{cnt:Int}{Q:QT}
theorem tfind_c {tb:Nat}{F2:Foot} (hT:RTb H tb F2 t){x:ByteArray} (h:Q (findV t x) H):callS PP n_k147 #[.pointer (some ⟨tb,0,none⟩),.string x] Q H:=by
 apply k147_ok
 unfold k147 iV pV sV cS
 simp only [Option.isNone_some,cond_false]
 refine tat_c hT ⟨_,rfl,?_⟩
 unfold findV at h
 cases hn:numOf t.texts x with
 | none =>
  rw [hn] at h
  rw [cond_dec,if_pos (by decide)]
  exact h
 | some n =>
  rw [hn] at h
  rw [cond_dec,if_neg (by simp only;omega)]
  exact h
theorem dwrite_c (hB:RBk H rb b F G s t seen cnt){c:Int}{l m:List Int}{a3 a4:Option Addr}{l3 c3 l4 c4:Nat} (h3:Rd 1 H a3 l3 (intsV l)) (o3:Out H a3 F) (k3:l3≤1000000) (h4:Rd 1 H a4 l4 (intsV m)) (o4:Out H a4 F) (k4:l4≤1000000){RA RB:(Int × Int) × SP} (eA:s.array l=RA) (eB:RA.2.array m=RB)
  (bad1:RA.1.2≠0→∀ H' F',RBk H' rb b F' G RA.2 t seen cnt→Up F H F' H'→Q (.int .i64 RA.1.2) H')
  (bad2:RA.1.2=0→RB.1.2≠0→∀ H' F',RBk H' rb b F' G RB.2 t seen cnt→Up F H F' H'→Q (.int .i64 RB.1.2) H')
  (good:RA.1.2=0→RB.1.2=0→∀ H' F',RBk H' rb b F' [] { RB.2 with h:=((RB.2.h.put c 3 RA.1.1).2.put c 4 RB.1.1).2 } t [] cnt→Up (rb :: F) H (rb :: F') H'→Q (.int .i64 0) H') :
  callS PP n_k236 #[.pointer (some ⟨rb,0,none⟩),.int .i64 c,.slice a3 l3 c3,.slice a4 l4 c4] Q H:=by
 apply k236_ok
 unfold k236 iV pV lV cS
 refine ⟨_,rfl,_,hB.kp,madeA_r hB.k h3 o3 (by omega) fun H1 F1 hK1 u1=>⟨_,_,rfl,?_⟩⟩
 rw [eA] at hK1 ⊢
 have hB1:=hB.up hK1 u1
 rw [bneI,cond_dec]
 refine ite_i (fun hz=>bad1 hz _ _ hB1 u1) fun hz=>?_
 have hz1:RA.1.2=0:=Classical.byContradiction hz
 refine ⟨_,rfl,_,hB1.kp,madeA_r hK1 (o4.rd u1 h4) (o4.up u1) (by omega) fun H2 F2 hK2 u2=>⟨_,_,rfl,?_⟩⟩
 rw [eB] at hK2 ⊢
 have hB2:=hB1.up hK2 u2
 rw [bneI,cond_dec]
 refine ite_i (fun hz=>bad2 hz1 hz _ _ hB2 (u1.trans u2)) fun hz=>?_
 have hz2:RB.1.2=0:=Classical.byContradiction hz
 obtain ⟨sb,hb,F3,hc3,h03,hR3,hsub3,_,hup3⟩:=hK2.hp
 refine ⟨_,rfl,_,hB2.kp,_,rfl,_,hc3,_,rfl,_,h03,rput_c hR3 fun H4 hR4 f4=>⟨_,rfl,?_⟩⟩
 obtain ⟨F4,hK4,u4⟩:=hup3 H4 F3 _ hR4 ⟨f4,fun _ h=>.inl h⟩
 have hB4:=hB2.up hK4 u4
 obtain ⟨sb5,hb5,F5,hc5,h05,hR5,hsub5,_,hup5⟩:=hK4.hp
 refine ⟨_,rfl,_,hB4.kp,_,rfl,_,hc5,_,rfl,_,h05,rput_c hR5 fun H6 hR6 f6=>⟨_,rfl,?_⟩⟩
 obtain ⟨F6,hK6,u6⟩:=hup5 H6 F5 _ hR6 ⟨f6,fun _ h=>.inl h⟩
 have hB6:=hB4.up hK6 u6
 obtain ⟨w7,hB7,f7⟩:=hB6.clear
 refine ⟨_,rfl,w7,?_⟩
 have u:=((u1.trans u2).trans u4).trans u6
 exact good hz1 hz2 _ F6 hB7 ((Up.cons u).trans ⟨f7.mono (by simp),fun _ h=>.inl h⟩)
theorem ddrop_c {H3:Heap} (hB:RBk H3 rb b F G s t seen cnt){n21:Int} (hq:∀ H6 F6,RBk H6 rb b F6 G { s with stack:=[] } t seen cnt→Up F H3 F6 H6→Q (.int .i64 n21) H6):∃ q22,(some ⟨rb,0,none⟩:Option Addr)=some q22∧∃ p23:Option Addr,cellH H3 q22=some (.pointer p23)∧∃ q24,p23=some q24∧∃ p25:Option Addr,cellH H3 q24=some (.pointer p25)∧∃ q26,(some ⟨rb,0,none⟩:Option Addr)=some q26∧∃ p27:Option Addr,cellH H3 q26=some (.pointer p27)∧∃ q28,p27=some q28∧∃ p29:Option Addr,cellH H3 q28=some (.pointer p29)∧∃ q30,p29=some q30∧∃ a31:Option Addr,∃ l31:Nat,∃ c31:Nat,cellH H3 (q30.add 2)=some (.slice a31 l31 c31)∧callS PP 218 #[.pointer p25,.int .i64 (IntKind.wrap .i64 ((l31:Int)-((0:Nat):Int)))] (fun v32 H4=>∃ n33:Int,v32=.int .i64 n33∧True∧Q (.int .i64 n21) H4) H3:=by
 obtain ⟨sb,F1,hc,hS,hsub,_,hup⟩:=hB.k.sp
 have hS':=hS
 obtain ⟨_,as_,ls_,cs_,_,F4,_,_,_,_,_,_,_,_,hBs,_,hO,_⟩:=hS'
 have hcS:cellH H3 ⟨sb,2,none⟩=some (.slice as_ ls_ cs_):=hBs.cell 2
 have hl:ls_=s.stack.length:=by have:=hO.len;simpa [intsV] using this.symm
 have hm:=hS.wf.many
 subst hl
 refine ⟨_,rfl,_,hB.kp,_,rfl,_,hc,_,rfl,_,hB.kp,_,rfl,_,hc,_,rfl,_,_,_,by rw [add_none];exact hcS,?_⟩
 rw [wrap64_id (by omega) (by omega)]
 refine rsDrop_c hS fun H6 F6 hS6 u6=>⟨_,rfl,trivial,?_⟩
 rw [show ((0:Nat):Int)=0 from rfl,drop_all rfl] at hS6
 obtain ⟨F',hK6,hu6⟩:=hup H6 F6 _ hS6 u6
 exact hq H6 F' (hB.up hK6 hu6) hu6
theorem dkept_c (hB:RBk H rb b F G s t seen cnt) (hv:KAll s t v){c:Int}{kp l m:List Int}{w:Int} (hw:kp=if w≠0 then [w] else []) (hkp:∀ w∈kp,isW w)
  {a3 a4:Option Addr}{l3 c3 l4 c4:Nat} (h3:Rd 1 H a3 l3 (intsV l)) (o3:Out H a3 F) (k3:l3≤1000000) (h4:Rd 1 H a4 l4 (intsV m)) (o4:Out H a4 F) (k4:l4≤1000000)
  (h:∀ H' F' G',RBk H' rb b F' G' (kWrite s c kp l m).2 t (clrS (kWrite s c kp l m).1 seen) cnt→Up (rb :: (G++F)) H (rb :: (G'++F')) H'→Q (.int .i64 (kWrite s c kp l m).1) H') :
  callS PP n_k150 #[.pointer (some ⟨rb,0,none⟩),.int .i64 c,.slice a3 l3 c3,.slice a4 l4 c4,.int .i64 w] Q H:=by
 obtain ⟨hk,hn,hst⟩:=hv
 have hk1:kp.length≤1:=by rw [hw];split <;> simp
 obtain ⟨ek,hk0⟩:=keepW_ok hk hst hkp hk1
 unfold kWrite at h
 rw [ek] at h
 simp only at h
 generalize hRA:SP.array { s with stack:=kp } l=RA at h
 generalize hRB:SP.array RA.2 m=RB at h
 have bad1:RA.1.2≠0→∀ H' F',RBk H' rb b F' G { RA.2 with stack:=[] } t seen cnt→Up F H F' H'→Q (.int .i64 RA.1.2) H':=fun hz H' F' hP hu=>by
  have:=h H' F' G
  rw [if_pos hz] at this
  exact this (by rw [clrS_ne hz];exact hP) (RBk.fin hu fun _ h=>.inl h)
 have bad2:RA.1.2=0→RB.1.2≠0→∀ H' F',RBk H' rb b F' G { RB.2 with stack:=[] } t seen cnt→Up F H F' H'→Q (.int .i64 RB.1.2) H':=fun h0 hz H' F' hP hu=>by
  have:=h H' F' G
  rw [if_neg (by simpa using h0),if_pos hz] at this
  exact this (by rw [clrS_ne hz];exact hP) (RBk.fin hu fun _ h=>.inl h)
 have good:RA.1.2=0→RB.1.2=0→∀ H' F',RBk H' rb b F' [] { RB.2 with h:=((RB.2.h.put c 3 RA.1.1).2.put c 4 RB.1.1).2,stack:=[] } t [] cnt→Up (rb :: F) H (rb :: F') H'→Q (.int .i64 0) H':=fun h0 hz H' F' hP hu=>by
  have:=h H' F' []
  rw [if_neg (by simpa using h0),if_neg (by simpa using hz)] at this
  exact this (by rw [clrS_zero];exact hP) ⟨hu.1.mono fun x hx=>by
   rcases List.mem_cons.1 hx with rfl | hx
   ·simp
   ·simp [hx],fun x hx=>(hu.2 x hx).imp (fun h=>by
    rcases List.mem_cons.1 h with rfl | h
    ·simp
    ·simp [h]) id⟩
 clear h
 apply k150_ok
 unfold k150 A0 iV wW pV lV cS
 obtain ⟨sb,F1,hc,hS,hsub,_,hup⟩:=hB.k.sp
 have hS':=hS
 obtain ⟨_,as_,ls_,cs_,_,F4,_,_,_,_,_,_,_,_,hBs,_,hO,_⟩:=hS'
 have hcS:cellH H ⟨sb,2,none⟩=some (.slice as_ ls_ cs_):=hBs.cell 2
 have hl:ls_=0:=by have:=hO.len;rw [hst] at this;simpa [intsV] using this.symm
 subst hl
 refine ⟨_,rfl,_,hB.kp,_,rfl,_,hc,_,rfl,_,_,_,by rw [add_none];exact hcS,?_⟩
 refine ⟨fun w H'=>w=[]∧∃ F2,RBk H' rb b F2 G { s with stack:=kp } t seen cnt∧Up F H F2 H',?_,?_⟩
 ·rw [bneI,cond_dec]
  refine ite_i (fun hw0=>?_) fun hw0=>?_
  ·rw [if_pos hw0] at hw
   have fp:Fr [] H (H.push (.cells #[.int .i64 w] 36)):=Fr.push _ _ _
   have r1:Rd 1 (H.push (.cells #[.int .i64 w] 36)) (some ⟨H.size,0,none⟩) 1 (intsV [w]):=rd1_new
   refine ⟨_,rfl,_,hB.kp,_,rfl,_,hc,?_⟩
   have hB1:=hB.nil fp
   obtain ⟨sb1,F1',hc1,hS1,_,_,hup1⟩:=hB1.k.sp
   have e:sb1=sb:=by
    have h1:=hc
    rw [←cell_fr fp (by simp) (cell_lt hc)] at h1
    rw [hc1] at h1
    simpa using h1
   subst e
   refine rsKeep_c hS1 r1 (by omega) fun H2 F2 hS2 u2=>⟨_,rfl,rfl,?_⟩
   rw [←hw,ek] at hS2
   obtain ⟨F',hK2,hu2⟩:=hup1 H2 F2 _ hS2 u2
   exact ⟨F',hB1.up hK2 hu2,(Up.of_nil fp).trans hu2⟩
  ·rw [if_neg hw0] at hw
   subst hw
   have e:{ s with stack:=[] }=s:=by rw [←hst]
   exact ⟨rfl,F,by rw [e];exact hB,Up.refl _ _⟩
 ·rintro w2 H2 ⟨rfl,F2,hB2,u2⟩ _
  refine ⟨rfl,dwrite_c hB2 (o3.rd u2 h3) (o3.up u2) k3 (o4.rd u2 h4) (o4.up u2) k4 hRA hRB (fun hz H3 F3 hB3 u3=>⟨_,rfl,ddrop_c hB3 fun H6 F6 hB6 u6=>?_⟩) (fun hz1 hz H3 F3 hB3 u3=>⟨_,rfl,ddrop_c hB3 fun H6 F6 hB6 u6=>?_⟩) fun hz1 hz2 H3 F3 hB3 u3=>⟨_,rfl,ddrop_c hB3 fun H6 F6 hB6 u6=>?_⟩⟩
  ·exact bad1 hz H6 F6 hB6 ((u2.trans u3).trans u6)
  ·exact bad2 hz1 hz H6 F6 hB6 ((u2.trans u3).trans u6)
  ·exact good hz1 hz2 H6 F6 hB6 (((Up.cons u2).trans u3).trans (Up.cons u6))
theorem dPut_c (hB:RBk H rb b F G s t seen cnt) (hv:KAll s t v) (hd:KD v t){o m:Int}{name:ByteArray}
  (h1:∀ i (hi:i<v.cls.length),plK v o=some i→∀ H' F' G',RBk H' rb b F' G' (kPutI s t v.cls[i] name m).2 t (clrS (kPutI s t v.cls[i] name m).1 seen) cnt→Up (rb :: (G++F)) H (rb :: (G'++F')) H'→Q (.int .i64 (kPutI s t v.cls[i] name m).1) H')
  (h2:plK v o=none→∀ H',Fr [] H H'→Q (.int .i64 130) H'):callS PP n_k35 #[.pointer (some ⟨rb,0,none⟩),.int .i64 o,.string name,.int .i64 m] Q H:=by
 apply k35_ok
 unfold k35 iV wW pV sV lV cS
 refine dlists_c hB.k hv hB.kp (fun i hi hp a l c Ga a' l' c' G' H1 ho ho' f1 hG hG'=>⟨_,_,_,_,_,_,_,rfl,?_⟩) fun hp H1 f1=>⟨_,_,_,_,_,_,_,rfl,?_⟩
 rotate_left
 ·exact h2 hp _ f1
 have h:=h1 i hi hp
 obtain ⟨hi',rfl⟩:=plK_some hp
 clear h1 h2
 obtain ⟨ns,hdc⟩:=hd _ (List.getElem_mem hi)
 have ht:=hdc.texts hv.names.wf
 have hmost:=hdc.most
 have hsl:(v.cls[i]).sels.length=ns.length:=by rw [hdc.sel];simp
 have hl:l=ns.length:=by have:=ho.len;rw [←hsl];simpa [intsV] using this.symm
 have hl':l'=ns.length:=by have:=ho'.len;rw [←hdc.len];simpa [intsV] using this.symm
 have hB1:=hB.nil f1
 simp only [show ((0:Int) != 0)=false from rfl,cond_false]
 unfold kPutI at h
 obtain ⟨tb,F2,hct,hT,_⟩:=hB1.k.tb
 refine ⟨_,rfl,_,hB1.kp,_,rfl,_,hct,tfind_c hT ?_⟩
 unfold findV
 cases hn:numOf t.texts name with
 | none =>
  rw [hn] at h
  simp only at h
  refine ⟨_,_,rfl,?_⟩
  simp only [Bool.not_false,cond_true]
  exact h H1 F G (by rw [clrS_ne (n:=61) (by decide)];exact hB1) (RBk.fin (Up.of_nil f1) fun _ h=>.inl h)
 | some n =>
 rw [hn] at h
 simp only at h
 refine ⟨_,_,rfl,?_⟩
 simp only [Bool.not_true,cond_false]
 have stay:∀ {e:Int}{H2:Heap},Fr [] H1 H2→(∀ H' F' G',RBk H' rb b F' G' s t (clrS e seen) cnt→Up (rb :: (G++F)) H (rb :: (G'++F')) H'→Q (.int .i64 e) H')→e≠0→Q (.int .i64 e) H2:=fun f2 hq he=>hq _ F G (by rw [clrS_ne he];exact hB1.nil f2) (RBk.fin (Up.of_nil (f1.trans f2)) fun _ h=>.inl h)
 obtain ⟨sb,hb,F3,hc3,h03,hR3,hsub3,_,hup3⟩:=hB1.k.hp
 refine ⟨_,rfl,_,hB1.kp,_,rfl,_,hc3,_,rfl,_,h03,rclass_c hR3 ⟨_,_,rfl,?_⟩⟩
 rw [bneI,cond_dec]
 refine ite_i (fun hc=>?_) fun hc=>?_
 ·refine stay (Fr.refl _ _) (fun H' F' G' hP hu=>?_) hc
  have:=h H' F' G'
  rw [if_pos hc] at this
  exact this hP hu
 have hc:(s.h.clsAt m).2=0:=Classical.byContradiction hc
 rw [if_neg (by simpa using hc)] at h
 obtain ⟨m1,m2⟩:=clsAt_bnd hv.ks.wf.h hc
 have hoR:=ho.rd
 have hoR0:=ho.rd
 have hoR':=ho'.rd
 have hoO:Outs H1 a l []:=.inr (Own.out ho (Disj.nil_right _))
 have hoO':Outs H1 a' l' []:=.inr (Own.out ho' (Disj.nil_right _))
 rw [hdc.sel] at hoR
 refine dat0_c hB1.k hB1.kp hoR hdc.num hdc.srt (by omega) ⟨_,_,rfl,?_⟩
 rw [ht] at h
 have hoIs:∀ {Q':Value→Heap→Prop}{H':Heap},Q' (.int .i64 (4*m)) H'→callS PP n_k59 #[.int .i64 m] Q' H':=fun hq=>refObj_c ⟨by omega,by omega⟩ hq
 by_cases hm:name∈ns.map (tx t)
 ·rw [if_pos hm,cond_dec,if_pos (by omega)]
  rw [if_pos hm] at h
  simp only at h
  have b4:=(hv.ks.view.met hi).bnd hv.ks.wf.h
  have hkp:=hB1.kp
  refine ⟨_,rfl,_,hkp,_,rfl,_,hc3,_,rfl,_,h03,_,rfl,_,hkp,slot_r hB1.k ⟨_,rfl,⟨⟨h03,trivial⟩,⟨hc3,trivial⟩,⟨hkp,trivial⟩,trivial⟩,?_⟩⟩
  rw [hv.ks.c4 hi]
  refine refOop13_c ⟨by omega,by omega⟩ ⟨_,rfl,⟨⟨h03,trivial⟩,⟨hc3,trivial⟩,⟨hkp,trivial⟩,trivial⟩,?_⟩
  rw [refOop_obj b4.1]
  refine hoIs ⟨_,rfl,⟨⟨h03,trivial⟩,⟨hc3,trivial⟩,⟨hkp,trivial⟩,trivial⟩,?_⟩
  refine rput_c hR3 fun H4 hR4 f4=>⟨_,rfl,trivial,?_⟩
  obtain ⟨F4,hK4,u4⟩:=hup3 H4 F3 _ hR4 ⟨f4,fun _ h=>.inl h⟩
  have hB4:=hB1.up hK4 u4
  obtain ⟨w5,hB5,f5⟩:=hB4.clear
  refine ⟨_,rfl,w5,?_⟩
  refine h _ F4 [] (by rw [clrS_zero];exact hB5) ⟨((Fr.of_nil f1).trans (u4.1.mono fun x hx=>by simp [hx])).trans (f5.mono (by simp)),fun x hx=>?_⟩
  simp only [List.nil_append,List.mem_cons] at hx
  rcases hx with rfl | hx
  ·exact .inl (by simp)
  ·exact (u4.2 x hx).imp (fun h=>by simp [h]) fun h=>Nat.le_trans f1.1 h
 ·rw [if_neg hm,cond_dec,if_neg (by omega)]
  rw [if_neg hm] at h
  rw [hsl] at h
  rw [cond_dec]
  refine ite_i (fun h128=>?_) fun h128=>?_
  ·rw [if_pos (by omega)] at h
   exact stay (Fr.refl _ _) h (by decide)
  rw [if_neg (by omega)] at h
  have hps:=posS_le (ns.map (tx t)) name
  rw [List.length_map] at hps
  have hnl:n<t.texts.length:=(tx_some (numOf_get hn)).2
  have ht4:=hv.names.wf.len
  have ht5:=hv.names.wf.m1
  refine hoIs ⟨_,rfl,?_⟩
  have e4:IntKind.wrap .i64 (4*(n:Int))=4*n:=wrap64_id (by omega) (by omega)
  have e5:IntKind.wrap .i64 (4*(n:Int)+2)=symW n:=wrap64_id (by omega) (by omega)
  rw [e4,e5]
  refine turned_c hoR0 hoO (by omega) fun a5 l5 c5 G5 H3 o5 f3 hG5=>⟨_,_,_,rfl,?_⟩
  refine turned_c (outs_rd hoO' f3 hoR') (hoO'.more f3.1) (by omega) fun a6 l6 c6 G6 H4 o6 f4 hG6=>⟨_,_,_,rfl,?_⟩
  rw [tl_ins (by unfold symW;omega) (by omega)] at o5
  rw [tl_ins (by omega) (by have:=hdc.len;omega)] at o6
  have hB5:=hB1.nil (f3.trans f4)
  have o5':=o5.fr f4 (by simp)
  have hltB:=hB1.k.lt
  have g5:Disj G5 F:=fun y hy hm=>by have h1:=hG5 y hy;have h2:=hltB y hm;omega
  have g6:Disj G6 F:=fun y hy hm=>by have h1:=hG6 y hy;have h2:=hltB y hm;have:=f3.1;omega
  refine dkept_c hB5 hv (kp:=[4*m]) (l:=insA (v.cls[i]).sels (posS (ns.map (tx t)) name) (symW n)) (m:=insA (v.cls[i]).mets (posS (ns.map (tx t)) name) (4*m)) (by rw [if_pos (by omega)]) (by simpa using isW_obj m1 m2) o5'.rd (Own.out o5' g5) ?_ o6.rd (Own.out o6 g6) ?_ fun H6 F6 G7 hB6 u6=>⟨_,rfl,?_⟩
  ·have:=o5'.len
   have e:=(ins_perm (v.cls[i]).sels (posS (ns.map (tx t)) name) (symW n)).length_eq
   simp only [intsV,List.length_map,e,List.length_cons] at this
   omega
  ·have:=o6.len
   have e:=(ins_perm (v.cls[i]).mets (posS (ns.map (tx t)) name) (4*m)).length_eq
   have e2:=hdc.len
   simp only [intsV,List.length_map,e,List.length_cons] at this
   omega
  ·exact h H6 F6 G7 hB6 ((RBk.fin (Up.of_nil (f1.trans (f3.trans f4))) fun _ h=>.inl h).trans u6)
theorem dRemove_c (hB:RBk H rb b F G s t seen cnt) (hv:KAll s t v) (hd:KD v t){o:Int}{name:ByteArray}
  (h1:∀ i (hi:i<v.cls.length),plK v o=some i→∀ H' F' G',RBk H' rb b F' G' (kRemI s t v.cls[i] name).2 t (clrS (kRemI s t v.cls[i] name).1 seen) cnt→Up (rb :: (G++F)) H (rb :: (G'++F')) H'→Q (.int .i64 (kRemI s t v.cls[i] name).1) H')
  (h2:plK v o=none→∀ H',Fr [] H H'→Q (.int .i64 130) H'):callS PP n_k37 #[.pointer (some ⟨rb,0,none⟩),.int .i64 o,.string name] Q H:=by
 apply k37_ok
 unfold k37 iV pV sV lV cS
 refine dlists_c hB.k hv hB.kp (fun i hi hp a l c Ga a' l' c' G' H1 ho ho' f1 hG hG'=>⟨_,_,_,_,_,_,_,rfl,?_⟩) fun hp H1 f1=>⟨_,_,_,_,_,_,_,rfl,?_⟩
 rotate_left
 ·exact h2 hp _ f1
 have h:=h1 i hi hp
 obtain ⟨hi',rfl⟩:=plK_some hp
 clear h1 h2
 obtain ⟨ns,hdc⟩:=hd _ (List.getElem_mem hi)
 have ht:=hdc.texts hv.names.wf
 have hmost:=hdc.most
 have hsl:(v.cls[i]).sels.length=ns.length:=by rw [hdc.sel];simp
 have hl:l=ns.length:=by have:=ho.len;rw [←hsl];simpa [intsV] using this.symm
 have hl':l'=ns.length:=by have:=ho'.len;rw [←hdc.len];simpa [intsV] using this.symm
 have hB1:=hB.nil f1
 simp only [show ((0:Int) != 0)=false from rfl,cond_false]
 unfold kRemI at h
 have hoR:=ho.rd
 have hoR0:=ho.rd
 have hoR':=ho'.rd
 have hoO:Outs H1 a l []:=.inr (Own.out ho (Disj.nil_right _))
 have hoO':Outs H1 a' l' []:=.inr (Own.out ho' (Disj.nil_right _))
 rw [hdc.sel] at hoR
 refine dat0_c hB1.k hB1.kp hoR hdc.num hdc.srt (by omega) ⟨_,_,rfl,?_⟩
 rw [ht] at h
 by_cases hm:name∈ns.map (tx t)
 ·rw [if_pos hm,cond_dec,if_neg (by omega)]
  rw [if_pos hm] at h
  have hps:posS (ns.map (tx t)) name<ns.length:=by
   have:=(List.getElem?_eq_some_iff.1 ((posS_mem hdc.srt).1 hm)).1
   simpa using this
  refine turned_c hoR0 hoO (by omega) fun a5 l5 c5 G5 H3 o5 f3 hG5=>⟨_,_,_,rfl,?_⟩
  refine turned_c (outs_rd hoO' f3 hoR') (hoO'.more f3.1) (by omega) fun a6 l6 c6 G6 H4 o6 f4 hG6=>⟨_,_,_,rfl,?_⟩
  rw [tl_del (by omega)] at o5
  rw [tl_del (by have:=hdc.len;omega)] at o6
  have hB5:=hB1.nil (f3.trans f4)
  have o5':=o5.fr f4 (by simp)
  have hltB:=hB1.k.lt
  have g5:Disj G5 F:=fun y hy hm=>by have h1:=hG5 y hy;have h2:=hltB y hm;omega
  have g6:Disj G6 F:=fun y hy hm=>by have h1:=hG6 y hy;have h2:=hltB y hm;have:=f3.1;omega
  refine dkept_c hB5 hv (kp:=[]) (l:=(v.cls[i]).sels.eraseIdx (posS (ns.map (tx t)) name)) (m:=(v.cls[i]).mets.eraseIdx (posS (ns.map (tx t)) name)) (by simp) (by simp) o5'.rd (Own.out o5' g5) ?_ o6.rd (Own.out o6 g6) ?_ fun H6 F6 G7 hB6 u6=>⟨_,rfl,?_⟩
  ·have:=o5'.len
   simp only [intsV,List.length_map] at this
   have h3:=(List.eraseIdx_sublist (v.cls[i]).sels (posS (ns.map (tx t)) name)).length_le
   omega
  ·have:=o6.len
   simp only [intsV,List.length_map] at this
   have h3:=(List.eraseIdx_sublist (v.cls[i]).mets (posS (ns.map (tx t)) name)).length_le
   have e2:=hdc.len
   omega
  ·exact h H6 F6 G7 hB6 ((RBk.fin (Up.of_nil (f1.trans (f3.trans f4))) fun _ h=>.inl h).trans u6)
 ·rw [if_neg hm,cond_dec,if_pos (by omega)]
  rw [if_neg hm] at h
  exact h _ F G (by rw [clrS_ne (n:=140) (by decide)];exact hB1) (RBk.fin (Up.of_nil f1) fun _ h=>.inl h)
end
theorem seenV_append (l m:List (Int × Int)):seenV (l++m)=seenV l++seenV m:=by simp [seenV]
theorem seenV_get:∀ {l:List (Int × Int)}{i:Nat} (hi:i<l.length),(seenV l)[i*2]?=some (.int .i64 l[i].1)∧(seenV l)[i*2+1]?=some (.int .i64 l[i].2)
 | p :: l,0,_=>by simp [seenV]
 | p :: l,i+1,hi=>by
  have:=seenV_get (l:=l) (i:=i) (by simpa using hi)
  have e:seenV (p :: l)=.int .i64 p.1 :: .int .i64 p.2 :: seenV l:=by simp [seenV]
  rw [e,show (i+1)*2=i*2+2 by omega,show i*2+2+1=i*2+1+2 by omega]
  simpa using this
theorem rd2 {H:Heap}{a:Option Addr}{l c:Nat}{seen:List (Int × Int)}{G:Foot} (ho:Own 2 H a l c (seenV seen) G) (hl:l=seen.length){i:Nat} (hi:i<l):∃ p,∃ hi':i<seen.length,a=some p∧cellH H (p.add (i*2))=some (.int .i64 seen[i].1)∧cellH H ((p.add (i*2)).add 1)=some (.int .i64 seen[i].2):=by
 have hr:=ho.rd
 have hi':i<seen.length:=by omega
 cases a with
 | none=>have:=hr.2.1 rfl;omega
 | some p =>
  obtain ⟨h1,h2⟩:=seenV_get hi'
  refine ⟨p,hi',rfl,?_,?_⟩
  ·rw [hr.2.2 p rfl _ (by omega)];exact h1
  ·have e:(p.add (i*2)).add 1=p.add (i*2+1):=by
    unfold Addr.add
    by_cases h0:i*2=0
    ·rw [if_pos h0,h0]
    ·rw [if_neg h0,if_neg (by decide),if_neg (by omega)]
     simp only [Nat.add_assoc]
   rw [e,hr.2.2 p rfl _ (by omega)];exact h2
theorem seenV_len (l:List (Int × Int)):(seenV l).length=l.length*2:=by
 induction l with
 | nil=>rfl
 | cons p l ih =>
  have e:seenV (p :: l)=.int .i64 p.1 :: .int .i64 p.2 :: seenV l:=by simp [seenV]
  rw [e,List.length_cons,List.length_cons,ih,List.length_cons];omega
section
variable {H H':Heap}{rb b:Nat}{F F' G:Foot}{s s':SP}{t t':TB}{v:KV}{seen:List (Int × Int)}{cnt:Int}{Q:QT}
theorem dask_c (hB:RBk H rb b F G s t seen cnt) (hn:seen.length≤1200000000000){o x:Int}
  (h1:(o,x)∈seen→∀ H',RBk H' rb b F G s t seen (IntKind.wrap .i64 (cnt+1))→Fr [rb] H H'→Q (.tuple #[]) H')
  (h2:(o,x)∉seen→∀ H' G',RBk H' rb b F G' s t (seen++[(o,x)]) cnt→Up (rb :: G) H (rb :: G') H'→Q (.tuple #[]) H'):callS PP n_k237 #[.pointer (some ⟨rb,0,none⟩),.int .i64 o,.int .i64 x] Q H:=by
 have hs1:sliceInfo PP 204=some (2,16,some (.agg #[.int .i64 0,.int .i64 0])):=by kernel_rfl
 apply k237_ok
 unfold k237 A0 iV wW lV
 have hB0:=hB
 obtain ⟨k,⟨a,l,c,hb,ho⟩,nb,ng,dis⟩:=hB
 have hl:l=seen.length:=by have:=ho.len;rw [seenV_len] at this;omega
 have c1:cellH H ((⟨rb,0,none⟩:Addr).add 1)=some (.slice a l c):=by rw [add_none];exact hb.cell 1
 have c2:cellH H ((⟨rb,0,none⟩:Addr).add 2)=some (.int .i64 cnt):=by rw [add_none];exact hb.cell 2
 refine ⟨fun w H'=>∃ j:Nat,w=[.int .i64 j]∧j≤l∧(∀ k (hk:k<seen.length),k<j→seen[k]≠(o,x))∧H'=H,fun w _=>match w with
  | [.int _ j]=>((l:Int)-j).toNat
  | _=>0,⟨0,rfl,Nat.zero_le _,fun k hk h=>by omega,rfl⟩,?_⟩
 rintro w H1 ⟨j,rfl,hj,hno,rfl⟩ _
 refine ⟨_,rfl,_,rfl,_,_,_,c1,?_⟩
 rw [cond_dec]
 refine ite_i (fun hlt=>?_) fun hlt=>?_
 ·obtain ⟨p,hjs,rfl,q1,q2⟩:=rd2 ho hl (i:=j) (by omega)
  have e:IntKind.wrap .i64 ((j:Int)+1)=((j+1:Nat):Int):=by rw [wrap64_id (by omega) (by omega)];omega
  have next:seen[j]≠(o,x)→(∃ j':Nat,[Value.int .i64 (IntKind.wrap .i64 ((j:Int)+1))]=[.int .i64 j']∧j'≤l∧(∀ k (hk:k<seen.length),k<j'→seen[k]≠(o,x))∧H1=H1)∧(match [Value.int .i64 (IntKind.wrap .i64 ((j:Int)+1))] with
    | [.int _ j]=>((l:Int)-j).toNat
    | _=>0)<(match [Value.int .i64 (j:Int)] with
    | [.int _ j]=>((l:Int)-j).toNat
    | _=>0):=fun hne=>by
   rw [e]
   refine ⟨⟨j+1,rfl,by omega,fun k hk hkj=>?_,rfl⟩,by simp;omega⟩
   rcases Nat.lt_or_ge k j with h | h
   ·exact hno k hk h
   ·have:k=j:=by omega
    subst this;exact hne
  refine ⟨_,rfl,_,_,_,c1,⟨by omega,hlt⟩,_,rfl,_,by rw [Int.toNat_natCast];exact q1,?_⟩
  rw [beqI,cond_dec]
  refine ite_i (fun e1=>?_) fun e1=>next fun he=>e1 (by rw [he])
  refine ⟨_,rfl,_,_,_,c1,⟨by omega,hlt⟩,_,rfl,_,by rw [Int.toNat_natCast];exact q2,?_⟩
  rw [beqI,cond_dec]
  refine ite_i (fun e2=>?_) fun e2=>next fun he=>e2 (by rw [he])
  refine ⟨_,rfl,_,c2,_,rfl,by rw [add_none];exact hb.wr (by simp),?_⟩
  have hf:Fr [rb] H1 (setH H1 ((⟨rb,0,none⟩:Addr).add 2) (.int .i64 (IntKind.wrap .i64 (cnt+1)))):=by rw [add_none];exact Fr.set (by simp)
  have hb':=hb.set 2 (.int .i64 (IntKind.wrap .i64 (cnt+1)))
  refine h1 ?_ _ ⟨k.fr hf (fun y hy hm=>by simp only [List.mem_singleton] at hm;subst hm;exact nb hy),⟨_,_,_,by rw [add_none];exact hb',ho.fr hf fun y hy hm=>by simp only [List.mem_singleton] at hm;subst hm;exact ng hy⟩,nb,ng,dis⟩ hf
  have:seen[j]=(o,x):=Prod.ext e1 e2
  rw [←this];exact List.getElem_mem hjs
 ·have hjl:j=seen.length:=by omega
  refine ⟨_,rfl,_,_,_,c1,?_⟩
  refine evS_append1_of hs1 rfl (by kernel_rfl) ho rfl (by simp [oneC]) (fun c hc=>by
   have:=nextslicecap_le2 hc
   generalize Builtin.nextslicecap (l+1) c=z at this ⊢
   omega) (by decide) fun a' c' G' H2 g1 g2 g3=>⟨_,_,_,rfl,_,rfl,?_⟩
  have hb2:=hb.fr g2.1 ng
  have k2:=k.fr g2.1 (dis.symm)
  have hf:Fr [rb] H2 (setH H2 ((⟨rb,0,none⟩:Addr).add 1) (.slice a' (l+1) c')):=by rw [add_none];exact Fr.set (by simp)
  have hb':=hb2.set 1 (.slice a' (l+1) c')
  have ng':rb∉G':=Up.out g2 ng hb.lt
  refine ⟨by rw [add_none];exact hb2.wr (by simp),h2 (fun hm=>?_) _ G' ⟨k2.fr hf (fun y hy hm=>by simp only [List.mem_singleton] at hm;subst hm;exact nb hy),⟨_,_,_,by rw [add_none];exact hb',?_⟩,nb,ng',fun y hy hm=>?_⟩ ?_⟩
  ·obtain ⟨i,hi,e⟩:=List.getElem_of_mem hm
   exact hno i hi (by omega) e
  ·rw [seenV_append]
   exact g1.fr hf fun y hy hm=>by simp only [List.mem_singleton] at hm;subst hm;exact ng' hy
  ·rcases g2.2 y hy with h | h
   ·exact dis y h hm
   ·have:=k.lt y hm;omega
  ·exact (Up.cons g2).trans ⟨hf.mono (by simp),fun _ h=>.inl h⟩
theorem dlookup_c (hB:RBk H rb b F G s t seen cnt) (hn:seen.length≤1200000000000) (hv:KAll s t v) (hd:KD v t){o x:Int}
  (h1:∀ i (hi:i<v.cls.length),plK v o=some i→(o,x)∈seen→∀ H',RBk H' rb b F G s t seen (IntKind.wrap .i64 (cnt+1))→Fr [rb] H H'→Q (two (lookK v (4*x+2) i)) H')
  (h2:∀ i (hi:i<v.cls.length),plK v o=some i→(o,x)∉seen→∀ H' G',RBk H' rb b F G' s t (seen++[(o,x)]) cnt→Up (rb :: G) H (rb :: G') H'→Q (two (lookK v (4*x+2) i)) H')
  (h3:plK v o=none→∀ H',Fr [] H H'→Q (.tuple #[.int .i64 0,.int .i64 0]) H'):callS PP n_k153 #[.pointer (some ⟨rb,0,none⟩),.int .i64 o,.int .i64 x] Q H:=by
 have ht4:=hv.names.wf.len
 have ht5:=hv.names.wf.m1
 apply k153_ok
 unfold k153 iV wW pV lV cS
 refine ⟨_,rfl,_,hB.kp,number_r hB.k hv fun H1 f1=>?_⟩
 cases hp:plK v o with
 | none=>exact ⟨_,_,rfl,h3 hp H1 f1⟩
 | some i =>
 obtain ⟨hi,ho⟩:=plK_some hp
 refine ⟨_,_,rfl,?_⟩
 simp only [show ((0:Int) != 0)=false from rfl,cond_false]
 have hB1:=hB.nil f1
 have walk:∀ {H2:Heap}{G2:Foot}{seen2:List (Int × Int)}{cnt2:Int},RBk H2 rb b F G2 s t seen2 cnt2→(∀ H',Fr [] H2 H'→Q (two (lookK v (4*x+2) i)) H')→∃(I10:List Value→Heap→Prop) (μ10:List Value→Heap→Nat),I10 [.int .i64 o] H2∧∀ w11 H3,I10 w11 H3→∀ _g:Nat→Value,∃ n12:Int,w11=[.int .i64 n12]∧cond (n12 != 0) (callS PP 146 #[.pointer (some ⟨rb,0,none⟩:Option Addr),.int .i64 n12] (fun v13 H4=>∃ a14:Option Addr,∃ l14:Nat,∃ c14:Nat,∃ a15:Option Addr,∃ l15:Nat,∃ c15:Nat,∃ n16:Int,v13=.tuple #[.slice a14 l14 c14,.slice a15 l15 c15,.int .i64 n16]∧∃(I17:List Value→Heap→Prop) (μ17:List Value→Heap→Nat),I17 [.int .i64 0] H4∧∀ w18 H5,I17 w18 H5→∀ _g:Nat→Value,∃ n19:Int,w18=[.int .i64 n19]∧cond (decide (n19<(l14:Int))) (cond (decide (x ≥ 0)) (∃ q20,(some ⟨rb,0,none⟩:Option Addr)=some q20∧∃ p21:Option Addr,cellH H5 q20=some (.pointer p21)∧∃ q22,p21=some q22∧∃ p23:Option Addr,cellH H5 (q22.add 1)=some (.pointer p23)∧callS PP 214 #[.pointer p23] (fun v24 H6=>∃ n25:Int,v24=.int .i64 n25∧cond (decide (x<n25)) (((0:Int)≤n19∧n19<(l14:Int))∧∃ q26,a14=some q26∧∃ n27:Int,cellH H6 (q26.add (Int.toNat n19*1))=some (.int .i64 n27)∧cond (n27 == (IntKind.wrap .i64 ((IntKind.wrap .i64 (4*x))+2))) (((0:Int)≤n19∧n19<(l15:Int))∧∃ q28,a15=some q28∧∃ n29:Int,cellH H6 (q28.add (Int.toNat n19*1))=some (.int .i64 n29)∧callS PP 119 #[.int .i64 n29] (fun v30 H7=>∃ n31:Int,v30=.int .i64 n31∧Q (.tuple #[.int .i64 n31,.int .i64 n12]) H7) H6) (I17 [.int .i64 (IntKind.wrap .i64 (n19+1))] H6∧μ17 [.int .i64 (IntKind.wrap .i64 (n19+1))] H6<μ17 w18 H5)) (I17 [.int .i64 (IntKind.wrap .i64 (n19+1))] H6∧μ17 [.int .i64 (IntKind.wrap .i64 (n19+1))] H6<μ17 w18 H5)) H5) (I17 [.int .i64 (IntKind.wrap .i64 (n19+1))] H5∧μ17 [.int .i64 (IntKind.wrap .i64 (n19+1))] H5<μ17 w18 H5)) (∃ q32,(some ⟨rb,0,none⟩:Option Addr)=some q32∧∃ p33:Option Addr,cellH H5 q32=some (.pointer p33)∧callS PP 191 #[.pointer p33,.int .i64 n12] (fun v34 H8=>∃ n35:Int,∃ n36:Int,v34=.tuple #[.int .i64 n35,.int .i64 n36]∧I10 [.int .i64 n35] H8∧μ10 [.int .i64 n35] H8<μ10 w11 H3) H5)) H3) (Q (.tuple #[.int .i64 0,.int .i64 0]) H3):=fun {H2 G2 seen2 cnt2} hB2 h=>by
  subst ho
  refine ⟨fun w H'=>Fr [] H2 H'∧((∃ k,∃ hk:k<v.cls.length,w=[.int .i64 (v.cls[k]).oop]∧lookK v (4*x+2) k=lookK v (4*x+2) i)∨(w=[.int .i64 0]∧lookK v (4*x+2) i=(0,0))),fun w _=>match w with
   | [.int _ c]=>(match plK v c with | some k=>k+1 | none=>0)
   | _=>0,⟨Fr.refl _ _,.inl ⟨i,hi,rfl,rfl⟩⟩,?_⟩
  rintro w H3 ⟨f2,hw⟩ _
  rcases hw with ⟨k,hk,rfl,e⟩ | ⟨rfl,e⟩
  rotate_left
  ·refine ⟨_,rfl,?_⟩
   simp only [show ((0:Int) != 0)=false from rfl,cond_false]
   have:=h H3 f2
   rw [e] at this
   exact this
  refine ⟨_,rfl,?_⟩
  have b1:=((hv.ks.view.cls hk).bnd hv.ks.wf.h).1
  rw [bneI,cond_dec,if_pos (by omega)]
  have hB3:=hB2.nil f2
  refine dlists_c hB3.k hv hB3.kp (fun i' hi' hp' a l c Ga a' l' c' G' H4 oa oa' f4 hG hG'=>⟨_,_,_,_,_,_,_,rfl,?_⟩) fun hp'=>?_
  rotate_left
  ·rw [hv.ks.idx hk] at hp';cases hp'
  rw [hv.ks.idx hk] at hp'
  cases hp'
  have hl:l=(v.cls[k]).sels.length:=by have:=oa.len;simpa [intsV] using this.symm
  have hl':l'=(v.cls[k]).mets.length:=by have:=oa'.len;simpa [intsV] using this.symm
  have leq:=lookK_eq hv.ks (4*x+2) hk
  obtain ⟨ns,hdc⟩:=hd _ (List.getElem_mem hk)
  have hsl:(v.cls[k]).sels.length=ns.length:=by rw [hdc.sel];simp
  have hmost:=hdc.most
  have hB4:=hB3.nil f4
  have f24:=f2.trans f4
  refine ⟨fun w H'=>∃ j:Nat,w=[.int .i64 j]∧j≤l∧selI (4*x+2) (v.cls[k]).sels 0=selI (4*x+2) ((v.cls[k]).sels.drop j) j∧H'=H4,fun w _=>match w with
   | [.int _ j]=>(l-j).toNat
   | _=>0,⟨0,rfl,Nat.zero_le _,rfl,rfl⟩,?_⟩
  rintro w H5 ⟨j,rfl,hj,hsel,rfl⟩ _
  refine ⟨_,rfl,?_⟩
  rw [cond_dec]
  refine ite_i (fun hlt=>?_) fun hlt=>?_
  ·have hjl:j<(v.cls[k]).sels.length:=by omega
   obtain ⟨p,rfl,hcell,_⟩:=oa.rd.int (i:=(j:Int)) (by omega) (by omega)
   have eg:((v.cls[k]).sels).getD j 0=(v.cls[k]).sels[j]:=by simp [hjl]
   rw [Int.toNat_natCast,eg] at hcell
   rw [selI_drop hjl] at hsel
   have e1:IntKind.wrap .i64 ((j:Int)+1)=((j+1:Nat):Int):=by rw [wrap64_id (by omega) (by omega)];omega
   have sj:(v.cls[k]).sels[j]=symW (ns[j]'(by omega)):=by simp only [hdc.sel,List.getElem_map]
   have sn:ns[j]'(by omega)<t.texts.length:=hdc.num _ (List.getElem_mem _)
   have next:(v.cls[k]).sels[j]≠4*x+2→(∃ j':Nat,[Value.int .i64 (IntKind.wrap .i64 ((j:Int)+1))]=[.int .i64 j']∧j'≤l∧selI (4*x+2) (v.cls[k]).sels 0=selI (4*x+2) ((v.cls[k]).sels.drop j') j'∧H5=H5)∧(match [Value.int .i64 (IntKind.wrap .i64 ((j:Int)+1))] with
     | [.int _ j]=>(l-j).toNat
     | _=>0)<(match [Value.int .i64 (j:Int)] with
     | [.int _ j]=>(l-j).toNat
     | _=>0):=fun hne=>by
    rw [if_neg hne] at hsel
    rw [e1]
    exact ⟨⟨j+1,rfl,by omega,hsel,rfl⟩,by simp;omega⟩
   rw [cond_dec]
   refine ite_i (fun hx0=>?_) fun hx0=>next (by rw [sj];unfold symW;omega)
   obtain ⟨tb,F2,hct,hT,_⟩:=hB4.k.tb
   refine ⟨_,rfl,_,hB4.kp,_,rfl,_,by rw [add_none];exact hct,tcount_c hT ⟨_,rfl,?_⟩⟩
   rw [cond_dec]
   refine ite_i (fun hx1=>?_) fun hx1=>next (by rw [sj];unfold symW;omega)
   refine ⟨⟨by omega,hlt⟩,_,rfl,_,by rw [Int.toNat_natCast,Nat.mul_one];exact hcell,?_⟩
   have e4:IntKind.wrap .i64 (4*x)=4*x:=wrap64_id (by omega) (by omega)
   have e5:IntKind.wrap .i64 (4*x+2)=4*x+2:=wrap64_id (by omega) (by omega)
   rw [e4,e5,beqI,cond_dec]
   refine ite_i (fun hw=>?_) fun hw=>next hw
   rw [if_pos hw] at hsel
   rw [hsel] at leq
   simp only at leq
   have hml:j<(v.cls[k]).mets.length:=by rw [hdc.len];omega
   obtain ⟨o',eo,o1,o2⟩:=hdc.obj _ (List.getElem_mem hml)
   have egm:((v.cls[k]).mets).getD j 0=4*o':=by rw [List.getD_eq_getElem?_getD,List.getElem?_eq_getElem hml,←eo];rfl
   rw [egm,oopW_obj o1 o2] at leq
   obtain ⟨p',rfl,hcell',_⟩:=oa'.rd.int (i:=(j:Int)) (by omega) (by omega)
   rw [Int.toNat_natCast,egm] at hcell'
   refine ⟨⟨by omega,by omega⟩,_,rfl,_,by rw [Int.toNat_natCast,Nat.mul_one];exact hcell',?_⟩
   refine refOop13_c ⟨by omega,by omega⟩ ⟨_,rfl,?_⟩
   rw [refOop_obj o1]
   have:=h _ f24
   rw [←e,leq] at this
   exact this
  ·have hjl:j=(v.cls[k]).sels.length:=by omega
   rw [hjl,List.drop_length] at hsel
   rw [hsel] at leq
   simp only [selI] at leq
   refine ⟨_,rfl,_,hB4.kp,super_r hB4.k hv fun H6 f6=>?_⟩
   rw [hv.ks.idx hk]
   refine ⟨_,_,rfl,?_⟩
   have f26:=f24.trans f6
   rcases hv.ks.upI hk with ⟨_,s0,u0⟩ | ⟨j',hj',hjk,s1,_,u1⟩
   ·rw [u0] at leq
    rw [s0]
    refine ⟨⟨f26,.inr ⟨rfl,by rw [←e];exact leq⟩⟩,?_⟩
    simp only [plK_zero hv.ks,hv.ks.idx hk]
    omega
   ·rw [u1] at leq
    rw [s1]
    refine ⟨⟨f26,.inl ⟨j',hj',rfl,by rw [←e];exact leq.symm⟩⟩,?_⟩
    simp only [hv.ks.idx hj',hv.ks.idx hk]
    omega
 refine dask_c hB1 hn (fun hm H2 hB2 f2=>⟨rfl,walk hB2 fun H3 f3=>?_⟩) fun hm H2 G2 hB2 u2=>⟨rfl,walk hB2 fun H3 f3=>?_⟩
 ·exact h1 i hi hp hm H3 (hB2.nil f3) (((Fr.of_nil f1).trans f2).trans (Fr.of_nil f3))
 ·exact h2 i hi hp hm H3 G2 (hB2.nil f3) ((Up.of_nil f1).trans (u2.trans (Up.of_nil f3)))
theorem dflush_c (hB:RBk H rb b F G s t seen cnt) (h:∀ H',RBk H' rb b F [] s t [] cnt→Fr [rb] H H'→Q (.tuple #[]) H'):callS PP n_k155 #[.pointer (some ⟨rb,0,none⟩)] Q H:=by
 apply k155_ok
 unfold k155 lV
 obtain ⟨w,hB',f⟩:=hB.clear
 exact ⟨_,rfl,w,h _ hB' f⟩
theorem dNew_c (hK:RK H b F s t) (h:∀ H',RBk H' H.size b F [] s t [] 0→Fr [] H H'→Q (.pointer (some ⟨H.size,0,none⟩)) H'):callS PP n_k130 #[.pointer (some ⟨b,0,none⟩)] Q H:=by
 apply k130_ok
 unfold k130 A0 iV pV lV
 have hlt:=hK.lt
 exact h _ ⟨hK.nil (Fr.push _ _ _),⟨none,0,0,Blk.new _ _ _,Own.nil 2 _⟩,fun hm=>by have:=hlt _ hm;omega,by simp,Disj.nil_left _⟩ (Fr.push _ _ _)
end
abbrev DEnt:=Int × ByteArray × Int
def entsI (t:TB) (c:CV):List DEnt:=(entsC t c).map fun e=>(c.oop,e.1,e.2)
def entsK (t:TB) (v:KV):List DEnt:=v.cls.flatMap (entsI t)
def other (o:Int) (name:ByteArray) (x:DEnt):Bool:=decide (x.1≠o∨x.2.1≠name)
theorem ents_split {t:TB}{v:KV}{i:Nat} (hi:i<v.cls.length):entsK t v=(v.cls.take i).flatMap (entsI t)++(entsI t v.cls[i]++(v.cls.drop (i+1)).flatMap (entsI t)):=by
 unfold entsK
 have e:v.cls=v.cls.take i++v.cls[i] :: v.cls.drop (i+1):=by rw [List.getElem_cons_drop,List.take_append_drop]
 conv=>lhs;rw [e]
 rw [List.flatMap_append,List.flatMap_cons]
theorem ents_set {t:TB}{v:KV}{i:Nat} (hi:i<v.cls.length) (c:CV):entsK t (v.setC i c)=(v.cls.take i).flatMap (entsI t)++(entsI t c++(v.cls.drop (i+1)).flatMap (entsI t)):=by
 have hi2:i<(v.setC i c).cls.length:=by simpa [KV.setC] using hi
 rw [ents_split hi2]
 have e1:(v.setC i c).cls.take i=v.cls.take i:=by simp [KV.setC,List.take_set_of_le]
 have e2:(v.setC i c).cls.drop (i+1)=v.cls.drop (i+1):=by simp [KV.setC,List.drop_set_of_lt]
 have e3:(v.setC i c).cls[i]=c:=by simp [KV.setC]
 rw [e1,e2,e3]
theorem other_all {t:TB}{l:List CV}{o:Int}{name:ByteArray} (h:∀ c∈l,c.oop≠o):(l.flatMap (entsI t)).filter (other o name)=l.flatMap (entsI t):=by
 refine List.filter_eq_self.2 fun x hx=>?_
 obtain ⟨c,hc,hx⟩:=List.mem_flatMap.1 hx
 unfold entsI at hx
 obtain ⟨e,_,rfl⟩:=List.mem_map.1 hx
 unfold other
 simp only [decide_eq_true_eq]
 exact .inl (h c hc)
theorem other_one {t:TB}{c:CV}{name:ByteArray}:(entsI t c).filter (other c.oop name)=((entsC t c).filter fun e=>decide (e.1≠name)).map fun e=>(c.oop,e.1,e.2):=by
 unfold entsI
 rw [List.filter_map]
 congr 1
 apply List.filter_congr
 intro e _
 simp [other,Function.comp]
theorem chg_ents {s:SP}{t:TB}{v v':KV} (hk:KS s v){i:Nat} (hi:i<v.cls.length){a b:Int}{l m:List Int}{name:ByteArray}{pre:List (ByteArray × Int)} (hv:v'=v.setC i ((v.cls[i]).lists a b l m))
  (he:(entsC t ((v.cls[i]).lists a b l m)).Perm (pre++(entsC t (v.cls[i])).filter fun e=>decide (e.1≠name))) :
  (entsK t v').Perm ((entsK t v).filter (other (v.cls[i]).oop name)++pre.map fun e=>((v.cls[i]).oop,e.1,e.2)):=by
 subst hv
 rw [ents_set hi,ents_split hi,List.filter_append,List.filter_append]
 have hA:∀ c∈v.cls.take i,c.oop≠(v.cls[i]).oop:=fun c hc e=>by
  obtain ⟨j,hj,ej⟩:=List.getElem_of_mem hc
  rw [List.getElem_take] at ej
  rw [List.length_take] at hj
  subst ej
  have:=hk.view.inj (by omega) hi e
  omega
 have hB:∀ c∈v.cls.drop (i+1),c.oop≠(v.cls[i]).oop:=fun c hc e=>by
  obtain ⟨j,hj,ej⟩:=List.getElem_of_mem hc
  rw [List.getElem_drop] at ej
  rw [List.length_drop] at hj
  subst ej
  have:=hk.view.inj (by omega) hi e
  omega
 rw [other_all hA,other_all hB,other_one]
 have h1:(entsI t ((v.cls[i]).lists a b l m)).Perm ((pre.map fun e=>((v.cls[i]).oop,e.1,e.2))++((entsC t v.cls[i]).filter fun e=>decide (e.1≠name)).map fun e=>((v.cls[i]).oop,e.1,e.2)):=by
  have:=he.map fun e:ByteArray × Int=>((v.cls[i]).oop,e.1,e.2)
  rw [List.map_append] at this
  exact this
 generalize (v.cls.take i).flatMap (entsI t)=A at *
 generalize (v.cls.drop (i+1)).flatMap (entsI t)=B at *
 generalize ((entsC t v.cls[i]).filter fun e=>decide (e.1≠name)).map (fun e=>((v.cls[i]).oop,e.1,e.2))=X at *
 generalize (pre.map fun e=>((v.cls[i]).oop,e.1,e.2))=Y at *
 refine ((h1.append_right B).append_left A).trans ?_
 have h2:(A++(Y++X++B)).Perm (Y++(A++(X++B))):=by
  rw [List.append_assoc]
  exact List.perm_append_comm_assoc A Y (X++B)
 exact h2.trans List.perm_append_comm
theorem ext_ents {v v':KV}{t t':TB} (hw:WFT t) (hd:KD v t) (hw':WFT t') (he:Ext v v' t t'):entsK t' v'=entsK t v:=by
 obtain ⟨l,hl,hn⟩:=he.cls
 unfold entsK
 rw [hl,List.flatMap_append]
 have h2:l.flatMap (entsI t')=[]:=by
  rw [List.flatMap_eq_nil_iff]
  intro c hc
  unfold entsI entsC selT
  rw [(hn c hc).1]
  rfl
 rw [h2,List.append_nil]
 have:∀ c∈v.cls,entsI t' c=entsI t c:=fun c hc=>by
  obtain ⟨ns,h⟩:=hd c hc
  unfold entsI entsC
  rw [h.texts hw,(h.grow he.txt).texts hw']
  rw [List.map_congr_left fun n hn=>tx_pre he.txt (h.num n hn)]
 rw [List.flatMap_def,List.flatMap_def,List.map_congr_left this]
theorem at_ent {t:TB}{c:CV}{ns:List Nat} (h:DC t c ns) (hw:WFT t){name:ByteArray}{m:Int} (he:(name,m)∈entsC t c):atI t c name=(m,0):=by
 obtain ⟨hn,hm⟩:=ents_nodup h hw
 have hmem:name∈selT t c:=by rw [←hm];exact List.mem_map.2 ⟨_,he,rfl⟩
 unfold atI
 rw [if_pos hmem]
 obtain ⟨hp,e1,e2,_,_⟩:=ents_at h hw hmem
 obtain ⟨j,hj,ej⟩:=List.getElem_of_mem he
 have:posS (selT t c) name=j:=by
  have h1:((entsC t c).map (·.1))[posS (selT t c) name]'(by simpa using hp)=((entsC t c).map (·.1))[j]'(by simpa using hj):=by simp [e1,ej]
  exact List.getElem_inj hn |>.1 h1
 subst this
 rw [ej] at e2
 rw [←e2]
theorem entsK_at {t:TB}{v:KV} (hd:KD v t) (hw:WFT t){o:Int}{name:ByteArray}{m:Int} (he:(o,name,m)∈entsK t v):∃ i,∃ hi:i<v.cls.length,(v.cls[i]).oop=o∧atI t v.cls[i] name=(m,0):=by
 obtain ⟨c,hc,hx⟩:=List.mem_flatMap.1 he
 unfold entsI at hx
 obtain ⟨e,he2,e3⟩:=List.mem_map.1 hx
 obtain ⟨i,hi,rfl⟩:=List.getElem_of_mem hc
 obtain ⟨ns,h⟩:=hd _ hc
 simp only [Prod.mk.injEq] at e3
 obtain ⟨rfl,rfl,rfl⟩:=e3
 exact ⟨i,hi,rfl,at_ent h hw he2⟩
def cntK (t:TB) (l:List CV):Nat:=(l.map fun c=>(selT t c).length).sum
theorem cntK_ents {t:TB} (l:List CV) (h:∀ c∈l,∃ ns,DC t c ns) (hw:WFT t):(l.flatMap (entsI t)).length=cntK t l:=by
 induction l with
 | nil=>rfl
 | cons c l ih =>
  rw [List.flatMap_cons,List.length_append,ih fun c hc=>h c (by simp [hc])]
  unfold cntK
  rw [List.map_cons,List.sum_cons]
  congr 1
  obtain ⟨ns,hd⟩:=h c (by simp)
  have:=congrArg List.length (ents_nodup hd hw).2
  unfold entsI
  rw [List.length_map]
  simpa using this
theorem cntK_snoc (t:TB) (l:List CV) (c:CV):cntK t (l++[c])=cntK t l+(selT t c).length:=by simp [cntK]
variable {Q:QT}{H:Heap}
abbrev n_k8:Nat:=8
def k8 (n1:Int) (n2:Int) (a3:Option Addr) (l3:Nat) (_c3:Nat) (Q:QT) (H:Heap):Prop :=
 callS PP 31 #[iV n1,iV n2] (fun v4 H1=>∃ p5 b6,v4=.tuple #[pV p5,.bool b6]∧cond (Option.isNone p5) (cond b6 (cS 32 #[] (fun v7 H2=>∃ b8,v7=.bool b8∧Q (.bool b8) H2) H1) (Q (.bool false) H1)) (∃(I9:IT) (μ9:MT),I9 [lV none 0 0,lV none 0 0,lV none 0 0,iV 0] H1∧∀ w10 H3,shH (H3.push (.cells #[iV 0,iV 0,iV 0,iV 0,sV (⟨#[]⟩:ByteArray),sV (⟨#[]⟩:ByteArray)] 68)) fun C3=>I9 w10 H3→∀ _g:Nat→Value,∃ a11 l11 c11 a12 l12 c12 a13 l13 c13 n14,w10=[lV a11 l11 c11,lV a12 l12 c12,lV a13 l13 c13,iV n14]∧cond (decide (n14<(l3:Int))) (cond (decide (n14<1099511627776)) (((0:Int)≤n14∧n14<(l3:Int))∧∃ q15,a3=some q15∧∃ n16,cellH H3 (q15.add (Int.toNat n14*6))=some (iV n16)∧∃ n17:Int,shH (setH (setH C3 (A0 H3.size) (iV n16)) ((A0 H3.size).add 1) (iV n17)) fun C2=>cellH H3 ((q15.add (Int.toNat n14*6)).add 1)=some (iV n17)∧∃ n18,cellH H3 ((q15.add (Int.toNat n14*6)).add 2)=some (iV n18)∧∃ n19:Int,shH (setH (setH C2 ((A0 H3.size).add 2) (iV n18)) ((A0 H3.size).add 3) (iV n19)) fun C4=>cellH H3 ((q15.add (Int.toNat n14*6)).add 3)=some (iV n19)∧∃ s20,cellH H3 ((q15.add (Int.toNat n14*6)).add 4)=some (sV s20)∧∃ s21:ByteArray,shH (setH (setH C4 ((A0 H3.size).add 4) (sV s20)) ((A0 H3.size).add 5) (sV s21)) fun C1=>cellH H3 ((q15.add (Int.toNat n14*6)).add 5)=some (sV s21)∧Wr C3 (A0 H3.size)∧Wr (setH C3 (A0 H3.size) (iV n16)) ((A0 H3.size).add 1)∧Wr C2 ((A0 H3.size).add 2)∧Wr (setH C2 ((A0 H3.size).add 2) (iV n18)) ((A0 H3.size).add 3)∧Wr C4 ((A0 H3.size).add 4)∧Wr (setH C4 ((A0 H3.size).add 4) (sV s20)) ((A0 H3.size).add 5)∧∃ J22:IT,(∃ n23,cellH C1 (A0 H3.size)=some (iV n23)∧cond (n23 == 1) (∃ q24,p5=some q24∧∃ p25,cellH C1 (q24.add 1)=some (pV p25)∧∃ n26,cellH C1 ((A0 H3.size).add 1)=some (iV n26)∧∃ s27,cellH C1 ((A0 H3.size).add 4)=some (sV s27)∧∃ n28,cellH C1 ((A0 H3.size).add 2)=some (iV n28)∧cS 34 #[pV p25,iV n26,sV s27,iV n28] (fun v29 H4=>∃ n30,v29=iV n30∧True∧cS 33 #[iV n30] (fun v31 H5=>∃ n32,v31=iV n32∧True∧∃ q33,p5=some q33∧∃ p34,cellH H5 (q33.add 3)=some (pV p34)∧∃ n35,cellH H5 ((A0 H3.size).add 1)=some (iV n35)∧∃ s36,cellH H5 ((A0 H3.size).add 4)=some (sV s36)∧∃ n37,cellH H5 ((A0 H3.size).add 2)=some (iV n37)∧cS 35 #[pV p34,iV n35,sV s36,iV n37] (fun v38 H6=>∃ n39,v38=iV n39∧True∧J22 [iV n32] H6) H5) H4) C1) (cond (n23 == 2) (∃ q40,p5=some q40∧∃ p41,cellH C1 (q40.add 1)=some (pV p41)∧∃ n42,cellH C1 ((A0 H3.size).add 1)=some (iV n42)∧∃ s43,cellH C1 ((A0 H3.size).add 4)=some (sV s43)∧cS 36 #[pV p41,iV n42,sV s43] (fun v44 H7=>∃ n45,v44=iV n45∧True∧cS 33 #[iV n45] (fun v46 H8=>∃ n47,v46=iV n47∧True∧∃ q48,p5=some q48∧∃ p49,cellH H8 (q48.add 3)=some (pV p49)∧∃ n50,cellH H8 ((A0 H3.size).add 1)=some (iV n50)∧∃ s51,cellH H8 ((A0 H3.size).add 4)=some (sV s51)∧cS 37 #[pV p49,iV n50,sV s51] (fun v52 H9=>∃ n53,v52=iV n53∧True∧J22 [iV n47] H9) H8) H7) C1) (∃ n54,cellH C1 (A0 H3.size)=some (iV n54)∧∃ n55,cellH C1 ((A0 H3.size).add 1)=some (iV n55)∧∃ n56,cellH C1 ((A0 H3.size).add 2)=some (iV n56)∧∃ n57,cellH C1 ((A0 H3.size).add 3)=some (iV n57)∧∃ s58,cellH C1 ((A0 H3.size).add 4)=some (sV s58)∧∃ s59,cellH C1 ((A0 H3.size).add 5)=some (sV s59)∧cS 38 #[pV p5,.agg #[iV n54,iV n55,iV n56,iV n57,sV s58,sV s59]] (fun v60 H10=>∃ b61,v60=.bool b61∧I9 [lV a11 l11 c11,lV a12 l12 c12,lV a13 l13 c13,iV (wW (n14+1))] H10∧μ9 [lV a11 l11 c11,lV a12 l12 c12,lV a13 l13 c13,iV (wW (n14+1))] H10<μ9 w10 H3) C1)))∧∀ w62 H11,J22 w62 H11→∀ _g:Nat→Value,∃ n63,w62=[iV n63]∧cond (n63 == 0) (∃(I64:IT) (μ64:MT),I64 [lV none 0 0,lV none 0 0,lV none 0 0,iV 0] H11∧∀ w65 H12,I64 w65 H12→∀ _g:Nat→Value,∃ a66 l66 c66 a67 l67 c67 a68 l68 c68 n69,w65=[lV a66 l66 c66,lV a67 l67 c67,lV a68 l68 c68,iV n69]∧cond (decide (n69<(l12:Int))) (((0:Int)≤n69∧n69<(l11:Int))∧∃ q70,a11=some q70∧∃ n71,cellH H12 (q70.add (Int.toNat n69*1))=some (iV n71)∧∃ n72,cellH H12 ((A0 H3.size).add 1)=some (iV n72)∧cond (n71 != n72) (((0:Int)≤n69∧n69<(l11:Int))∧∃ q73,a11=some q73∧∃ n74,cellH H12 (q73.add (Int.toNat n69*1))=some (iV n74)∧evS PP (Builtin.append_ #[66,66] 66 #[lV a66 l66 c66,lV (some (A0 H12.size)) 1 1]) (fun v75 H13=>∃ a76 l76 c76,v75=lV a76 l76 c76∧((0:Int)≤n69∧n69<(l12:Int))∧∃ q77,a12=some q77∧∃ s78,cellH H13 (q77.add (Int.toNat n69*1))=some (sV s78)∧evS PP (Builtin.append_ #[37,37] 37 #[lV a67 l67 c67,lV (some (A0 H13.size)) 1 1]) (fun v79 H14=>∃ a80 l80 c80,v79=lV a80 l80 c80∧((0:Int)≤n69∧n69<(l13:Int))∧∃ q81,a13=some q81∧∃ n82,cellH H14 (q81.add (Int.toNat n69*1))=some (iV n82)∧evS PP (Builtin.append_ #[66,66] 66 #[lV a68 l68 c68,lV (some (A0 H14.size)) 1 1]) (fun v83 H15=>∃ a84 l84 c84,v83=lV a84 l84 c84∧I64 [lV a76 l76 c76,lV a80 l80 c80,lV a84 l84 c84,iV (wW (n69+1))] H15∧μ64 [lV a76 l76 c76,lV a80 l80 c80,lV a84 l84 c84,iV (wW (n69+1))] H15<μ64 w65 H12) (H14.push (.cells #[iV n82] 3))) (H13.push (.cells #[sV s78] 9))) (H12.push (.cells #[iV n74] 3))) (((0:Int)≤n69∧n69<(l12:Int))∧∃ q85,a12=some q85∧∃ s86,cellH H12 (q85.add (Int.toNat n69*1))=some (sV s86)∧∃ s87,cellH H12 ((A0 H3.size).add 4)=some (sV s87)∧cond (!(strEq s86 s87)) (((0:Int)≤n69∧n69<(l11:Int))∧∃ q88,a11=some q88∧∃ n89,cellH H12 (q88.add (Int.toNat n69*1))=some (iV n89)∧evS PP (Builtin.append_ #[66,66] 66 #[lV a66 l66 c66,lV (some (A0 H12.size)) 1 1]) (fun v90 H16=>∃ a91 l91 c91,v90=lV a91 l91 c91∧((0:Int)≤n69∧n69<(l12:Int))∧∃ q92,a12=some q92∧∃ s93,cellH H16 (q92.add (Int.toNat n69*1))=some (sV s93)∧evS PP (Builtin.append_ #[37,37] 37 #[lV a67 l67 c67,lV (some (A0 H16.size)) 1 1]) (fun v94 H17=>∃ a95 l95 c95,v94=lV a95 l95 c95∧((0:Int)≤n69∧n69<(l13:Int))∧∃ q96,a13=some q96∧∃ n97,cellH H17 (q96.add (Int.toNat n69*1))=some (iV n97)∧evS PP (Builtin.append_ #[66,66] 66 #[lV a68 l68 c68,lV (some (A0 H17.size)) 1 1]) (fun v98 H18=>∃ a99 l99 c99,v98=lV a99 l99 c99∧I64 [lV a91 l91 c91,lV a95 l95 c95,lV a99 l99 c99,iV (wW (n69+1))] H18∧μ64 [lV a91 l91 c91,lV a95 l95 c95,lV a99 l99 c99,iV (wW (n69+1))] H18<μ64 w65 H12) (H17.push (.cells #[iV n97] 3))) (H16.push (.cells #[sV s93] 9))) (H12.push (.cells #[iV n89] 3))) (I64 [lV a66 l66 c66,lV a67 l67 c67,lV a68 l68 c68,iV (wW (n69+1))] H12∧μ64 [lV a66 l66 c66,lV a67 l67 c67,lV a68 l68 c68,iV (wW (n69+1))] H12<μ64 w65 H12))) (∃ n100,cellH H12 (A0 H3.size)=some (iV n100)∧cond (n100 == 1) (∃ n101,cellH H12 ((A0 H3.size).add 1)=some (iV n101)∧evS PP (Builtin.append_ #[66,66] 66 #[lV a66 l66 c66,lV (some (A0 H12.size)) 1 1]) (fun v102 H19=>∃ a103 l103 c103,v102=lV a103 l103 c103∧∃ s104,cellH H19 ((A0 H3.size).add 4)=some (sV s104)∧evS PP (Builtin.append_ #[37,37] 37 #[lV a67 l67 c67,lV (some (A0 H19.size)) 1 1]) (fun v105 H20=>∃ a106 l106 c106,v105=lV a106 l106 c106∧∃ n107,cellH H20 ((A0 H3.size).add 2)=some (iV n107)∧evS PP (Builtin.append_ #[66,66] 66 #[lV a68 l68 c68,lV (some (A0 H20.size)) 1 1]) (fun v108 H21=>∃ a109 l109 c109,v108=lV a109 l109 c109∧cS 39 #[pV p5,lV a103 l103 c103,lV a106 l106 c106,lV a109 l109 c109] (fun v110 H22=>∃ b111,v110=.bool b111∧cond (!b111) (Q (.bool false) H22) (I9 [lV a103 l103 c103,lV a106 l106 c106,lV a109 l109 c109,iV (wW (n14+1))] H22∧μ9 [lV a103 l103 c103,lV a106 l106 c106,lV a109 l109 c109,iV (wW (n14+1))] H22<μ9 w10 H3)) H21) (H20.push (.cells #[iV n107] 3))) (H19.push (.cells #[sV s104] 9))) (H12.push (.cells #[iV n101] 3))) (cS 39 #[pV p5,lV a66 l66 c66,lV a67 l67 c67,lV a68 l68 c68] (fun v112 H23=>∃ b113,v112=.bool b113∧cond (!b113) (Q (.bool false) H23) (I9 [lV a66 l66 c66,lV a67 l67 c67,lV a68 l68 c68,iV (wW (n14+1))] H23∧μ9 [lV a66 l66 c66,lV a67 l67 c67,lV a68 l68 c68,iV (wW (n14+1))] H23<μ9 w10 H3)) H12))) (cS 39 #[pV p5,lV a11 l11 c11,lV a12 l12 c12,lV a13 l13 c13] (fun v114 H24=>∃ b115,v114=.bool b115∧cond (!b115) (Q (.bool false) H24) (I9 [lV a11 l11 c11,lV a12 l12 c12,lV a13 l13 c13,iV (wW (n14+1))] H24∧μ9 [lV a11 l11 c11,lV a12 l12 c12,lV a13 l13 c13,iV (wW (n14+1))] H24<μ9 w10 H3)) H11)) (cS 32 #[] (fun v116 H25=>∃ b117,v116=.bool b117∧Q (.bool b117) H25) H3)) (cS 32 #[] (fun v118 H26=>∃ b119,v118=.bool b119∧Q (.bool b119) H26) H3))) H
theorem k8_ok {n1:Int}{n2:Int}{a3:Option Addr}{l3:Nat}{c3:Nat} (h:k8 n1 n2 a3 l3 c3 Q H):callS PP 8 #[.int .i64 n1,.int .i64 n2,.slice a3 l3 c3] Q H :=
 callS_of good Tryz.func8 rfl (Ls:=fun | 8=>some [(9,66),(10,37),(11,66),(12,3)] | 1020=>some [(14,3)] | 25=>some [(15,66),(16,37),(17,66),(18,3)] | _=>none) (by kernel_rfl) h
abbrev n_k31:Nat:=31
def k31 (n1:Int) (n2:Int) (Q:QT) (H:Heap):Prop :=
 callS PP 10 #[iV n1,iV n2] (fun v3 H1=>∃ p4 n5,v3=.tuple #[pV p4,iV n5]∧cS 11 #[iV n1,iV n2] (fun v6 H2=>∃ p7 n8,v6=.tuple #[pV p7,iV n8]∧cS 33 #[iV n5] (fun v9 H3=>∃ n10,v9=iV n10∧cond (n10 != n8) (Q (.tuple #[pV none,.bool false]) H3) (cond (!((Option.isNone p4) == (Option.isNone p7))) (Q (.tuple #[pV none,.bool false]) H3) (cond (Option.isNone p4) (Q (.tuple #[pV none,.bool true]) H3) (cS 129 #[pV p4] (fun v11 H4=>∃ p12 n13,v11=.tuple #[pV p12,iV n13]∧cond (Option.isNone p12) (Q (.tuple #[pV none,.bool false]) H4) (cS 33 #[iV n13] (fun v14 H5=>∃ n15,v14=iV n15∧cond (n15 != 0) (Q (.tuple #[pV none,.bool false]) H5) (cS 18 #[pV p4,sV (⟨#[71]⟩:ByteArray)] (fun v16 H6=>∃ n17,v16=iV n17∧cS 33 #[iV n17] (fun v18 H7=>∃ n19,v18=iV n19∧cS 27 #[pV p7,sV (⟨#[71]⟩:ByteArray)] (fun v20 H8=>∃ n21,v20=iV n21∧cond (n19 != n21) (Q (.tuple #[pV none,.bool false]) H8) (cS 130 #[pV p7] (fun v22 H9=>∃ p23,v22=pV p23∧Q (.tuple #[pV (some (A0 H9.size)),.bool true]) (H9.push (.cells #[pV p4,pV p12,pV p7,pV p23] 72))) H8)) H7) H6) H5)) H4)) H3)))) H2) H1) H
theorem k31_ok {n1:Int}{n2:Int} (h:k31 n1 n2 Q H):callS PP 31 #[.int .i64 n1,.int .i64 n2] Q H :=
 okF Tryz.func31 rfl h
abbrev n_k32:Nat:=32
def k32  (Q:QT) (H:Heap):Prop :=
 callS PP 31 #[iV 400,iV 60] (fun v1 H1=>∃ p2 b3,v1=.tuple #[pV p2,.bool b3]∧cond (Option.isNone p2) (Q (.bool false) H1) (cond (!b3) (Q (.bool false) H1) (∃ q4,p2=some q4∧∃ p5,cellH H1 q4=some (pV p5)∧cS 26 #[pV p5] (fun v6 H2=>∃ p7,v6=pV p7∧cS 131 #[pV p7,sV (⟨#[102,111,111]⟩:ByteArray)] (fun v8 H3=>∃ n9 n10,v8=.tuple #[iV n9,iV n10]∧∃ q11,p2=some q11∧∃ p12,cellH H3 q11=some (pV p12)∧cS 17 #[pV p12,sV (⟨#[80]⟩:ByteArray),sV (⟨#[79,98,106,101,99,116]⟩:ByteArray),lV none 0 0] (fun v13 H4=>∃ n14 n15,v13=.tuple #[iV n14,iV n15]∧cS 33 #[iV n10] (fun v16 H5=>∃ n17,v16=iV n17∧cond (n17 != 0) (Q (.bool false) H5) (cS 33 #[iV n15] (fun v18 H6=>∃ n19,v18=iV n19∧cond (n19 != 0) (Q (.bool false) H6) (∃ q20,p2=some q20∧∃ p21,cellH H6 (q20.add 1)=some (pV p21)∧cS 34 #[pV p21,iV 4,sV (⟨#[102,111,111]⟩:ByteArray),iV 18] (fun v22 H7=>∃ n23,v22=iV n23∧cS 33 #[iV n23] (fun v24 H8=>∃ n25,v24=iV n25∧cond (n25 != 0) (Q (.bool false) H8) (∃ q26,p2=some q26∧∃ p27,cellH H8 (q26.add 1)=some (pV p27)∧cS 132 #[pV p27,iV n14,iV n9] (fun v28 H9=>∃ n29 n30,v28=.tuple #[iV n29,iV n30]∧cS 132 #[pV none,iV 4,iV 0] (fun v31 H10=>∃ n32 n33,v31=.tuple #[iV n32,iV n33]∧cS 133 #[pV none,iV 4,sV (⟨#[102,111,111]⟩:ByteArray)] (fun v34 H11=>∃ n35 n36,v34=.tuple #[iV n35,iV n36]∧cS 129 #[pV none] (fun v37 H12=>∃ p38 n39,v37=.tuple #[pV p38,iV n39]∧cond (n29 == 18) (cond (n30 == 4) (cond (n32 == 0) (cond (n33 == 0) (cS 33 #[iV n36] (fun v40 H13=>∃ n41,v40=iV n41∧cond (n41 == 2) (cS 33 #[iV n39] (fun v42 H14=>∃ n43,v42=iV n43∧cond (n43 == 2) (cond (Option.isNone p38) (cS 34 #[pV none,iV 4,sV (⟨#[102,111,111]⟩:ByteArray),iV 1] (fun v44 H15=>∃ n45,v44=iV n45∧cS 33 #[iV n45] (fun v46 H16=>∃ n47,v46=iV n47∧cond (n47 == 2) (cS 36 #[pV none,iV 4,sV (⟨#[102,111,111]⟩:ByteArray)] (fun v48 H17=>∃ n49,v48=iV n49∧cS 33 #[iV n49] (fun v50 H18=>∃ n51,v50=iV n51∧cond (n51 == 2) (cS 41 #[pV none,iV 4] (fun v52 H19=>∃ a53 l53 c53,v52=lV a53 l53 c53∧cond ((l53:Int) == 0) (cS 134 #[pV none] (fun v54 H20=>∃ n55,v54=iV n55∧Q (.bool (n55 == 0)) H20) H19) (Q (.bool false) H19)) H18) (Q (.bool false) H18)) H17) H16) (Q (.bool false) H16)) H15) H14) (Q (.bool false) H14)) (Q (.bool false) H14)) H13) (Q (.bool false) H13)) H12) (Q (.bool false) H12)) (Q (.bool false) H12)) (Q (.bool false) H12)) (Q (.bool false) H12)) H11) H10) H9) H8)) H7) H6)) H5)) H4) H3) H2) H1))) H
theorem k32_ok  (h:k32  Q H):callS PP 32 #[] Q H :=
 okF Tryz.func32 rfl h
abbrev n_k33:Nat:=33
def k33 (n1:Int) (Q:QT) (H:Heap):Prop :=
 Q (iV n1) H
theorem k33_ok {n1:Int} (h:k33 n1 Q H):callS PP 33 #[.int .i64 n1] Q H :=
 okF Tryz.func33 rfl h
abbrev n_k38:Nat:=38
def k38 (p1:Option Addr) (n2:Int) (n3:Int) (n4:Int) (n5:Int) (s6:ByteArray) (s7:ByteArray) (Q:QT) (H:Heap):Prop :=
 shH (H.push (.cells #[iV n2,iV n3,iV n4,iV n5,sV s6,sV s7] 68)) fun C1=>∃ n8,cellH C1 (A0 H.size)=some (iV n8)∧cond (n8 == 1) (∃ q9,p1=some q9∧∃ p10,cellH C1 (q9.add 1)=some (pV p10)∧∃ n11,cellH C1 ((A0 H.size).add 1)=some (iV n11)∧∃ s12,cellH C1 ((A0 H.size).add 4)=some (sV s12)∧∃ n13,cellH C1 ((A0 H.size).add 2)=some (iV n13)∧∃ q14,p1=some q14∧∃ p15,cellH C1 (q14.add 3)=some (pV p15)∧∃ n16,cellH C1 ((A0 H.size).add 1)=some (iV n16)∧∃ s17,cellH C1 ((A0 H.size).add 4)=some (sV s17)∧∃ n18,cellH C1 ((A0 H.size).add 2)=some (iV n18)∧cS 34 #[pV p10,iV n11,sV s12,iV n13] (fun v19 H1=>∃ n20,v19=iV n20∧((cellH H1 ((A0 H.size).add 2)=some (iV n18)∧True)∧((cellH H1 ((A0 H.size).add 4)=some (sV s17)∧True)∧((cellH H1 ((A0 H.size).add 1)=some (iV n16)∧True)∧((cellH H1 (q14.add 3)=some (pV p15)∧True)∧True))))∧cS 33 #[iV n20] (fun v21 H2=>∃ n22,v21=iV n22∧((cellH H2 ((A0 H.size).add 2)=some (iV n18)∧True)∧((cellH H2 ((A0 H.size).add 4)=some (sV s17)∧True)∧((cellH H2 ((A0 H.size).add 1)=some (iV n16)∧True)∧((cellH H2 (q14.add 3)=some (pV p15)∧True)∧True))))∧cS 35 #[pV p15,iV n16,sV s17,iV n18] (fun v23 H3=>∃ n24,v23=iV n24∧True∧Q (.bool (n22 == n24)) H3) H2) H1) C1) (cond (n8 == 2) (∃ q25,p1=some q25∧∃ p26,cellH C1 (q25.add 1)=some (pV p26)∧∃ n27,cellH C1 ((A0 H.size).add 1)=some (iV n27)∧∃ s28,cellH C1 ((A0 H.size).add 4)=some (sV s28)∧∃ q29,p1=some q29∧∃ p30,cellH C1 (q29.add 3)=some (pV p30)∧∃ n31,cellH C1 ((A0 H.size).add 1)=some (iV n31)∧∃ s32,cellH C1 ((A0 H.size).add 4)=some (sV s32)∧cS 36 #[pV p26,iV n27,sV s28] (fun v33 H4=>∃ n34,v33=iV n34∧((cellH H4 ((A0 H.size).add 4)=some (sV s32)∧True)∧((cellH H4 ((A0 H.size).add 1)=some (iV n31)∧True)∧((cellH H4 (q29.add 3)=some (pV p30)∧True)∧True)))∧cS 33 #[iV n34] (fun v35 H5=>∃ n36,v35=iV n36∧((cellH H5 ((A0 H.size).add 4)=some (sV s32)∧True)∧((cellH H5 ((A0 H.size).add 1)=some (iV n31)∧True)∧((cellH H5 (q29.add 3)=some (pV p30)∧True)∧True)))∧cS 37 #[pV p30,iV n31,sV s32] (fun v37 H6=>∃ n38,v37=iV n38∧True∧Q (.bool (n36 == n38)) H6) H5) H4) C1) (cond (n8 == 3) (∃ q39,p1=some q39∧∃ p40,cellH C1 (q39.add 1)=some (pV p40)∧∃ n41,cellH C1 ((A0 H.size).add 1)=some (iV n41)∧∃ n42,cellH C1 ((A0 H.size).add 3)=some (iV n42)∧cS 132 #[pV p40,iV n41,iV n42] (fun v43 H7=>∃ n44 n45,v43=.tuple #[iV n44,iV n45]∧True∧∃ q46,p1=some q46∧∃ p47,cellH H7 (q46.add 3)=some (pV p47)∧∃ n48,cellH H7 ((A0 H.size).add 1)=some (iV n48)∧∃ n49,cellH H7 ((A0 H.size).add 3)=some (iV n49)∧cS 153 #[pV p47,iV n48,iV n49] (fun v50 H8=>∃ n51 n52,v50=.tuple #[iV n51,iV n52]∧True∧cond (n44 == n51) (Q (.bool (n45 == n52)) H8) (Q (.bool false) H8)) H7) C1) (cond (n8 == 4) (∃ q53,p1=some q53∧∃ p54,cellH C1 (q53.add 1)=some (pV p54)∧∃ n55,cellH C1 ((A0 H.size).add 1)=some (iV n55)∧∃ s56,cellH C1 ((A0 H.size).add 4)=some (sV s56)∧cS 133 #[pV p54,iV n55,sV s56] (fun v57 H9=>∃ n58 n59,v57=.tuple #[iV n58,iV n59]∧True∧∃ q60,p1=some q60∧∃ p61,cellH H9 (q60.add 3)=some (pV p61)∧∃ n62,cellH H9 ((A0 H.size).add 1)=some (iV n62)∧∃ s63,cellH H9 ((A0 H.size).add 4)=some (sV s63)∧cS 154 #[pV p61,iV n62,sV s63] (fun v64 H10=>∃ n65 n66,v64=.tuple #[iV n65,iV n66]∧True∧cond (n58 == n65) (cS 33 #[iV n59] (fun v67 H11=>∃ n68,v67=iV n68∧Q (.bool (n68 == n66)) H11) H10) (Q (.bool false) H10)) H9) C1) (cond (n8 == 5) (∃ q69,p1=some q69∧∃ p70,cellH C1 (q69.add 1)=some (pV p70)∧∃ n71,cellH C1 ((A0 H.size).add 1)=some (iV n71)∧∃ q72,p1=some q72∧∃ p73,cellH C1 (q72.add 3)=some (pV p73)∧∃ n74,cellH C1 ((A0 H.size).add 1)=some (iV n74)∧cS 41 #[pV p70,iV n71] (fun v75 H12=>∃ a76 l76 c76,v75=lV a76 l76 c76∧((cellH H12 ((A0 H.size).add 1)=some (iV n74)∧True)∧((cellH H12 (q72.add 3)=some (pV p73)∧True)∧True))∧cS 42 #[pV p73,iV n74] (fun v77 H13=>∃ a78 l78 c78,v77=lV a78 l78 c78∧True∧cS 43 #[lV a76 l76 c76,lV a78 l78 c78] (fun v79 H14=>∃ b80,v79=.bool b80∧True∧Q (.bool b80) H14) H13) H12) C1) (cond (n8 == 6) (∃ q81,p1=some q81∧∃ p82,cellH C1 (q81.add 1)=some (pV p82)∧cS 142 #[pV p82] (fun v83 H15=>v83=.tuple #[]∧∃ q84,p1=some q84∧∃ p85,cellH H15 (q84.add 3)=some (pV p85)∧cS 155 #[pV p85] (fun v86 H16=>v86=.tuple #[]∧Q (.bool true) H16) H15) C1) (cond (n8 == 7) (∃ q87,p1=some q87∧∃ p88,cellH C1 (q87.add 1)=some (pV p88)∧∃ q89,p1=some q89∧∃ p90,cellH C1 (q89.add 3)=some (pV p90)∧∃ q91,p90=some q91∧∃ n92,cellH C1 (q91.add 2)=some (iV n92)∧cS 134 #[pV p88] (fun v93 H17=>∃ n94,v93=iV n94∧((cellH H17 (q91.add 2)=some (iV n92)∧True)∧((cellH H17 (q89.add 3)=some (pV p90)∧True)∧True))∧Q (.bool (n94 == n92)) H17) C1) (cond (n8 == 8) (∃ q95,p1=some q95∧∃ p96,cellH C1 q95=some (pV p96)∧∃ n97,cellH C1 ((A0 H.size).add 3)=some (iV n97)∧∃ q98,p1=some q98∧∃ p99,cellH C1 (q98.add 2)=some (pV p99)∧∃ q100,p99=some q100∧∃ p101,cellH C1 q100=some (pV p101)∧∃ q102,p101=some q102∧∃ p103,cellH C1 q102=some (pV p103)∧∃ n104,cellH C1 ((A0 H.size).add 3)=some (iV n104)∧cS 19 #[pV p96] (fun v105 H18=>∃ p106,v105=pV p106∧((cellH H18 ((A0 H.size).add 3)=some (iV n104)∧True)∧((cellH H18 q102=some (pV p103)∧True)∧((cellH H18 q100=some (pV p101)∧True)∧((cellH H18 (q98.add 2)=some (pV p99)∧True)∧((cellH H18 ((A0 H.size).add 3)=some (iV n97)∧True)∧True)))))∧cS 20 #[pV p106] (fun v107 H19=>∃ p108,v107=pV p108∧((cellH H19 ((A0 H.size).add 3)=some (iV n104)∧True)∧((cellH H19 q102=some (pV p103)∧True)∧((cellH H19 q100=some (pV p101)∧True)∧((cellH H19 (q98.add 2)=some (pV p99)∧True)∧((cellH H19 ((A0 H.size).add 3)=some (iV n97)∧True)∧True)))))∧cS 21 #[pV p108,iV n97] (fun v109 H20=>∃ n110,v109=iV n110∧((cellH H20 ((A0 H.size).add 3)=some (iV n104)∧True)∧((cellH H20 q102=some (pV p103)∧True)∧((cellH H20 q100=some (pV p101)∧True)∧((cellH H20 (q98.add 2)=some (pV p99)∧True)∧True))))∧cS 33 #[iV n110] (fun v111 H21=>∃ n112,v111=iV n112∧((cellH H21 ((A0 H.size).add 3)=some (iV n104)∧True)∧((cellH H21 q102=some (pV p103)∧True)∧((cellH H21 q100=some (pV p101)∧True)∧((cellH H21 (q98.add 2)=some (pV p99)∧True)∧True))))∧cS 107 #[pV p103,iV n104] (fun v113 H22=>∃ n114,v113=iV n114∧True∧Q (.bool (n112 == n114)) H22) H21) H20) H19) H18) C1) (cond (n8 == 9) (∃ q115,p1=some q115∧∃ p116,cellH C1 q115=some (pV p116)∧cS 19 #[pV p116] (fun v117 H23=>∃ p118,v117=pV p118∧cS 108 #[pV p118] (fun v119 H24=>∃ n120 n121 n122,v119=.tuple #[iV n120,iV n121,iV n122]∧∃ q123,p1=some q123∧∃ p124,cellH H24 (q123.add 2)=some (pV p124)∧∃ q125,p124=some q125∧∃ p126,cellH H24 q125=some (pV p126)∧cS 109 #[pV p126] (fun v127 H25=>∃ n128 n129 n130,v127=.tuple #[iV n128,iV n129,iV n130]∧Q (.bool true) H25) H24) H23) C1) (cond (n8 == 10) (∃ q131,p1=some q131∧∃ p132,cellH C1 q131=some (pV p132)∧∃ s133,cellH C1 ((A0 H.size).add 4)=some (sV s133)∧∃ s134,cellH C1 ((A0 H.size).add 5)=some (sV s134)∧cS 17 #[pV p132,sV s133,sV s134,lV none 0 0] (fun v135 H26=>∃ n136 n137,v135=.tuple #[iV n136,iV n137]∧True∧∃ q138,p1=some q138∧∃ p139,cellH H26 (q138.add 2)=some (pV p139)∧∃ s140,cellH H26 ((A0 H.size).add 4)=some (sV s140)∧∃ s141,cellH H26 ((A0 H.size).add 5)=some (sV s141)∧cS 103 #[pV p139,sV s140,sV s141,lV none 0 0] (fun v142 H27=>∃ n143 n144,v142=.tuple #[iV n143,iV n144]∧True∧cond (n136 == n143) (cS 33 #[iV n137] (fun v145 H28=>∃ n146,v145=iV n146∧Q (.bool (n146 == n144)) H28) H27) (Q (.bool false) H27)) H26) C1) (cond (n8 == 11) (∃ q147,p1=some q147∧∃ p148,cellH C1 q147=some (pV p148)∧∃ s149,cellH C1 ((A0 H.size).add 4)=some (sV s149)∧cS 26 #[pV p148] (fun v150 H29=>∃ p151,v150=pV p151∧((cellH H29 ((A0 H.size).add 4)=some (sV s149)∧True)∧True)∧cS 131 #[pV p151,sV s149] (fun v152 H30=>∃ n153 n154,v152=.tuple #[iV n153,iV n154]∧True∧∃ q155,p1=some q155∧∃ p156,cellH H30 (q155.add 2)=some (pV p156)∧∃ q157,p156=some q157∧∃ p158,cellH H30 (q157.add 1)=some (pV p158)∧∃ s159,cellH H30 ((A0 H.size).add 4)=some (sV s159)∧cS 60 #[pV p158,sV s159] (fun v160 H31=>∃ n161 n162,v160=.tuple #[iV n161,iV n162]∧True∧cond (n153 == n161) (cS 33 #[iV n154] (fun v163 H32=>∃ n164,v163=iV n164∧Q (.bool (n164 == n162)) H32) H31) (Q (.bool false) H31)) H30) H29) C1) (cond (n8 == 12) (cS 156 #[pV p1] (fun v165 H33=>∃ b166,v165=.bool b166∧Q (.bool b166) H33) C1) (Q (.bool true) C1))))))))))))
theorem k38_ok {p1:Option Addr}{n2:Int}{n3:Int}{n4:Int}{n5:Int}{s6:ByteArray}{s7:ByteArray} (h:k38 p1 n2 n3 n4 n5 s6 s7 Q H):callS PP 38 #[.pointer p1,.agg #[.int .i64 n2,.int .i64 n3,.int .i64 n4,.int .i64 n5,.string s6,.string s7]] Q H :=
 okF Tryz.func38 rfl h
abbrev n_k39:Nat:=39
def k39 (p1:Option Addr) (a2:Option Addr) (l2:Nat) (_c2:Nat) (a3:Option Addr) (l3:Nat) (_c3:Nat) (a4:Option Addr) (l4:Nat) (_c4:Nat) (Q:QT) (H:Heap):Prop :=
 ∃(I5:IT) (μ5:MT),I5 [iV 0,iV 1] H∧∀ w6 H1,I5 w6 H1→∀ _g:Nat→Value,∃ n7 n8,w6=[iV n7,iV n8]∧∃ q9,p1=some q9∧∃ p10,cellH H1 q9=some (pV p10)∧cS 70 #[pV p10] (fun v11 H2=>∃ n12,v11=iV n12∧cond (decide (n8≤n12)) (∃ q13,p1=some q13∧∃ p14,cellH H2 q13=some (pV p14)∧cS 14 #[pV p14,iV n8] (fun v15 H3=>∃ n16 n17,v15=.tuple #[iV n16,iV n17]∧∃ q18,p1=some q18∧∃ p19,cellH H3 (q18.add 1)=some (pV p19)∧cS 41 #[pV p19,iV n16] (fun v20 H4=>∃ a21 l21 c21,v20=lV a21 l21 c21∧∃(I22:IT) (μ22:MT),I22 [iV 1] H4∧∀ w23 H5,I22 w23 H5→∀ _g:Nat→Value,∃ n24,w23=[iV n24]∧cond (decide (n24<(l21:Int))) (((0:Int)≤(wW (n24-1))∧(wW (n24-1))<(l21:Int))∧∃ q25,a21=some q25∧∃ s26,cellH H5 (q25.add (Int.toNat (wW (n24-1))*1))=some (sV s26)∧((0:Int)≤n24∧n24<(l21:Int))∧∃ q27,a21=some q27∧∃ s28,cellH H5 (q27.add (Int.toNat n24*1))=some (sV s28)∧cond (!(Op.bytesLess (ByteArray.toList s26) (ByteArray.toList s28))) (Q (.bool false) H5) (I22 [iV (wW (n24+1))] H5∧μ22 [iV (wW (n24+1))] H5<μ22 w23 H5)) (I5 [iV (wW (n7+(l21:Int))),iV (wW (n8+1))] H5∧μ5 [iV (wW (n7+(l21:Int))),iV (wW (n8+1))] H5<μ5 w6 H1)) H3) H2) (∃(I29:IT) (μ29:MT),I29 [iV 0] H2∧∀ w30 H6,I29 w30 H6→∀ _g:Nat→Value,∃ n31,w30=[iV n31]∧cond (decide (n31<(l3:Int))) (∃ q32,p1=some q32∧∃ p33,cellH H6 (q32.add 1)=some (pV p33)∧((0:Int)≤n31∧n31<(l2:Int))∧∃ q34,a2=some q34∧∃ n35,cellH H6 (q34.add (Int.toNat n31*1))=some (iV n35)∧((0:Int)≤n31∧n31<(l3:Int))∧∃ q36,a3=some q36∧∃ s37,cellH H6 (q36.add (Int.toNat n31*1))=some (sV s37)∧cS 133 #[pV p33,iV n35,sV s37] (fun v38 H7=>∃ n39 n40,v38=.tuple #[iV n39,iV n40]∧True∧cS 33 #[iV n40] (fun v41 H8=>∃ n42,v41=iV n42∧cond (n42 != 0) (Q (.bool false) H8) (((0:Int)≤n31∧n31<(l4:Int))∧∃ q43,a4=some q43∧∃ n44,cellH H8 (q43.add (Int.toNat n31*1))=some (iV n44)∧cond (n39 != n44) (Q (.bool false) H8) (I29 [iV (wW (n31+1))] H8∧μ29 [iV (wW (n31+1))] H8<μ29 w30 H6))) H7) H6) (Q (.bool (n7 == (l3:Int))) H6))) H1
theorem k39_ok {p1:Option Addr}{a2:Option Addr}{l2:Nat}{c2:Nat}{a3:Option Addr}{l3:Nat}{c3:Nat}{a4:Option Addr}{l4:Nat}{c4:Nat} (h:k39 p1 a2 l2 c2 a3 l3 c3 a4 l4 c4 Q H):callS PP 39 #[.pointer p1,.slice a2 l2 c2,.slice a3 l3 c3,.slice a4 l4 c4] Q H :=
 callS_of good Tryz.func39 rfl (Ls:=fun | 3=>some [(9,3),(10,3)] | 9=>some [(14,3)] | 14=>some [(15,3)] | _=>none) (by kernel_rfl) h
abbrev n_k43:Nat:=43
def k43 (a1:Option Addr) (l1:Nat) (_c1:Nat) (a2:Option Addr) (l2:Nat) (_c2:Nat) (Q:QT) (H:Heap):Prop :=
 cond ((l1:Int) != (l2:Int)) (Q (.bool false) H) (∃(I3:IT) (μ3:MT),I3 [iV 0] H∧∀ w4 H1,I3 w4 H1→∀ _g:Nat→Value,∃ n5,w4=[iV n5]∧cond (decide (n5<(l1:Int))) (((0:Int)≤n5∧n5<(l1:Int))∧∃ q6,a1=some q6∧∃ s7,cellH H1 (q6.add (Int.toNat n5*1))=some (sV s7)∧((0:Int)≤n5∧n5<(l2:Int))∧∃ q8,a2=some q8∧∃ s9,cellH H1 (q8.add (Int.toNat n5*1))=some (sV s9)∧cond (!(strEq s7 s9)) (Q (.bool false) H1) (I3 [iV (wW (n5+1))] H1∧μ3 [iV (wW (n5+1))] H1<μ3 w4 H1)) (Q (.bool true) H1))
theorem k43_ok {a1:Option Addr}{l1:Nat}{c1:Nat}{a2:Option Addr}{l2:Nat}{c2:Nat} (h:k43 a1 l1 c1 a2 l2 c2 Q H):callS PP 43 #[.slice a1 l1 c1,.slice a2 l2 c2] Q H :=
 callS_of good Tryz.func43 rfl (Ls:=fun | 4=>some [(5,3)] | _=>none) (by kernel_rfl) h
abbrev n_k156:Nat:=156
def k156 (p1:Option Addr) (Q:QT) (H:Heap):Prop :=
 ∃ q2,p1=some q2∧∃ p3,cellH H q2=some (pV p3)∧cS 19 #[pV p3] (fun v4 H1=>∃ p5,v4=pV p5∧cS 238 #[pV p5,iV 40,iV 1,iV 1] (fun v6 H2=>∃ n7 n8,v6=.tuple #[iV n7,iV n8]∧∃ q9,p1=some q9∧∃ p10,cellH H2 (q9.add 2)=some (pV p10)∧∃ q11,p10=some q11∧∃ p12,cellH H2 q11=some (pV p12)∧cS 216 #[pV p12,iV 40,iV 1,iV 1] (fun v13 H3=>∃ n14 n15,v13=.tuple #[iV n14,iV n15]∧cond (n7 != n14) (Q (.bool false) H3) (cS 33 #[iV n8] (fun v16 H4=>∃ n17,v16=iV n17∧cond (n17 != n15) (Q (.bool false) H4) (cond (n15 != 0) (Q (.bool true) H4) (∃ q18,p1=some q18∧∃ p19,cellH H4 q18=some (pV p19)∧∃ q20,p1=some q20∧∃ p21,cellH H4 (q20.add 2)=some (pV p21)∧cS 69 #[pV p19,iV 0,iV n7] (fun v22 H5=>∃ n23,v22=iV n23∧((cellH H5 (q20.add 2)=some (pV p21)∧True)∧True)∧cS 33 #[iV n23] (fun v24 H6=>∃ n25,v24=iV n25∧((cellH H6 (q20.add 2)=some (pV p21)∧True)∧True)∧cS 105 #[pV p21,iV 0,iV n14] (fun v26 H7=>∃ n27,v26=iV n27∧True∧Q (.bool (n25 == n27)) H7) H6) H5) H4))) H3)) H2) H1) H
theorem k156_ok {p1:Option Addr} (h:k156 p1 Q H):callS PP 156 #[.pointer p1] Q H :=
 okF Tryz.func156 rfl h
end Go.Proofs.YtmkdkplipbocjaaGreatDoor
namespace Go.Proofs.YtmkdkplipbocjaaGreatDoor
open Kw
def noC:CV:=⟨0,0,0,[],0,0,0,[],[],0⟩
noncomputable def kPut (s:SP) (t:TB) (v:KV) (o:Int) (name:ByteArray) (m:Int):Int × SP:=match plK v o with
 | some i=>kPutI s t (v.cls.getD i noC) name m
 | none=>(130,s)
noncomputable def kRem (s:SP) (t:TB) (v:KV) (o:Int) (name:ByteArray):Int × SP:=match plK v o with
 | some i=>kRemI s t (v.cls.getD i noC) name
 | none=>(130,s)
structure ChgO (v:KV) (t:TB) (o n:Int) (name:ByteArray) (pre:List (ByteArray × Int)) (v':KV):Prop where
 kd:KD v' t
 bad:n≠0→v'=v
 ent:n=0→(entsK t v').Perm ((entsK t v).filter (other o name)++pre.map fun e=>(o,e.1,e.2))
theorem getC {v:KV}{i:Nat} (hi:i<v.cls.length):v.cls.getD i noC=v.cls[i]:=by simp [hi]
theorem kPut_ok {s:SP}{t:TB}{v:KV} (h:KAll s t v) (hd:KD v t) (o:Int) (name:ByteArray) (m:Int):∃ v',KAll (kPut s t v o name m).2 t v'∧ChgO v t o (kPut s t v o name m).1 name [(name,m)] v':=by
 unfold kPut
 cases hp:plK v o with
 | none=>exact ⟨v,h,hd,fun _=>rfl,fun hn=>absurd (show (130:Int)=0 from hn) (by decide)⟩
 | some i =>
  obtain ⟨hi,rfl⟩:=plK_some hp
  simp only [getC hi]
  obtain ⟨v',hv,hc⟩:=kPutI_ok h hd hi name m
  refine ⟨v',hv,hc.kd,hc.bad,fun hn=>?_⟩
  obtain ⟨_,a,b,l,ms,e,hE⟩:=hc.good hn
  exact chg_ents (pre:=[(name,m)]) h.ks hi e hE
theorem kRem_ok {s:SP}{t:TB}{v:KV} (h:KAll s t v) (hd:KD v t) (o:Int) (name:ByteArray):∃ v',KAll (kRem s t v o name).2 t v'∧ChgO v t o (kRem s t v o name).1 name [] v':=by
 unfold kRem
 cases hp:plK v o with
 | none=>exact ⟨v,h,hd,fun _=>rfl,fun hn=>absurd (show (130:Int)=0 from hn) (by decide)⟩
 | some i =>
  obtain ⟨hi,rfl⟩:=plK_some hp
  simp only [getC hi]
  obtain ⟨v',hv,hc⟩:=kRemI_ok h hd hi name
  refine ⟨v',hv,hc.kd,hc.bad,fun hn=>?_⟩
  obtain ⟨_,a,b,l,ms,e,hE⟩:=hc.good hn
  exact chg_ents (pre:=[]) h.ks hi e hE
theorem CacheOK.ext {s s':SP}{v v':KV}{t t':TB}{es:List ((Int × Int) × Value)} (h:CacheOK v es) (hk:KS s v) (hk':KS s' v') (he:Ext v v' t t'):CacheOK v' es:=fun p hp=>by
 obtain ⟨i,e1,e2⟩:=h p hp
 obtain ⟨hi,_⟩:=plK_some e1
 refine ⟨i,plK_ext he e1,?_⟩
 rw [e2]
 unfold lookK
 rw [lookF_ext hk hk' he _ _ i hi]
theorem CacheOK.nil (v:KV):CacheOK v []:=fun p hp=>by cases hp
section
variable {H H1 H2:Heap}{bb b mb rb br x:Nat}{F Fp Fq G:Foot}{s:SP}{t:TB}{v:KV}{es:List ((Int × Int) × Value)}{seen:List (Int × Int)}{hits cnt:Int}{n:Nat}{Q:QT}
theorem bPutA_c (hB:PB H bb b F mb s t es hits) (hv:KAll s t v) (hd:KD v t){o m:Int}{name:ByteArray}
  (h:∀ H' F',PB H' bb b F' mb (kPut s t v o name m).2 t (clr (kPut s t v o name m).1 es) hits→Up (mb :: F) H (mb :: F') H'→Q (.int .i64 (kPut s t v o name m).1) H'):callS PP n_k34 #[.pointer (some ⟨bb,0,none⟩),.int .i64 o,.string name,.int .i64 m] Q H:=by
 unfold kPut at h
 refine bPut_c hB hv hd (fun i hi hp H' F' hP hu=>?_) fun hp H' f=>?_
 ·rw [hp] at h
  simp only [getC hi] at h
  exact h H' F' hP hu
 ·rw [hp] at h
  exact h H' F (by rw [clr_ne (n:=130) (by decide)];exact hB.nil f) (Up.cons (Up.of_nil f))
theorem bRemA_c (hB:PB H bb b F mb s t es hits) (hv:KAll s t v) (hd:KD v t){o:Int}{name:ByteArray}
  (h:∀ H' F',PB H' bb b F' mb (kRem s t v o name).2 t (clr (kRem s t v o name).1 es) hits→Up (mb :: F) H (mb :: F') H'→Q (.int .i64 (kRem s t v o name).1) H'):callS PP n_k36 #[.pointer (some ⟨bb,0,none⟩),.int .i64 o,.string name] Q H:=by
 unfold kRem at h
 refine bRemove_c hB hv hd (fun i hi hp H' F' hP hu=>?_) fun hp H' f=>?_
 ·rw [hp] at h
  simp only [getC hi] at h
  exact h H' F' hP hu
 ·rw [hp] at h
  exact h H' F (by rw [clr_ne (n:=130) (by decide)];exact hB.nil f) (Up.cons (Up.of_nil f))
theorem dPutA_c (hB:RBk H rb b F G s t seen cnt) (hv:KAll s t v) (hd:KD v t){o m:Int}{name:ByteArray}
  (h:∀ H' F' G',RBk H' rb b F' G' (kPut s t v o name m).2 t (clrS (kPut s t v o name m).1 seen) cnt→Up (rb :: (G++F)) H (rb :: (G'++F')) H'→Q (.int .i64 (kPut s t v o name m).1) H'):callS PP n_k35 #[.pointer (some ⟨rb,0,none⟩),.int .i64 o,.string name,.int .i64 m] Q H:=by
 unfold kPut at h
 refine dPut_c hB hv hd (fun i hi hp H' F' G' hP hu=>?_) fun hp H' f=>?_
 ·rw [hp] at h
  simp only [getC hi] at h
  exact h H' F' G' hP hu
 ·rw [hp] at h
  exact h H' F G (by rw [clrS_ne (n:=130) (by decide)];exact hB.nil f) (RBk.fin (Up.of_nil f) fun _ h=>.inl h)
theorem dRemA_c (hB:RBk H rb b F G s t seen cnt) (hv:KAll s t v) (hd:KD v t){o:Int}{name:ByteArray}
  (h:∀ H' F' G',RBk H' rb b F' G' (kRem s t v o name).2 t (clrS (kRem s t v o name).1 seen) cnt→Up (rb :: (G++F)) H (rb :: (G'++F')) H'→Q (.int .i64 (kRem s t v o name).1) H'):callS PP n_k37 #[.pointer (some ⟨rb,0,none⟩),.int .i64 o,.string name] Q H:=by
 unfold kRem at h
 refine dRemove_c hB hv hd (fun i hi hp H' F' G' hP hu=>?_) fun hp H' f=>?_
 ·rw [hp] at h
  simp only [getC hi] at h
  exact h H' F' G' hP hu
 ·rw [hp] at h
  exact h H' F G (by rw [clrS_ne (n:=130) (by decide)];exact hB.nil f) (RBk.fin (Up.of_nil f) fun _ h=>.inl h)
structure Bo (H:Heap) (x bb b rb br mb:Nat) (Fp Fq G:Foot) (s:SP) (t:TB) (v:KV) (es:List ((Int × Int) × Value)) (seen:List (Int × Int)) (hits:Int) (n:Nat):Prop where
 xb:Blk H x #[.pointer (some ⟨b,0,none⟩),.pointer (some ⟨bb,0,none⟩),.pointer (some ⟨br,0,none⟩),.pointer (some ⟨rb,0,none⟩)]
 p:PB H bb b Fp mb s t es hits
 r:RBk H rb br Fq G s t seen hits
 dis:Disj (bb :: mb :: Fp) (rb :: (G++Fq))
 gk:g_word_kinds∉rb :: (G++Fq)
 xp:x∉bb :: mb :: Fp
 xq:x∉rb :: (G++Fq)
 va:KAll s t v
 kd:KD v t
 ok:CacheOK v es
 same:∀ k,getP es k≠none↔k∈seen
 num:seen.length≤n
abbrev FA (bb mb:Nat) (Fp:Foot) (rb:Nat) (G Fq:Foot):Foot:=(bb :: mb :: Fp)++(rb :: (G++Fq))
theorem Bo.r1 (h:Bo H x bb b rb br mb Fp Fq G s t v es seen hits n){Fp':Foot} (u:Up (bb :: mb :: Fp) H (bb :: mb :: Fp') H1):RBk H1 rb br Fq G s t seen hits:=h.r.fr u.1 h.dis.symm
theorem Bo.both (h:Bo H x bb b rb br mb Fp Fq G s t v es seen hits n){Fp' Fq' G':Foot}{s':SP}{t':TB}{v':KV}{es':List ((Int × Int) × Value)}{seen':List (Int × Int)}{hits':Int}{n':Nat}
  (hP:PB H1 bb b Fp' mb s' t' es' hits') (u1:Up (bb :: mb :: Fp) H (bb :: mb :: Fp') H1) (hR:RBk H2 rb br Fq' G' s' t' seen' hits') (u2:Up (rb :: (G++Fq)) H1 (rb :: (G'++Fq')) H2)
  (hv:KAll s' t' v') (hd:KD v' t') (hc:CacheOK v' es') (hs:∀ k,getP es' k≠none↔k∈seen') (hn:seen'.length≤n') :
  Bo H2 x bb b rb br mb Fp' Fq' G' s' t' v' es' seen' hits' n'∧Up (FA bb mb Fp rb G Fq) H (FA bb mb Fp' rb G' Fq') H2:=by
 have l0:∀ y∈rb :: (G++Fq),y<H.size:=h.r.lt
 have l1:∀ y∈bb :: mb :: Fp',y<H1.size:=hP.lt
 have d1:Disj (bb :: mb :: Fp') (rb :: (G++Fq)):=fun y hy hm=>by
  rcases u1.2 y hy with h1 | h1
  ·exact h.dis y h1 hm
  ·have:=l0 y hm;omega
 have d2:Disj (bb :: mb :: Fp') (rb :: (G'++Fq')):=fun y hy hm=>by
  rcases u2.2 y hm with h1 | h1
  ·exact d1 y hy h1
  ·have:=l1 y hy;omega
 have hgl:g_word_kinds<H.size:=h.p.k.kinds.lt
 have hs1:=u1.1.1
 have q1:=h.xb.lt
 have xp':=Up.out u1 h.xp q1
 have xq':=Up.out u2 h.xq (Nat.lt_of_lt_of_le q1 hs1)
 refine ⟨⟨(h.xb.fr u1.1 h.xp).fr u2.1 h.xq,hP.fr u2.1 d1 h.gk,hR,d2,fun hm=>?_,xp',xq',hv,hd,hc,hs,hn⟩,(u1.1.mono fun y hy=>List.mem_append.2 (.inl hy)).trans (u2.1.mono fun y hy=>List.mem_append.2 (.inr hy)),fun y hy=>?_⟩
 ·rcases u2.2 _ hm with h1 | h1
  ·exact h.gk h1
  ·omega
 ·rcases List.mem_append.1 hy with hy | hy
  ·exact (u1.2 y hy).imp (fun h=>List.mem_append.2 (.inl h)) id
  ·exact (u2.2 y hy).imp (fun h=>List.mem_append.2 (.inr h)) fun h=>Nat.le_trans hs1 h
theorem Bo.fr (h:Bo H x bb b rb br mb Fp Fq G s t v es seen hits n){K:Foot} (f:Fr K H H1) (hd:Disj (FA bb mb Fp rb G Fq) K) (hg:g_word_kinds∉K) (hx:x∉K):Bo H1 x bb b rb br mb Fp Fq G s t v es seen hits n :=
 ⟨h.xb.fr f hx,h.p.fr f (hd.mono (fun y hy=>List.mem_append.2 (.inl hy)) fun _ h=>h) hg,h.r.fr f (hd.mono (fun y hy=>List.mem_append.2 (.inr hy)) fun _ h=>h),h.dis,h.gk,h.xp,h.xq,h.va,h.kd,h.ok,h.same,h.num⟩
theorem Bo.nil (h:Bo H x bb b rb br mb Fp Fq G s t v es seen hits n) (f:Fr [] H H1):Bo H1 x bb b rb br mb Fp Fq G s t v es seen hits n:=h.fr f (Disj.nil_right _) (by simp) (by simp)
theorem Bo.more (h:Bo H x bb b rb br mb Fp Fq G s t v es seen hits n){n':Nat} (hn:n≤n'):Bo H x bb b rb br mb Fp Fq G s t v es seen hits n' :=
 ⟨h.xb,h.p,h.r,h.dis,h.gk,h.xp,h.xq,h.va,h.kd,h.ok,h.same,Nat.le_trans h.num hn⟩
theorem upP {Fp':Foot} (u:Up Fp H Fp' H1):Up (bb :: mb :: Fp) H (bb :: mb :: Fp') H1:=Up.cons (Up.cons u)
theorem upQ {Fq':Foot} (u:Up Fq H Fq' H1):Up (rb :: (G++Fq)) H (rb :: (G++Fq')) H1:=RBk.fin u fun _ h=>.inl h
theorem Bo.kern (h:Bo H x bb b rb br mb Fp Fq G s t v es seen hits n){Fp' Fq':Foot}{s':SP}{t':TB}{v':KV} (hP:PK H1 b Fp' s' t') (u1:Up Fp H Fp' H1) (hR:RK H2 br Fq' s' t') (u2:Up Fq H1 Fq' H2) (hv:KAll s' t' v') (he:Ext v v' t t') :
  Bo H2 x bb b rb br mb Fp' Fq' G s' t' v' es seen hits n∧Up (FA bb mb Fp rb G Fq) H (FA bb mb Fp' rb G Fq') H2∧entsK t' v'=entsK t v:=by
 have r1:=h.r1 (upP (bb:=bb) (mb:=mb) u1)
 obtain ⟨a1,a2⟩:=h.both (h.p.up hP u1) (upP u1) (r1.up hR u2) (upQ u2) hv (h.kd.ext he) (h.ok.ext h.va.ks hv.ks he) h.same h.num
 exact ⟨a1,a2,ext_ents h.va.names.wf h.kd hv.names.wf he⟩
theorem Bo.rk (h:Bo H x bb b rb br mb Fp Fq G s t v es seen hits n){Fp':Foot} (u1:Up Fp H Fp' H1):RK H1 br Fq s t:=(h.r1 (upP (bb:=bb) (mb:=mb) u1)).k
end
def selK (v:KV) (t:TB) (o:Int):List ByteArray:=match plK v o with
 | some i=>selT t (v.cls.getD i noC)
 | none=>[]
noncomputable def atK (v:KV) (t:TB) (o:Int) (x:ByteArray):Int × Int:=match plK v o with
 | some i=>atI t (v.cls.getD i noC) x
 | none=>(0,130)
def lookA (v:KV) (o x:Int):Int × Int:=match plK v o with
 | some i=>lookK v (4*x+2) i
 | none=>(0,0)
theorem salloc_zero {s:SP}{c n f:Int}:(if (s.alloc c n f).1.2=0 then (s.alloc c n f).1.1 else 0)=(s.alloc c n f).1.1:=by
 have key:∀ r:RH,(r.alloc c n f).1.2≠0→(r.alloc c n f).1.1=0:=fun r h=>by
  unfold RH.alloc at h ⊢
  split
  ·rfl
  split
  ·rfl
  split
  ·rfl
  split
  ·rfl
  rename_i h1 h2 h3 h4
  rw [if_neg h1,if_neg h2,if_neg h3,if_neg h4] at h
  exact absurd rfl h
 by_cases h:(s.alloc c n f).1.2=0
 ·rw [if_pos h]
 ·rw [if_neg h]
  unfold SP.alloc at h ⊢
  split
  ·rename_i hc
   rw [if_pos hc] at h
   simp only [key _ h];rfl
  ·rename_i hc
   rw [if_neg hc] at h
   simp only [key _ h];rfl
theorem getP_snoc {es:List ((Int × Int) × Value)}{k k':Int × Int}{w:Value}:getP (es++[(k',w)]) k≠none↔getP es k≠none∨k=k':=by
 induction es with
 | nil =>
  unfold getP
  by_cases h:k=k'
  ·simp [h]
  ·simp [h,getP]
 | cons p l ih =>
  simp only [List.cons_append]
  unfold getP
  by_cases h:k=p.1
  ·simp [h]
  ·rw [if_neg h,if_neg h];exact ih
section
variable {H H1 H2:Heap}{bb b mb rb br x sb:Nat}{F Fp Fq G:Foot}{s:SP}{t:TB}{v:KV}{es:List ((Int × Int) × Value)}{seen:List (Int × Int)}{hits cnt:Int}{n:Nat}{Q:QT}
theorem num2_c {n:Int} (h:Q (.int .i64 n) H):callS PP n_k33 #[.int .i64 n] Q H:=by
 apply k33_ok
 unfold k33 iV
 exact h
theorem bselA_c (hK:PK H b F s t) (hv:KAll s t v) (hd:KD v t) (hc:KP H bb b){o:Int} (h:∀ a l c G H',Own 1 H' a l c (strsV (selK v t o)) G→Fr [] H H'→(∀ x∈G,H.size≤x)→Q (.slice a l c) H'):callS PP n_k41 #[.pointer (some ⟨bb,0,none⟩),.int .i64 o] Q H:=by
 unfold selK at h
 refine bselectors_c hK hv hd hc (fun i hi hp a l c G H' ho f hG=>?_) fun hp H' f=>?_
 ·rw [hp] at h
  simp only [getC hi] at h
  exact h _ _ _ _ H' ho f hG
 ·rw [hp] at h
  exact h _ _ _ _ H' (Own.nil 1 _) f (by simp)
theorem dselA_c (hK:RK H b F s t) (hv:KAll s t v) (hd:KD v t) (hc:KP H rb b){o:Int} (h:∀ a l c G H',Own 1 H' a l c (strsV (selK v t o)) G→Fr [] H H'→(∀ x∈G,H.size≤x)→Q (.slice a l c) H'):callS PP n_k42 #[.pointer (some ⟨rb,0,none⟩),.int .i64 o] Q H:=by
 unfold selK at h
 refine dselectors_c hK hv hd hc (fun i hi hp a l c G H' ho f hG=>?_) fun hp H' f=>?_
 ·rw [hp] at h
  simp only [getC hi] at h
  exact h _ _ _ _ H' ho f hG
 ·rw [hp] at h
  exact h _ _ _ _ H' (Own.nil 1 _) f (by simp)
theorem batA_c (hK:PK H b F s t) (hv:KAll s t v) (hd:KD v t) (hc:KP H bb b){o:Int}{y:ByteArray} (h:∀ H',Fr [] H H'→Q (two (atK v t o y)) H'):callS PP n_k133 #[.pointer (some ⟨bb,0,none⟩),.int .i64 o,.string y] Q H:=by
 unfold atK at h
 refine bat_c hK hv hd hc (fun i hi hp H' f=>?_) fun hp H' f=>?_
 ·rw [hp] at h
  simp only [getC hi] at h
  exact h H' f
 ·rw [hp] at h
  exact h H' f
theorem datA_c (hK:RK H b F s t) (hv:KAll s t v) (hd:KD v t) (hc:KP H rb b){o:Int}{y:ByteArray} (h:∀ H',Fr [] H H'→Q (two (atK v t o y)) H'):callS PP n_k154 #[.pointer (some ⟨rb,0,none⟩),.int .i64 o,.string y] Q H:=by
 unfold atK at h
 refine dat_c hK hv hd hc (fun i hi hp H' f=>?_) fun hp H' f=>?_
 ·rw [hp] at h
  simp only [getC hi] at h
  exact h H' f
 ·rw [hp] at h
  exact h H' f
theorem look_two (hB:Bo H x bb b rb br mb Fp Fq G s t v es seen hits n) (hn:n≤1200000000000){o y:Int}
  (h:∀ H1,Fr (bb :: mb :: Fp) H H1→(∀ Q2:Value→Heap→Prop,(∀ H2 G' es' seen' hits',Bo H2 x bb b rb br mb Fp Fq G' s t v es' seen' hits' (n+1)→Up (FA bb mb Fp rb G Fq) H (FA bb mb Fp rb G' Fq) H2→Q2 (two (lookA v o y)) H2)→callS PP n_k153 #[.pointer (some ⟨rb,0,none⟩),.int .i64 o,.int .i64 y] Q2 H1)→Q (two (lookA v o y)) H1) :
  callS PP n_k132 #[.pointer (some ⟨bb,0,none⟩),.int .i64 o,.int .i64 y] Q H:=by
 have hle:seen.length≤1200000000000:=Nat.le_trans hB.num hn
 unfold lookA at h
 refine blookup_c hB.p hB.va hB.kd hB.ok (fun i hi hp hg H1 hP f1=>?_) (fun i hi hp hg H1 hP f1=>?_) fun hp H1 f1=>?_
 ·rw [hp] at h
  have u1:Up (bb :: mb :: Fp) H (bb :: mb :: Fp) H1:=⟨f1,fun _ h=>.inl h⟩
  have hR:=hB.r1 u1
  refine h H1 f1 fun Q2 hq=>dlookup_c hR hle hB.va hB.kd (fun i' hi' hp' hm H2 hR2 f2=>?_) (fun i' hi' hp' hm H2 G2 hR2 u2=>?_) fun hp'=>?_
  ·rw [hp] at hp';cases hp'
   obtain ⟨b1,b2⟩:=hB.both hP u1 hR2 ⟨f2.mono (by simp),fun _ h=>.inl h⟩ hB.va hB.kd hB.ok hB.same (Nat.le_trans hB.num (Nat.le_succ n))
   exact hq H2 G es seen _ b1 b2
  ·exact absurd ((hB.same _).1 hg) hm
  ·rw [hp] at hp';cases hp'
 ·rw [hp] at h
  have u1:Up (bb :: mb :: Fp) H (bb :: mb :: Fp) H1:=⟨f1,fun _ h=>.inl h⟩
  have hR:=hB.r1 u1
  have hno:(o,y)∉seen:=fun hm=>(hB.same _).2 hm hg
  refine h H1 f1 fun Q2 hq=>dlookup_c hR hle hB.va hB.kd (fun i' hi' hp' hm H2 hR2 f2=>absurd hm hno) (fun i' hi' hp' hm H2 G2 hR2 u2=>?_) fun hp'=>?_
  ·rw [hp] at hp';cases hp'
   have u2':Up (rb :: (G++Fq)) H1 (rb :: (G2++Fq)) H2:=⟨u2.1.mono fun z hz=>by
    rcases List.mem_cons.1 hz with rfl | hz
    ·simp
    ·simp [hz],fun z hz=>by
    simp only [List.mem_cons,List.mem_append] at hz ⊢
    rcases hz with rfl | hz | hz
    ·exact .inl (.inl rfl)
    ·exact (u2.2 z (by simp [hz])).imp (fun h=>by
      rcases List.mem_cons.1 h with rfl | h
      ·exact .inl rfl
      ·exact .inr (.inl h)) id
    ·exact .inl (.inr (.inr hz))⟩
   obtain ⟨b1,b2⟩:=hB.both (n':=n+1) hP u1 hR2 u2' hB.va hB.kd (fun p hp'=>by
    rcases List.mem_append.1 hp' with hp' | hp'
    ·exact hB.ok p hp'
    ·simp only [List.mem_singleton] at hp'
     subst hp'
     exact ⟨i,hp,rfl⟩) (fun k=>by
    rw [getP_snoc,hB.same k]
    simp) (by have:=hB.num;simp;omega)
   exact hq H2 G2 _ _ _ b1 b2
  ·rw [hp] at hp';cases hp'
 ·rw [hp] at h
  have hB1:=hB.nil f1
  refine h H1 (Fr.of_nil f1) fun Q2 hq=>dlookup_c hB1.r hle hB1.va hB1.kd (fun i' hi' hp'=>?_) (fun i' hi' hp'=>?_) fun hp' H2 f2=>?_
  ·rw [hp] at hp';cases hp'
  ·rw [hp] at hp';cases hp'
  ·exact hq H2 G es seen hits ((hB1.nil f2).more (Nat.le_succ n)) (Up.of_nil (f1.trans f2))
end
section
variable {H H1 H2:Heap}{bb b mb rb br x sb:Nat}{F Fp Fq G:Foot}{s:SP}{t:TB}{v:KV}{es:List ((Int × Int) × Value)}{seen:List (Int × Int)}{hits cnt:Int}{n:Nat}{Q:QT}
theorem Bo.x0 (h:Bo H x bb b rb br mb Fp Fq G s t v es seen hits n):cellH H ⟨x,0,none⟩=some (.pointer (some ⟨b,0,none⟩)):=h.xb.cell 0
theorem Bo.x1 (h:Bo H x bb b rb br mb Fp Fq G s t v es seen hits n):cellH H ((⟨x,0,none⟩:Addr).add 1)=some (.pointer (some ⟨bb,0,none⟩)):=by rw [add_none];exact h.xb.cell 1
theorem Bo.x2 (h:Bo H x bb b rb br mb Fp Fq G s t v es seen hits n):cellH H ((⟨x,0,none⟩:Addr).add 2)=some (.pointer (some ⟨br,0,none⟩)):=by rw [add_none];exact h.xb.cell 2
theorem Bo.x3 (h:Bo H x bb b rb br mb Fp Fq G s t v es seen hits n):cellH H ((⟨x,0,none⟩:Addr).add 3)=some (.pointer (some ⟨rb,0,none⟩)):=by rw [add_none];exact h.xb.cell 3
theorem Bo.xu (h:Bo H x bb b rb br mb Fp Fq G s t v es seen hits n){Fp':Foot} (u:Up Fp H Fp' H1):Blk H1 x #[.pointer (some ⟨b,0,none⟩),.pointer (some ⟨bb,0,none⟩),.pointer (some ⟨br,0,none⟩),.pointer (some ⟨rb,0,none⟩)]:=h.xb.fr u.1 fun hm=>h.xp (by simp [hm])
theorem xc {x:Nat}{v0 v1 v2 v3:Value} (h:Blk H x #[v0,v1,v2,v3]):cellH H ⟨x,0,none⟩=some v0∧cellH H ((⟨x,0,none⟩:Addr).add 1)=some v1∧cellH H ((⟨x,0,none⟩:Addr).add 2)=some v2∧cellH H ((⟨x,0,none⟩:Addr).add 3)=some v3:=by
 simp only [add_none,Nat.zero_add]
 exact ⟨h.cell 0,h.cell 1,h.cell 2,h.cell 3⟩
theorem object2_c (hB:Bo H x bb b rb br mb Fp Fq G s t v es seen hits n) (h:∀ H' Fp' Fq' s' v',Bo H' x bb b rb br mb Fp' Fq' G s' t v' es seen hits n→Up (FA bb mb Fp rb G Fq) H (FA bb mb Fp' rb G Fq') H'→entsK t v'=entsK t v→Q (.bool true) H') :
  callS PP n_k156 #[.pointer (some ⟨x,0,none⟩)] Q H:=by
 apply k156_ok
 unfold k156 iV pV cS
 refine ⟨_,rfl,_,hB.x0,kspace_k hB.p.k fun sb F1 _ hS hsub hup hup2=>⟨_,rfl,psAlloc_c hS fun H1 hS1 f1=>?_⟩⟩
 rw [salloc_zero]
 refine ⟨_,_,rfl,?_⟩
 have hK1:=hup2 H1 _ hS1 f1
 have u1:Up Fp H Fp H1:=⟨f1.mono hsub,fun _ h=>.inl h⟩
 have x1:=xc (hB.xu u1)
 have hR1:=hB.rk u1
 obtain ⟨sq,F2,hcq,hSq,_,_,hupq⟩:=hR1.sp
 refine ⟨_,rfl,_,x1.2.2.1,_,rfl,_,hcq,rsAlloc_c hSq fun H2 F3 hS2 u2=>⟨_,_,rfl,?_⟩⟩
 obtain ⟨Fq',hK2,hu2⟩:=hupq H2 F3 _ hS2 u2
 have hv2:KAll (s.alloc (4*10) 1 1).2 t v:=alloc_all hB.va (by decide) 1 1
 rw [show (4*10:Int)=40 from rfl] at hv2
 obtain ⟨hB2,uu,ee⟩:=hB.kern hK1 u1 hK2 hu2 hv2 (Ext.refl v t)
 rw [bneI,cond_dec,if_neg (fun hn=>hn rfl)]
 refine num2_c ⟨_,rfl,?_⟩
 rw [bneI,cond_dec,if_neg (fun hn=>hn rfl),bneI,cond_dec]
 refine ite_i (fun he=>h H2 Fp Fq' _ v hB2 uu rfl) fun he=>?_
 generalize (s.alloc 40 1 1).2=s2 at hB2 hv2 hK2 ⊢
 generalize (s.alloc 40 1 1).1.1=w
 refine ⟨_,rfl,_,hB2.x0,_,rfl,_,hB2.x2,setValue_k hB2.p.k hB2.va fun H3 F4 hK3 u3=>⟨_,rfl,⟨⟨(xc (hB2.xu u3)).2.2.1,trivial⟩,trivial⟩,num2_c ⟨_,rfl,⟨⟨(xc (hB2.xu u3)).2.2.1,trivial⟩,trivial⟩,?_⟩⟩⟩
 refine setValue_r (hB2.rk u3) hB2.va fun H4 F5 hK4 u4=>⟨_,rfl,trivial,?_⟩
 obtain ⟨v',hv',he'⟩:=setValueK_ext hB2.va 0 w
 obtain ⟨hB4,uu4,ee4⟩:=hB2.kern hK3 u3 hK4 u4 hv' he'
 rw [beqI,decide_eq_true rfl]
 exact h H4 F4 F5 _ v' hB4 (uu.trans uu4) ee4
theorem condJ {a b:Int}{A B:Prop} (h1:a=b→A) (h2:a≠b→B):cond (a == b) A B:=by
 rw [beqI,cond_dec]
 exact ite_i h1 h2
theorem pair_end2 {y e:Int} (h:Q (.bool true) H):cond (y == y) (callS PP n_k33 #[.int .i64 e] (fun v59 H16=>∃ n60:Int,v59=.int .i64 n60∧Q (.bool (n60 == e)) H16) H) (Q (.bool false) H):=by
 refine condJ (fun _=>num2_c ⟨_,rfl,?_⟩) fun hn=>absurd rfl hn
 rw [beqI,decide_eq_true rfl];exact h
theorem blk6 {sb:Nat}{v0 v1 v2 v3 v4 v5:Value} (h:Blk H sb #[v0,v1,v2,v3,v4,v5]):cellH H ⟨sb,0,none⟩=some v0∧cellH H ((⟨sb,0,none⟩:Addr).add 1)=some v1∧cellH H ((⟨sb,0,none⟩:Addr).add 2)=some v2∧cellH H ((⟨sb,0,none⟩:Addr).add 3)=some v3∧cellH H ((⟨sb,0,none⟩:Addr).add 4)=some v4∧cellH H ((⟨sb,0,none⟩:Addr).add 5)=some v5:=by
 simp only [add_none,Nat.zero_add]
 exact ⟨h.cell 0,h.cell 1,h.cell 2,h.cell 3,h.cell 4,h.cell 5⟩
theorem same2_c {a1 a2:Option Addr}{l1 l2 c1 c2:Nat}{xs ys:List ByteArray} (h1:Rd 1 H a1 l1 (strsV xs)) (h2:Rd 1 H a2 l2 (strsV ys)) (hb:l1≤1000000000000000) (h:Q (.bool (decide (xs=ys))) H):callS PP n_k43 #[.slice a1 l1 c1,.slice a2 l2 c2] Q H:=by
 have e1:l1=xs.length:=by have:=h1.1;simpa [strsV] using this.symm
 have e2:l2=ys.length:=by have:=h2.1;simpa [strsV] using this.symm
 apply k43_ok
 unfold k43 iV wW sV
 have no:xs≠ys→Q (.bool false) H:=fun hn=>by rw [decide_eq_false hn] at h;exact h
 rw [bneI,cond_dec]
 refine ite_i (fun hne=>no fun e=>hne (by rw [e1,e2,e])) fun hne=>?_
 have hlen:l1=l2:=by omega
 refine ⟨fun w H'=>H'=H∧∃ i:Nat,w=[.int .i64 i]∧i≤l1∧xs.take i=ys.take i,fun w _=>match w with
  | [.int _ i]=>(l1-i).toNat
  | _=>0,⟨rfl,0,rfl,Nat.zero_le _,rfl⟩,?_⟩
 rintro w H1 ⟨rfl,i,rfl,hi,hall⟩ _
 refine ⟨_,rfl,?_⟩
 rw [cond_dec]
 refine ite_i (fun hlt=>?_) fun hlt=>?_
 ·obtain ⟨p,hp2,rfl,hc1⟩:=h1.str (i:=(i:Int)) (by omega) (by omega)
  obtain ⟨q,hq2,rfl,hc2⟩:=h2.str (i:=(i:Int)) (by omega) (by omega)
  simp only [Int.toNat_natCast] at hc1 hp2 hc2 hq2
  have e:IntKind.wrap .i64 ((i:Int)+1)=((i+1:Nat):Int):=by rw [wrap64_id (by omega) (by omega)];omega
  refine ⟨⟨by omega,by omega⟩,_,rfl,_,by rw [Int.toNat_natCast,Nat.mul_one];exact hc1,⟨by omega,by omega⟩,_,rfl,_,by rw [Int.toNat_natCast,Nat.mul_one];exact hc2,?_⟩
  rw [strEq_dec,←decide_not,cond_dec]
  refine ite_i (fun he=>no fun e=>he (by subst e;rfl)) fun he=>?_
  rw [e]
  have he':xs[i]=ys[i]:=Classical.byContradiction he
  refine ⟨⟨rfl,i+1,rfl,by omega,?_⟩,by simp;omega⟩
  rw [List.take_add_one,List.take_add_one,List.getElem?_eq_getElem hp2,List.getElem?_eq_getElem hq2,hall,he']
 ·have hil:i=l1:=by omega
  subst hil
  rw [List.take_of_length_le (by omega),List.take_of_length_le (by omega)] at hall
  rw [decide_eq_true hall] at h
  exact h
theorem selK_len {v:KV}{t:TB} (hd:KD v t) (hw:WFT t) (o:Int):(selK v t o).length≤128:=by
 unfold selK
 cases hp:plK v o with
 | none=>simp
 | some i =>
  obtain ⟨hi,_⟩:=plK_some hp
  simp only [getC hi]
  obtain ⟨ns,h⟩:=hd _ (List.getElem_mem hi)
  rw [h.texts hw,List.length_map]
  exact h.most
theorem clr_same {e:Int}{es:List ((Int × Int) × Value)}{seen:List (Int × Int)} (h:∀ k,getP es k≠none↔k∈seen):∀ k,getP (clr e es) k≠none↔k∈clrS e seen:=fun k=>by
 unfold clr clrS
 split
 ·simp [getP]
 ·exact h k
theorem clrS_len {e:Int}{seen:List (Int × Int)}{n:Nat} (h:seen.length≤n):(clrS e seen).length≤n:=by
 unfold clrS;split
 ·simp
 ·exact h
theorem ChgO.cache {s':SP}{v':KV}{o e:Int}{name:ByteArray}{pre:List (ByteArray × Int)} (hc:ChgO v t o e name pre v') (h:CacheOK v es):CacheOK v' (clr e es):=by
 by_cases he:e=0
 ·rw [he,clr_zero];exact CacheOK.nil v'
 ·rw [clr_ne he,hc.bad he];exact h
theorem put_two (hB:Bo H x bb b rb br mb Fp Fq G s t v es seen hits n){o m:Int}{name:ByteArray}
  (h:∀ H1 e,Fr (bb :: mb :: Fp) H H1→(∀ Q2:Value→Heap→Prop,(∀ H2 Fp' Fq' G' s' v' es' seen',Bo H2 x bb b rb br mb Fp' Fq' G' s' t v' es' seen' hits n→Up (FA bb mb Fp rb G Fq) H (FA bb mb Fp' rb G' Fq') H2→ChgO v t o e name [(name,m)] v'→Q2 (.int .i64 e) H2)→callS PP n_k35 #[.pointer (some ⟨rb,0,none⟩),.int .i64 o,.string name,.int .i64 m] Q2 H1)→Q (.int .i64 e) H1) :
  callS PP n_k34 #[.pointer (some ⟨bb,0,none⟩),.int .i64 o,.string name,.int .i64 m] Q H:=by
 obtain ⟨v',hv',hc⟩:=kPut_ok hB.va hB.kd o name m
 refine bPutA_c hB.p hB.va hB.kd fun H1 F1 hP u1=>?_
 have uA:Up (bb :: mb :: Fp) H (bb :: mb :: F1) H1:=Up.cons u1
 refine h H1 _ uA.1 fun Q2 hq=>dPutA_c (hB.r1 uA) hB.va hB.kd fun H2 F2 G2 hR u2=>?_
 obtain ⟨b1,b2⟩:=hB.both hP uA hR u2 hv' hc.kd (hc.cache (s':=s) hB.ok) (clr_same hB.same) (clrS_len hB.num)
 exact hq H2 F1 F2 G2 _ v' _ _ b1 b2 hc
theorem rem_two (hB:Bo H x bb b rb br mb Fp Fq G s t v es seen hits n){o:Int}{name:ByteArray}
  (h:∀ H1 e,Fr (bb :: mb :: Fp) H H1→(∀ Q2:Value→Heap→Prop,(∀ H2 Fp' Fq' G' s' v' es' seen',Bo H2 x bb b rb br mb Fp' Fq' G' s' t v' es' seen' hits n→Up (FA bb mb Fp rb G Fq) H (FA bb mb Fp' rb G' Fq') H2→ChgO v t o e name [] v'→Q2 (.int .i64 e) H2)→callS PP n_k37 #[.pointer (some ⟨rb,0,none⟩),.int .i64 o,.string name] Q2 H1)→Q (.int .i64 e) H1) :
  callS PP n_k36 #[.pointer (some ⟨bb,0,none⟩),.int .i64 o,.string name] Q H:=by
 obtain ⟨v',hv',hc⟩:=kRem_ok hB.va hB.kd o name
 refine bRemA_c hB.p hB.va hB.kd fun H1 F1 hP u1=>?_
 have uA:Up (bb :: mb :: Fp) H (bb :: mb :: F1) H1:=Up.cons u1
 refine h H1 _ uA.1 fun Q2 hq=>dRemA_c (hB.r1 uA) hB.va hB.kd fun H2 F2 G2 hR u2=>?_
 obtain ⟨b1,b2⟩:=hB.both hP uA hR u2 hv' hc.kd (hc.cache (s':=s) hB.ok) (clr_same hB.same) (clrS_len hB.num)
 exact hq H2 F1 F2 G2 _ v' _ _ b1 b2 hc
end
section
variable {H H1 H2:Heap}{bb b mb rb br x:Nat}{F Fp Fq G:Foot}{s:SP}{t:TB}{v:KV}{es:List ((Int × Int) × Value)}{seen:List (Int × Int)}{hits cnt:Int}{n:Nat}{Q:QT}
theorem Bo.lt (h:Bo H x bb b rb br mb Fp Fq G s t v es seen hits n):∀ y∈FA bb mb Fp rb G Fq,y<H.size:=fun y hy=>by
 rcases List.mem_append.1 hy with hy | hy
 ·exact h.p.lt y hy
 ·exact h.r.lt y hy
theorem strs_nil {H:Heap}:Rd 1 H none 0 (strsV []):=⟨rfl,fun _=>rfl,fun p hp=>by cases hp⟩
theorem plays2_c (hB:Bo H x bb b rb br mb Fp Fq G s t v es seen hits n) (hn:n≤1200000000000){kind cl me i:Int}{name other':ByteArray}
  (h:∀ H' Fp' Fq' G' s' t' v' es' seen' hits',Bo H' x bb b rb br mb Fp' Fq' G' s' t' v' es' seen' hits' (n+1)→Up (FA bb mb Fp rb G Fq) H (FA bb mb Fp' rb G' Fq') H'→(kind≠1→kind≠2→entsK t' v'=entsK t v)→Q (.bool true) H') :
  callS PP n_k38 #[.pointer (some ⟨x,0,none⟩),.agg #[.int .i64 kind,.int .i64 cl,.int .i64 me,.int .i64 i,.string name,.string other']] Q H:=by
 apply k38_ok
 unfold k38 A0 iV pV sV lV cS;dsimp only [shH]
 have fp:Fr [] H (H.push (.cells #[.int .i64 kind,.int .i64 cl,.int .i64 me,.int .i64 i,.string name,.string other'] 68)):=Fr.push _ _ _
 have hS:=Blk.new H #[.int .i64 kind,.int .i64 cl,.int .i64 me,.int .i64 i,.string name,.string other'] 68
 have hB0:=hB.nil fp
 have hlt:=hB.lt
 have nS:∀ {K:Foot},(∀ y∈K,y∈FA bb mb Fp rb G Fq)→H.size∉K:=fun hK hm=>Nat.lt_irrefl _ (hlt _ (hK _ hm))
 have nS1:H.size∉bb :: mb :: Fp:=nS fun y hy=>List.mem_append.2 (.inl hy)
 have nSp:H.size∉Fp:=nS fun y hy=>List.mem_append.2 (.inl (by simp [hy]))
 generalize (H.push (.cells #[.int .i64 kind,.int .i64 cl,.int .i64 me,.int .i64 i,.string name,.string other'] 68))=H0 at fp hS hB0 ⊢
 generalize H.size=sb at hS nS nS1 nSp ⊢
 have fin:∀ {H' Fp' Fq' G' s' t' v' es' seen' hits' n'},Bo H' x bb b rb br mb Fp' Fq' G' s' t' v' es' seen' hits' n'→n'≤n+1→Up (FA bb mb Fp rb G Fq) H0 (FA bb mb Fp' rb G' Fq') H'→(kind≠1→kind≠2→entsK t' v'=entsK t v)→Q (.bool true) H':=fun hB' hn' u he=>h _ _ _ _ _ _ _ _ _ _ (hB'.more hn') ((Up.of_nil fp).trans u) he
 have finn:∀ {H'},Fr [] H0 H'→Q (.bool true) H':=fun f=>fin (hB0.nil f) (Nat.le_succ n) (Up.of_nil f) fun _ _=>rfl
 obtain ⟨c0,c1,c2,c3,c4,c5⟩:=blk6 hS
 have S:∀ {H1:Heap}{K:Foot},Fr K H0 H1→sb∉K→_:=fun f hn=>blk6 (hS.fr f hn)
 refine ⟨_,c0,condJ (fun hk=>?_) fun _=>condJ (fun hk=>?_) fun _=>condJ (fun _=>?_) fun _=>condJ (fun _=>?_) fun _=>condJ (fun _=>?_) fun _=>condJ (fun _=>?_) fun _=>condJ (fun _=>?_) fun _=>condJ (fun _=>?_) fun _=>condJ (fun _=>?_) fun _=>condJ (fun _=>?_) fun _=>condJ (fun _=>?_) fun _=>condJ (fun _=>?_) fun _=>finn (Fr.refl _ _)⟩
 ·
  refine ⟨_,rfl,_,hB0.x1,_,c1,_,c4,_,c2,_,rfl,_,hB0.x3,_,c1,_,c4,_,c2,put_two hB0 fun H1 e f1 hq=>?_⟩
  obtain ⟨d0,d1,d2,d3,d4,d5⟩:=S f1 nS1
  have x1:=xc (hB0.xb.fr f1 hB0.xp)
  have held:=And.intro (And.intro d2 trivial) (And.intro (And.intro d4 trivial) (And.intro (And.intro d1 trivial) (And.intro (And.intro x1.2.2.2 trivial) trivial)))
  refine ⟨_,rfl,held,num2_c ⟨_,rfl,held,hq _ fun H2 Fp' Fq' G' s' v' es' seen' hB2 u2 hc=>⟨_,rfl,trivial,?_⟩⟩⟩
  rw [beqI,decide_eq_true rfl]
  exact fin hB2 (Nat.le_succ n) u2 fun h1 _=>absurd hk h1
 ·
  refine ⟨_,rfl,_,hB0.x1,_,c1,_,c4,_,rfl,_,hB0.x3,_,c1,_,c4,rem_two hB0 fun H1 e f1 hq=>?_⟩
  obtain ⟨d0,d1,d2,d3,d4,d5⟩:=S f1 nS1
  have x1:=xc (hB0.xb.fr f1 hB0.xp)
  have held:=And.intro (And.intro d4 trivial) (And.intro (And.intro d1 trivial) (And.intro (And.intro x1.2.2.2 trivial) trivial))
  refine ⟨_,rfl,held,num2_c ⟨_,rfl,held,hq _ fun H2 Fp' Fq' G' s' v' es' seen' hB2 u2 hc=>⟨_,rfl,trivial,?_⟩⟩⟩
  rw [beqI,decide_eq_true rfl]
  exact fin hB2 (Nat.le_succ n) u2 fun _ h2=>absurd hk h2
 ·
  refine ⟨_,rfl,_,hB0.x1,_,c1,_,c3,look_two hB0 hn fun H1 f1 hq=>?_⟩
  obtain ⟨d0,d1,d2,d3,d4,d5⟩:=S f1 nS1
  have x1:=xc (hB0.xb.fr f1 hB0.xp)
  refine ⟨_,_,rfl,trivial,_,rfl,_,x1.2.2.2,_,d1,_,d3,hq _ fun H2 G' es' seen' hits' hB2 u2=>⟨_,_,rfl,trivial,condJ (fun _=>?_) fun hne=>absurd rfl hne⟩⟩
  rw [beqI,decide_eq_true rfl]
  exact fin hB2 (Nat.le_refl _) u2 fun _ _=>rfl
 ·
  refine ⟨_,rfl,_,hB0.x1,_,c1,_,c4,batA_c hB0.p.k hB0.va hB0.kd hB0.p.kp fun H1 f1=>?_⟩
  obtain ⟨d0,d1,d2,d3,d4,d5⟩:=S f1 (by simp)
  have hB1:=hB0.nil f1
  refine ⟨_,_,rfl,trivial,_,rfl,_,hB1.x3,_,d1,_,d4,datA_c hB1.r.k hB1.va hB1.kd hB1.r.kp fun H2 f2=>⟨_,_,rfl,trivial,pair_end2 (finn (f1.trans f2))⟩⟩
 ·
  refine ⟨_,rfl,_,hB0.x1,_,c1,_,rfl,_,hB0.x3,_,c1,bselA_c hB0.p.k hB0.va hB0.kd hB0.p.kp fun a l c Ga H1 ho f1 hG=>?_⟩
  obtain ⟨d0,d1,d2,d3,d4,d5⟩:=S f1 (by simp)
  have hB1:=hB0.nil f1
  refine ⟨_,_,_,rfl,⟨⟨d1,trivial⟩,⟨hB1.x3,trivial⟩,trivial⟩,dselA_c hB1.r.k hB1.va hB1.kd hB1.r.kp fun a' l' c' Gb H2 ho' f2 hG'=>⟨_,_,_,rfl,trivial,?_⟩⟩
  have hlen:=selK_len hB.kd hB.va.names.wf cl
  refine same2_c (ho.fr f2 (by simp)).rd ho'.rd (by have:=ho.len;simp only [strsV,List.length_map] at this;omega) ⟨_,rfl,trivial,?_⟩
  rw [decide_eq_true rfl]
  exact finn (f1.trans f2)
 ·
  refine ⟨_,rfl,_,hB0.x1,bflush_c hB0.p fun H1 hP f1=>⟨rfl,?_⟩⟩
  have u1:Up (bb :: mb :: Fp) H0 (bb :: mb :: Fp) H1:=⟨f1.mono (by simp),fun _ h=>.inl h⟩
  refine ⟨_,rfl,_,(xc (hB0.xb.fr u1.1 hB0.xp)).2.2.2,dflush_c (hB0.r1 u1) fun H2 hR f2=>⟨rfl,?_⟩⟩
  have u2:Up (rb :: (G++Fq)) H1 (rb :: ([]++Fq)) H2:=⟨f2.mono fun y hy=>by
   simp only [List.mem_singleton] at hy;simp [hy],fun y hy=>.inl (by
   simp only [List.nil_append,List.mem_cons] at hy
   rcases hy with hy | hy
   ·simp [hy]
   ·simp [hy])⟩
  obtain ⟨b1,b2⟩:=hB0.both (n':=n) (es':=[]) (seen':=[]) hP u1 hR u2 hB0.va hB0.kd (CacheOK.nil v) (fun k=>by simp [getP]) (by simp)
  exact fin b1 (Nat.le_succ n) b2 fun _ _=>rfl
 ·
  obtain ⟨as_,ls_,cs_,hb,_⟩:=hB0.r.blk
  have q2:cellH H0 ((⟨rb,0,none⟩:Addr).add 2)=some (.int .i64 hits):=by rw [add_none];exact hb.cell 2
  refine ⟨_,rfl,_,hB0.x1,_,rfl,_,hB0.x3,_,rfl,_,q2,bhits_c hB0.p ⟨_,rfl,⟨⟨q2,trivial⟩,⟨hB0.x3,trivial⟩,trivial⟩,?_⟩⟩
  rw [beqI,decide_eq_true rfl]
  exact finn (Fr.refl _ _)
 ·
  obtain ⟨sq,hq,Fh,hcs,hch,hRR,hsubr,nbr,hupr⟩:=hB0.r.k.hp
  obtain ⟨sq',F1,hcs',hS',hsub',_⟩:=hB0.r.k.sp
  have hsb:sq'=sq:=by rw [hcs] at hcs';simpa using hcs'.symm
  have hsq:sq∈Fq:=by
   obtain ⟨_,_,_,_,F3,F4,_,_,_,_,eF,_⟩:=hS'
   rw [←hsb]
   exact hsub' _ (by rw [eF];simp)
  have hbq:=hB0.r.k.bmem
  have nq:∀ {y:Nat},y∈Fq→y∉Fp:=fun {y} hy hm=>hB0.dis y (by simp [hm]) (by simp [hy])
  refine ⟨_,rfl,_,hB0.x0,_,c3,_,rfl,_,hB0.x2,_,rfl,_,hcs,_,rfl,_,hch,_,c3,kspace_k hB0.p.k fun sbp Fsp hcsp hSp hsubp hup hup2=>?_⟩
  have held:=And.intro (And.intro c3 trivial) (And.intro (And.intro hch trivial) (And.intro (And.intro hcs trivial) (And.intro (And.intro hB0.x2 trivial) (And.intro (And.intro c3 trivial) trivial))))
  refine ⟨_,rfl,held,psHeap_c hSp fun hbp Fhp hRp hsub3 hup3=>⟨_,rfl,held,mark_c hRp fun H1 hR1 hf1=>?_⟩⟩
  have fP:Fr Fp H0 H1:=(hf1.mono hsub3).mono hsubp
  have u1:Up Fp H0 Fp H1:=⟨fP,fun _ h=>.inl h⟩
  have k1:cellH H1 ⟨br,0,none⟩=some (.pointer (some ⟨sq,0,none⟩)):=by rw [cell_fr fP (nq hbq) (hB0.r.k.lt _ hbq)];exact hcs
  have k2:cellH H1 ⟨sq,0,none⟩=some (.pointer (some ⟨hq,0,none⟩)):=by rw [cell_fr fP (nq hsq) (hB0.r.k.lt _ hsq)];exact hch
  have d3:=(S fP nSp).2.2.2.1
  have x1:=xc (hB0.xu u1)
  have hP1:=hup2 H1 _ (hup3 H1 _ hR1 hf1) (hf1.mono hsub3)
  obtain ⟨sb1,hb1,Fh1,hcs1,hch1,hRR1,_,_,huph1⟩:=(hB0.rk u1).hp
  have e1:sb1=sq:=by rw [k1] at hcs1;simpa using hcs1.symm
  subst e1
  have e2:hb1=hq:=by rw [k2] at hch1;simpa using hch1.symm
  subst e2
  have held1:=And.intro (And.intro d3 trivial) (And.intro (And.intro k2 trivial) (And.intro (And.intro k1 trivial) (And.intro (And.intro x1.2.2.1 trivial) trivial)))
  refine ⟨_,rfl,held1,num2_c ⟨_,rfl,held1,rmarks_c hRR1 fun H2 hR2 hf2=>⟨_,rfl,trivial,?_⟩⟩⟩
  rw [beqI,decide_eq_true rfl]
  obtain ⟨Fq',hK2,hu2⟩:=huph1 H2 Fh1 _ hR2 ⟨hf2,fun _ h=>.inl h⟩
  obtain ⟨b1,b2,b3⟩:=hB0.kern hP1 u1 hK2 hu2 (hB0.va.marks i) (Ext.refl v t)
  exact fin b1 (Nat.le_succ n) b2 fun _ _=>b3
 ·
  refine ⟨_,rfl,_,hB0.x0,kspace_k hB0.p.k fun sbp Fsp hcsp hSp hsubp hup hup2=>⟨_,rfl,psCollect_c hSp fun H1 hS1 hf1 _=>⟨_,_,_,rfl,?_⟩⟩⟩
  have hP1:=hup2 H1 _ hS1 hf1
  have u1:Up Fp H0 Fp H1:=⟨hf1.mono hsubp,fun _ h=>.inl h⟩
  obtain ⟨sq,F1,hc,hSq,_,_,hupq⟩:=(hB0.rk u1).sp
  refine ⟨_,rfl,_,(xc (hB0.xu u1)).2.2.1,_,rfl,_,hc,rsCollect_c hSq fun H2 F2 hS2 hu2=>⟨_,_,_,rfl,?_⟩⟩
  obtain ⟨Fq',hK2,hu2'⟩:=hupq H2 F2 _ hS2 hu2
  obtain ⟨b1,b2,b3⟩:=hB0.kern hP1 u1 hK2 hu2' hB0.va.collect (Ext.refl v t)
  exact fin b1 (Nat.le_succ n) b2 fun _ _=>b3
 ·
  refine ⟨_,rfl,_,hB0.x0,_,c4,_,c5,kdefine_k hB0.p.k hB0.va strs_nil (.inl rfl) (Nat.le_refl _) (by decide) fun H1 Fp' hP1 u1=>⟨_,_,rfl,trivial,?_⟩⟩
  obtain ⟨d0,d1,d2,d3,d4,d5⟩:=S u1.1 nSp
  refine ⟨_,rfl,_,(xc (hB0.xu u1)).2.2.1,_,d4,_,d5,define0_r (hB0.rk u1) hB0.va strs_nil (.inl rfl) (by decide) fun H2 Fq' hK2 hu2=>⟨_,_,rfl,trivial,?_⟩⟩
  obtain ⟨v',hv',he'⟩:=kDefineAll_ext hB0.va name other' []
  obtain ⟨b1,b2,b3⟩:=hB0.kern hP1 u1 hK2 hu2 hv' he'
  exact pair_end2 (fin b1 (Nat.le_succ n) b2 fun _ _=>b3)
 ·
  obtain ⟨tb,F2,hct,hT,_,_,hupT,_⟩:=hB0.p.k.tb
  refine ⟨_,rfl,_,hB0.x0,_,c4,ksymbols_k hB0.p.k fun tb' F2' hct' hT'=>?_⟩
  have et:tb'=tb:=by rw [hct] at hct';simpa using hct'.symm
  subst et
  refine ⟨_,rfl,⟨⟨c4,trivial⟩,trivial⟩,ptAdd_c hT fun H1 F3 hT1 u1=>⟨_,_,rfl,trivial,?_⟩⟩
  obtain ⟨Fp',hP1,u1'⟩:=hupT H1 F3 _ hT1 u1
  have d4:=(S u1'.1 nSp).2.2.2.2.1
  obtain ⟨tq,F4,hcq,hTq,_,_,hupQ⟩:=(hB0.rk u1').tb
  refine ⟨_,rfl,_,(xc (hB0.xu u1')).2.2.1,_,rfl,_,by rw [add_none];exact hcq,_,d4,tadd_c hTq fun H2 F5 hT2 u2=>⟨_,_,rfl,trivial,?_⟩⟩
  obtain ⟨Fq',hK2,hu2⟩:=hupQ H2 F5 _ hT2 u2
  obtain ⟨hv',he'⟩:=add_all hB0.va name
  obtain ⟨b1,b2,b3⟩:=hB0.kern hP1 u1' hK2 hu2 hv' he'
  exact pair_end2 (fin b1 (Nat.le_succ n) b2 fun _ _=>b3)
 ·
  exact object2_c hB0 fun H1 Fp' Fq' s' v' hB1 u1 e1=>⟨_,rfl,fin hB1 (Nat.le_succ n) u1 fun _ _=>e1⟩
end
attribute [local irreducible] bootRH bootH bootL
theorem boot_kd:KD bootV bootT:=fun c hc=>by
 refine ⟨[],DC.empty ?_ ?_⟩
 all_goals
  unfold bootV at hc
  simp only [List.mem_map] at hc
  obtain ⟨i,_,rfl⟩:=hc
  rfl
theorem boot_ents:entsK bootT bootV=[]:=by
 unfold entsK
 rw [List.flatMap_eq_nil_iff]
 intro c hc
 unfold bootV at hc
 simp only [List.mem_map] at hc
 obtain ⟨i,_,rfl⟩:=hc
 rfl
section
variable {H:Heap}{Q:QT}
theorem boots2_c {words oops:Int} (hk:Kinds H) (hN:NamesAt H){Z:Heap→Prop}{R:Option Addr→Option Addr→Int→Heap→Prop}
  (hbad:¬ ((0≤words∧words≤1048576∧0≤oops∧oops≤65536)∧((bootR0 words oops).allocAll bootPlan).1=0)→∀ e H',Fr [] H H'→R none none e H') (hok:∀ bp br Fp Fq H',Tw H' bp br Fp Fq (bootS words oops) bootT bootV→Fr [] H H'→(∀ x∈Fp++Fq,H.size≤x)→R (some ⟨bp,0,none⟩) (some ⟨br,0,none⟩) 0 H') :
  callS PP n_k10 #[.int .i64 words,.int .i64 oops] (fun v4 H1=>∃ p5:Option Addr,∃ n6:Int,v4=.tuple #[.pointer p5,.int .i64 n6]∧callS PP n_k11 #[.int .i64 words,.int .i64 oops] (fun v7 H2=>∃ p8:Option Addr,∃ n9:Int,v7=.tuple #[.pointer p8,.int .i64 n9]∧callS PP n_k33 #[.int .i64 n6] (fun v10 H3=>∃ n11:Int,v10=.int .i64 n11∧cond (n11 != n9) (Z H3) (cond (!((Option.isNone p5) == (Option.isNone p8))) (Z H3) (R p5 p8 n9 H3))) H2) H1) H:=by
 have bad:¬ ((0≤words∧words≤1048576∧0≤oops∧oops≤65536)∧((bootR0 words oops).allocAll bootPlan).1=0)→∀ (e:Int) (H2:Heap),Fr [] H H2→(∀ {Q':Value→Heap→Prop} (_:∀ H3,Fr [] H2 H3→Q' (.tuple #[.pointer none,.int .i64 e]) H3),callS PP n_k11 #[.int .i64 words,.int .i64 oops] Q' H2) →
   callS PP n_k11 #[.int .i64 words,.int .i64 oops] (fun v7 H2=>∃ p8:Option Addr,∃ n9:Int,v7=.tuple #[.pointer p8,.int .i64 n9]∧callS PP n_k33 #[.int .i64 e] (fun v10 H3=>∃ n11:Int,v10=.int .i64 n11∧cond (n11 != n9) (Z H3) (cond (!((Option.isNone (none:Option Addr)) == (Option.isNone p8))) (Z H3) (R none p8 n9 H3))) H2) H2:=by
  intro hno e H2 F2 hR
  refine hR fun H3 f3=>⟨_,_,rfl,num2_c ⟨_,rfl,?_⟩⟩
  rw [bneI,cond_dec,if_neg (fun hn=>hn rfl)]
  simp only [Option.isNone_none,beq_self_eq_true,Bool.not_true,cond_false]
  exact hbad hno e H3 (F2.trans f3)
 refine kboot_k hk (fun hb=>?_) (fun hg he H1 f1=>?_) fun hg hz b F H1 hP f1 hF=>?_
 ·refine ⟨_,_,rfl,bad (fun h=>hb h.1) 1 H (Fr.refl _ _) fun {Q'} hq=>boot_r hN (fun _=>hq H (Fr.refl _ _)) (fun hg=>absurd hg hb) fun hg=>absurd hg hb⟩
 ·refine ⟨_,_,rfl,bad (fun h=>he h.2) _ H1 f1 fun {Q'} hq=>boot_r (hN.fr f1 (by simp)) (fun hb=>absurd hg hb) (fun _ _ H3 f3=>hq H3 f3) fun _ hz=>absurd hz he⟩
 ·refine ⟨_,_,rfl,boot_r (hN.fr f1 (by simp)) (fun hb=>absurd hg hb) (fun _ he=>absurd hz he) fun _ _ b2 F2 H2 hR f2 hF2=>⟨_,_,rfl,num2_c ⟨_,rfl,?_⟩⟩⟩
  rw [bneI,cond_dec,if_neg (fun hn=>hn rfl)]
  simp only [Option.isNone_some,beq_self_eq_true,Bool.not_true,cond_false]
  have hv:=boot_ok hg.1 hg.2.1 hg.2.2.1 hg.2.2.2 hz
  have hs:=f1.1
  have hlt:g_word_kinds<H.size:=cell_lt hk.1
  refine hok b b2 F F2 H2 ⟨hP.nil f2,hR,fun x hx hm=>?_,fun hm=>?_,hv⟩ (f1.trans f2) (fun x hx=>?_)
  ·have:=hP.lt x hx;have:=hF2 x hm;omega
  ·have:=hF2 _ hm;omega
  ·rcases List.mem_append.1 hx with hx | hx
   ·exact hF x hx
   ·have:=hF2 x hx;omega
theorem kGlobalAll_g {s:SP}{v:KV}{t:TB} (hv:KAll s t v) (name:ByteArray):∃ v',KAll (kGlobalAll s v t name).2.1 (kGlobalAll s v t name).2.2 v'∧Ext v v' t (kGlobalAll s v t name).2.2∧(v'=v∨∃ n d,v'=v.addG n d∧tx (kGlobalAll s v t name).2.2 n=name):=by
 unfold kGlobalAll
 by_cases h:globK v t name=0
 ·rw [if_neg (by simpa using h)]
  have hlt:v.glob.length<256:=by
   unfold globK at h
   split at h
   ·cases h
   split at h
   ·cases h
   split at h
   ·cases h
   ·omega
  have A:=kGlobal_ok hv hlt (name:=name)
  by_cases he:(kGlobal s t (globW v.glob) name).1=0
  ·obtain ⟨n,d,h1,h2,h3⟩:=A.2 he
   exact ⟨_,h1,⟨⟨[],by simp [KV.addG],by simp⟩,h2⟩,.inr ⟨n,d,rfl,h3⟩⟩
  ·obtain ⟨h1,h2,_⟩:=A.1 he
   exact ⟨v,h1,⟨⟨[],by simp,by simp⟩,[],by rw [h2];simp⟩,.inl rfl⟩
 ·rw [if_pos h];exact ⟨v,hv,Ext.refl v t,.inl rfl⟩
abbrev gName:ByteArray:=⟨#[71]⟩
theorem made_c {words oops:Int} (hk:Kinds H) (hN:NamesAt H) (hbad:¬ ((0≤words∧words≤1048576∧0≤oops∧oops≤65536)∧((bootR0 words oops).allocAll bootPlan).1=0)→∀ H',Fr [] H H'→Q (.tuple #[.pointer none,.bool true]) H')
  (hok:∀ H' x bb b rb br mb Fp Fq s t v,Bo H' x bb b rb br mb Fp Fq [] s t v [] [] 0 0→Fr [] H H'→(∀ y∈x :: FA bb mb Fp rb [] Fq,H.size≤y)→entsK t v=[]→s=(kGlobalAll (bootS words oops) bootV bootT gName).2.1→t=(kGlobalAll (bootS words oops) bootV bootT gName).2.2→KAll (bootS words oops) bootT bootV→Ext bootV v bootT t→(v=bootV∨∃ n d,v=bootV.addG n d∧tx t n=gName) →
   Q (.tuple #[.pointer (some ⟨x,0,none⟩),.bool true]) H'):callS PP n_k31 #[.int .i64 words,.int .i64 oops] Q H:=by
 apply k31_ok
 unfold k31 A0 iV pV sV cS
 refine @boots2_c H words oops hk hN _ _ (fun hno e H1 f1=>?_) fun bp br Fp Fq H1 hT f1 hF=>?_
 ·simp only [Option.isNone_none,cond_true]
  exact hbad hno H1 f1
 simp only [Option.isNone_some,cond_false]
 have hlt:=hT.p.lt
 have hltq:=hT.r.lt
 refine bNew_c hT.p fun H2 hB2 f2=>⟨_,_,rfl,?_⟩
 simp only [Option.isNone_some,cond_false]
 refine num2_c ⟨_,rfl,?_⟩
 simp only [show ((0:Int) != 0)=false from rfl,cond_false]
 obtain ⟨v',hv',he',hg'⟩:=kGlobalAll_g hT.v gName
 refine kglobal_k hB2.k hT.v fun H3 Fp' hK3 u3=>⟨_,rfl,num2_c ⟨_,rfl,?_⟩⟩
 have hB3:=hB2.up hK3 u3
 have hR3:RK H3 br Fq (bootS words oops) bootT:=(hT.r.nil f2).fr u3.1 hT.dis.symm
 refine global_r hR3 hT.v fun H4 Fq' hK4 u4=>⟨_,rfl,?_⟩
 rw [bneI,cond_dec,if_neg (fun hn=>hn rfl)]
 refine dNew_c hK4 fun H5 hR5 f5=>⟨_,rfl,?_⟩
 have s1:=f1.1
 have s2:=f2.1
 have s3:=u3.1.1
 have s4:=u4.1.1
 have s5:=f5.1
 have l2:H1.size+1<H2.size:=hB2.blk.lt
 have dF:Disj ((H1.size+1) :: H1.size :: Fp') Fq':=fun y hy hm=>by
  simp only [List.mem_cons] at hy
  rcases u4.2 y hm with h1 | h1
  ·have h0:=hltq y h1
   rcases hy with rfl | rfl | hy
   ·omega
   ·omega
   ·rcases u3.2 y hy with h2 | h2
    ·exact hT.dis y h2 h1
    ·omega
  ·rcases hy with rfl | rfl | hy
   ·omega
   ·omega
   ·have:=hK3.lt y hy;omega
 have hB4:PB H4 (H1.size+1) bp Fp' H1.size (kGlobalAll (bootS words oops) bootV bootT gName).2.1 (kGlobalAll (bootS words oops) bootV bootT gName).2.2 [] 0:=by
  refine hB3.fr u4.1 (fun y hy hm=>?_) (fun hm=>hT.gk hm)
  simp only [List.mem_cons] at hy
  have h0:=hltq y hm
  rcases hy with rfl | rfl | hy
  ·omega
  ·omega
  ·rcases u3.2 y hy with h2 | h2
   ·exact hT.dis y h2 hm
   ·omega
 have fx:Fr [] H5 (H5.push (.cells #[.pointer (some ⟨bp,0,none⟩),.pointer (some ⟨H1.size+1,0,none⟩),.pointer (some ⟨br,0,none⟩),.pointer (some ⟨H4.size,0,none⟩)] 72)):=Fr.push _ _ _
 have hgl:=hT.glt
 have hB6:=(hB4.nil f5).nil fx
 have hR6:=hR5.nil fx
 have hbo:Bo (H5.push (.cells #[.pointer (some ⟨bp,0,none⟩),.pointer (some ⟨H1.size+1,0,none⟩),.pointer (some ⟨br,0,none⟩),.pointer (some ⟨H4.size,0,none⟩)] 72)) H5.size (H1.size+1) bp H4.size br H1.size Fp' Fq' [] (kGlobalAll (bootS words oops) bootV bootT gName).2.1 (kGlobalAll (bootS words oops) bootV bootT gName).2.2 v' [] [] 0 0:=by
  refine ⟨Blk.new _ _ _,hB6,hR6,fun y hy hm=>?_,fun hm=>?_,fun hm=>?_,fun hm=>?_,hv',boot_kd.ext he',CacheOK.nil _,fun k=>by simp [getP],Nat.le_refl _⟩
  ·simp only [List.nil_append,List.mem_cons] at hm
   rcases hm with rfl | hm
   ·have:=hB4.lt _ hy;omega
   ·exact dF y hy hm
  ·simp only [List.nil_append,List.mem_cons] at hm
   rcases hm with h1 | hm
   ·omega
   ·rcases u4.2 _ hm with h1 | h1
    ·exact hT.gk h1
    ·omega
  ·have:=(hB4.nil f5).lt _ hm;omega
  ·have:=hR5.lt _ hm;omega
 refine hok _ _ _ _ _ _ _ _ _ _ _ v' hbo ?_ (fun y hy=>?_) ?_ rfl rfl hT.v he' hg'
 ·refine ⟨by have:=fx.1;omega,fun y hy hn=>?_⟩
  rw [fx.2 y (by omega) (by simp),f5.2 y (by omega) (by simp),u4.1.2 y (by omega) (fun hm=>by have:=hF y (by simp [hm]);omega),u3.1.2 y (by omega) (fun hm=>by have:=hF y (by simp [hm]);omega),f2.2 y (by omega) (by simp),f1.2 y hy (by simp)]
 ·simp only [FA,List.nil_append,List.mem_cons,List.mem_append] at hy
  rcases hy with rfl | (rfl | rfl | hy) | rfl | hy
  ·omega
  ·omega
  ·omega
  ·rcases u3.2 y hy with h1 | h1
   ·exact hF y (by simp [h1])
   ·omega
  ·omega
  ·rcases u4.2 y hy with h1 | h1
   ·exact hF y (by simp [h1])
   ·omega
 ·rw [ext_ents hT.v.names.wf boot_kd hv'.names.wf he',boot_ents]
end
end Go.Proofs.YtmkdkplipbocjaaGreatDoor
namespace Go.Proofs.YtmkdkplipbocjaaGreatDoor
open Kw
theorem cntK_le {t:TB}:∀ (l:List CV),(∀ c∈l,∃ ns,DC t c ns)→WFT t→cntK t l≤128*l.length
 | [],_,_=>by simp [cntK]
 | c :: l,h,hw=>by
  have ih:=cntK_le l (fun c hc=>h c (by simp [hc])) hw
  obtain ⟨ns,hd⟩:=h c (by simp)
  have e:cntK t (c :: l)=(selT t c).length+cntK t l:=by simp [cntK]
  rw [e,hd.texts hw,List.length_map,List.length_cons]
  have:=hd.most
  omega
section
variable {H H1 H2:Heap}{bb b mb rb br x:Nat}{F Fp Fq G:Foot}{s:SP}{t:TB}{v:KV}{es:List ((Int × Int) × Value)}{seen:List (Int × Int)}{hits:Int}{n:Nat}{Q:QT}
theorem ordered_c (hB:Bo H x bb b rb br mb Fp Fq G s t v es seen hits n){L:List DEnt} (hL:L.Perm (entsK t v)){a2 a3 a4:Option Addr}{l2 l3 l4 c2 c3 c4:Nat}
  (h2:Rd 1 H a2 l2 (intsV (L.map (·.1)))) (o2:Outs H a2 l2 []) (h3:Rd 1 H a3 l3 (strsV (L.map (·.2.1)))) (o3:Outs H a3 l3 []) (h4:Rd 1 H a4 l4 (intsV (L.map (·.2.2)))) (o4:Outs H a4 l4 [])
  (h:∀ H',Fr [] H H'→Q (.bool true) H'):callS PP n_k39 #[.pointer (some ⟨x,0,none⟩),.slice a2 l2 c2,.slice a3 l3 c3,.slice a4 l4 c4] Q H:=by
 have hw:=hB.va.names.wf
 have hmany:=hB.va.ks.shape.many1
 have e2:l2=L.length:=by have:=h2.1;simpa [intsV] using this.symm
 have e3:l3=L.length:=by have:=h3.1;simpa [strsV] using this.symm
 have e4:l4=L.length:=by have:=h4.1;simpa [intsV] using this.symm
 have hcnt:L.length=cntK t v.cls:=by rw [hL.length_eq];exact cntK_ents v.cls hB.kd hw
 have hcb:∀ k,cntK t (v.cls.take k)≤32768:=fun k=>by
  have:=cntK_le (v.cls.take k) (fun c hc=>hB.kd c (List.mem_of_mem_take hc)) hw
  have h5:(v.cls.take k).length≤256:=by rw [List.length_take];omega
  omega
 have hLb:L.length≤32768:=by have:=hcb v.cls.length;rw [List.take_length] at this;omega
 apply k39_ok
 unfold k39 iV wW pV sV lV cS
 refine ⟨fun w H'=>∃ k:Nat,w=[.int .i64 (cntK t (v.cls.take k)),.int .i64 ((k+1:Nat):Int)]∧k≤v.cls.length∧Fr [] H H',fun w _=>match w with
  | [_,.int _ i]=>((v.cls.length:Int)+1-i).toNat
  | _=>0,⟨0,by simp [cntK],Nat.zero_le _,Fr.refl _ _⟩,?_⟩
 rintro w H1 ⟨k,rfl,hk,f1⟩ _
 have hB1:=hB.nil f1
 refine ⟨_,_,rfl,_,rfl,_,hB1.x0,count_k hB1.p.k hB1.va fun H2 f2=>⟨_,rfl,?_⟩⟩
 have f12:=f1.trans f2
 have hB2:=hB1.nil f2
 rw [cond_dec]
 refine ite_i (fun hle=>?_) fun hle=>?_
 ·have hkl:k<v.cls.length:=by omega
  refine ⟨_,rfl,_,hB2.x0,numbered_k hB2.p.k hB2.va fun H3 f3=>⟨_,_,rfl,?_⟩⟩
  have hB3:=hB2.nil f3
  have en:numberedK v ((k+1:Nat):Int)=((v.cls[k]).oop,0):=by
   unfold numberedK
   rw [dif_pos ⟨by omega,by omega⟩]
   have:(((k+1:Nat):Int)-1).toNat=k:=by omega
   simp only [this]
  rw [en]
  refine ⟨_,rfl,_,hB3.x1,bselA_c hB3.p.k hB3.va hB3.kd hB3.p.kp fun a l c Ga H4 ho f4 hGa=>⟨_,_,_,rfl,?_⟩⟩
  have es':selK v t (v.cls[k]).oop=selT t v.cls[k]:=by
   unfold selK
   rw [hB.va.ks.idx hkl]
   simp only [getC hkl]
  rw [es'] at ho
  obtain ⟨ns,hdc⟩:=hB.kd _ (List.getElem_mem hkl)
  have ht:=hdc.texts hw
  have hmost:=hdc.most
  have hl:l=(selT t v.cls[k]).length:=by have:=ho.len;simpa [strsV] using this.symm
  have hl2:(selT t v.cls[k]).length=ns.length:=by rw [ht,List.length_map]
  have hsr:(selT t v.cls[k]).Pairwise ltS:=by rw [ht];exact hdc.srt
  have f14:=(f12.trans f3).trans f4
  refine ⟨fun w H'=>∃ j:Nat,w=[.int .i64 ((j+1:Nat):Int)]∧j≤l∧H'=H4,fun w _=>match w with
   | [.int _ j]=>((l:Int)+1-j).toNat
   | _=>0,⟨0,rfl,Nat.zero_le _,rfl⟩,?_⟩
  rintro w H5 ⟨j,rfl,hj,rfl⟩ _
  refine ⟨_,rfl,?_⟩
  rw [cond_dec]
  refine ite_i (fun hlt=>?_) fun hlt=>?_
  ·have q1:IntKind.wrap .i64 (((j+1:Nat):Int)-1)=(j:Int):=by rw [wrap64_id (by omega) (by omega)];omega
   have q2:IntKind.wrap .i64 (((j+1:Nat):Int)+1)=((j+1+1:Nat):Int):=by rw [wrap64_id (by omega) (by omega)];omega
   rw [q1,q2]
   obtain ⟨p,hp1,rfl,hc1⟩:=ho.rd.str (i:=(j:Int)) (by omega) (by omega)
   obtain ⟨p',hp2,ep,hc2⟩:=ho.rd.str (i:=((j+1:Nat):Int)) (by omega) (by omega)
   cases ep
   simp only [Int.toNat_natCast] at hc1 hc2 hp1 hp2
   refine ⟨⟨by omega,by omega⟩,_,rfl,_,by rw [Int.toNat_natCast,Nat.mul_one];exact hc1,⟨by omega,by omega⟩,_,rfl,_,by rw [Int.toNat_natCast,Nat.mul_one];exact hc2,?_⟩
   have hls:=(List.pairwise_iff_getElem.1 hsr) j (j+1) hp1 hp2 (Nat.lt_succ_self j)
   unfold ltS at hls
   rw [hls]
   simp only [Bool.not_true,cond_false]
   exact ⟨⟨j+1,rfl,by omega,trivial⟩,by simp;omega⟩
  ·have q3:IntKind.wrap .i64 (((cntK t (v.cls.take k):Nat):Int)+(l:Int))=((cntK t (v.cls.take (k+1)):Nat):Int):=by
    have hs:v.cls.take (k+1)=v.cls.take k++[v.cls[k]]:=by rw [List.take_add_one,List.getElem?_eq_getElem hkl];rfl
    have hx:=hcb k
    rw [hs,cntK_snoc,wrap64_id (by omega) (by omega)]
    omega
   have q4:IntKind.wrap .i64 (((k+1:Nat):Int)+1)=((k+1+1:Nat):Int):=by rw [wrap64_id (by omega) (by omega)];omega
   rw [q3,q4]
   exact ⟨⟨k+1,rfl,by omega,f14⟩,by simp;omega⟩
 ·have hkl:k=v.cls.length:=by omega
  refine ⟨fun w H'=>∃ j:Nat,w=[.int .i64 j]∧j≤L.length∧Fr [] H H',fun w _=>match w with
   | [.int _ j]=>((L.length:Int)-j).toNat
   | _=>0,⟨0,rfl,Nat.zero_le _,f12⟩,?_⟩
  rintro w H3 ⟨j,rfl,hj,f3⟩ _
  refine ⟨_,rfl,?_⟩
  rw [cond_dec]
  refine ite_i (fun hlt=>?_) fun hlt=>?_
  ·have hjl:j<L.length:=by omega
   have hB3:=hB.nil f3
   obtain ⟨p2,rfl,q2,_⟩:=(outs_rd o2 f3 h2).int (i:=(j:Int)) (by omega) (by omega)
   obtain ⟨p3,hp3,rfl,q3⟩:=(outs_rd o3 f3 h3).str (i:=(j:Int)) (by omega) (by omega)
   simp only [Int.toNat_natCast] at q2 q3
   have g2:(L.map (·.1)).getD j 0=L[j].1:=by simp [hjl]
   have g3:(L.map (·.2.1))[j]'(by simpa using hjl)=L[j].2.1:=by simp
   rw [g2] at q2
   rw [g3] at q3
   refine ⟨_,rfl,_,hB3.x1,⟨by omega,by omega⟩,_,rfl,_,by rw [Int.toNat_natCast,Nat.mul_one];exact q2,⟨by omega,by omega⟩,_,rfl,_,by rw [Int.toNat_natCast,Nat.mul_one];exact q3,?_⟩
   have hmm:(L[j].1,L[j].2.1,L[j].2.2)∈entsK t v:=hL.mem_iff.1 (List.getElem_mem hjl)
   obtain ⟨i,hi,eo,ea⟩:=entsK_at hB.kd hw hmm
   have eat:atK v t L[j].1 L[j].2.1=(L[j].2.2,0):=by
    unfold atK
    rw [←eo,hB.va.ks.idx hi]
    simp only [getC hi]
    exact ea
   refine batA_c hB3.p.k hB3.va hB3.kd hB3.p.kp fun H4 f4=>?_
   rw [eat]
   refine ⟨_,_,rfl,trivial,num2_c ⟨_,rfl,?_⟩⟩
   simp only [show ((0:Int) != 0)=false from rfl,cond_false]
   obtain ⟨p4,rfl,q4,_⟩:=(outs_rd o4 (f3.trans f4) h4).int (i:=(j:Int)) (by omega) (by omega)
   rw [Int.toNat_natCast] at q4
   have g4:(L.map (·.2.2)).getD j 0=L[j].2.2:=by simp [hjl]
   rw [g4] at q4
   refine ⟨⟨by omega,by omega⟩,_,rfl,_,by rw [Int.toNat_natCast,Nat.mul_one];exact q4,?_⟩
   rw [bneI,cond_dec,if_neg (fun hn=>hn rfl)]
   have q5:IntKind.wrap .i64 ((j:Int)+1)=((j+1:Nat):Int):=by rw [wrap64_id (by omega) (by omega)];omega
   rw [q5]
   exact ⟨⟨j+1,rfl,by omega,f3.trans f4⟩,by simp;omega⟩
  ·have e:(((cntK t (v.cls.take k):Nat):Int) == (l3:Int))=true:=by
    rw [hkl,List.take_length,e3,hcnt];simp
   rw [e]
   exact h _ f3
end
section
variable {H:Heap}{b:Nat}{cs:Array Value}{v0 v1 v2 v3 v4 v5 v6:Value}
theorem blk_setA (h:Blk H b cs) (j:Nat) (v:Value):Blk (setH H ((⟨b,0,none⟩:Addr).add j) v) b (cs.setIfInBounds j v):=by rw [add_none,Nat.zero_add];exact h.set j v
theorem blk_wrA (h:Blk H b cs){j:Nat} (hj:j<cs.size):Wr H ((⟨b,0,none⟩:Addr).add j):=by rw [add_none,Nat.zero_add];exact h.wr hj
theorem fr_setA (j:Nat) (v:Value):Fr [b] H (setH H ((⟨b,0,none⟩:Addr).add j) v):=by rw [add_none];exact Fr.set (by simp)
def fill4 (H:Heap) (b:Nat) (v0 v1 v2 v3:Value):Heap:=setH (setH (setH (setH H (⟨b,0,none⟩:Addr) v0) ((⟨b,0,none⟩:Addr).add 1) v1) ((⟨b,0,none⟩:Addr).add 2) v2) ((⟨b,0,none⟩:Addr).add 3) v3
def fill6 (H:Heap) (b:Nat) (v0 v1 v2 v3 v4 v5:Value):Heap:=setH (setH (fill4 H b v0 v1 v2 v3) ((⟨b,0,none⟩:Addr).add 4) v4) ((⟨b,0,none⟩:Addr).add 5) v5
theorem fill6_def:setH (setH (setH (setH (setH (setH H (⟨b,0,none⟩:Addr) v0) ((⟨b,0,none⟩:Addr).add 1) v1) ((⟨b,0,none⟩:Addr).add 2) v2) ((⟨b,0,none⟩:Addr).add 3) v3) ((⟨b,0,none⟩:Addr).add 4) v4) ((⟨b,0,none⟩:Addr).add 5) v5=fill6 H b v0 v1 v2 v3 v4 v5:=rfl
theorem wr6 {R:Prop} (hB:Blk H b cs) (hs:cs.size=6) (hR:R):Wr H (⟨b,0,none⟩:Addr)∧Wr (setH H (⟨b,0,none⟩:Addr) v0) ((⟨b,0,none⟩:Addr).add 1)∧Wr (setH (setH H (⟨b,0,none⟩:Addr) v0) ((⟨b,0,none⟩:Addr).add 1) v1) ((⟨b,0,none⟩:Addr).add 2) ∧
  Wr (setH (setH (setH H (⟨b,0,none⟩:Addr) v0) ((⟨b,0,none⟩:Addr).add 1) v1) ((⟨b,0,none⟩:Addr).add 2) v2) ((⟨b,0,none⟩:Addr).add 3) ∧
  Wr (setH (setH (setH (setH H (⟨b,0,none⟩:Addr) v0) ((⟨b,0,none⟩:Addr).add 1) v1) ((⟨b,0,none⟩:Addr).add 2) v2) ((⟨b,0,none⟩:Addr).add 3) v3) ((⟨b,0,none⟩:Addr).add 4) ∧
  Wr (setH (setH (setH (setH (setH H (⟨b,0,none⟩:Addr) v0) ((⟨b,0,none⟩:Addr).add 1) v1) ((⟨b,0,none⟩:Addr).add 2) v2) ((⟨b,0,none⟩:Addr).add 3) v3) ((⟨b,0,none⟩:Addr).add 4) v4) ((⟨b,0,none⟩:Addr).add 5)∧R:=by
 have h0:=hB.set 0 v0
 have h1:=blk_setA h0 1 v1
 have h2:=blk_setA h1 2 v2
 have h3:=blk_setA h2 3 v3
 have h4:=blk_setA h3 4 v4
 exact ⟨hB.wr (by omega),blk_wrA h0 (by simp;omega),blk_wrA h1 (by simp;omega),blk_wrA h2 (by simp;omega),blk_wrA h3 (by simp;omega),blk_wrA h4 (by simp;omega),hR⟩
theorem fill4_fr:Fr [b] H (fill4 H b v0 v1 v2 v3):=(((Fr.set (by simp)).trans (fr_setA 1 v1)).trans (fr_setA 2 v2)).trans (fr_setA 3 v3)
theorem fill6_fr:Fr [b] H (fill6 H b v0 v1 v2 v3 v4 v5):=(fill4_fr.trans (fr_setA 4 v4)).trans (fr_setA 5 v5)
theorem fill6_blk (hB:Blk H b cs) (hs:cs.size=6):Blk (fill6 H b v0 v1 v2 v3 v4 v5) b #[v0,v1,v2,v3,v4,v5]:=by
 have e:((((((cs.setIfInBounds 0 v0).setIfInBounds 1 v1).setIfInBounds 2 v2).setIfInBounds 3 v3).setIfInBounds 4 v4).setIfInBounds 5 v5)=#[v0,v1,v2,v3,v4,v5]:=by
  obtain ⟨l⟩:=cs
  match l,hs with
  | [_,_,_,_,_,_],_=>rfl
 rw [←e]
 exact blk_setA (blk_setA (blk_setA (blk_setA (blk_setA (hB.set 0 v0) 1 v1) 2 v2) 3 v3) 4 v4) 5 v5
end
structure StepW where
 kind:Int
 cl:Int
 me:Int
 i:Int
 name:ByteArray
 other:ByteArray
def StepW.vals (x:StepW):List Value:=[.int .i64 x.kind,.int .i64 x.cl,.int .i64 x.me,.int .i64 x.i,.string x.name,.string x.other]
def StepsW (H:Heap) (a:Option Addr) (n:Nat) (xs:List StepW):Prop:=xs.length=n∧∀ i x,xs[i]?=some x→∃ p,a=some p∧∀ j v,x.vals[j]?=some v→cellH H ((p.add (i*6)).add j)=some v
theorem cell_keep3 {H H':Heap} (hf:Fr [] H H'){a:Addr}{v:Value} (h:cellH H a=some v):cellH H' a=some v:=by
 have hb:a.block<H.size:=by
  unfold cellH at h
  rcases Nat.lt_or_ge a.block H.size with h1 | h1
  ·exact h1
  ·rw [Array.getElem?_eq_none h1] at h;cases h
 unfold cellH at h ⊢
 rw [hf.2 _ hb (by simp)]
 exact h
theorem StepsW.fr {H H':Heap} (hf:Fr [] H H'){a:Option Addr}{n:Nat}{xs:List StepW} (h:StepsW H a n xs):StepsW H' a n xs :=
 ⟨h.1,fun i x hx=>by obtain ⟨p,hp,h1⟩:=h.2 i x hx;exact ⟨p,hp,fun j v hv=>cell_keep3 hf (h1 j v hv)⟩⟩
theorem up_all2 {H0 H H':Heap}{F F':Foot} (hf:Fr [] H0 H) (hF:∀ x∈F,H0.size≤x) (hu:Up F H F' H'):Fr [] H0 H'∧∀ x∈F',H0.size≤x:=by
 refine ⟨⟨Nat.le_trans hf.1 hu.1.1,fun y hy hn=>?_⟩,fun y hy=>?_⟩
 ·rw [hu.1.2 y (Nat.lt_of_lt_of_le hy hf.1) (fun hm=>by have:=hF y hm;omega),hf.2 y hy hn]
 ·rcases hu.2 y hy with h | h
  ·exact hF y h
  ·exact Nat.le_trans hf.1 h
structure L3 (H0 H:Heap) (X:List Int) (Y:List ByteArray) (Z:List Int) (a1:Option Addr) (l1 c1:Nat) (G1:Foot) (a2:Option Addr) (l2 c2:Nat) (G2:Foot) (a3:Option Addr) (l3 c3:Nat) (G3:Foot):Prop where
 o1:Own 1 H a1 l1 c1 (intsV X) G1
 o2:Own 1 H a2 l2 c2 (strsV Y) G2
 o3:Own 1 H a3 l3 c3 (intsV Z) G3
 d12:Disj G1 G2
 d13:Disj G1 G3
 d23:Disj G2 G3
 f1:∀ y∈G1,H0.size≤y
 f2:∀ y∈G2,H0.size≤y
 f3:∀ y∈G3,H0.size≤y
 fr:Fr [] H0 H
section
variable {H0 H H':Heap}{X Z:List Int}{Y:List ByteArray}{a1 a2 a3:Option Addr}{l1 c1 l2 c2 l3 c3:Nat}{G1 G2 G3:Foot}{Q:QT}
theorem grow_disj {G G' K:Foot} (hu:Up G H G' H') (hd:Disj G K) (hk:∀ y∈K,y<H.size):Disj G' K:=fun y hy hm=>by
 rcases hu.2 y hy with h | h
 ·exact hd y h hm
 ·have:=hk y hm;omega
theorem L3.app1 (h:L3 H0 H X Y Z a1 l1 c1 G1 a2 l2 c2 G2 a3 l3 c3 G3){e:Int} (hl:l1<1000000)
  (hq:∀ a' c' G' H',L3 H0 H' (X++[e]) Y Z a' (l1+1) c' G' a2 l2 c2 G2 a3 l3 c3 G3→Q (.slice a' (l1+1) c') H'):evS PP (Builtin.append_ #[66,66] 66 #[.slice a1 l1 c1,.slice (some (⟨H.size,0,none⟩:Addr)) 1 1]) Q (H.push (.cells #[.int .i64 e] 3)):=by
 have hs1:sliceInfo PP 66=some (1,8,some (.int .i64 0)):=by kernel_rfl
 refine evS_append1 hs1 rfl (by kernel_rfl) h.o1 rfl (by simp [oneC]) (by omega) (by decide) (by decide) fun a' c' G' H' g1 g2 g3=>?_
 have u:=up_all2 h.fr h.f1 g2
 refine hq a' c' G' H' ⟨by rw [intsV_append];exact g1,h.o2.fr g2.1 h.d12.symm,h.o3.fr g2.1 h.d13.symm,grow_disj g2 h.d12 h.o2.lt,grow_disj g2 h.d13 h.o3.lt,h.d23,u.2,h.f2,h.f3,u.1⟩
theorem L3.app2 (h:L3 H0 H X Y Z a1 l1 c1 G1 a2 l2 c2 G2 a3 l3 c3 G3){e:ByteArray} (hl:l2<1000000)
  (hq:∀ a' c' G' H',L3 H0 H' X (Y++[e]) Z a1 l1 c1 G1 a' (l2+1) c' G' a3 l3 c3 G3→Q (.slice a' (l2+1) c') H'):evS PP (Builtin.append_ #[37,37] 37 #[.slice a2 l2 c2,.slice (some (⟨H.size,0,none⟩:Addr)) 1 1]) Q (H.push (.cells #[.string e] 9)):=by
 have hs1:sliceInfo PP 37=some (1,16,some (.string ⟨#[]⟩)):=by kernel_rfl
 refine evS_append1 hs1 rfl (by kernel_rfl) h.o2 rfl (by simp [oneC]) (by omega) (by decide) (by decide) fun a' c' G' H' g1 g2 g3=>?_
 have u:=up_all2 h.fr h.f2 g2
 refine hq a' c' G' H' ⟨h.o1.fr g2.1 h.d12,by rw [strsV_append];exact g1,h.o3.fr g2.1 h.d23.symm,(grow_disj g2 h.d12.symm h.o1.lt).symm,h.d13,grow_disj g2 h.d23 h.o3.lt,h.f1,u.2,h.f3,u.1⟩
theorem L3.app3 (h:L3 H0 H X Y Z a1 l1 c1 G1 a2 l2 c2 G2 a3 l3 c3 G3){e:Int} (hl:l3<1000000)
  (hq:∀ a' c' G' H',L3 H0 H' X Y (Z++[e]) a1 l1 c1 G1 a2 l2 c2 G2 a' (l3+1) c' G'→Q (.slice a' (l3+1) c') H'):evS PP (Builtin.append_ #[66,66] 66 #[.slice a3 l3 c3,.slice (some (⟨H.size,0,none⟩:Addr)) 1 1]) Q (H.push (.cells #[.int .i64 e] 3)):=by
 have hs1:sliceInfo PP 66=some (1,8,some (.int .i64 0)):=by kernel_rfl
 refine evS_append1 hs1 rfl (by kernel_rfl) h.o3 rfl (by simp [oneC]) (by omega) (by decide) (by decide) fun a' c' G' H' g1 g2 g3=>?_
 have u:=up_all2 h.fr h.f3 g2
 refine hq a' c' G' H' ⟨h.o1.fr g2.1 h.d13,h.o2.fr g2.1 h.d23,by rw [intsV_append];exact g1,h.d12,(grow_disj g2 h.d13.symm h.o1.lt).symm,(grow_disj g2 h.d23.symm h.o2.lt).symm,h.f1,h.f2,u.2,u.1⟩
theorem L3.nil (H:Heap):L3 H H [] [] [] none 0 0 [] none 0 0 [] none 0 0 []:=⟨Own.nil 1 H,Own.nil 1 H,Own.nil 1 H,Disj.nil_left _,Disj.nil_left _,Disj.nil_left _,by simp,by simp,by simp,Fr.refl _ _⟩
end
structure OS (H0 H:Heap) (x bb b rb br mb:Nat) (i:Nat) (L:List DEnt) (a1:Option Addr) (l1 c1:Nat) (a2:Option Addr) (l2 c2:Nat) (a3:Option Addr) (l3 c3:Nat):Prop where
 ex:∃ Fp Fq G s t v es seen hits G1 G2 G3,Bo H x bb b rb br mb Fp Fq G s t v es seen hits i∧L.Perm (entsK t v)∧Own 1 H a1 l1 c1 (intsV (L.map (·.1))) G1∧Own 1 H a2 l2 c2 (strsV (L.map (·.2.1))) G2∧Own 1 H a3 l3 c3 (intsV (L.map (·.2.2))) G3 ∧
  (∀ y∈G1++(G2++G3),y∉x :: FA bb mb Fp rb G Fq)∧∀ y∈x :: FA bb mb Fp rb G Fq,H0.size≤y
 fr:Fr [] H0 H
section
variable {H0 H H1:Heap}{x bb b rb br mb:Nat}{i:Nat}{L:List DEnt}{a1 a2 a3:Option Addr}{l1 c1 l2 c2 l3 c3:Nat}{Q:QT}
theorem out_keep {F F' K:Foot} (hu:Up F H F' H1) (hk:∀ y∈K,y∉x :: F) (hl:∀ y∈K,y<H.size):∀ y∈K,y∉x :: F':=fun y hy hm=>by
 rcases List.mem_cons.1 hm with rfl | hm
 ·exact hk y hy (by simp)
 ·rcases hu.2 y hm with h | h
  ·exact hk y hy (List.mem_cons_of_mem _ h)
  ·have:=hl y hy;omega
theorem x_keep {F F':Foot}{n:Nat} (hu:Up F H F' H1) (h:∀ y∈x :: F,n≤y) (hn:n≤H.size):∀ y∈x :: F',n≤y:=fun y hy=>by
 rcases List.mem_cons.1 hy with rfl | hy
 ·exact h y (by simp)
 ·rcases hu.2 y hy with h1 | h1
  ·exact h y (List.mem_cons_of_mem _ h1)
  ·omega
theorem OS.after (h:OS H0 H x bb b rb br mb i L a1 l1 c1 a2 l2 c2 a3 l3 c3){i':Nat} :
  ∃ Fp Fq G s t v es seen hits G1 G2 G3,Bo H x bb b rb br mb Fp Fq G s t v es seen hits i∧L.Perm (entsK t v)∧Own 1 H a1 l1 c1 (intsV (L.map (·.1))) G1∧Own 1 H a2 l2 c2 (strsV (L.map (·.2.1))) G2∧Own 1 H a3 l3 c3 (intsV (L.map (·.2.2))) G3 ∧
   ∀ H' Fp' Fq' G' s' t' v' es' seen' hits' L',Bo H' x bb b rb br mb Fp' Fq' G' s' t' v' es' seen' hits' i'→Up (FA bb mb Fp rb G Fq) H (FA bb mb Fp' rb G' Fq') H'→L'.Perm (entsK t' v') →
    (Own 1 H' a1 l1 c1 (intsV (L.map (·.1))) G1∧Own 1 H' a2 l2 c2 (strsV (L.map (·.2.1))) G2∧Own 1 H' a3 l3 c3 (intsV (L.map (·.2.2))) G3∧Fr [] H0 H') ∧
    (L'=L→OS H0 H' x bb b rb br mb i' L a1 l1 c1 a2 l2 c2 a3 l3 c3) ∧
    (∀ H'' a1' l1' c1' K1 a2' l2' c2' K2 a3' l3' c3' K3,L3 H' H'' (L'.map (·.1)) (L'.map (·.2.1)) (L'.map (·.2.2)) a1' l1' c1' K1 a2' l2' c2' K2 a3' l3' c3' K3→OS H0 H'' x bb b rb br mb i' L' a1' l1' c1' a2' l2' c2' a3' l3' c3'):=by
 obtain ⟨Fp,Fq,G,s,t,v,es,seen,hits,G1,G2,G3,hB,hL,o1,o2,o3,hd,hF⟩:=h.ex
 refine ⟨Fp,Fq,G,s,t,v,es,seen,hits,G1,G2,G3,hB,hL,o1,o2,o3,fun H' Fp' Fq' G' s' t' v' es' seen' hits' L' hB' u hL'=>?_⟩
 have lG:∀ y∈G1++(G2++G3),y<H.size:=fun y hy=>by
  simp only [List.mem_append] at hy
  rcases hy with hy | hy | hy
  ·exact o1.lt y hy
  ·exact o2.lt y hy
  ·exact o3.lt y hy
 have k1:Own 1 H' a1 l1 c1 (intsV (L.map (·.1))) G1:=o1.fr u.1 fun y hy hm=>hd y (by simp [hy]) (List.mem_cons_of_mem _ hm)
 have k2:Own 1 H' a2 l2 c2 (strsV (L.map (·.2.1))) G2:=o2.fr u.1 fun y hy hm=>hd y (by simp [hy]) (List.mem_cons_of_mem _ hm)
 have k3:Own 1 H' a3 l3 c3 (intsV (L.map (·.2.2))) G3:=o3.fr u.1 fun y hy hm=>hd y (by simp [hy]) (List.mem_cons_of_mem _ hm)
 have f0:=(up_all2 h.fr (fun y hy=>hF y (List.mem_cons_of_mem _ hy)) u).1
 have hF':=x_keep u hF h.fr.1
 refine ⟨⟨k1,k2,k3,f0⟩,fun e=>?_,fun H'' a1' l1' c1' K1 a2' l2' c2' K2 a3' l3' c3' K3 h3=>?_⟩
 ·subst e
  exact ⟨⟨Fp',Fq',G',s',t',v',es',seen',hits',G1,G2,G3,hB',hL',k1,k2,k3,out_keep u hd lG,hF'⟩,f0⟩
 ·have hB'':=hB'.nil h3.fr
  refine ⟨⟨Fp',Fq',G',s',t',v',es',seen',hits',K1,K2,K3,hB'',hL',h3.o1,h3.o2,h3.o3,fun y hy hm=>?_,hF'⟩,f0.trans h3.fr⟩
  have hge:H'.size≤y:=by
   simp only [List.mem_append] at hy
   rcases hy with hy | hy | hy
   ·exact h3.f1 y hy
   ·exact h3.f2 y hy
   ·exact h3.f3 y hy
  rcases List.mem_cons.1 hm with rfl | hm
  ·have:=hB'.xb.lt;omega
  ·have:=hB'.lt y hm;omega
end
end Go.Proofs.YtmkdkplipbocjaaGreatDoor
namespace Go.Proofs.YtmkdkplipbocjaaGreatDoor
open Kw Go.Deep
noncomputable def stepFsW:Array Field:=match PP.underlying 68 with
 | some (.struct fs)=>fs
 | _=>#[]
theorem uStepW:PP.underlying 68=some (.struct stepFsW):=by kernel_rfl
theorem uStepsW:PP.underlying 62=some (.slice 68):=by kernel_rfl
theorem cStepW:PP.cellsOf 68=6:=by kernel_rfl
theorem stepW0:(stepFsW[0]?).map (fun f=>(f.type,f.offset))=some (3,0):=by kernel_rfl
theorem stepW1:(stepFsW[1]?).map (fun f=>(f.type,f.offset))=some (3,1):=by kernel_rfl
theorem stepW2:(stepFsW[2]?).map (fun f=>(f.type,f.offset))=some (3,2):=by kernel_rfl
theorem stepW3:(stepFsW[3]?).map (fun f=>(f.type,f.offset))=some (3,3):=by kernel_rfl
theorem stepW4:(stepFsW[4]?).map (fun f=>(f.type,f.offset))=some (9,4):=by kernel_rfl
theorem stepW5:(stepFsW[5]?).map (fun f=>(f.type,f.offset))=some (9,5):=by kernel_rfl
theorem stepW_open {Hh:Type}{enc:TypeId × Value→Hh}{W:World}{n:Nat}{cs:List Value}{x:DataW Hh × List MemPlace} (h:DataW.trod enc PP W 0 (fun _=>true) true n 68 cs=some x) :
  ∃ y:StepW,cs=y.vals:=by
 obtain ⟨xs,n',_,rfl,hl,hxl,hx⟩:=DataW.trod_struct uStepW h
 rw [cStepW] at hl
 obtain ⟨y0,e0,t0⟩:=field_open hxl hx stepW0 cInt
 obtain ⟨y1,e1,t1⟩:=field_open hxl hx stepW1 cInt
 obtain ⟨y2,e2,t2⟩:=field_open hxl hx stepW2 cInt
 obtain ⟨y3,e3,t3⟩:=field_open hxl hx stepW3 cInt
 obtain ⟨y4,e4,t4⟩:=field_open hxl hx stepW4 cStr
 obtain ⟨y5,e5,t5⟩:=field_open hxl hx stepW5 cStr
 obtain ⟨k0,v0,_,_⟩:=DataW.trod_int uInt t0
 obtain ⟨k1,v1,_,_⟩:=DataW.trod_int uInt t1
 obtain ⟨k2,v2,_,_⟩:=DataW.trod_int uInt t2
 obtain ⟨k3,v3,_,_⟩:=DataW.trod_int uInt t3
 obtain ⟨s4,v4,_⟩:=DataW.trod_string uStr t4
 obtain ⟨s5,v5,_⟩:=DataW.trod_string uStr t5
 refine ⟨⟨k0,k1,k2,k3,s4,s5⟩,?_⟩
 match cs,hl with
 | [a,b,c,d,e,f],_ =>
  simp at v0 v1 v2 v3 v4 v5
  subst v0;subst v1;subst v2;subst v3;subst v4;subst v5
  rfl
theorem stepsW_open {Hh:Type}{enc:TypeId × Value→Hh}{W:World}{v:Value}{d:DataW Hh}{p:List MemPlace} (h:DataW.Trod enc PP W 0 (fun _=>true) true 62 v d p)
  (hv:∃ a l c,v=.slice a l c):∃ a l c xs,v=.slice a l c∧StepsW W.heap a l xs∧(l=0∨∃ el sp,d=.slice el sp∧l≤el.length+sp.length):=by
 obtain ⟨a0,l0,c0,rfl⟩:=hv
 obtain ⟨fuel,h⟩:=h
 rcases open_slice uStepsW h with ⟨h0,_⟩ | ⟨a,len,cap,m,n,D,Pl,hcs,_,hlc,_,hm,hx,hel⟩
 ·have e:Value.slice a0 l0 c0=.slice none 0 0:=by simpa [Value.cells] using h0
  cases e
  exact ⟨none,0,0,[],rfl,⟨rfl,fun i x hx=>by simp at hx⟩,.inl rfl⟩
 have e:Value.slice a0 l0 c0=.slice (some a) len cap:=by simpa [Value.cells] using hcs
 cases e
 obtain ⟨hd,_⟩:=Prod.mk.inj hx
 subst hd
 have hlm:l0≤m:=by rw [hm];simpa using hlc
 have each:∀ i,i<l0→∃ y:StepW,∀ j v,y.vals[j]?=some v→cellH W.heap ((a.add (i*6)).add j)=some v:=fun i hi=>by
  obtain ⟨cs',h1,h2⟩:=hel i (by omega)
  rw [cStepW] at h1
  obtain ⟨y,rfl⟩:=stepW_open h2
  obtain ⟨_,_,hc⟩:=World.cells?_some h1
  refine ⟨y,fun j v hv=>?_⟩
  have hj:j<6:=by
   rcases Nat.lt_or_ge j 6 with h | h
   ·exact h
   ·rw [List.getElem?_eq_none (by simpa [StepW.vals] using h)] at hv;cases hv
  have:=hc j hj
  rw [hv] at this
  exact this
 obtain ⟨Y,hY⟩:∃ Y:Nat→StepW,∀ i,i<l0→∀ j v,(Y i).vals[j]?=some v→cellH W.heap ((a.add (i*6)).add j)=some v:=by
  refine ⟨fun i=>if hi:i<l0 then Classical.choose (each i hi) else ⟨0,0,0,0,⟨#[]⟩,⟨#[]⟩⟩,fun i hi=>?_⟩
  simp only [dif_pos hi]
  exact Classical.choose_spec (each i hi)
 refine ⟨some a,l0,c0,(List.range l0).map Y,rfl,⟨by simp,fun i x hx=>⟨a,rfl,?_⟩⟩,.inr ⟨_,_,rfl,?_⟩⟩
 ·have hi:i<l0:=by
   rcases Nat.lt_or_ge i l0 with h | h
   ·exact h
   ·rw [List.getElem?_eq_none (by simpa using h)] at hx;cases hx
  have:x=Y i:=by simpa [hi] using hx.symm
  rw [this]
  exact hY i hi
 ·simp <;> omega
theorem bulk_one {H:Type} (d:DataW H):1≤Rows.uptoBulk d:=by
 cases d with
 | lit l=>cases l <;> simp [Rows.uptoBulk]
 | nil=>simp [Rows.uptoBulk]
 | ptr d=>simp [Rows.uptoBulk]
 | slice elems spare=>simp [Rows.uptoBulk]
 | agg parts=>simp [Rows.uptoBulk]
 | iface t d=>simp [Rows.uptoBulk]
 | map entries=>simp [Rows.uptoBulk]
 | held h=>simp [Rows.uptoBulk]
theorem bulk_part {H:Type}{d:DataW H}{l:List (DataW H)} (h:d∈l):Rows.uptoBulk d≤Rows.uptoBulkAll l:=by
 induction l with
 | nil=>cases h
 | cons x r ih =>
  simp only [Rows.uptoBulkAll]
  cases List.mem_cons.1 h with
  | inl e=>subst e;omega
  | inr e=>have:=ih e;omega
theorem bulk_len {H:Type} (l:List (DataW H)):l.length≤Rows.uptoBulkAll l:=by
 induction l with
 | nil=>simp [Rows.uptoBulkAll]
 | cons x r ih=>have:=bulk_one x;simp only [Rows.uptoBulkAll,List.length_cons];omega
theorem bulk_slice {H:Type}{elems spare:List (DataW H)}{l:List (DataW H)} (hm:DataW.slice elems spare∈l) (h:Rows.uptoSmall H l=true):elems.length+spare.length≤1048576:=by
 have h1:=bulk_len elems
 have h2:=bulk_len spare
 have h3:=bulk_part hm
 have h4:Rows.uptoBulkAll l≤1048576:=of_decide_eq_true h
 simp only [Rows.uptoBulk] at h3
 omega
end Go.Proofs.YtmkdkplipbocjaaGreatDoor
